/- Opening what came in, by its type: a reading relation for each make of data, and the step from the row's reading to it. No program. -/
import Derived.Test.YtlanchijcefncaaBase
import Derived.ProofKit
import Derived.OpenShut
import Derived.ShutString
import Derived.ChangeOld
import Derived.SizedLaws
namespace Go.Proofs.Ytlanchijcefncaa
open Go.RowKit

/-- How a datum of Lean's lies in a world: over the cells that hold it. -/
abbrev Rd (α : Type) := World → α → List Value → Prop

def rdInt : Rd Int := fun _ n cs => cs = [.int .i64 n] ∧ (Lit.int .i64 n).wf = true
def rdByte : Rd Int := fun _ n cs => cs = [.int .u8 n] ∧ (Lit.int .u8 n).wf = true
def rdBool : Rd Bool := fun _ b cs => cs = [.bool b]
/-- A slice: nil, or its elements one behind the other, sz cells each. -/
def rdSlice {α : Type} (R : Rd α) (sz : Nat) : Rd (List α) := fun W xs cs =>
  (cs = [.slice none 0 0] ∧ xs = []) ∨
  ∃ a len cap, cs = [.slice (some a) len cap] ∧ len ≤ cap ∧ cap ≤ maxLen ∧ xs.length = len ∧
    ∀ i x, xs[i]? = some x → ∃ c : List Value, c.length = sz ∧ (∀ j v, c[j]? = some v → W.cell? (a.add (i * sz + j)) = some v) ∧ R W x c

/-- Whatever the row reads at type t is read so. -/
def Opens (P : Program) (t : TypeId) {α : Type} (R : Rd α) : Prop :=
  ∀ (H : Type) (enc : TypeId × Value → H) (W : World) (sp : Nat → Bool) (fuel : Nat) (cs : List Value) (y : DataW H × List MemPlace),
    DataW.trod enc P W 0 sp true fuel t cs = some y → ∃ x, R W x cs

section
variable {P : Program} {t e : TypeId}

theorem opens_int (ht : P.underlying t = some (.int .i64)) : Opens P t rdInt := fun _ _ _ _ _ _ _ h =>
  let ⟨n, h1, _, h3⟩ := DataW.trod_int ht h; ⟨n, h1, h3⟩
theorem opens_byte (ht : P.underlying t = some (.int .u8)) : Opens P t rdByte := fun _ _ _ _ _ _ _ h =>
  let ⟨n, h1, _, h3⟩ := DataW.trod_int ht h; ⟨n, h1, h3⟩
theorem opens_bool (ht : P.underlying t = some .bool) : Opens P t rdBool := fun _ _ _ _ _ _ _ h =>
  let ⟨b, h1, _⟩ := DataW.trod_bool ht h; ⟨b, h1⟩

theorem cells?_some {w : World} {a : Addr} {n : Nat} {cs : List Value} (h : w.cells? 0 a n = some cs) : cs.length = n ∧ ∀ j v, cs[j]? = some v → w.cell? (a.add j) = some v := by
  unfold World.cells? at h
  rw [if_pos (Nat.zero_le _)] at h
  have hl : cs.length = n := by simpa using mapM_some_length h
  refine ⟨hl, fun j v hj => ?_⟩
  have hjn : j < n := by have := (List.getElem?_eq_some_iff.1 hj).1; omega
  have := mapM_some_get h j j (by simp [hjn])
  rw [this]; exact hj

theorem opens_slice {α : Type} {R : Rd α} {sz : Nat} (ht : P.underlying t = some (.slice e)) (hc : P.cellsOf e = sz) (hR : Opens P e R) : Opens P t (rdSlice R sz) := by
  intro H enc W sp fuel cs y h
  rcases DataW.trod_slice ht h with ⟨rfl, _⟩ | ⟨a, len, cap, elems, rest, n, _, rfl, _, _, hl, hm, hlen, hel, _⟩
  · exact ⟨[], .inl ⟨rfl, rfl⟩⟩
  · have each : ∀ i, i < len → ∃ x : α, ∃ c : List Value, c.length = sz ∧ (∀ j v, c[j]? = some v → W.cell? (a.add (i * sz + j)) = some v) ∧ R W x c := by
      intro i hi
      have h1 := hel i hi
      rw [List.getElem?_eq_getElem (by omega), Option.bind_eq_some_iff] at h1
      obtain ⟨c, hcs, hy⟩ := h1
      obtain ⟨x, hx⟩ := hR H enc W sp n c _ hy
      obtain ⟨h2, h3⟩ := cells?_some hcs
      rw [hc] at h2 h3
      exact ⟨x, c, h2, fun j v hj => by rw [← h3 j v hj]; congr 1; unfold Addr.add; split <;> split <;> split <;> simp_all <;> omega, hx⟩
    have all : ∀ m, m ≤ len → ∃ xs : List α, xs.length = m ∧ ∀ i x, xs[i]? = some x → ∃ c : List Value, c.length = sz ∧ (∀ j v, c[j]? = some v → W.cell? (a.add (i * sz + j)) = some v) ∧ R W x c := by
      intro m
      induction m with
      | zero => exact fun _ => ⟨[], rfl, fun i x hx => by simp at hx⟩
      | succ m ih =>
        intro hm'
        obtain ⟨xs, hxl, hxs⟩ := ih (by omega)
        obtain ⟨x, hx⟩ := each m (by omega)
        refine ⟨xs ++ [x], by simp [hxl], fun i z hz => ?_⟩
        by_cases hi : i < m
        · rw [List.getElem?_append_left (by omega)] at hz
          exact hxs i z hz
        · have him : i = m := by
            have := (List.getElem?_eq_some_iff.1 hz).1
            simp at this; omega
          subst him
          rw [List.getElem?_append_right (by omega), hxl, Nat.sub_self] at hz
          simp at hz
          subst hz
          exact hx
    obtain ⟨xs, hxl, hxs⟩ := all len (Nat.le_refl _)
    exact ⟨xs, .inr ⟨a, len, cap, rfl, hl, hm, hxl, hxs⟩⟩
end

/-- A struct of whole numbers alone. -/
def rdNums (k : Nat) : Rd (List Int) := fun _ xs cs => xs.length = k ∧ cs = xs.map (Value.int .i64) ∧ ∀ x ∈ xs, (Lit.int .i64 x).wf = true
theorem opens_nums {P : Program} {t : TypeId} {fs : Array Field} {k : Nat} (ht : P.underlying t = some (.struct fs)) (hk : P.cellsOf t = k)
    (hfs : ∀ i, i < k → ∃ f, fs[i]? = some f ∧ f.offset = i ∧ P.underlying f.type = some (.int .i64) ∧ P.cellsOf f.type = 1) : Opens P t (rdNums k) := by
  intro H enc W sp fuel cs y h
  obtain ⟨xs, n, _, _, hl, hxl, hx⟩ := DataW.trod_struct ht h
  rw [hk] at hl
  have each : ∀ i, i < k → ∃ x : Int, cs[i]? = some (.int .i64 x) ∧ (Lit.int .i64 x).wf = true := by
    intro i hi
    obtain ⟨f, hf, ho, hu, hc⟩ := hfs i hi
    have h1 := hx i f hf
    have hlt : i < xs.length := by rw [hxl]; exact (Array.getElem?_eq_some_iff.1 hf).1
    rw [List.getElem?_eq_getElem hlt, ho, hc] at h1
    obtain ⟨x, h2, _, h3⟩ := DataW.trod_int hu h1
    exact ⟨x, WideShapes.cell_of_cut h2, h3⟩
  have all : ∀ m, m ≤ k → ∃ zs : List Int, zs.length = m ∧ cs.take m = zs.map (Value.int .i64) ∧ ∀ x ∈ zs, (Lit.int .i64 x).wf = true := by
    intro m
    induction m with
    | zero => exact fun _ => ⟨[], rfl, by simp, by simp⟩
    | succ m ih =>
      intro hm
      obtain ⟨zs, h1, h2, h3⟩ := ih (by omega)
      obtain ⟨x, h4, h5⟩ := each m (by omega)
      refine ⟨zs ++ [x], by simp [h1], ?_, ?_⟩
      · rw [List.take_add_one, h2, h4]; simp
      · intro z hz
        rcases List.mem_append.1 hz with hz | hz
        · exact h3 z hz
        · rw [List.mem_singleton.1 hz]; exact h5
  obtain ⟨zs, h1, h2, h3⟩ := all k (Nat.le_refl _)
  rw [List.take_of_length_le (by omega)] at h2
  exact ⟨zs, h1, h2, h3⟩
/-- A slice of structs of k whole numbers. -/
structure NumsIn (k : Nat) (w : World) (A : Option Addr) (n : Nat) (xs : List (List Int)) : Prop where
  len : xs.length = n
  at_ : 0 < n → ∃ ad, A = some ad ∧ ∀ i, i < n → (xs.getD i []).length = k ∧ ∀ j, j < k → w.cell? (ad.add (i * k + j)) = some (.int .i64 ((xs.getD i []).getD j 0))
  wf : ∀ x ∈ xs, ∀ y ∈ x, (Lit.int .i64 y).wf = true
theorem NumsIn.of {k : Nat} {W : World} {A : Option Addr} {n cap : Nat} {xs : List (List Int)} (h : rdSlice (rdNums k) k W xs [.slice A n cap]) : NumsIn k W A n xs := by
  rcases h with ⟨h1, rfl⟩ | ⟨a, len, cap', h1, _, _, h3, h4⟩
  · simp at h1; obtain ⟨rfl, rfl, rfl⟩ := h1; exact ⟨rfl, fun h => absurd h (by omega), fun x hx => by simp at hx⟩
  · simp at h1; obtain ⟨rfl, rfl, rfl⟩ := h1
    refine ⟨h3, fun _ => ⟨a, rfl, fun i hi => ?_⟩, fun x hx => by
      obtain ⟨i, hi⟩ := List.getElem?_of_mem hx
      obtain ⟨c, _, _, _, _, h8⟩ := h4 i x hi
      exact h8⟩
    obtain ⟨c, _, h5, h6, h7, _⟩ := h4 i xs[i] (List.getElem?_eq_getElem (by omega))
    rw [show xs.getD i [] = xs[i] by rw [List.getD_eq_getElem?_getD, List.getElem?_eq_getElem (by omega)]; rfl]
    refine ⟨h6, fun j hj => h5 j _ ?_⟩
    rw [h7, List.getElem?_map, List.getD_eq_getElem?_getD, List.getElem?_eq_getElem (by omega)]; rfl

/-- A slice of whole numbers that came in: its n elements lie behind A. -/
structure IntsIn (w : World) (A : Option Addr) (n : Nat) (xs : List Int) : Prop where
  len : xs.length = n
  at_ : 0 < n → ∃ ad, A = some ad ∧ ∀ i, i < n → w.cell? (ad.add i) = some (.int .i64 (xs.getD i 0))

theorem add_blk (a : Addr) (n : Nat) : (a.add n).block = a.block := by unfold Addr.add; split <;> rfl
theorem add_past (a : Addr) (m j : Nat) (hj : 0 < j) : a.add (m + j) = ⟨(a.add m).block, (a.add m).off + j, none⟩ := by
  unfold Addr.add
  rw [if_neg (by omega)]
  by_cases h : m = 0
  · subst h; simp
  · rw [if_neg h]; simp [Nat.add_assoc]
theorem Fr.cell {S : Nat → Prop} {w w' : World} (h : Fr S w w') {a : Addr} {v : Value} (hc : w.cell? a = some v) (hs : ¬ S a.block) : w'.cell? a = some v := by
  rw [World.cell?_of_block (h.block _ (World.block_lt_of_cell? w _ hc) hs)]; exact hc

theorem IntsIn.of {W : World} {A : Option Addr} {n cap : Nat} {xs : List Int} (h : rdSlice rdInt 1 W xs [.slice A n cap]) : IntsIn W A n xs := by
  rcases h with ⟨h1, rfl⟩ | ⟨a, len, cap', h1, _, _, h3, h4⟩
  · simp at h1; obtain ⟨rfl, rfl, rfl⟩ := h1; exact ⟨rfl, fun h => absurd h (by omega)⟩
  · simp at h1; obtain ⟨rfl, rfl, rfl⟩ := h1
    refine ⟨h3, fun _ => ⟨a, rfl, fun i hi => ?_⟩⟩
    obtain ⟨c, _, h5, h6, _⟩ := h4 i xs[i] (List.getElem?_eq_getElem (by omega))
    subst h6
    have := h5 0 _ rfl
    rw [Nat.mul_one, Nat.add_zero] at this
    rw [this, List.getD_eq_getElem?_getD, List.getElem?_eq_getElem (by omega)]; rfl
theorem IntsIn.frame {w w' : World} {A : Option Addr} {n : Nat} {xs : List Int} {S : Nat → Prop} (h : IntsIn w A n xs) (hf : Fr S w w') (hs : ∀ k, S k → w.heap.size ≤ k) : IntsIn w' A n xs :=
  ⟨h.len, fun hn => let ⟨ad, h1, h2⟩ := h.at_ hn; ⟨ad, h1, fun i hi => hf.cell (h2 i hi) (fun x => by have := hs _ x; have := World.block_lt_of_cell? w _ (h2 i hi); omega)⟩⟩
/-- A slice of bytes that came in. -/
structure BytesIn (w : World) (A : Option Addr) (n : Nat) (xs : List Int) : Prop where
  len : xs.length = n
  at_ : 0 < n → ∃ ad, A = some ad ∧ ∀ i, i < n → w.cell? (ad.add i) = some (.int .u8 (xs.getD i 0)) ∧ 0 ≤ xs.getD i 0 ∧ xs.getD i 0 ≤ 255
theorem BytesIn.of {W : World} {A : Option Addr} {n cap : Nat} {xs : List Int} (h : rdSlice rdByte 1 W xs [.slice A n cap]) : BytesIn W A n xs := by
  rcases h with ⟨h1, rfl⟩ | ⟨a, len, cap', h1, _, _, h3, h4⟩
  · simp at h1; obtain ⟨rfl, rfl, rfl⟩ := h1; exact ⟨rfl, fun h => absurd h (by omega)⟩
  · simp at h1; obtain ⟨rfl, rfl, rfl⟩ := h1
    refine ⟨h3, fun _ => ⟨a, rfl, fun i hi => ?_⟩⟩
    obtain ⟨c, _, h5, h6, h7⟩ := h4 i xs[i] (List.getElem?_eq_getElem (by omega))
    subst h6
    have := h5 0 _ rfl
    rw [Nat.mul_one, Nat.add_zero] at this
    rw [this, List.getD_eq_getElem?_getD, List.getElem?_eq_getElem (by omega)]
    exact ⟨rfl, bounds_u8 h7⟩

theorem toBelow {w w' : World} (h : Fr (fun _ => False) w w') : Below w.heap.size w w' := h.toBelow (Nat.le_refl _) (fun _ x => x.elim)
end Go.Proofs.Ytlanchijcefncaa
