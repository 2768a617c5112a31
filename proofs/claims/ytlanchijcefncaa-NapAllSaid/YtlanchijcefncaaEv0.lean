/- Rows of numbers and of events, as they lie in a world. No program. -/
import Derived.Test.YtlanchijcefncaaOpen
import Derived.OwnWalk
import Derived.Laws.OwnMore
import Derived.Deep.AppendLies
namespace Go.Proofs.Ytlanchijcefncaa
open Go.RowKit

/-- A slice's numbers: m cells behind A, all within blocks of F. -/
structure Flat (w : World) (F : Nat → Prop) (A : Option Addr) (m : Nat) (xs : List Int) : Prop where
  len : xs.length = m
  at_ : 0 < m → ∃ ad, A = some ad ∧ F ad.block ∧ ∀ i, i < m → w.cell? (ad.add i) = some (.int .i64 (xs.getD i 0))
theorem Flat.frame {w w' : World} {F S : Nat → Prop} {A : Option Addr} {m : Nat} {xs : List Int} (h : Flat w F A m xs) (hf : Fr S w w') (hs : ∀ k, F k → S k → w.heap.size ≤ k) : Flat w' F A m xs :=
  ⟨h.len, fun hm => let ⟨ad, h1, h2, h3⟩ := h.at_ hm; ⟨ad, h1, h2, fun i hi => hf.cell (h3 i hi) (fun x => by
    have := hs _ h2 (by rw [add_blk] at x; exact x)
    have := World.block_lt_of_cell? w _ (h3 i hi)
    rw [add_blk] at this
    omega)⟩⟩
theorem Flat.mono {w : World} {F G : Nat → Prop} {A : Option Addr} {m : Nat} {xs : List Int} (h : Flat w F A m xs) (hs : ∀ k, k < w.heap.size → F k → G k) : Flat w G A m xs :=
  ⟨h.len, fun hm => let ⟨ad, h1, h2, h3⟩ := h.at_ hm; ⟨ad, h1, hs _ (by have := World.block_lt_of_cell? w _ (h3 0 hm); rw [add_blk] at this; exact this) h2, h3⟩⟩
theorem Flat.nil (w : World) (F : Nat → Prop) (A : Option Addr) : Flat w F A 0 [] := ⟨rfl, fun h => absurd h (by omega)⟩
theorem Flat.ofInts {w : World} {A : Option Addr} {n : Nat} {xs : List Int} (h : IntsIn w A n xs) : Flat w (fun _ => True) A n xs :=
  ⟨h.len, fun hn => let ⟨ad, h1, h2⟩ := h.at_ hn; ⟨ad, h1, trivial, h2⟩⟩

theorem eq_of_getD {xs ys : List Int} (h : xs.length = ys.length) (hk : ∀ i, i < xs.length → xs.getD i 0 = ys.getD i 0) : xs = ys := by
  apply List.ext_getElem h
  intro i h1 h2
  have := hk i h1
  rw [List.getD_eq_getElem?_getD, List.getD_eq_getElem?_getD, List.getElem?_eq_getElem h1, List.getElem?_eq_getElem h2] at this
  simpa using this
theorem ne_of_getD {xs ys : List Int} {i : Nat} (h : xs.getD i 0 ≠ ys.getD i 0) : ¬ xs = ys := fun e => h (by rw [e])

theorem mem_of_getD {xs : List Int} {i : Nat} {y : Int} (h : i < xs.length) (he : xs.getD i 0 = y) : y ∈ xs := by
  rw [List.getD_eq_getElem?_getD, List.getElem?_eq_getElem h] at he
  rw [← he]; exact List.getElem_mem h
theorem not_mem_of_getD {xs : List Int} {y : Int} (h : ∀ i, i < xs.length → xs.getD i 0 ≠ y) : ¬ y ∈ xs := by
  intro hm
  obtain ⟨i, hi, he⟩ := List.getElem_of_mem hm
  exact h i hi (by rw [List.getD_eq_getElem?_getD, List.getElem?_eq_getElem hi]; exact he)

/-- What a slice of the call's own holds, as a row of numbers. -/
theorem Flat.ofOwn {w : World} {B : Nat} {T : TypeId} {size n : Nat} {v : Value} {xs : List Int} (h : w.ownsRow B T size v n (xs.map (Value.int .i64))) :
    ∃ A cap, v = .slice A n cap ∧ Flat w (fun k => B ≤ k) A (n * size) xs := by
  have hl : xs.length = n * size := by simpa using h.1
  rcases h.2 with ⟨rfl, h0⟩ | ⟨g, cap, cur, rfl, hb, hg, hn, hm, hs, ht⟩
  · subst h0
    exact ⟨none, 0, rfl, hl, fun x => absurd x (by omega)⟩
  · refine ⟨_, cap, rfl, hl, fun h0 => ⟨_, rfl, hb, fun i hi => ?_⟩⟩
    have h1 := h.cells (g := g) rfl i (.int .i64 (xs.getD i 0)) (by rw [List.getElem?_map, List.getElem?_eq_getElem (by omega), List.getD_eq_getElem?_getD, List.getElem?_eq_getElem (by omega)]; rfl)
    exact h1

/-- An event: its seven numbers, the words that it read and wrote (two numbers each), its registers. -/
@[ext] structure Ev where
  (k th pr tr ti st ca : Int)
  (rs ws gs : List Int)
deriving DecidableEq
instance : Inhabited Ev := ⟨⟨0, 0, 0, 0, 0, 0, 0, [], [], []⟩⟩
/-- Its ten cells. -/
def Ev.cells (e : Ev) (a b c : Value) : List Value := [.int .i64 e.k, .int .i64 e.th, .int .i64 e.pr, .int .i64 e.tr, .int .i64 e.ti, .int .i64 e.st, .int .i64 e.ca, a, b, c]
def Ev.val (e : Ev) (a b c : Value) : Value := .agg #[.int .i64 e.k, .int .i64 e.th, .int .i64 e.pr, .int .i64 e.tr, .int .i64 e.ti, .int .i64 e.st, .int .i64 e.ca, a, b, c]
/-- Small enough to be copied. -/
def Ev.small (e : Ev) : Prop := e.rs.length ≤ 20000 ∧ e.ws.length ≤ 20000 ∧ e.gs.length ≤ 20000
/-- An event's three slices lie so. -/
structure Lies (w : World) (F : Nat → Prop) (e : Ev) (A1 : Option Addr) (n1 c1 : Nat) (A2 : Option Addr) (n2 c2 : Nat) (A3 : Option Addr) (n3 c3 : Nat) : Prop where
  r : Flat w F A1 (n1 * 2) e.rs
  w_ : Flat w F A2 (n2 * 2) e.ws
  g : Flat w F A3 n3 e.gs
theorem Lies.frame {w w' : World} {F S : Nat → Prop} {e : Ev} {A1 A2 A3 : Option Addr} {n1 c1 n2 c2 n3 c3 : Nat} (h : Lies w F e A1 n1 c1 A2 n2 c2 A3 n3 c3) (hf : Fr S w w') (hs : ∀ k, F k → S k → w.heap.size ≤ k) :
    Lies w' F e A1 n1 c1 A2 n2 c2 A3 n3 c3 := ⟨h.r.frame hf hs, h.w_.frame hf hs, h.g.frame hf hs⟩
theorem Lies.mono {w : World} {F G : Nat → Prop} {e : Ev} {A1 A2 A3 : Option Addr} {n1 c1 n2 c2 n3 c3 : Nat} (h : Lies w F e A1 n1 c1 A2 n2 c2 A3 n3 c3) (hs : ∀ k, k < w.heap.size → F k → G k) :
    Lies w G e A1 n1 c1 A2 n2 c2 A3 n3 c3 := ⟨h.r.mono hs, h.w_.mono hs, h.g.mono hs⟩
/-- The cells from place i * 10 on are the event's. -/
def RowAt (cs : List Value) (i : Nat) (e : Ev) (a b c : Value) : Prop := ∀ j, j < 10 → cs[i * 10 + j]? = (e.cells a b c)[j]?
/-- The i-th event of a row of cells. -/
def EvRow (w : World) (F : Nat → Prop) (cs : List Value) (i : Nat) (e : Ev) : Prop :=
  ∃ A1 n1 c1 A2 n2 c2 A3 n3 c3, RowAt cs i e (.slice A1 n1 c1) (.slice A2 n2 c2) (.slice A3 n3 c3) ∧ Lies w F e A1 n1 c1 A2 n2 c2 A3 n3 c3
theorem EvRow.frame {w w' : World} {F S : Nat → Prop} {cs : List Value} {i : Nat} {e : Ev} (h : EvRow w F cs i e) (hf : Fr S w w') (hs : ∀ k, F k → S k → w.heap.size ≤ k) : EvRow w' F cs i e :=
  let ⟨A1, n1, c1, A2, n2, c2, A3, n3, c3, h1, h2⟩ := h; ⟨A1, n1, c1, A2, n2, c2, A3, n3, c3, h1, h2.frame hf hs⟩
theorem EvRow.mono {w : World} {F G : Nat → Prop} {cs : List Value} {i : Nat} {e : Ev} (h : EvRow w F cs i e) (hs : ∀ k, k < w.heap.size → F k → G k) : EvRow w G cs i e :=
  let ⟨A1, n1, c1, A2, n2, c2, A3, n3, c3, h1, h2⟩ := h; ⟨A1, n1, c1, A2, n2, c2, A3, n3, c3, h1, h2.mono hs⟩
/-- Each cell of a row of events is one cell. -/
theorem one_of_rows {w : World} {F : Nat → Prop} {cs : List Value} {es : List Ev} (hl : cs.length = es.length * 10) (h : ∀ i, i < es.length → EvRow w F cs i (es.getD i default)) : ∀ u ∈ cs, u.oneCell' = true := by
  intro u hu
  obtain ⟨p, hp, rfl⟩ := List.getElem_of_mem hu
  obtain ⟨A1, n1, c1, A2, n2, c2, A3, n3, c3, h1, _⟩ := h (p / 10) (by omega)
  have h2 := h1 (p % 10) (by omega)
  rw [show p / 10 * 10 + p % 10 = p by omega, List.getElem?_eq_getElem hp] at h2
  have : p % 10 = 0 ∨ p % 10 = 1 ∨ p % 10 = 2 ∨ p % 10 = 3 ∨ p % 10 = 4 ∨ p % 10 = 5 ∨ p % 10 = 6 ∨ p % 10 = 7 ∨ p % 10 = 8 ∨ p % 10 = 9 := by omega
  rcases this with e | e | e | e | e | e | e | e | e | e <;> (rw [e] at h2; simp only [Ev.cells, List.getElem?_cons_zero, List.getElem?_cons_succ, Option.some.injEq] at h2; rw [h2]; rfl)

/-- A slice of events. -/
structure EvsAt (w : World) (F : Nat → Prop) (v : Value) (es : List Ev) : Prop where
  ex : ∃ A cap cs, v = .slice A es.length cap ∧ es.length ≤ cap ∧ (A = none → cap = 0) ∧ cs.length = es.length * 10 ∧
    (0 < es.length → ∃ ad, A = some ad ∧ F ad.block ∧ ∀ j u, cs[j]? = some u → w.cell? (ad.add j) = some u) ∧
    ∀ i, i < es.length → EvRow w F cs i (es.getD i default)
/-- A slice of events of the call's own, from block B on; their slices lie within F. -/
def EvsOwn (T : TypeId) (B : Nat) (w : World) (F : Nat → Prop) (v : Value) (es : List Ev) : Prop :=
  ∃ cs, w.ownsRow B T 10 v es.length cs ∧ ∀ i, i < es.length → EvRow w F cs i (es.getD i default)
theorem EvsAt.frame {w w' : World} {F S : Nat → Prop} {v : Value} {es : List Ev} (h : EvsAt w F v es) (hf : Fr S w w') (hs : ∀ k, F k → S k → w.heap.size ≤ k) : EvsAt w' F v es := by
  obtain ⟨A, cap, cs, h1, h2, h3, h4, h5, h6⟩ := h.ex
  refine ⟨A, cap, cs, h1, h2, h3, h4, fun h0 => ?_, fun i hi => (h6 i hi).frame hf hs⟩
  obtain ⟨ad, h7, h8, h9⟩ := h5 h0
  exact ⟨ad, h7, h8, fun j u hj => hf.cell (h9 j u hj) (fun x => by
    have := hs _ h8 (by rw [add_blk] at x; exact x)
    have := World.block_lt_of_cell? w _ (h9 j u hj)
    rw [add_blk] at this
    omega)⟩
theorem EvsAt.mono {w : World} {F G : Nat → Prop} {v : Value} {es : List Ev} (h : EvsAt w F v es) (hs : ∀ k, k < w.heap.size → F k → G k) : EvsAt w G v es := by
  obtain ⟨A, cap, cs, h1, h2, h3, h4, h5, h6⟩ := h.ex
  refine ⟨A, cap, cs, h1, h2, h3, h4, fun h0 => ?_, fun i hi => (h6 i hi).mono hs⟩
  obtain ⟨ad, h7, h8, h9⟩ := h5 h0
  have h10 : cs[0]? = some cs[0] := List.getElem?_eq_getElem (by omega)
  have := World.block_lt_of_cell? w _ (h9 0 _ h10)
  rw [add_blk] at this
  exact ⟨ad, h7, hs _ this h8, h9⟩
theorem EvsOwn.at_ {T : TypeId} {B : Nat} {w : World} {F : Nat → Prop} {v : Value} {es : List Ev} (h : EvsOwn T B w F v es) (hF : ∀ k, B ≤ k → F k) : EvsAt w F v es := by
  obtain ⟨cs, h1, h2⟩ := h
  have hl := h1.1
  have hc := fun g => h1.cells (g := g)
  rcases h1.2 with ⟨rfl, h0⟩ | ⟨g, cap, cur, rfl, hb, hg, hn, hm, hs, ht⟩
  · refine ⟨none, 0, cs, by rw [h0], by omega, fun _ => rfl, hl, fun h => absurd h (by omega), h2⟩
  · exact ⟨_, cap, cs, rfl, hn, (fun h => by cases h), hl, fun _ => ⟨_, rfl, hF _ hb, fun j u hj => hc g rfl j u hj⟩, h2⟩
theorem EvsOwn.nil (T : TypeId) (B : Nat) (w : World) (F : Nat → Prop) : EvsOwn T B w F (.slice none 0 0) [] := ⟨[], World.ownsRow_nil _ _ _ _, fun _ hi => absurd hi (Nat.not_lt_zero _)⟩
theorem EvsOwn.mono {T : TypeId} {B : Nat} {w : World} {F G : Nat → Prop} {v : Value} {es : List Ev} (h : EvsOwn T B w F v es) (hs : ∀ k, k < w.heap.size → F k → G k) : EvsOwn T B w G v es :=
  let ⟨cs, h1, h2⟩ := h; ⟨cs, h1, fun i hi => (h2 i hi).mono hs⟩
theorem ownsRow_frame {w w' : World} {B : Nat} {T : TypeId} {k n : Nat} {v : Value} {xs : List Value} {S : Nat → Prop} (h : w.ownsRow B T k v n xs) (hf : Fr S w w') (hs : ∀ g, v.ownBlock = some g → ¬ S g) : w'.ownsRow B T k v n xs := by
  refine ⟨h.1, ?_⟩
  rcases h.2 with hn | ⟨g, cap, cur, rfl, hb, hg, rest⟩
  · exact .inl hn
  · exact .inr ⟨g, cap, cur, rfl, hb, hf.heap hg (hs g rfl), rest⟩
theorem Fr.setCell' {S R : Nat → Prop} {a w : World} (h : Fr R a w) {p : Addr} (hp : S p.block) (u : Value) (hR : ∀ k, R k → S k := by intro k x; first | exact x | exact x.elim) : Fr S a (w.setCell p u) := (h.mono hR).setCell (.inl hp) u
theorem ownsRow_base {w : World} {B C : Nat} {T : TypeId} {k n : Nat} {v : Value} {xs : List Value} (h : w.ownsRow B T k v n xs) (hc : C ≤ B) : w.ownsRow C T k v n xs := by
  refine ⟨h.1, ?_⟩
  rcases h.2 with hn | ⟨g, cap, cur, rfl, hb, rest⟩
  · exact .inl hn
  · exact .inr ⟨g, cap, cur, rfl, by omega, rest⟩
end Go.Proofs.Ytlanchijcefncaa
