/- append([]T{}, xs...): a new list, the world but grown. -/
import Derived.Test.YtoickikfojpgaaaEv3
import Derived.Laws.AppendOwn
import Derived.Laws.Append
import Derived.Deep.AppendSrc
import Derived.Deep.Upon
namespace Go.Proofs.Ytoickikfojpgaaa
open Go.RowKit

/-- A list of the call's own: a block from B on, its first cells the numbers. -/
structure NewL (w : World) (B : Nat) (T : TypeId) (A : Option Addr) (m : Nat) (zs : List Int) : Prop where
  len : zs.length = m
  at_ : 0 < m → ∃ g arr, A = some ⟨g, 0, none⟩ ∧ B ≤ g ∧ w.heap[g]? = some (.cells arr T (0, 0)) ∧ ∀ i, i < m → arr[i]? = some (.int .i64 (zs.getD i 0))
theorem NewL.flat {w : World} {B : Nat} {T : TypeId} {A : Option Addr} {m : Nat} {zs : List Int} (h : NewL w B T A m zs) : Flat w (fun k => B ≤ k) A m zs :=
  ⟨h.len, fun h0 => let ⟨g, arr, h1, h2, h3, h4⟩ := h.at_ h0; ⟨_, h1, h2, fun i hi => by
    have h5 : (Addr.mk g 0 none).add i = ⟨g, i, none⟩ := by unfold Addr.add; split <;> simp_all
    rw [h5, blk_cell h3, h4 i hi]⟩⟩
theorem NewL.frame {w w' : World} {S : Nat → Prop} {B : Nat} {T : TypeId} {A : Option Addr} {m : Nat} {zs : List Int} (h : NewL w B T A m zs) (hf : Fr S w w') (hs : ∀ k, B ≤ k → k < w.heap.size → ¬ S k) : NewL w' B T A m zs :=
  ⟨h.len, fun h0 => let ⟨g, arr, h1, h2, h3, h4⟩ := h.at_ h0; ⟨g, arr, h1, h2, hf.heap h3 (hs g h2 (Array.getElem?_eq_some_iff.1 h3).1), h4⟩⟩
theorem NewL.frameF {w w' : World} {B : Nat} {T : TypeId} {A : Option Addr} {m : Nat} {zs : List Int} (h : NewL w B T A m zs) (hf : Fr (fun _ => False) w w') : NewL w' B T A m zs := h.frame hf (fun _ _ _ x => x)
theorem NewL.base {w : World} {B C : Nat} {T : TypeId} {A : Option Addr} {m : Nat} {zs : List Int} (h : NewL w B T A m zs) (hc : C ≤ B) : NewL w C T A m zs :=
  ⟨h.len, fun h0 => let ⟨g, arr, h1, h2, h3⟩ := h.at_ h0; ⟨g, arr, h1, Nat.le_trans hc h2, h3⟩⟩

theorem fresh_run (w : World) (T E ty : TypeId) (i0 : TypeInfo) (z : Value) (size bytes : Nat) (ht : Try.prog.underlying T = some (.slice E)) (hi : Try.prog.info? E = some i0) (hz0 : i0.zero = some z) (hz1 : i0.size = size) (hz2 : i0.bytes = bytes) (hby : bytes ≤ 128) (b : Addr) (A : Option Addr) (m c : Nat) (zs : List Int) (F : Nat → Prop) (hf : Flat w F A (m * size) zs) (hs : 0 < size) (hm : m ≤ 20000) :
    ∃ A' c' w', (Builtin.append_ #[T, T] ty #[.slice (some b) 0 0, .slice A m c]).run Try.prog w = .ok (.slice A' m c') w' ∧ NewL w' w.heap.size E A' (m * size) zs ∧ Fr (fun _ => False) w w' := by
  by_cases h0 : 0 < m
  · obtain ⟨ad, rfl, _, hc⟩ := hf.at_ (Nat.mul_pos h0 hs)
    have hl : (zs.map (Value.int .i64)).length = m * i0.size := by rw [List.length_map, hf.len, hz1]
    have hr := run_append_grow (P := Try.prog) (w := w) T ty E i0 z ht hi hz0 b 0 0 [] (by simp) (fun j v hj => by cases hj) ad m c (zs.map (Value.int .i64)) hl (fun j v hj => by
      rw [List.getElem?_map] at hj
      have hjl : j < zs.length := by
        rcases Nat.lt_or_ge j zs.length with h | h
        · exact h
        · rw [List.getElem?_eq_none h] at hj; cases hj
      rw [List.getElem?_eq_getElem hjl] at hj
      cases hj
      rw [hc j (by rw [← hf.len]; exact hjl), List.getD_eq_getElem?_getD, List.getElem?_eq_getElem hjl]; rfl)
      (by omega) (by omega) (growslice_fits (by omega) (by rw [hz2, Nat.zero_add]; have : m * bytes ≤ m * 128 := Nat.mul_le_mul_left m hby; omega))
    simp only [Nat.zero_add] at hr
    have h2 := heap_alloc_new w.drew (.cells (([] : List Value).toArray ++ (zs.map (Value.int .i64)).toArray ++ Builtin.zeroCells z.cells (grownCap w m 0 E - m)) E)
    have h3 : w.drew.heap.size = w.heap.size := by simp
    rw [h3] at h2
    refine ⟨_, _, _, hr, ⟨hf.len, fun _ => ⟨_, _, rfl, Nat.le_refl _, h2, fun i hi2 => ?_⟩⟩, (Fr.refl _ _).drew.alloc _⟩
    have hil : i < zs.length := by rw [hf.len]; exact hi2
    simp only [Array.empty_append, List.getD_eq_getElem?_getD]
    rw [Array.getElem?_append_left (by simpa using hil)]
    simp [hil]
  · obtain rfl : m = 0 := by omega
    have hz : zs = [] := List.length_eq_zero_iff.1 (by rw [hf.len]; omega)
    subst hz
    have hr : (Builtin.append_ #[T, T] ty #[.slice (some b) 0 0, .slice A 0 c]).run Try.prog w = .ok (.slice (some b) 0 0) w := by
      cases A with
      | none => exact run_append_nothing w T T ty E i0 ht hi (some b) 0 0 (Nat.le_refl _) _ (Src.ofNil (w := w) ht c)
      | some a => exact run_append_nothing w T T ty E i0 ht hi (some b) 0 0 (Nat.le_refl _) _ (Src.ofSlice (w := w) ht a 0 c [] (by simp) (fun j u hj => by cases hj) (fun u hu => by cases hu))
    exact ⟨_, _, _, hr, ⟨by simp, fun h => absurd h (by simp)⟩, Fr.refl _ _⟩

theorem step_fresh_acc {ops : Array Oper} {o : Oper} {a : Act} {K : Act → World → Prop} {Q : Exit → Act → World → Prop} {E : Prop} (w : World) (hgd : o.guard = none) (s x : Operand)
    (ho : o.op = .call { callee := .builtin .append, args := #[s, x], argTypes := #[31, 31] }) (b : Addr) (hs : a.eval s = .slice (some b) 0 0) (A : Option Addr) (m c : Nat) (zs : List Int) (F : Nat → Prop) (hx : a.eval x = .slice A m c) (hf : Flat w F A (m * 2) zs) (hm : m ≤ 20000)
    (h : ∀ A' c' w', NewL w' w.heap.size 34 A' (m * 2) zs → Fr (fun _ => False) w w' → K (a.put o.dst (.slice A' m c')) w') :
    if Region.wanted o (yielded ops a.tmps) = true then Oper.wp Try.prog o a w K Q else E := by
  have hw : Region.wanted o (yielded ops a.tmps) = true := by simp [Region.wanted, hgd]
  rw [if_pos hw]
  obtain ⟨i0, hi, hz0, hz1, hz2⟩ := info_parts infoAcc
  obtain ⟨A', c', w', hr, h2, h3⟩ := fresh_run w 31 34 o.type i0 _ 2 16 Try.underlying31 hi hz0 hz1 hz2 (by decide) b A m c zs F hf (by decide) hm
  unfold Oper.wp execOp
  simp only [ho, resolve, invoke, builtin, Sem.run_bind, Sem.run_pure, Result.andThen_ok, List.map_toArray, List.map_cons, List.map_nil, hs, hx, hr]
  exact h A' c' w' h2 h3
theorem step_fresh_int {ops : Array Oper} {o : Oper} {a : Act} {K : Act → World → Prop} {Q : Exit → Act → World → Prop} {E : Prop} (w : World) (hgd : o.guard = none) (s x : Operand)
    (ho : o.op = .call { callee := .builtin .append, args := #[s, x], argTypes := #[37, 37] }) (b : Addr) (hs : a.eval s = .slice (some b) 0 0) (A : Option Addr) (m c : Nat) (zs : List Int) (F : Nat → Prop) (hx : a.eval x = .slice A m c) (hf : Flat w F A (m * 1) zs) (hm : m ≤ 20000)
    (h : ∀ A' c' w', NewL w' w.heap.size 3 A' (m * 1) zs → Fr (fun _ => False) w w' → K (a.put o.dst (.slice A' m c')) w') :
    if Region.wanted o (yielded ops a.tmps) = true then Oper.wp Try.prog o a w K Q else E := by
  have hw : Region.wanted o (yielded ops a.tmps) = true := by simp [Region.wanted, hgd]
  rw [if_pos hw]
  obtain ⟨i0, hi, hz0, hz1, hz2⟩ := info_parts infoInt
  obtain ⟨A', c', w', hr, h2, h3⟩ := fresh_run w 37 3 o.type i0 _ 1 8 Try.underlying37 hi hz0 hz1 hz2 (by decide) b A m c zs F hf (by decide) hm
  unfold Oper.wp execOp
  simp only [ho, resolve, invoke, builtin, Sem.run_bind, Sem.run_pure, Result.andThen_ok, List.map_toArray, List.map_cons, List.map_nil, hs, hx, hr]
  exact h A' c' w' h2 h3
/-- Ten cells of one block, written one behind the other. -/
theorem setStep {X Y : World} {b : Nat} {T : TypeId} {arr : Array Value} (h : Y.heap[b]? = some (.cells arr T (0, 0)) ∧ Fr (fun k => k = b) X Y) (j : Nat) (v : Value) :
    (Y.setCell ⟨b, j, none⟩ v).heap[b]? = some (.cells (arr.setIfInBounds j v) T (0, 0)) ∧ Fr (fun k => k = b) X (Y.setCell ⟨b, j, none⟩ v) :=
  ⟨by rw [blk_set h.1], h.2.setCell (.inl rfl) v⟩
theorem tenSet {X : World} {b : Nat} {T : TypeId} {a0 a1 a2 a3 a4 a5 a6 a7 a8 a9 : Value} (h : X.heap[b]? = some (.cells #[a0, a1, a2, a3, a4, a5, a6, a7, a8, a9] T (0, 0))) (v0 v1 v2 v3 v4 v5 v6 v7 v8 v9 : Value) :
    ((((((((((X.setCell ⟨b, 0, none⟩ v0).setCell ⟨b, 1, none⟩ v1).setCell ⟨b, 2, none⟩ v2).setCell ⟨b, 3, none⟩ v3).setCell ⟨b, 4, none⟩ v4).setCell ⟨b, 5, none⟩ v5).setCell ⟨b, 6, none⟩ v6).setCell ⟨b, 7, none⟩ v7).setCell ⟨b, 8, none⟩ v8).setCell ⟨b, 9, none⟩ v9).heap[b]? = some (.cells #[v0, v1, v2, v3, v4, v5, v6, v7, v8, v9] T (0, 0)) ∧ Fr (fun k => k = b) X ((((((((((X.setCell ⟨b, 0, none⟩ v0).setCell ⟨b, 1, none⟩ v1).setCell ⟨b, 2, none⟩ v2).setCell ⟨b, 3, none⟩ v3).setCell ⟨b, 4, none⟩ v4).setCell ⟨b, 5, none⟩ v5).setCell ⟨b, 6, none⟩ v6).setCell ⟨b, 7, none⟩ v7).setCell ⟨b, 8, none⟩ v8).setCell ⟨b, 9, none⟩ v9) := by
  have h2 := (setStep (setStep (setStep (setStep (setStep (setStep (setStep (setStep (setStep (setStep ⟨h, Fr.refl _ X⟩ 0 v0) 1 v1) 2 v2) 3 v3) 4 v4) 5 v5) 6 v6) 7 v7) 8 v8) 9 v9)
  simp only [List.setIfInBounds_toArray, List.set_cons_zero, List.set_cons_succ] at h2
  exact h2

theorem tenEx {X : World} {b : Nat} {T : TypeId} {a0 a1 a2 a3 a4 a5 a6 a7 a8 a9 : Value} (h : X.heap[b]? = some (.cells #[a0, a1, a2, a3, a4, a5, a6, a7, a8, a9] T (0, 0))) (v0 v1 v2 v3 v4 v5 v6 v7 v8 v9 : Value) :
    ∃ Z, ((((((((((X.setCell ⟨b, 0, none⟩ v0).setCell ⟨b, 1, none⟩ v1).setCell ⟨b, 2, none⟩ v2).setCell ⟨b, 3, none⟩ v3).setCell ⟨b, 4, none⟩ v4).setCell ⟨b, 5, none⟩ v5).setCell ⟨b, 6, none⟩ v6).setCell ⟨b, 7, none⟩ v7).setCell ⟨b, 8, none⟩ v8).setCell ⟨b, 9, none⟩ v9) = Z ∧ Z.heap[b]? = some (.cells #[v0, v1, v2, v3, v4, v5, v6, v7, v8, v9] T (0, 0)) ∧ Fr (fun k => k = b) X Z := ⟨_, rfl, tenSet h v0 v1 v2 v3 v4 v5 v6 v7 v8 v9⟩
theorem NewL.set {w : World} {B g i : Nat} {T : TypeId} {m : Nat} {zs : List Int} (h : NewL w B T (some ⟨g, 0, none⟩) m zs) (hi : i < m) (v : Int) : NewL (w.setCell ⟨g, i, none⟩ (.int .i64 v)) B T (some ⟨g, 0, none⟩) m (zs.set i v) := by
  refine ⟨by rw [List.length_set]; exact h.len, fun h0 => ?_⟩
  obtain ⟨g', arr, h1, h2, h3, h4⟩ := h.at_ h0
  cases h1
  refine ⟨g, _, rfl, h2, blk_set h3 i (.int .i64 v), fun j hj => ?_⟩
  have hsz : i < arr.size := (Array.getElem?_eq_some_iff.1 (h4 i hi)).1
  rw [List.getD_eq_getElem?_getD, List.getElem?_set]
  by_cases e : i = j
  · subst e
    rw [Array.getElem?_setIfInBounds_self_of_lt hsz, if_pos rfl, if_pos (by rw [h.len]; exact hi)]; rfl
  · rw [Array.getElem?_setIfInBounds_ne e, if_neg e, h4 j hj, List.getD_eq_getElem?_getD]
/-- Whatever is written, numbers stay numbers. -/
theorem Flat.any {w : World} {F : Nat → Prop} {A : Option Addr} {m : Nat} {zs : List Int} (h : Flat w F A m zs) (p : Addr) (v : Int) : ∃ zs', Flat (w.setCell p (.int .i64 v)) F A m zs' := by
  by_cases h0 : 0 < m
  · obtain ⟨ad, h1, h2, h3⟩ := h.at_ h0
    have each : ∀ i, ∃ x : Int, i < m → (w.setCell p (.int .i64 v)).cell? (ad.add i) = some (.int .i64 x) := by
      intro i
      by_cases hi : i < m
      · by_cases e : p = ad.add i
        · exact ⟨v, fun _ => by rw [e]; exact World.cell?_setCell_same' _ _ _ (by rw [h3 i hi]; rfl)⟩
        · exact ⟨_, fun _ => by rw [World.cell?_setCell_other _ _ _ _ e]; exact h3 i hi⟩
      · exact ⟨0, fun h => absurd h hi⟩
    obtain ⟨f, hf⟩ := Classical.axiomOfChoice each
    refine ⟨(List.range m).map f, by simp, fun _ => ⟨ad, h1, h2, fun i hi => ?_⟩⟩
    rw [hf i hi, List.getD_eq_getElem?_getD, List.getElem?_map, List.getElem?_range hi]; rfl
  · exact ⟨zs, h.len, fun h1 => absurd h1 h0⟩
theorem NewL.frameT {w w' : World} {B b : Nat} {T T' : TypeId} {arr : Array Value} {A : Option Addr} {m : Nat} {zs : List Int} (h : NewL w B T A m zs) (hb : w.heap[b]? = some (.cells arr T' (0, 0))) (hT : T ≠ T') (hf : Fr (fun k => k = b) w w') : NewL w' B T A m zs :=
  ⟨h.len, fun h0 => let ⟨g, ar, h1, h2, h3, h4⟩ := h.at_ h0; ⟨g, ar, h1, h2, hf.heap h3 (fun e => by subst e; rw [h3] at hb; injection hb with hb; injection hb with _ hb; exact hT hb), h4⟩⟩
end Go.Proofs.Ytoickikfojpgaaa
