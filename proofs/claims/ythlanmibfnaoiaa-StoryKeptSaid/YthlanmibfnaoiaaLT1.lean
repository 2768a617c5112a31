/- StoryKept: what is written, and what stays. -/
import Derived.Test.YthlanmibfnaoiaaLT0
import Derived.Test.YthlanmibfnaoiaaLK0
namespace Go.Proofs.Ythlanmibfnaoiaa
open Go.RowKit

/-- A list whose j-th number may be written: it lies from block lo on, below block hi. -/
def LstOK (w : World) (lo hi : Nat) (T : TypeId) (j : Nat) (A : Option Addr) (n : Nat) : Prop :=
  0 < n → ∃ g ar x, A = some ⟨g, 0, none⟩ ∧ lo ≤ g ∧ g < hi ∧ w.heap[g]? = some (.cells ar T (0, 0)) ∧ ar[j]? = some (.int .i64 x)
theorem LstOK.set {w : World} {lo hi : Nat} {T : TypeId} {j : Nat} {A : Option Addr} {n : Nat} (h : LstOK w lo hi T j A n) (q o : Nat) (v : Int) : LstOK (w.setCell ⟨q, o, none⟩ (.int .i64 v)) lo hi T j A n := fun h0 => by
  obtain ⟨g, ar, x, h1, h2, h3, h4, h5⟩ := h h0
  by_cases e : g = q
  · subst e
    have hj := (Array.getElem?_eq_some_iff.1 h5).1
    refine ⟨g, _, if o = j then v else x, h1, h2, h3, blk_set h4 o _, ?_⟩
    by_cases e2 : o = j
    · subst e2
      rw [Array.getElem?_setIfInBounds_self_of_lt hj, if_pos rfl]
    · rw [Array.getElem?_setIfInBounds_ne e2, if_neg e2, h5]
  · exact ⟨g, ar, x, h1, h2, h3, ((Fr.refl (fun k => k = q) w).setCell (p := ⟨q, o, none⟩) (.inl rfl) _).heap h4 (fun e2 => e e2), h5⟩
theorem LstOK.frame {w w' : World} {S : Nat → Prop} {lo hi : Nat} {T : TypeId} {j : Nat} {A : Option Addr} {n : Nat} (h : LstOK w lo hi T j A n) (hf : Fr S w w') (hs : ∀ k, lo ≤ k → k < hi → ¬ S k) : LstOK w' lo hi T j A n := fun h0 => by
  obtain ⟨g, ar, x, h1, h2, h3, h4, h5⟩ := h h0
  exact ⟨g, ar, x, h1, h2, h3, hf.heap h4 (hs g h2 h3), h5⟩
theorem NewL.ok {w : World} {B : Nat} {T : TypeId} {A : Option Addr} {m : Nat} {zs : List Int} (h : NewL w B T A m zs) {n k j hi : Nat} (hm : m = n * k) (hk : j < k) (hh : w.heap.size ≤ hi) : LstOK w B hi T j A n := fun h0 => by
  have hpos : 0 < m := by rw [hm]; exact Nat.mul_pos h0 (by omega)
  obtain ⟨g, ar, h1, h2, h3, h4⟩ := h.at_ hpos
  have hjm : j < m := by rw [hm]; have : 1 * k ≤ n * k := Nat.mul_le_mul_right k h0; omega
  exact ⟨g, ar, _, h1, h2, Nat.lt_of_lt_of_le (Array.getElem?_eq_some_iff.1 h3).1 hh, h3, h4 j hjm⟩
/-- A slice of events whose kinds, registers and reads may be written. -/
def MutOK (w : World) (lo hi g n : Nat) : Prop := ∃ arr, w.heap[g]? = some (.cells arr 33 (0, 0)) ∧ lo ≤ g ∧ g < hi ∧
  ∀ i, i < n → (∃ k, arr[i * 10]? = some (.int .i64 k)) ∧ (∃ A1 n1 c1, arr[i * 10 + 7]? = some (.slice A1 n1 c1) ∧ LstOK w lo hi 40 1 A1 n1) ∧ ∃ A3 n3 c3, arr[i * 10 + 9]? = some (.slice A3 n3 c3) ∧ LstOK w lo hi 3 0 A3 n3
theorem MutOK.frame {w w' : World} {S : Nat → Prop} {lo hi g n : Nat} (h : MutOK w lo hi g n) (hf : Fr S w w') (hs : ∀ k, lo ≤ k → k < hi → ¬ S k) : MutOK w' lo hi g n := by
  obtain ⟨arr, h1, h2, h3, h4⟩ := h
  refine ⟨arr, hf.heap h1 (hs g h2 h3), h2, h3, fun i hi2 => ?_⟩
  obtain ⟨k, ⟨A1, n1, c1, r1, r2⟩, A3, n3, c3, g1, g2⟩ := h4 i hi2
  exact ⟨k, ⟨A1, n1, c1, r1, r2.frame hf hs⟩, A3, n3, c3, g1, g2.frame hf hs⟩
/-- A kind is written. -/
theorem MutOK.kind {w : World} {lo hi g n : Nat} (h : MutOK w lo hi g n) (i : Nat) (v : Int) : MutOK (w.setCell ⟨g, i * 10, none⟩ (.int .i64 v)) lo hi g n := by
  obtain ⟨arr, h1, h2, h3, h4⟩ := h
  refine ⟨_, blk_set h1 (i * 10) (.int .i64 v), h2, h3, fun j hj => ?_⟩
  obtain ⟨⟨k, hk⟩, ⟨A1, n1, c1, r1, r2⟩, A3, n3, c3, g1, g2⟩ := h4 j hj
  refine ⟨?_, ⟨A1, n1, c1, by rw [Array.getElem?_setIfInBounds_ne (by omega)]; exact r1, r2.set _ _ _⟩, A3, n3, c3, by rw [Array.getElem?_setIfInBounds_ne (by omega)]; exact g1, g2.set _ _ _⟩
  by_cases e : i = j
  · subst e
    exact ⟨v, by rw [Array.getElem?_setIfInBounds_self_of_lt (Array.getElem?_eq_some_iff.1 hk).1]⟩
  · exact ⟨k, by rw [Array.getElem?_setIfInBounds_ne (by omega)]; exact hk⟩
/-- A number of a list is written. -/
theorem MutOK.num {w : World} {lo hi g n : Nat} (h : MutOK w lo hi g n) {q : Nat} {ar : Array Value} {T : TypeId} (hq : w.heap[q]? = some (.cells ar T (0, 0))) (hT : T ≠ 33) (o : Nat) (v : Int) : MutOK (w.setCell ⟨q, o, none⟩ (.int .i64 v)) lo hi g n := by
  obtain ⟨arr, h1, h2, h3, h4⟩ := h
  have hgq : g ≠ q := fun e => by subst e; rw [h1] at hq; injection hq with hq; injection hq with _ hq; exact hT hq.symm
  refine ⟨arr, ((Fr.refl (fun k => k = q) w).setCell (p := ⟨q, o, none⟩) (.inl rfl) _).heap h1 hgq, h2, h3, fun j hj => ?_⟩
  obtain ⟨k, ⟨A1, n1, c1, r1, r2⟩, A3, n3, c3, g1, g2⟩ := h4 j hj
  exact ⟨k, ⟨A1, n1, c1, r1, r2.set _ _ _⟩, A3, n3, c3, g1, g2.set _ _ _⟩
/-- What All tells may be written. -/
theorem mut_of {B B1 : Nat} {w : World} {v : Value} {es : List Ev} {cs : List Value} (hb : B ≤ B1) (ho : w.ownsRow B 33 10 v es.length cs) (hr : ∀ i, i < es.length → EvRowN w B1 cs i (es.getD i default)) (h0 : 0 < es.length) : ∃ g c, v = .slice (some ⟨g, 0, none⟩) es.length c ∧ MutOK w B w.heap.size g es.length := by
  rcases id ho.2 with ⟨_, hz⟩ | ⟨g, cap, cur, rfl, hbg, hg, hn, hm, hs, ht⟩
  · omega
  · refine ⟨g, cap, rfl, cur, hg, hbg, (Array.getElem?_eq_some_iff.1 hg).1, fun i hi => ?_⟩
    obtain ⟨A1, n1, c1, A2, n2, c2, A3, n3, c3, hrow, hL⟩ := hr i hi
    have up : ∀ j, j < 10 → ∀ u, cs[i * 10 + j]? = some u → cur[i * 10 + j]? = some u := fun j hj u hu => by
      have h1 : (cur.toList.take (es.length * 10))[i * 10 + j]? = some u := by rw [ht]; exact hu
      rw [List.getElem?_take, if_pos (by omega)] at h1
      simpa using h1
    refine ⟨⟨_, by have := up 0 (by omega) _ (hrow 0 (by omega)); simpa using this⟩, ⟨A1, n1, c1, up 7 (by omega) _ (hrow 7 (by omega)), ?_⟩, A3, n3, c3, up 9 (by omega) _ (hrow 9 (by omega)), ?_⟩
    · exact (hL.r.base hb).ok rfl (by omega) (Nat.le_refl _)
    · exact (hL.g.base hb).ok (k := 1) (by omega) (by omega) (Nat.le_refl _)
theorem EvsN.mut {B : Nat} {w : World} {v : Value} {es : List Ev} (h : EvsN B w v es) (h0 : 0 < es.length) : ∃ g c, v = .slice (some ⟨g, 0, none⟩) es.length c ∧ MutOK w B w.heap.size g es.length := by
  obtain ⟨B1, hb, _, cs, ho, hr⟩ := h
  exact mut_of hb ho hr h0
end Go.Proofs.Ythlanmibfnaoiaa
