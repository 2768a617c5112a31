/- What a run reads and writes: the plain law of PlainOwn. -/
import Derived.Test.YtfbdfboekgjbcaaP0
namespace Go.Proofs.Ytfbdfboekgjbcaa
open Go.RowKit

/-- A heap with the first so many writes done. -/
def putW (h ws : List Int) : Nat → List Int
  | 0 => h
  | i + 1 => (putW h ws i).set (ws.getD (2 * i) 0).toNat (ws.getD (2 * i + 1) 0)
theorem putW_len (h ws : List Int) : ∀ i, (putW h ws i).length = h.length
  | 0 => rfl
  | i + 1 => by unfold putW; rw [List.length_set, putW_len h ws i]
theorem getD_app {xs ys : List Int} {i : Nat} (h : i < xs.length) : (xs ++ ys).getD i 0 = xs.getD i 0 := by
  rw [List.getD_eq_getElem?_getD, List.getD_eq_getElem?_getD, List.getElem?_append_left h]
theorem getD_end {xs ys : List Int} {i : Nat} (h : xs.length ≤ i) : (xs ++ ys).getD i 0 = ys.getD (i - xs.length) 0 := by
  rw [List.getD_eq_getElem?_getD, List.getD_eq_getElem?_getD, List.getElem?_append_right h]
theorem putW_app (h ws ys : List Int) : ∀ i, 2 * i ≤ ws.length → putW h (ws ++ ys) i = putW h ws i
  | 0, _ => rfl
  | i + 1, hi => by unfold putW; rw [putW_app h ws ys i (by omega), getD_app (by omega), getD_app (by omega)]
theorem putW_push (h ws : List Int) (a v : Int) (he : ws.length % 2 = 0) : putW h (ws ++ [a, v]) ((ws.length + 2) / 2) = (putW h ws (ws.length / 2)).set a.toNat v := by
  rw [show (ws.length + 2) / 2 = ws.length / 2 + 1 by omega]
  unfold putW
  rw [putW_app h ws _ _ (by omega), getD_end (by omega), getD_end (by omega), show 2 * (ws.length / 2) - ws.length = 0 by omega, show 2 * (ws.length / 2) + 1 - ws.length = 1 by omega]
  cases h : (ws.length / 2) <;> rfl
theorem getD_set {xs : List Int} {i j : Nat} {v : Int} : (xs.set i v).getD j 0 = if i = j ∧ j < xs.length then v else xs.getD j 0 := by
  rw [List.getD_eq_getElem?_getD, List.getD_eq_getElem?_getD, List.getElem?_set]
  by_cases h : i = j
  · subst h
    by_cases hl : i < xs.length
    · simp [hl]
    · simp [hl]
  · simp [h]
/-- Was it written there? -/
def Wrote (ws : List Int) (a v : Int) : Prop := ∃ k, k < ws.length / 2 ∧ ws.getD (2 * k) 0 = a ∧ ws.getD (2 * k + 1) 0 = v
theorem Wrote.app {ws : List Int} {a v : Int} (h : Wrote ws a v) (ys : List Int) : Wrote (ws ++ ys) a v := by
  obtain ⟨k, h1, h2, h3⟩ := h
  exact ⟨k, by rw [List.length_append]; omega, by rw [getD_app (by omega)]; exact h2, by rw [getD_app (by omega)]; exact h3⟩
theorem Wrote.last {ws : List Int} (a v : Int) (he : ws.length % 2 = 0) : Wrote (ws ++ [a, v]) a v :=
  ⟨ws.length / 2, by rw [List.length_append]; show _ < (_ + 2) / 2; omega, by rw [getD_end (by omega), show 2 * (ws.length / 2) - ws.length = 0 by omega]; rfl, by rw [getD_end (by omega), show 2 * (ws.length / 2) + 1 - ws.length = 1 by omega]; rfl⟩
/-- What is so all along. -/
structure Own7 (heap : List Int) (s : PS) : Prop where
  len : s.heap.length = heap.length
  we : s.ws.length % 2 = 0
  re : s.rs.length % 2 = 0
  hp : s.heap = putW heap s.ws (s.ws.length / 2)
  wa : ∀ i, i < s.ws.length / 2 → 0 ≤ s.ws.getD (2 * i) 0 ∧ s.ws.getD (2 * i) 0 < heap.length
  ra : ∀ i, i < s.rs.length / 2 → 0 ≤ s.rs.getD (2 * i) 0 ∧ s.rs.getD (2 * i) 0 < heap.length ∧ (s.rs.getD (2 * i + 1) 0 = heap.getD (s.rs.getD (2 * i) 0).toNat 0 ∨ Wrote s.ws (s.rs.getD (2 * i) 0) (s.rs.getD (2 * i + 1) 0))
  ha : ∀ a : Int, 0 ≤ a → a < heap.length → s.heap.getD a.toNat 0 = heap.getD a.toNat 0 ∨ Wrote s.ws a (s.heap.getD a.toNat 0)
  en : s.e = 1 ∨ s.e = 2 ∨ s.e = 3
theorem Own7.beg (c : Conf) (heap : List Int) : Own7 heap (begP c heap) :=
  ⟨rfl, rfl, rfl, by simp [begP, putW], fun i hi => by simp [begP] at hi, fun i hi => by simp [begP] at hi, fun _ _ _ => .inl rfl, .inl rfl⟩
theorem Own7.step {c : Conf} {heap : List Int} {s : PS} (h : Own7 heap s) (hf : c.Fine) (hw : (heap.length : Int) = c.words) (x : Ins) : Own7 heap (s.step c x) := by
  obtain ⟨h1, h2, h3, h4, h5, h6, h7, h8⟩ := h
  obtain ⟨ha, hb⟩ := addrV_in hf x s.regs
  unfold PS.step
  split
  · refine ⟨h1, h2, by simp; omega, h4, h5, fun i hi => ?_, h7, h8⟩
    dsimp only at hi ⊢
    rw [List.length_append] at hi
    by_cases hil : i < s.rs.length / 2
    · rw [getD_app (by omega), getD_app (by omega)]; exact h6 i hil
    · have hi' : i = s.rs.length / 2 := by simp at hi; omega
      subst hi'
      rw [getD_end (by omega), getD_end (by omega), show 2 * (s.rs.length / 2) - s.rs.length = 0 by omega, show 2 * (s.rs.length / 2) + 1 - s.rs.length = 1 by omega]
      exact ⟨ha, by show addrV c x s.regs < _; omega, h7 _ ha (by show addrV c x s.regs < _; omega)⟩
  · split
    · generalize hA : addrV c x s.regs = a at *
      generalize hV : s.regs.getD x.a.toNat 0 = v at *
      refine ⟨by dsimp only; rw [List.length_set]; exact h1, by simp; omega, h3, ?_, fun i hi => ?_, fun i hi => ?_, fun b hb0 hb1 => ?_, h8⟩
      · dsimp only
        rw [List.length_append]
        show _ = putW heap (s.ws ++ [a, v]) ((s.ws.length + 2) / 2)
        rw [putW_push _ _ _ _ h2, ← h4]
      · dsimp only at hi ⊢
        rw [List.length_append] at hi
        by_cases hil : i < s.ws.length / 2
        · rw [getD_app (by omega)]; exact h5 i hil
        · have hi' : i = s.ws.length / 2 := by simp at hi; omega
          subst hi'
          rw [getD_end (by omega), show 2 * (s.ws.length / 2) - s.ws.length = 0 by omega]
          exact ⟨ha, by show a < _; omega⟩
      · obtain ⟨g1, g2, g3⟩ := h6 i hi
        exact ⟨g1, g2, g3.imp id (fun h => h.app _)⟩
      · dsimp only
        rw [getD_set]
        by_cases hab : a.toNat = b.toNat
        · have : a = b := by omega
          subst this
          rw [if_pos ⟨rfl, by omega⟩]
          exact .inr (Wrote.last _ _ h2)
        · rw [if_neg (fun h => hab h.1)]
          exact (h7 b hb0 hb1).imp id (fun h => h.app _)
    · split
      · exact ⟨h1, h2, h3, h4, h5, h6, h7, h8⟩
      · split
        · exact ⟨h1, h2, h3, h4, h5, h6, h7, h8⟩
        · split
          · exact ⟨h1, h2, h3, h4, h5, h6, h7, .inr (.inl rfl)⟩
          · split
            · exact ⟨h1, h2, h3, h4, h5, h6, h7, .inr (.inr rfl)⟩
            · exact ⟨h1, h2, h3, h4, h5, h6, h7, h8⟩
theorem Own7.run {c : Conf} {heap : List Int} (hf : c.Fine) (hw : (heap.length : Int) = c.words) {p : List Ins} : ∀ n at_ (s : PS), Own7 heap s → Own7 heap (runP c p n at_ s)
  | 0, _, _, h => h
  | n + 1, at_, s, h => by
    unfold runP
    split
    · exact Own7.run hf hw n _ _ (h.step hf hw _)
    · exact h
theorem Own7.full {c : Conf} {heap : List Int} {p : List Ins} (hok : progOk c p = true) (hw : (heap.length : Int) = c.words) : Own7 heap (fullP c heap p) :=
  Own7.run (progOk_iff.1 hok).1 hw _ _ _ (Own7.beg c heap)
end Go.Proofs.Ytfbdfboekgjbcaa
