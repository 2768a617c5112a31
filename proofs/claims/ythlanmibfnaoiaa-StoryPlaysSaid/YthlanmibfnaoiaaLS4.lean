/- ltklaw16.StoryPlays answers true. -/
import Derived.Test.YthlanmibfnaoiaaLS0
import Derived.Test.YthlanmibfnaoiaaLS1
import Derived.Test.YthlanmibfnaoiaaLS2
namespace Go.Proofs.Ythlanmibfnaoiaa
open Go.RowKit

theorem EvsAt.take {w : World} {F : Nat → Prop} {A : Option Addr} {n c k : Nat} {es : List Ev} (h : EvsAt w F (.slice A n c) es) (hk : k ≤ n) : EvsAt w F (.slice A k c) (es.take k) := by
  obtain ⟨A', c', cs, e, h2, h3, h4, h5, h6⟩ := h.ex
  cases e
  have hl : (es.take k).length = k := by rw [List.length_take]; omega
  refine ⟨A, c, cs.take (k * 10), by rw [hl], by rw [hl]; omega, h3, by rw [hl, List.length_take]; omega, fun h0 => ?_, fun i hi => ?_⟩
  · obtain ⟨ad, g1, g2, g3⟩ := h5 (by omega)
    exact ⟨ad, g1, g2, fun j u hj => g3 j u (by rw [List.getElem?_take] at hj; split at hj; exact hj; cases hj)⟩
  · rw [hl] at hi
    have e : (es.take k).getD i default = es.getD i default := by
      rw [List.getD_eq_getElem?_getD, List.getElem?_take, if_pos hi, List.getD_eq_getElem?_getD]
    rw [e]
    obtain ⟨A1, n1, c1, A2, n2, c2, A3, n3, c3, hr, hL⟩ := h6 i (by omega)
    exact ⟨A1, n1, c1, A2, n2, c2, A3, n3, c3, fun j hj => by rw [List.getElem?_take, if_pos (by omega)]; exact hr j hj, hL⟩
theorem EvsAt.drop {w : World} {F : Nat → Prop} {ad : Addr} {n c k : Nat} {es : List Ev} (h : EvsAt w F (.slice (some ad) n c) es) (hk : k ≤ n) : EvsAt w F (.slice (some (ad.add (k * 10))) (n - k) (c - k)) (es.drop k) := by
  obtain ⟨A', c', cs, e, h2, h3, h4, h5, h6⟩ := h.ex
  cases e
  have hl : (es.drop k).length = es.length - k := List.length_drop ..
  refine ⟨some (ad.add (k * 10)), c - k, cs.drop (k * 10), by rw [hl], by rw [hl]; omega, (fun h => by cases h), by rw [hl, List.length_drop]; omega, fun h0 => ?_, fun i hi => ?_⟩
  · obtain ⟨ad', g1, g2, g3⟩ := h5 (by omega)
    cases g1
    refine ⟨_, rfl, by rw [add_blk]; exact g2, fun j u hj => ?_⟩
    rw [List.getElem?_drop] at hj
    have := g3 _ u hj
    rw [show (ad.add (k * 10)).add j = ad.add (k * 10 + j) from by unfold Addr.add; split <;> split <;> split <;> simp_all <;> omega]
    exact this
  · rw [hl] at hi
    have e : (es.drop k).getD i default = es.getD (i + k) default := by
      rw [List.getD_eq_getElem?_getD, List.getElem?_drop, Nat.add_comm, List.getD_eq_getElem?_getD]
    rw [e]
    obtain ⟨A1, n1, c1, A2, n2, c2, A3, n3, c3, hr, hL⟩ := h6 (i + k) (by omega)
    exact ⟨A1, n1, c1, A2, n2, c2, A3, n3, c3, fun j hj => by rw [List.getElem?_drop, show k * 10 + (i * 10 + j) = (i + k) * 10 + j by rw [Nat.add_mul]; omega]; exact hr j hj, hL⟩
theorem EvsAt.dropEnd {w : World} {F : Nat → Prop} {ad : Addr} {n c k : Nat} {es : List Ev} (h : EvsAt w F (.slice (some ad) n c) es) (hc : c ≤ k) : EvsAt w F (.slice (some ad) 0 0) (es.drop k) := by
  obtain ⟨A', c', cs, e, h2, _⟩ := h.ex
  cases e
  have e1 : es.drop k = [] := List.drop_eq_nil_of_le (Nat.le_trans h2 hc)
  rw [e1]
  exact ⟨some ad, 0, [], rfl, Nat.le_refl _, (fun h => by cases h), rfl, fun h => absurd h (by simp), fun i hi => absurd hi (by simp)⟩
theorem Smalls.take {es : List Ev} (h : Smalls es) (k : Nat) : Smalls (es.take k) := ⟨Nat.le_trans (List.length_take_le' ..) h.1, fun e he => h.2 e (List.mem_of_mem_take he)⟩
theorem Smalls.drop {es : List Ev} (h : Smalls es) (k : Nat) : Smalls (es.drop k) := ⟨by rw [List.length_drop]; have := h.1; omega, fun e he => h.2 e (List.mem_of_mem_drop he)⟩

set_option maxRecDepth 100000 in
set_option maxHeartbeats 4000000 in
theorem plays_many (A : Option Addr) (n c : Nat) (es : List Ev) (ct kind : Int) (T : Option Addr) (tn tc : Nat) (w : World) (h : EvsAt w (fun _ => True) (.slice A n c) es) (hb : fewB es = false ∨ (fewB es = true ∧ ct < 0) ∨ (fewB es = true ∧ 0 ≤ ct ∧ (n : Int) < ct) ∨ (fewB es = true ∧ 0 ≤ ct ∧ ct ≤ n ∧ 100 < tn)) :
    Calls Try.prog 7 #[.slice A n c, .int .i64 ct, .int .i64 kind, .slice T tn tc] w fun e w' => e = .returned (.bool true) ∧ Fr (fun _ => False) w w' := by
  have HF := Lib.hid (fun w' (hf : Fr (fun _ => False) w w') => few16_calls _ es _ w' (h.frame hf (fun _ _ x => x.elim)))
  have hk := Fr.refl (fun _ => False) w
  rcases hb with hb | ⟨hb, h1⟩ | ⟨hb, h1, h2⟩ | ⟨hb, h1, h2, h3⟩
  · rw [hb] at HF
    clear h hb
    go_enter Try.func7, Try.ntmps7
    go_wp2_with (first
      | (go_at_call 8
         (with_reducible refine (first16_calls _).mono ?_)
         rintro ex w1 ⟨rfl, hf⟩
         replace hk := hk.trans hf
         clear hf)
      | (go_at_call 9
         (with_reducible refine (HF.out _ hk).mono ?_)
         rintro ex w2 ⟨rfl, hf⟩
         replace hk := hk.trans hf
         clear hf))
    go_ret
    exact ⟨rfl, hk⟩
  · rw [hb] at HF
    have d1 : decide (ct < 0) = true := by simpa using h1
    clear h hb h1
    go_enter Try.func7, Try.ntmps7
    go_wp2_with (first
      | (go_at_call 8
         (with_reducible refine (first16_calls _).mono ?_)
         rintro ex w1 ⟨rfl, hf⟩
         replace hk := hk.trans hf
         clear hf)
      | (go_at_call 9
         (with_reducible refine (HF.out _ hk).mono ?_)
         rintro ex w2 ⟨rfl, hf⟩
         replace hk := hk.trans hf
         clear hf))
    go_ret
    exact ⟨rfl, hk⟩
  · rw [hb] at HF
    have d1 : decide (ct < 0) = false := by simpa using h1
    have d2 : decide ((n : Int) < ct) = true := by simpa using h2
    clear h hb h1 h2
    go_enter Try.func7, Try.ntmps7
    go_wp2_with (first
      | (go_at_call 8
         (with_reducible refine (first16_calls _).mono ?_)
         rintro ex w1 ⟨rfl, hf⟩
         replace hk := hk.trans hf
         clear hf)
      | (go_at_call 9
         (with_reducible refine (HF.out _ hk).mono ?_)
         rintro ex w2 ⟨rfl, hf⟩
         replace hk := hk.trans hf
         clear hf))
    go_ret
    exact ⟨rfl, hk⟩
  · rw [hb] at HF
    have d1 : decide (ct < 0) = false := by simpa using h1
    have d2 : decide ((n : Int) < ct) = false := by simpa using h2
    have d3 : decide ((100 : Int) < tn) = true := by simp; omega
    clear h hb h1 h2 h3
    go_enter Try.func7, Try.ntmps7
    go_wp2_with (first
      | (go_at_call 8
         (with_reducible refine (first16_calls _).mono ?_)
         rintro ex w1 ⟨rfl, hf⟩
         replace hk := hk.trans hf
         clear hf)
      | (go_at_call 9
         (with_reducible refine (HF.out _ hk).mono ?_)
         rintro ex w2 ⟨rfl, hf⟩
         replace hk := hk.trans hf
         clear hf))
    go_ret
    exact ⟨rfl, hk⟩
end Go.Proofs.Ythlanmibfnaoiaa
