/- ltklaw1.CalcWraps answers true. -/
import Derived.Test.YtolmpdkkbdhnhaaCalcFirst
namespace Go.Proofs.Ytolmpdkkbdhnhaa
open Go.RowKit

theorem wrapV_turns (n m t : Int) (h : 1 ≤ m) : wrapV (n + t * m) m = wrapV n m := by
  unfold wrapV; rw [if_neg (by omega), if_neg (by omega), Int.add_mul_emod_self_right]
theorem wrapV_again (n m : Int) (h : 1 ≤ m) : wrapV (wrapV n m) m = wrapV n m := by
  unfold wrapV; rw [if_neg (by omega), if_neg (by omega), Int.emod_emod_of_dvd _ (Int.dvd_refl m)]
theorem wrapV_in (n m : Int) (h0 : 0 ≤ n) (h1 : n < m) : wrapV n m = n := by
  unfold wrapV; rw [if_neg (by omega), Int.emod_eq_of_lt h0 h1]
theorem wrapV_neg (m : Int) (h : 1 ≤ m) : wrapV (-m) m = 0 := by
  unfold wrapV; rw [if_neg (by omega)]; simp
theorem wrapV_range (n m : Int) (h : 1 ≤ m) : 0 ≤ wrapV n m ∧ wrapV n m < m := by
  unfold wrapV; rw [if_neg (by omega)]; exact ⟨Int.emod_nonneg _ (by omega), Int.emod_lt_of_pos _ (by omega)⟩

set_option maxRecDepth 100000 in
set_option maxHeartbeats 4000000 in
set_option linter.unusedVariables false in
theorem wraps_walk (n m t : Int) (w : World) (hn : (Lit.int .i64 n).wf = true) (hm : (Lit.int .i64 m).wf = true) (ht : (Lit.int .i64 t).wf = true) :
    Calls Try.prog 8 #[.int .i64 n, .int .i64 m, .int .i64 t] w fun e w' => e = .returned (.bool true) ∧ Fr (fun _ => False) w w' := by
  by_cases hg : (1 ≤ m ∧ m ≤ 1000000) ∧ (-1000000 ≤ n ∧ n ≤ 1000000) ∧ (-1000 ≤ t ∧ t ≤ 1000)
  · obtain ⟨⟨g1, g2⟩, ⟨g3, g4⟩, g5, g6⟩ := hg
    have hb : -1000000000 ≤ t * m ∧ t * m ≤ 1000000000 := by
      constructor
      · have h1 : -1000 * m ≤ t * m := Int.mul_le_mul_of_nonneg_right g5 (by omega)
        omega
      · have h1 : t * m ≤ 1000 * m := Int.mul_le_mul_of_nonneg_right g6 (by omega)
        omega
    have HW := Lib.hid (wrapV_turns n m t g1)
    have HR := Lib.hid (wrapV_range n m g1)
    have HA := Lib.hid (wrapV_again n m g1)
    have HI := Lib.hid (wrapV_in n m)
    have HN := Lib.hid (wrapV_neg m g1)
    have HB := Lib.hid hb
    clear hb
    have hI : I64 m := by unfold I64; omega
    have HW0 := Lib.hid (fun w => wrapC n m w (by unfold I64; omega) hI)
    have HW1 := Lib.hid (show ∀ w, Calls Try.prog 14 #[.int .i64 (wrap64 (n + wrap64 (t * m))), .int .i64 m] w fun e w' => e = .returned (.int .i64 (wrapV n m)) ∧ w' = w from fun w => by
      have h1 : wrap64 (t * m) = t * m := by have := HB.out; unfold wrap64; omega
      have h2 : wrap64 (n + t * m) = n + t * m := by have := HB.out; unfold wrap64; omega
      rw [h1, h2, ← HW.out]
      exact wrapC _ _ _ (by have := HB.out; unfold I64; omega) hI)
    have HW2 := Lib.hid (show ∀ w, Calls Try.prog 14 #[.int .i64 (wrapV n m), .int .i64 m] w fun e w' => e = .returned (.int .i64 (wrapV n m)) ∧ w' = w from fun w => by
      have h := wrapC (wrapV n m) m w (by have := HR.out; unfold I64; omega) hI
      rw [HA.out] at h; exact h)
    have HW3 := Lib.hid (show ∀ w, Calls Try.prog 14 #[.int .i64 (wrap64 (-m)), .int .i64 m] w fun e w' => e = .returned (.int .i64 0) ∧ w' = w from fun w => by
      rw [show wrap64 (-m) = -m by unfold wrap64; omega]
      have h := wrapC (-m) m w (by unfold I64; omega) hI
      rw [HN.out] at h; exact h)
    have hr : (decide (n < 0) = true) ∨ (decide (n < 0) = false ∧ decide (m ≤ n) = true) ∨ (decide (n < 0) = false ∧ decide (m ≤ n) = false ∧ (wrapV n m == n) = true) := by
      by_cases h0 : n < 0
      · exact .inl (by simpa using h0)
      · by_cases h1 : m ≤ n
        · exact .inr (.inl ⟨by simpa using h0, by simpa using h1⟩)
        · exact .inr (.inr ⟨by simpa using h0, by simpa using h1, by rw [HI.out (by omega) (by omega)]; simp⟩)
    have d1 : decide (m < 1) = false := by simp; omega
    have d2 : decide (1000000 < m) = false := by simp; omega
    have d3 : decide (n < -1000000) = false := by simp; omega
    have d4 : decide (1000000 < n) = false := by simp; omega
    have d5 : decide (t < -1000) = false := by simp; omega
    have d6 : decide (1000 < t) = false := by simp; omega
    clear g1 g2 g3 g4 g5 g6 hI hn hm ht
    rcases hr with r1 | ⟨r1, r2⟩ | ⟨r1, r2, r3⟩
    all_goals
      go_enter Try.func8, Try.ntmps8
      go_wp2_with (first
        | (go_at_call 9; refine (firstC _).mono ?_; rintro e w0 ⟨rfl, hf0⟩)
        | (go_at_call 14; (with_reducible refine (HW0.out _).mono ?_); rintro e w1 ⟨rfl, rfl⟩)
        | (go_at_call 14; (with_reducible refine (HW1.out _).mono ?_); rintro e w1 ⟨rfl, rfl⟩)
        | (go_at_call 14; (with_reducible refine (HW2.out _).mono ?_); rintro e w1 ⟨rfl, rfl⟩)
        | (go_at_call 14; (with_reducible refine (HW3.out _).mono ?_); rintro e w1 ⟨rfl, rfl⟩))
      all_goals go_ret
      all_goals exact ⟨rfl, by repeat (first | exact Fr.refl _ _ | assumption | refine Fr.trans ?_ (by assumption))⟩
  · have hg' : (decide (m < 1) = true) ∨ (decide (m < 1) = false ∧ decide (1000000 < m) = true) ∨ (decide (m < 1) = false ∧ decide (1000000 < m) = false ∧ decide (n < -1000000) = true) ∨ (decide (m < 1) = false ∧ decide (1000000 < m) = false ∧ decide (n < -1000000) = false ∧ decide (1000000 < n) = true) ∨ (decide (m < 1) = false ∧ decide (1000000 < m) = false ∧ decide (n < -1000000) = false ∧ decide (1000000 < n) = false ∧ decide (t < -1000) = true) ∨ (decide (m < 1) = false ∧ decide (1000000 < m) = false ∧ decide (n < -1000000) = false ∧ decide (1000000 < n) = false ∧ decide (t < -1000) = false ∧ decide (1000 < t) = true) := by simp; omega
    clear hg hn hm ht
    rcases hg' with d1 | ⟨d1, d2⟩ | ⟨d1, d2, d3⟩ | ⟨d1, d2, d3, d4⟩ | ⟨d1, d2, d3, d4, d5⟩ | ⟨d1, d2, d3, d4, d5, d6⟩
    all_goals
      go_enter Try.func8, Try.ntmps8
      go_wp2_with (first
        | (go_at_call 9; refine (firstC _).mono ?_; rintro e w0 ⟨rfl, hf0⟩))
      all_goals go_ret
      all_goals exact ⟨rfl, by repeat (first | exact Fr.refl _ _ | assumption | refine Fr.trans ?_ (by assumption))⟩
end Go.Proofs.Ytolmpdkkbdhnhaa
