/- ltklaw1.CalcFew answers true. -/
import Derived.Test.YtolmpdkkbdhnhaaCalcFirst
namespace Go.Proofs.Ytolmpdkkbdhnhaa
open Go.RowKit

/-- The kinds of sums. -/
def sums : List Int := [0, 1, 2, 5, 6, 7, 8]
theorem sums_built (w : World) : IntsC (w.alloc (.cells #[.int .i64 0, .int .i64 1, .int .i64 2, .int .i64 5, .int .i64 6, .int .i64 7, .int .i64 8] 3)) (some ⟨w.heap.size, 0, none⟩) 7 7 sums := IntsC.built w sums (by simp [sums, I64]) (by decide)
theorem sums_one (i : Nat) (hi : i < 7) (n : Int) : evalV (sums.getD i 0) [n] = n ∧ evalE (sums.getD i 0) [n] = 0 := by
  have : i = 0 ∨ i = 1 ∨ i = 2 ∨ i = 3 ∨ i = 4 ∨ i = 5 ∨ i = 6 := by omega
  rcases this with rfl | rfl | rfl | rfl | rfl | rfl | rfl <;> exact ⟨rfl, rfl⟩
theorem evalE_known (k n : Int) : (evalE k [n] == 0) = known k := by
  unfold evalE; cases known k <;> simp
theorem evalV_unknown (k n : Int) (h : known k = false) : evalV k [n] = 0 := by unfold evalV; rw [h]; rfl

set_option maxRecDepth 100000 in
set_option maxHeartbeats 4000000 in
set_option linter.unusedVariables false in
theorem few_walk (n k : Int) (w : World) (hn : (Lit.int .i64 n).wf = true) (_ : (Lit.int .i64 k).wf = true) :
    Calls Try.prog 5 #[.int .i64 n, .int .i64 k] w fun e w' => e = .returned (.bool true) ∧ Fr (fun _ => False) w w' := by
  have hn' := I64.of hn
  have HN1 := Lib.hid (show ∀ x ∈ [n], I64 x from by intro x hx; simp at hx; subst hx; exact hn')
  have HN2 := Lib.hid (show ∀ x ∈ [n, n], I64 x from by intro x hx; simp at hx; subst hx; exact hn')
  have a1 : evalV 1 [n, n] = 0 := by show wrap64 (n - n) = 0; rw [Int.sub_self]; unfold wrap64; omega
  have a2 : evalV 4 [n, n] = 1 := by show b01 (pass 4 n n && true) = 1; simp [pass, b01]
  have a3 : evalV 3 [n, n] = 0 := by show b01 (pass 3 n n && true) = 0; simp [pass, b01]
  have a4 : (evalE k [n] == 0) = known k := evalE_known k n
  have HU := Lib.hid (evalV_unknown k n)
  have HS := Lib.hid sums_one
  clear hn'
  go_enter Try.func5, Try.ntmps5
  go_wp2_with (first
    | (go_at_call 9; refine (firstC _).mono ?_; rintro e w0 ⟨rfl, hf0⟩))
  have HB := Lib.hid (sums_built w0)
  have hl0 := hf0.size
  have HF0 := Lib.hid (hf0.alloc (.cells #[.int .i64 0, .int .i64 1, .int .i64 2, .int .i64 5, .int .i64 6, .int .i64 7, .int .i64 8] 3))
  clear hf0
  go_loopw [6] (fun v6 wr => ∃ i : Nat, i ≤ 7 ∧ v6 = .int .i64 i ∧ Fr (fun _ => False) (w0.alloc (.cells #[.int .i64 0, .int .i64 1, .int .i64 2, .int .i64 5, .int .i64 6, .int .i64 7, .int .i64 8] 3)) wr) (fun v6 _ => 7 - (intOf v6).toNat)
  case atStart => exact ⟨0, by omega, rfl, Fr.refl _ _⟩
  case round =>
    obtain ⟨i, hi, rfl, hf⟩ := hrel
    by_cases hlt : i < 7
    · obtain ⟨ad, had, hcs⟩ := (HB.out.frame hf (fun k x => x.elim)).row.at_ (by decide)
      cases had
      have q0 := hcs i hlt
      rw [add_none, Nat.zero_add] at q0
      obtain ⟨s1, s2⟩ := HS.out i hlt n
      generalize sums.getD i 0 = s at q0 s1 s2
      clear hcs
      go_wp2_with (first
        | (go_at_call 10; (with_reducible refine (evalC s _ _ _ [n] _ (IntsC.built1 _ n HN1.out)).mono ?_); rintro e w1 ⟨rfl, hf1⟩))
      go_roundw
      case rel => exact ⟨i + 1, by omega, by go_num, (hf.alloc _).trans hf1⟩
      case measure => simp [intOf]; omega
    · obtain rfl : i = 7 := by omega
      have hk : (known k = true ∧ (evalE k [n] == 0) = true ∧ (decide (0 ≤ k) = true ∧ decide (k < 9) = true)) ∨ (known k = false ∧ (evalE k [n] == 0) = false ∧ evalV k [n] = 0 ∧ decide (0 ≤ k) = false) ∨ (known k = false ∧ (evalE k [n] == 0) = false ∧ evalV k [n] = 0 ∧ decide (0 ≤ k) = true ∧ decide (k < 9) = false) := by
        cases hk : known k
        · by_cases h0 : 0 ≤ k
          · exact .inr (.inr ⟨rfl, a4.trans hk, HU.out hk, by simpa using h0, by unfold known at hk; simp [h0] at hk; simp; omega⟩)
          · exact .inr (.inl ⟨rfl, a4.trans hk, HU.out hk, by simpa using h0⟩)
        · refine .inl ⟨rfl, a4.trans hk, ?_⟩
          unfold known at hk; simp at hk; simp; omega
      have HF1 := Lib.hid (HF0.out.trans hf)
      clear hf a4
      rcases hk with ⟨k0, k1, k2, k3⟩ | ⟨k0, k1, k2, k3⟩ | ⟨k0, k1, k2, k3, k4⟩
      all_goals
        go_wp2_with (first
          | (go_at_call 10; (with_reducible refine (evalC 1 _ _ _ [n, n] _ (IntsC.built2 _ n n HN2.out)).mono ?_); rintro e w1 ⟨rfl, hf1⟩)
          | (go_at_call 10; (with_reducible refine (evalC 4 _ _ _ [n, n] _ (IntsC.built2 _ n n HN2.out)).mono ?_); rintro e w2 ⟨rfl, hf2⟩)
          | (go_at_call 10; (with_reducible refine (evalC 3 _ _ _ [n, n] _ (IntsC.built2 _ n n HN2.out)).mono ?_); rintro e w3 ⟨rfl, hf3⟩)
          | (go_at_call 10; (with_reducible refine (evalC k _ _ _ [n] _ (IntsC.built1 _ n HN1.out)).mono ?_); rintro e w4 ⟨rfl, hf4⟩)
          | (go_at_call 9; refine (firstC _).mono ?_; rintro e w5 ⟨rfl, hf5⟩)
          | (go_at_call 11; refine (knownC _ _).mono ?_; rintro e w6 ⟨rfl, rfl⟩))
        go_ret
        exact ⟨rfl, ((((((((HF1.out.alloc _).trans hf1).alloc _).trans hf2).alloc _).trans hf3).alloc _).trans hf4).trans hf5⟩
end Go.Proofs.Ytolmpdkkbdhnhaa
