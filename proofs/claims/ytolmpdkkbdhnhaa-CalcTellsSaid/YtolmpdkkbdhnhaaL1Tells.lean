/- ltklaw1.CalcTells answers true. -/
import Derived.Test.YtolmpdkkbdhnhaaCalcRef2
namespace Go.Proofs.Ytolmpdkkbdhnhaa
open Go.RowKit

set_option maxRecDepth 100000 in
set_option maxHeartbeats 4000000 in
set_option linter.unusedVariables false in
theorem tells_walk (k : Int) (A : Option Addr) (len cap : Nat) (xs : List Int) (n m : Int) (w : World) (_ : (Lit.int .i64 k).wf = true) (hI' : IntsC w A len cap xs) (hn : (Lit.int .i64 n).wf = true) (hm : (Lit.int .i64 m).wf = true) :
    Calls Try.prog 6 #[.int .i64 k, .slice A len cap, .int .i64 n, .int .i64 m] w fun e w' => e = .returned (.bool true) ∧ Fr (fun _ => False) w w' := by
  have HI := Lib.hid hI'
  have HE := Lib.hid (evalC k A len cap xs)
  have HR := Lib.hid (refEvalC k A len cap xs)
  have HN := Lib.hid (I64.of hn)
  have HM := Lib.hid (I64.of hm)
  by_cases hl : len ≤ 1000
  · have d1 : decide ((1000 : Int) < len) = false := by simp; omega
    clear hI' hn hm hl
    go_enter Try.func6, Try.ntmps6
    go_wp2_with (first
      | (go_at_call 9; refine (firstC w).mono ?_; rintro e w0 ⟨rfl, hf0⟩; have HI0 := HI.out.frame hf0 (fun k x => x.elim))
      | (go_at_call 10; (with_reducible refine (HE.out _ HI0).mono ?_); rintro e w1 ⟨rfl, hf1⟩; have HI1 := HI0.frame hf1 (fun k x => x.elim))
      | (go_at_call 12; (with_reducible refine (HR.out _ HI1).mono ?_); rintro e w2 ⟨rfl, hf2⟩)
      | (go_at_call 9; refine (firstC w2).mono ?_; rintro e w3 ⟨rfl, hf3⟩)
      | (go_at_call 11; refine (knownC _ _).mono ?_; rintro e w4 ⟨rfl, rfl⟩)
      | (go_at_call 13; refine (refKnownC _ _).mono ?_; rintro e w4 ⟨rfl, rfl⟩)
      | (go_at_call 14; refine (wrapC _ _ _ HN.out HM.out).mono ?_; rintro e w4 ⟨rfl, rfl⟩)
      | (go_at_call 15; refine (refWrapC _ _ _ HN.out HM.out).mono ?_; rintro e w4 ⟨rfl, rfl⟩))
    go_ret
    exact ⟨rfl, ((hf0.trans hf1).trans hf2).trans hf3⟩
  · have d1 : decide ((1000 : Int) < len) = true := by simp; omega
    clear hI' hn hm hl
    go_enter Try.func6, Try.ntmps6
    go_wp2_with (first
      | (go_at_call 9; refine (firstC w).mono ?_; rintro e w0 ⟨rfl, hf0⟩)
      | (go_at_call 9; refine (firstC w0).mono ?_; rintro e w3 ⟨rfl, hf3⟩))
    all_goals go_ret
    all_goals exact ⟨rfl, by repeat (first | exact Fr.refl _ _ | assumption | refine Fr.trans ?_ (by assumption))⟩
end Go.Proofs.Ytolmpdkkbdhnhaa
