/- ltklaw2.first answers true. -/
import Derived.Test.YtellolecedpolaaCells
namespace Go.Proofs.Ytellolecedpolaa
open Go.RowKit

theorem first_calls (w : World) : Calls Try.prog 10 #[] w fun e w' => e = .returned (.bool true) ∧ Fr (fun _ => False) w w' := by
  have e1 : (CM.zero 1).errS 0 1 1 = 0 := by decide
  have e2 : ((CM.zero 1).storeB 0 1 1).err 0 = 0 := by decide
  have e3 : ((CM.zero 1).storeB 0 1 1).word 0 = 256 := by decide +kernel
  have e4 : ((CM.zero 1).storeB 0 1 1).tick.cnt = 2 := by decide +kernel
  go_enter Try.func10, Try.ntmps10
  go_wp2_with (first
    | (go_at_call 11; refine (new_calls 1 _ (by omega) (by omega)).mono ?_; rintro e w1 ⟨rfl, hc1, hf1⟩)
    | (go_at_call 17; refine (storeByte_calls _ _ (CM.zero 1) 0 1 1 _ hc1).mono ?_; rintro e w2 ⟨rfl, hc2, hf2⟩)
    | (go_at_call 13; refine (load_calls _ _ _ 0 _ hc2).mono ?_; rintro e w3 ⟨rfl, hc3, hf3⟩)
    | (go_at_call 16; refine (count_calls _ _ _ _ hc3).mono ?_; rintro e w4 ⟨rfl, rfl⟩))
  go_ret
  exact ⟨rfl, (hf1.fresh hf2 (by omega) (by omega)).fresh hf3 (by omega) (by omega)⟩
end Go.Proofs.Ytellolecedpolaa
