/- The contract of ltkref1.Check. -/
import Derived.Test.YtkaokhpaabfhmaaRefCheckA
import Derived.Test.YtkaokhpaabfhmaaRefCheckB
import Derived.Test.YtkaokhpaabfhmaaRefCheckC
import Derived.Deep.CutBlock
namespace Go.Proofs.Ytkaokhpaabfhmaa
open Go.RowKit

namespace RefCheck
set_option maxRecDepth 100000 in
set_option maxHeartbeats 40000000 in
theorem front (c : Conf) (w : World) (h : ¬ ((1 ≤ c.r ∧ c.r ≤ 8) ∧ (1 ≤ c.o ∧ c.o ≤ 8) ∧ (1 ≤ c.s ∧ c.s ≤ 8) ∧ (1 ≤ c.wd ∧ c.wd ≤ 8))) :
    Calls Try.prog 33 #[c.val] w fun e w' => e = .returned (.int .i64 c.chk) ∧ Fr (fun _ => False) w w' := by
  have HK := Lib.hid (show c.chk = 1 from Conf.chk_no (by unfold Conf.Fine; omega))
  have hh : (c.r < 1 ∨ 8 < c.r) ∨ ((1 ≤ c.r ∧ c.r ≤ 8) ∧ (c.o < 1 ∨ 8 < c.o)) ∨ ((1 ≤ c.r ∧ c.r ≤ 8) ∧ (1 ≤ c.o ∧ c.o ≤ 8) ∧ (c.s < 1 ∨ 8 < c.s)) ∨ ((1 ≤ c.r ∧ c.r ≤ 8) ∧ (1 ≤ c.o ∧ c.o ≤ 8) ∧ (1 ≤ c.s ∧ c.s ≤ 8) ∧ (c.wd < 1 ∨ 8 < c.wd)) := by omega
  clear h
  unfold Conf.val
  rcases hh with (b | b) | ⟨⟨a1, a2⟩, b | b⟩ | ⟨⟨a1, a2⟩, ⟨a3, a4⟩, b | b⟩ | ⟨⟨a1, a2⟩, ⟨a3, a4⟩, ⟨a5, a6⟩, b | b⟩
  all_goals
    go_enter Try.func33, Try.ntmps33
    go_wp2
    go_rounds 5
    go_ret
    exact ⟨by rw [HK.out]; rfl, by repeat (first | exact Fr.refl _ _ | refine Fr.alloc ?_ _)⟩

end RefCheck

theorem ref_check_calls (c : Conf) (w : World) : Calls Try.prog 33 #[c.val] w fun e w' => e = .returned (.int .i64 c.chk) ∧ Fr (fun _ => False) w w' := by
  by_cases h : (1 ≤ c.r ∧ c.r ≤ 8) ∧ (1 ≤ c.o ∧ c.o ≤ 8) ∧ (1 ≤ c.s ∧ c.s ≤ 8) ∧ (1 ≤ c.wd ∧ c.wd ≤ 8)
  · have h' := h
    by_cases l0 : c.th < 1
    · exact RefCheck.low_th c w h l0
    by_cases g0 : 64 < c.th
    · exact RefCheck.high_th c w h (by omega) g0
    by_cases l1 : c.sl < 0
    · exact RefCheck.low_sl c w h (by omega) (by omega) l1
    by_cases g1 : 48 < c.sl
    · exact RefCheck.high_sl c w h (by omega) (by omega) (by omega) g1
    by_cases l2 : c.rg < 1
    · exact RefCheck.low_rg c w h (by omega) (by omega) (by omega) (by omega) l2
    by_cases g2 : 8 < c.rg
    · exact RefCheck.high_rg c w h (by omega) (by omega) (by omega) (by omega) (by omega) g2
    by_cases l3 : c.lk < 1
    · exact RefCheck.low_lk c w h (by omega) (by omega) (by omega) (by omega) (by omega) (by omega) l3
    by_cases g3 : 4096 < c.lk
    · exact RefCheck.high_lk c w h (by omega) (by omega) (by omega) (by omega) (by omega) (by omega) (by omega) g3
    by_cases l4 : c.un < 1
    · exact RefCheck.low_un c w h (by omega) (by omega) (by omega) (by omega) (by omega) (by omega) (by omega) (by omega) l4
    by_cases g4 : 1000 < c.un
    · exact RefCheck.high_un c w h (by omega) (by omega) (by omega) (by omega) (by omega) (by omega) (by omega) (by omega) (by omega) g4
    by_cases l5 : c.es < 0
    · exact RefCheck.low_es c w h (by omega) (by omega) (by omega) (by omega) (by omega) (by omega) (by omega) (by omega) (by omega) (by omega) l5
    by_cases g5 : 64 < c.es
    · exact RefCheck.high_es c w h (by omega) (by omega) (by omega) (by omega) (by omega) (by omega) (by omega) (by omega) (by omega) (by omega) (by omega) g5
    by_cases l6 : c.tk < 1
    · exact RefCheck.low_tk c w h (by omega) (by omega) (by omega) (by omega) (by omega) (by omega) (by omega) (by omega) (by omega) (by omega) (by omega) (by omega) l6
    by_cases g6 : 10000 < c.tk
    · exact RefCheck.high_tk c w h (by omega) (by omega) (by omega) (by omega) (by omega) (by omega) (by omega) (by omega) (by omega) (by omega) (by omega) (by omega) (by omega) g6
    by_cases l7 : c.po < 0
    · exact RefCheck.low_po c w h (by omega) (by omega) (by omega) (by omega) (by omega) (by omega) (by omega) (by omega) (by omega) (by omega) (by omega) (by omega) (by omega) (by omega) l7
    by_cases g7 : 2 < c.po
    · exact RefCheck.high_po c w h (by omega) (by omega) (by omega) (by omega) (by omega) (by omega) (by omega) (by omega) (by omega) (by omega) (by omega) (by omega) (by omega) (by omega) (by omega) g7
    exact RefCheck.fine c w h (by omega) (by omega) (by omega) (by omega) (by omega) (by omega) (by omega) (by omega) (by omega) (by omega) (by omega) (by omega) (by omega) (by omega) (by omega) (by omega)
  · exact RefCheck.front c w h
end Go.Proofs.Ytkaokhpaabfhmaa
