/- ltkref1.Check, part A: what it answers where a given test is the first that fails. -/
import Derived.Test.YtkaokhpaabfhmaaShape0
namespace Go.Proofs.Ytkaokhpaabfhmaa.RefCheck
open Go.RowKit

set_option maxRecDepth 100000 in
set_option maxHeartbeats 40000000 in
theorem low_th (c : Conf) (w : World) (h : (1 ≤ c.r ∧ c.r ≤ 8) ∧ (1 ≤ c.o ∧ c.o ≤ 8) ∧ (1 ≤ c.s ∧ c.s ≤ 8) ∧ (1 ≤ c.wd ∧ c.wd ≤ 8)) (b : c.th < 1) :
    Calls Try.prog 33 #[c.val] w fun e w' => e = .returned (.int .i64 c.chk) ∧ Fr (fun _ => False) w w' := by
  have HK := Lib.hid (show c.chk = 1 from Conf.chk_no (by unfold Conf.Fine; omega))
  obtain ⟨⟨r1, r2⟩, ⟨o1, o2⟩, ⟨s1, s2⟩, w1, w2⟩ := h
  unfold Conf.val
  go_enter Try.func33, Try.ntmps33
  go_wp2
  go_rounds 5
  go_ret
  exact ⟨by rw [HK.out]; rfl, by repeat (first | exact Fr.refl _ _ | refine Fr.alloc ?_ _)⟩

set_option maxRecDepth 100000 in
set_option maxHeartbeats 40000000 in
theorem high_th (c : Conf) (w : World) (h : (1 ≤ c.r ∧ c.r ≤ 8) ∧ (1 ≤ c.o ∧ c.o ≤ 8) ∧ (1 ≤ c.s ∧ c.s ≤ 8) ∧ (1 ≤ c.wd ∧ c.wd ≤ 8)) (x : 1 ≤ c.th) (b : 64 < c.th) :
    Calls Try.prog 33 #[c.val] w fun e w' => e = .returned (.int .i64 c.chk) ∧ Fr (fun _ => False) w w' := by
  have HK := Lib.hid (show c.chk = 1 from Conf.chk_no (by unfold Conf.Fine; omega))
  obtain ⟨⟨r1, r2⟩, ⟨o1, o2⟩, ⟨s1, s2⟩, w1, w2⟩ := h
  unfold Conf.val
  go_enter Try.func33, Try.ntmps33
  go_wp2
  go_rounds 5
  go_ret
  exact ⟨by rw [HK.out]; rfl, by repeat (first | exact Fr.refl _ _ | refine Fr.alloc ?_ _)⟩

set_option maxRecDepth 100000 in
set_option maxHeartbeats 40000000 in
theorem low_sl (c : Conf) (w : World) (h : (1 ≤ c.r ∧ c.r ≤ 8) ∧ (1 ≤ c.o ∧ c.o ≤ 8) ∧ (1 ≤ c.s ∧ c.s ≤ 8) ∧ (1 ≤ c.wd ∧ c.wd ≤ 8)) (xth1 : 1 ≤ c.th) (xth2 : c.th ≤ 64) (b : c.sl < 0) :
    Calls Try.prog 33 #[c.val] w fun e w' => e = .returned (.int .i64 c.chk) ∧ Fr (fun _ => False) w w' := by
  have HK := Lib.hid (show c.chk = 1 from Conf.chk_no (by unfold Conf.Fine; omega))
  obtain ⟨⟨r1, r2⟩, ⟨o1, o2⟩, ⟨s1, s2⟩, w1, w2⟩ := h
  unfold Conf.val
  go_enter Try.func33, Try.ntmps33
  go_wp2
  go_rounds 5
  go_ret
  exact ⟨by rw [HK.out]; rfl, by repeat (first | exact Fr.refl _ _ | refine Fr.alloc ?_ _)⟩

set_option maxRecDepth 100000 in
set_option maxHeartbeats 40000000 in
theorem high_sl (c : Conf) (w : World) (h : (1 ≤ c.r ∧ c.r ≤ 8) ∧ (1 ≤ c.o ∧ c.o ≤ 8) ∧ (1 ≤ c.s ∧ c.s ≤ 8) ∧ (1 ≤ c.wd ∧ c.wd ≤ 8)) (xth1 : 1 ≤ c.th) (xth2 : c.th ≤ 64) (x : 0 ≤ c.sl) (b : 48 < c.sl) :
    Calls Try.prog 33 #[c.val] w fun e w' => e = .returned (.int .i64 c.chk) ∧ Fr (fun _ => False) w w' := by
  have HK := Lib.hid (show c.chk = 1 from Conf.chk_no (by unfold Conf.Fine; omega))
  obtain ⟨⟨r1, r2⟩, ⟨o1, o2⟩, ⟨s1, s2⟩, w1, w2⟩ := h
  unfold Conf.val
  go_enter Try.func33, Try.ntmps33
  go_wp2
  go_rounds 5
  go_ret
  exact ⟨by rw [HK.out]; rfl, by repeat (first | exact Fr.refl _ _ | refine Fr.alloc ?_ _)⟩

set_option maxRecDepth 100000 in
set_option maxHeartbeats 40000000 in
theorem low_rg (c : Conf) (w : World) (h : (1 ≤ c.r ∧ c.r ≤ 8) ∧ (1 ≤ c.o ∧ c.o ≤ 8) ∧ (1 ≤ c.s ∧ c.s ≤ 8) ∧ (1 ≤ c.wd ∧ c.wd ≤ 8)) (xth1 : 1 ≤ c.th) (xth2 : c.th ≤ 64) (xsl1 : 0 ≤ c.sl) (xsl2 : c.sl ≤ 48) (b : c.rg < 1) :
    Calls Try.prog 33 #[c.val] w fun e w' => e = .returned (.int .i64 c.chk) ∧ Fr (fun _ => False) w w' := by
  have HK := Lib.hid (show c.chk = 1 from Conf.chk_no (by unfold Conf.Fine; omega))
  obtain ⟨⟨r1, r2⟩, ⟨o1, o2⟩, ⟨s1, s2⟩, w1, w2⟩ := h
  unfold Conf.val
  go_enter Try.func33, Try.ntmps33
  go_wp2
  go_rounds 5
  go_ret
  exact ⟨by rw [HK.out]; rfl, by repeat (first | exact Fr.refl _ _ | refine Fr.alloc ?_ _)⟩

set_option maxRecDepth 100000 in
set_option maxHeartbeats 40000000 in
theorem high_rg (c : Conf) (w : World) (h : (1 ≤ c.r ∧ c.r ≤ 8) ∧ (1 ≤ c.o ∧ c.o ≤ 8) ∧ (1 ≤ c.s ∧ c.s ≤ 8) ∧ (1 ≤ c.wd ∧ c.wd ≤ 8)) (xth1 : 1 ≤ c.th) (xth2 : c.th ≤ 64) (xsl1 : 0 ≤ c.sl) (xsl2 : c.sl ≤ 48) (x : 1 ≤ c.rg) (b : 8 < c.rg) :
    Calls Try.prog 33 #[c.val] w fun e w' => e = .returned (.int .i64 c.chk) ∧ Fr (fun _ => False) w w' := by
  have HK := Lib.hid (show c.chk = 1 from Conf.chk_no (by unfold Conf.Fine; omega))
  obtain ⟨⟨r1, r2⟩, ⟨o1, o2⟩, ⟨s1, s2⟩, w1, w2⟩ := h
  unfold Conf.val
  go_enter Try.func33, Try.ntmps33
  go_wp2
  go_rounds 5
  go_ret
  exact ⟨by rw [HK.out]; rfl, by repeat (first | exact Fr.refl _ _ | refine Fr.alloc ?_ _)⟩

end Go.Proofs.Ytkaokhpaabfhmaa.RefCheck
