/- ltkref1.Check, part B: what it answers where a given test is the first that fails. -/
import Derived.Test.YtkaokhpaabfhmaaShape0
namespace Go.Proofs.Ytkaokhpaabfhmaa.RefCheck
open Go.RowKit

set_option maxRecDepth 100000 in
set_option maxHeartbeats 40000000 in
theorem low_lk (c : Conf) (w : World) (h : (1 ≤ c.r ∧ c.r ≤ 8) ∧ (1 ≤ c.o ∧ c.o ≤ 8) ∧ (1 ≤ c.s ∧ c.s ≤ 8) ∧ (1 ≤ c.wd ∧ c.wd ≤ 8)) (xth1 : 1 ≤ c.th) (xth2 : c.th ≤ 64) (xsl1 : 0 ≤ c.sl) (xsl2 : c.sl ≤ 48) (xrg1 : 1 ≤ c.rg) (xrg2 : c.rg ≤ 8) (b : c.lk < 1) :
    Calls Try.prog 33 #[c.val] w fun e w' => e = .returned (.int .i64 c.chk) ∧ Fr (fun _ => False) w w' := by
  have HK := Lib.hid (show c.chk = 1 from Conf.chk_no (by unfold Conf.Fine; omega))
  obtain ⟨⟨r1, r2⟩, ⟨o1, o2⟩, ⟨s1, s2⟩, w1, w2⟩ := h
  unfold Conf.val
  go_enter Try.func33, Try.ntmps33
  go_wp2
  go_rounds 5
  go_ret
  exact ⟨by rw [HK.out]; rfl, by repeat (first | exact Fr.refl _ _ | refine Fr.alloc ?_ _)⟩

set_option maxRecDepth 100000 in
set_option maxHeartbeats 40000000 in
theorem high_lk (c : Conf) (w : World) (h : (1 ≤ c.r ∧ c.r ≤ 8) ∧ (1 ≤ c.o ∧ c.o ≤ 8) ∧ (1 ≤ c.s ∧ c.s ≤ 8) ∧ (1 ≤ c.wd ∧ c.wd ≤ 8)) (xth1 : 1 ≤ c.th) (xth2 : c.th ≤ 64) (xsl1 : 0 ≤ c.sl) (xsl2 : c.sl ≤ 48) (xrg1 : 1 ≤ c.rg) (xrg2 : c.rg ≤ 8) (x : 1 ≤ c.lk) (b : 4096 < c.lk) :
    Calls Try.prog 33 #[c.val] w fun e w' => e = .returned (.int .i64 c.chk) ∧ Fr (fun _ => False) w w' := by
  have HK := Lib.hid (show c.chk = 1 from Conf.chk_no (by unfold Conf.Fine; omega))
  obtain ⟨⟨r1, r2⟩, ⟨o1, o2⟩, ⟨s1, s2⟩, w1, w2⟩ := h
  unfold Conf.val
  go_enter Try.func33, Try.ntmps33
  go_wp2
  go_rounds 5
  go_ret
  exact ⟨by rw [HK.out]; rfl, by repeat (first | exact Fr.refl _ _ | refine Fr.alloc ?_ _)⟩

set_option maxRecDepth 100000 in
set_option maxHeartbeats 40000000 in
theorem low_un (c : Conf) (w : World) (h : (1 ≤ c.r ∧ c.r ≤ 8) ∧ (1 ≤ c.o ∧ c.o ≤ 8) ∧ (1 ≤ c.s ∧ c.s ≤ 8) ∧ (1 ≤ c.wd ∧ c.wd ≤ 8)) (xth1 : 1 ≤ c.th) (xth2 : c.th ≤ 64) (xsl1 : 0 ≤ c.sl) (xsl2 : c.sl ≤ 48) (xrg1 : 1 ≤ c.rg) (xrg2 : c.rg ≤ 8) (xlk1 : 1 ≤ c.lk) (xlk2 : c.lk ≤ 4096) (b : c.un < 1) :
    Calls Try.prog 33 #[c.val] w fun e w' => e = .returned (.int .i64 c.chk) ∧ Fr (fun _ => False) w w' := by
  have HK := Lib.hid (show c.chk = 1 from Conf.chk_no (by unfold Conf.Fine; omega))
  obtain ⟨⟨r1, r2⟩, ⟨o1, o2⟩, ⟨s1, s2⟩, w1, w2⟩ := h
  unfold Conf.val
  go_enter Try.func33, Try.ntmps33
  go_wp2
  go_rounds 5
  go_ret
  exact ⟨by rw [HK.out]; rfl, by repeat (first | exact Fr.refl _ _ | refine Fr.alloc ?_ _)⟩

set_option maxRecDepth 100000 in
set_option maxHeartbeats 40000000 in
theorem high_un (c : Conf) (w : World) (h : (1 ≤ c.r ∧ c.r ≤ 8) ∧ (1 ≤ c.o ∧ c.o ≤ 8) ∧ (1 ≤ c.s ∧ c.s ≤ 8) ∧ (1 ≤ c.wd ∧ c.wd ≤ 8)) (xth1 : 1 ≤ c.th) (xth2 : c.th ≤ 64) (xsl1 : 0 ≤ c.sl) (xsl2 : c.sl ≤ 48) (xrg1 : 1 ≤ c.rg) (xrg2 : c.rg ≤ 8) (xlk1 : 1 ≤ c.lk) (xlk2 : c.lk ≤ 4096) (x : 1 ≤ c.un) (b : 1000 < c.un) :
    Calls Try.prog 33 #[c.val] w fun e w' => e = .returned (.int .i64 c.chk) ∧ Fr (fun _ => False) w w' := by
  have HK := Lib.hid (show c.chk = 1 from Conf.chk_no (by unfold Conf.Fine; omega))
  obtain ⟨⟨r1, r2⟩, ⟨o1, o2⟩, ⟨s1, s2⟩, w1, w2⟩ := h
  unfold Conf.val
  go_enter Try.func33, Try.ntmps33
  go_wp2
  go_rounds 5
  go_ret
  exact ⟨by rw [HK.out]; rfl, by repeat (first | exact Fr.refl _ _ | refine Fr.alloc ?_ _)⟩

set_option maxRecDepth 100000 in
set_option maxHeartbeats 40000000 in
theorem low_es (c : Conf) (w : World) (h : (1 ≤ c.r ∧ c.r ≤ 8) ∧ (1 ≤ c.o ∧ c.o ≤ 8) ∧ (1 ≤ c.s ∧ c.s ≤ 8) ∧ (1 ≤ c.wd ∧ c.wd ≤ 8)) (xth1 : 1 ≤ c.th) (xth2 : c.th ≤ 64) (xsl1 : 0 ≤ c.sl) (xsl2 : c.sl ≤ 48) (xrg1 : 1 ≤ c.rg) (xrg2 : c.rg ≤ 8) (xlk1 : 1 ≤ c.lk) (xlk2 : c.lk ≤ 4096) (xun1 : 1 ≤ c.un) (xun2 : c.un ≤ 1000) (b : c.es < 0) :
    Calls Try.prog 33 #[c.val] w fun e w' => e = .returned (.int .i64 c.chk) ∧ Fr (fun _ => False) w w' := by
  have HK := Lib.hid (show c.chk = 1 from Conf.chk_no (by unfold Conf.Fine; omega))
  obtain ⟨⟨r1, r2⟩, ⟨o1, o2⟩, ⟨s1, s2⟩, w1, w2⟩ := h
  unfold Conf.val
  go_enter Try.func33, Try.ntmps33
  go_wp2
  go_rounds 5
  go_ret
  exact ⟨by rw [HK.out]; rfl, by repeat (first | exact Fr.refl _ _ | refine Fr.alloc ?_ _)⟩

set_option maxRecDepth 100000 in
set_option maxHeartbeats 40000000 in
theorem high_es (c : Conf) (w : World) (h : (1 ≤ c.r ∧ c.r ≤ 8) ∧ (1 ≤ c.o ∧ c.o ≤ 8) ∧ (1 ≤ c.s ∧ c.s ≤ 8) ∧ (1 ≤ c.wd ∧ c.wd ≤ 8)) (xth1 : 1 ≤ c.th) (xth2 : c.th ≤ 64) (xsl1 : 0 ≤ c.sl) (xsl2 : c.sl ≤ 48) (xrg1 : 1 ≤ c.rg) (xrg2 : c.rg ≤ 8) (xlk1 : 1 ≤ c.lk) (xlk2 : c.lk ≤ 4096) (xun1 : 1 ≤ c.un) (xun2 : c.un ≤ 1000) (x : 0 ≤ c.es) (b : 64 < c.es) :
    Calls Try.prog 33 #[c.val] w fun e w' => e = .returned (.int .i64 c.chk) ∧ Fr (fun _ => False) w w' := by
  have HK := Lib.hid (show c.chk = 1 from Conf.chk_no (by unfold Conf.Fine; omega))
  obtain ⟨⟨r1, r2⟩, ⟨o1, o2⟩, ⟨s1, s2⟩, w1, w2⟩ := h
  unfold Conf.val
  go_enter Try.func33, Try.ntmps33
  go_wp2
  go_rounds 5
  go_ret
  exact ⟨by rw [HK.out]; rfl, by repeat (first | exact Fr.refl _ _ | refine Fr.alloc ?_ _)⟩

end Go.Proofs.Ytkaokhpaabfhmaa.RefCheck
