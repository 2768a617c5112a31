/- ltkref1.Check, part C: what it answers where a given test is the first that fails. -/
import Derived.Test.YtkaokhpaabfhmaaShape0
namespace Go.Proofs.Ytkaokhpaabfhmaa.RefCheck
open Go.RowKit

set_option maxRecDepth 100000 in
set_option maxHeartbeats 40000000 in
theorem low_tk (c : Conf) (w : World) (h : (1 ≤ c.r ∧ c.r ≤ 8) ∧ (1 ≤ c.o ∧ c.o ≤ 8) ∧ (1 ≤ c.s ∧ c.s ≤ 8) ∧ (1 ≤ c.wd ∧ c.wd ≤ 8)) (xth1 : 1 ≤ c.th) (xth2 : c.th ≤ 64) (xsl1 : 0 ≤ c.sl) (xsl2 : c.sl ≤ 48) (xrg1 : 1 ≤ c.rg) (xrg2 : c.rg ≤ 8) (xlk1 : 1 ≤ c.lk) (xlk2 : c.lk ≤ 4096) (xun1 : 1 ≤ c.un) (xun2 : c.un ≤ 1000) (xes1 : 0 ≤ c.es) (xes2 : c.es ≤ 64) (b : c.tk < 1) :
    Calls Try.prog 33 #[c.val] w fun e w' => e = .returned (.int .i64 c.chk) ∧ Fr (fun _ => False) w w' := by
  have HK := Lib.hid (show c.chk = 1 from Conf.chk_no (by unfold Conf.Fine; omega))
  obtain ⟨⟨r1, r2⟩, ⟨o1, o2⟩, ⟨s1, s2⟩, w1, w2⟩ := h
  unfold Conf.val
  go_enter Try.func33, Try.ntmps33
  go_wp2
  go_rounds 5
  go_ret
  exact ⟨by rw [HK.out]; rfl, by repeat (first | exact Fr.refl _ _ | refine Fr.alloc ?_ _)⟩

set_option maxRecDepth 100000 in
set_option maxHeartbeats 40000000 in
theorem high_tk (c : Conf) (w : World) (h : (1 ≤ c.r ∧ c.r ≤ 8) ∧ (1 ≤ c.o ∧ c.o ≤ 8) ∧ (1 ≤ c.s ∧ c.s ≤ 8) ∧ (1 ≤ c.wd ∧ c.wd ≤ 8)) (xth1 : 1 ≤ c.th) (xth2 : c.th ≤ 64) (xsl1 : 0 ≤ c.sl) (xsl2 : c.sl ≤ 48) (xrg1 : 1 ≤ c.rg) (xrg2 : c.rg ≤ 8) (xlk1 : 1 ≤ c.lk) (xlk2 : c.lk ≤ 4096) (xun1 : 1 ≤ c.un) (xun2 : c.un ≤ 1000) (xes1 : 0 ≤ c.es) (xes2 : c.es ≤ 64) (x : 1 ≤ c.tk) (b : 10000 < c.tk) :
    Calls Try.prog 33 #[c.val] w fun e w' => e = .returned (.int .i64 c.chk) ∧ Fr (fun _ => False) w w' := by
  have HK := Lib.hid (show c.chk = 1 from Conf.chk_no (by unfold Conf.Fine; omega))
  obtain ⟨⟨r1, r2⟩, ⟨o1, o2⟩, ⟨s1, s2⟩, w1, w2⟩ := h
  unfold Conf.val
  go_enter Try.func33, Try.ntmps33
  go_wp2
  go_rounds 5
  go_ret
  exact ⟨by rw [HK.out]; rfl, by repeat (first | exact Fr.refl _ _ | refine Fr.alloc ?_ _)⟩

set_option maxRecDepth 100000 in
set_option maxHeartbeats 40000000 in
theorem low_po (c : Conf) (w : World) (h : (1 ≤ c.r ∧ c.r ≤ 8) ∧ (1 ≤ c.o ∧ c.o ≤ 8) ∧ (1 ≤ c.s ∧ c.s ≤ 8) ∧ (1 ≤ c.wd ∧ c.wd ≤ 8)) (xth1 : 1 ≤ c.th) (xth2 : c.th ≤ 64) (xsl1 : 0 ≤ c.sl) (xsl2 : c.sl ≤ 48) (xrg1 : 1 ≤ c.rg) (xrg2 : c.rg ≤ 8) (xlk1 : 1 ≤ c.lk) (xlk2 : c.lk ≤ 4096) (xun1 : 1 ≤ c.un) (xun2 : c.un ≤ 1000) (xes1 : 0 ≤ c.es) (xes2 : c.es ≤ 64) (xtk1 : 1 ≤ c.tk) (xtk2 : c.tk ≤ 10000) (b : c.po < 0) :
    Calls Try.prog 33 #[c.val] w fun e w' => e = .returned (.int .i64 c.chk) ∧ Fr (fun _ => False) w w' := by
  have HK := Lib.hid (show c.chk = 1 from Conf.chk_no (by unfold Conf.Fine; omega))
  obtain ⟨⟨r1, r2⟩, ⟨o1, o2⟩, ⟨s1, s2⟩, w1, w2⟩ := h
  unfold Conf.val
  go_enter Try.func33, Try.ntmps33
  go_wp2
  go_rounds 5
  go_ret
  exact ⟨by rw [HK.out]; rfl, by repeat (first | exact Fr.refl _ _ | refine Fr.alloc ?_ _)⟩

set_option maxRecDepth 100000 in
set_option maxHeartbeats 40000000 in
theorem high_po (c : Conf) (w : World) (h : (1 ≤ c.r ∧ c.r ≤ 8) ∧ (1 ≤ c.o ∧ c.o ≤ 8) ∧ (1 ≤ c.s ∧ c.s ≤ 8) ∧ (1 ≤ c.wd ∧ c.wd ≤ 8)) (xth1 : 1 ≤ c.th) (xth2 : c.th ≤ 64) (xsl1 : 0 ≤ c.sl) (xsl2 : c.sl ≤ 48) (xrg1 : 1 ≤ c.rg) (xrg2 : c.rg ≤ 8) (xlk1 : 1 ≤ c.lk) (xlk2 : c.lk ≤ 4096) (xun1 : 1 ≤ c.un) (xun2 : c.un ≤ 1000) (xes1 : 0 ≤ c.es) (xes2 : c.es ≤ 64) (xtk1 : 1 ≤ c.tk) (xtk2 : c.tk ≤ 10000) (x : 0 ≤ c.po) (b : 2 < c.po) :
    Calls Try.prog 33 #[c.val] w fun e w' => e = .returned (.int .i64 c.chk) ∧ Fr (fun _ => False) w w' := by
  have HK := Lib.hid (show c.chk = 1 from Conf.chk_no (by unfold Conf.Fine; omega))
  obtain ⟨⟨r1, r2⟩, ⟨o1, o2⟩, ⟨s1, s2⟩, w1, w2⟩ := h
  unfold Conf.val
  go_enter Try.func33, Try.ntmps33
  go_wp2
  go_rounds 5
  go_ret
  exact ⟨by rw [HK.out]; rfl, by repeat (first | exact Fr.refl _ _ | refine Fr.alloc ?_ _)⟩

set_option maxRecDepth 100000 in
set_option maxHeartbeats 40000000 in
theorem fine (c : Conf) (w : World) (h : (1 ≤ c.r ∧ c.r ≤ 8) ∧ (1 ≤ c.o ∧ c.o ≤ 8) ∧ (1 ≤ c.s ∧ c.s ≤ 8) ∧ (1 ≤ c.wd ∧ c.wd ≤ 8)) (xth1 : 1 ≤ c.th) (xth2 : c.th ≤ 64) (xsl1 : 0 ≤ c.sl) (xsl2 : c.sl ≤ 48) (xrg1 : 1 ≤ c.rg) (xrg2 : c.rg ≤ 8) (xlk1 : 1 ≤ c.lk) (xlk2 : c.lk ≤ 4096) (xun1 : 1 ≤ c.un) (xun2 : c.un ≤ 1000) (xes1 : 0 ≤ c.es) (xes2 : c.es ≤ 64) (xtk1 : 1 ≤ c.tk) (xtk2 : c.tk ≤ 10000) (xpo1 : 0 ≤ c.po) (xpo2 : c.po ≤ 2) :
    Calls Try.prog 33 #[c.val] w fun e w' => e = .returned (.int .i64 c.chk) ∧ Fr (fun _ => False) w w' := by
  have HK := Lib.hid (show c.chk = 0 from Conf.chk_yes (by unfold Conf.Fine; omega))
  obtain ⟨⟨r1, r2⟩, ⟨o1, o2⟩, ⟨s1, s2⟩, w1, w2⟩ := h
  unfold Conf.val
  go_enter Try.func33, Try.ntmps33
  go_wp2
  go_rounds 5
  go_ret
  exact ⟨by rw [HK.out]; rfl, by repeat (first | exact Fr.refl _ _ | refine Fr.alloc ?_ _)⟩

end Go.Proofs.Ytkaokhpaabfhmaa.RefCheck
