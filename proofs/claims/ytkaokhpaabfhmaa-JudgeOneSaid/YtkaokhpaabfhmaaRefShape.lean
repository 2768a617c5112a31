/- The contracts of the document's answer to chapter 3 (ltkref1: Check, Words, ..). -/
import Derived.Test.YtkaokhpaabfhmaaShape
import Derived.Test.YtkaokhpaabfhmaaRefCheck
import Derived.Deep.RegionHeld3
namespace Go.Proofs.Ytkaokhpaabfhmaa
open Go.RowKit

theorem iw (n : Int) : IntKind.i64.wrap n = wrap64 n := by rw [IntKind.wrap_i64, wrap64]
theorem ret_i64 {a b : Int} (h : a = b) : Ending.returned (.int .i64 a) = Ending.returned (.int .i64 b) := by rw [h]
theorem Conf.O_eq {c : Conf} (h : c.Fine) : c.O = c.r * c.o := if_pos h
theorem Conf.R_eq {c : Conf} (h : c.Fine) : c.R = c.r := if_pos h
theorem Conf.S_eq {c : Conf} (h : c.Fine) : c.S = c.O * c.s := by rw [Conf.O_eq h]; exact if_pos h
theorem Conf.O_wrap {c : Conf} (h : c.Fine) : wrap64 (c.r * c.o) = c.O := by have := c.bounds; rw [← Conf.O_eq h]; unfold wrap64; omega
theorem Conf.S_wrap {c : Conf} (h : c.Fine) : wrap64 (c.O * c.s) = c.S := by have := c.bounds; rw [← Conf.S_eq h]; unfold wrap64; omega

theorem ref_objects_calls (c : Conf) (h : c.Fine) (w : World) : Calls Try.prog 53 #[c.val] w fun e w' => e = .returned (.int .i64 c.O) ∧ Fr (fun _ => False) w w' := by
  have HO := Lib.hid (Conf.O_wrap h)
  unfold Conf.val
  go_enter Try.func53, Try.ntmps53
  go_wp2
  go_ret
  exact ⟨ret_i64 HO.out, (Fr.refl _ _).alloc _⟩

set_option maxRecDepth 100000 in
theorem ref_stripes_calls (c : Conf) (h : c.Fine) (w : World) : Calls Try.prog 36 #[c.val] w fun e w' => e = .returned (.int .i64 c.S) ∧ Fr (fun _ => False) w w' := by
  have HO := Lib.hid (ref_objects_calls c h)
  have HS := Lib.hid (Conf.S_wrap h)
  have hB0 := BoxConf.mk w c
  unfold Conf.val at *
  go_enter Try.func36, Try.ntmps36
  go_wp2
  go_region_held3 (fun w' => w'.cell? ⟨w.heap.size, 0, none⟩ = some (.int .i64 c.r) ∧ w'.cell? ⟨w.heap.size, 1, none⟩ = some (.int .i64 c.o) ∧ w'.cell? ⟨w.heap.size, 2, none⟩ = some (.int .i64 c.s) ∧ w'.cell? ⟨w.heap.size, 3, none⟩ = some (.int .i64 c.wd) ∧ w'.cell? ⟨w.heap.size, 4, none⟩ = some (.int .i64 c.th) ∧ w'.cell? ⟨w.heap.size, 5, none⟩ = some (.int .i64 c.sl) ∧ w'.cell? ⟨w.heap.size, 6, none⟩ = some (.int .i64 c.rg) ∧ w'.cell? ⟨w.heap.size, 7, none⟩ = some (.int .i64 c.lk) ∧ w'.cell? ⟨w.heap.size, 8, none⟩ = some (.int .i64 c.un) ∧ w'.cell? ⟨w.heap.size, 9, none⟩ = some (.int .i64 c.es) ∧ w'.cell? ⟨w.heap.size, 10, none⟩ = some (.int .i64 c.tk) ∧ w'.cell? ⟨w.heap.size, 11, none⟩ = some (.int .i64 c.po))
    (first | exact BoxConf.all hB3 | exact BoxConf.all hB2 | exact BoxConf.all hB1 | exact BoxConf.all hB0 | go_keep)
    (first | (go_at_call 53; refine (HO.out _).mono ?_; rintro e w1 ⟨rfl, hf1⟩; have hB1 : BoxConf w1 w.heap.size c := BoxConf.frame (w := (w.alloc _).drew) hB0 hf1 (fun x => x)))
  go_wp2
  go_ret
  exact ⟨ret_i64 ((iw _).trans HS.out), (((Fr.refl _ _).alloc _).drew).trans hf1⟩

set_option maxRecDepth 100000 in
theorem ref_words_calls (c : Conf) (w : World) : Calls Try.prog 19 #[c.val] w fun e w' => e = .returned (.int .i64 c.words) ∧ Fr (fun _ => False) w w' := by
  have HC := Lib.hid (ref_check_calls c)
  have hB0 := BoxConf.mk w c
  by_cases h : c.Fine
  · have hk := Conf.chk_yes h
    have HS := Lib.hid (ref_stripes_calls c h)
    have HW := Lib.hid c.words_wrap
    unfold Conf.val at *
    go_enter Try.func19, Try.ntmps19
    go_wp2_with (go_at_call 33; refine (HC.out _).mono ?_; rintro e w1 ⟨rfl, hf1⟩; have hB1 : BoxConf w1 w.heap.size c := BoxConf.frame hB0 hf1 (fun x => x))
    go_region_held3 (fun w' => w'.cell? ⟨w.heap.size, 0, none⟩ = some (.int .i64 c.r) ∧ w'.cell? ⟨w.heap.size, 1, none⟩ = some (.int .i64 c.o) ∧ w'.cell? ⟨w.heap.size, 2, none⟩ = some (.int .i64 c.s) ∧ w'.cell? ⟨w.heap.size, 3, none⟩ = some (.int .i64 c.wd) ∧ w'.cell? ⟨w.heap.size, 4, none⟩ = some (.int .i64 c.th) ∧ w'.cell? ⟨w.heap.size, 5, none⟩ = some (.int .i64 c.sl) ∧ w'.cell? ⟨w.heap.size, 6, none⟩ = some (.int .i64 c.rg) ∧ w'.cell? ⟨w.heap.size, 7, none⟩ = some (.int .i64 c.lk) ∧ w'.cell? ⟨w.heap.size, 8, none⟩ = some (.int .i64 c.un) ∧ w'.cell? ⟨w.heap.size, 9, none⟩ = some (.int .i64 c.es) ∧ w'.cell? ⟨w.heap.size, 10, none⟩ = some (.int .i64 c.tk) ∧ w'.cell? ⟨w.heap.size, 11, none⟩ = some (.int .i64 c.po))
      (first | exact BoxConf.all hB3 | exact BoxConf.all hB2 | exact BoxConf.all hB1 | exact BoxConf.all hB0 | go_keep)
      (first | (go_at_call 36; refine (HS.out _).mono ?_; rintro e w2 ⟨rfl, hf2⟩; have hB2 : BoxConf w2 w.heap.size c := BoxConf.frame (w := w1.drew) hB1 hf2 (fun x => x)))
    go_wp2
    go_ret
    exact ⟨ret_i64 ((iw _).trans HW.out), ((((Fr.refl _ _).alloc _).trans hf1).drew).trans hf2⟩
  · have hk := Conf.chk_no h
    have HW := Lib.hid (show c.words = 0 from by unfold Conf.words Conf.S; rw [if_neg h]; omega)
    unfold Conf.val at *
    go_enter Try.func19, Try.ntmps19
    go_wp2_with (go_at_call 33; refine (HC.out _).mono ?_; rintro e w1 ⟨rfl, hf1⟩; have hB1 : BoxConf w1 w.heap.size c := BoxConf.frame hB0 hf1 (fun x => x))
    go_ret
    exact ⟨ret_i64 HW.out.symm, ((Fr.refl _ _).alloc _).trans hf1⟩

end Go.Proofs.Ytkaokhpaabfhmaa
