/- The contracts of the document's answer to chapter 3, the rest (ltkref1: Size, Path, Level, Parent, Latch). -/
import Derived.Test.YtbfhkhklhghigaaRefShape
namespace Go.Proofs.Ytbfhkhklhghigaa
open Go.RowKit

set_option maxRecDepth 100000 in
theorem ref_size_calls (c : Conf) (w : World) : Calls Try.prog 21 #[c.val] w fun e w' => e = .returned (.int .i64 c.cells) ∧ Fr (fun _ => False) w w' := by
  have HC := Lib.hid (ref_check_calls c)
  have hB0 := BoxConf.mk w c
  by_cases h : c.Fine
  · have hk := Conf.chk_yes h
    have HS := Lib.hid (ref_stripes_calls c h)
    have HW := Lib.hid (ref_words_calls c)
    have HX := Lib.hid (show wrap64 (c.words + wrap64 (8 * c.S)) = c.cells from by have h1 := c.cells_bounds; have h2 := c.bounds; unfold Conf.cells at *; unfold Conf.words; unfold wrap64; omega)
    unfold Conf.val at *
    go_enter Try.func21, Try.ntmps21
    go_wp2_with (go_at_call 16; (with_reducible refine (HC.out _).mono ?_); rintro e w1 ⟨rfl, hf1⟩; have hB1 : BoxConf w1 w.heap.size c := BoxConf.frame hB0 hf1 (fun x => x))
    go_region_held3 (fun w' => w'.cell? ⟨w.heap.size, 0, none⟩ = some (.int .i64 c.r) ∧ w'.cell? ⟨w.heap.size, 1, none⟩ = some (.int .i64 c.o) ∧ w'.cell? ⟨w.heap.size, 2, none⟩ = some (.int .i64 c.s) ∧ w'.cell? ⟨w.heap.size, 3, none⟩ = some (.int .i64 c.wd) ∧ w'.cell? ⟨w.heap.size, 4, none⟩ = some (.int .i64 c.th) ∧ w'.cell? ⟨w.heap.size, 5, none⟩ = some (.int .i64 c.sl) ∧ w'.cell? ⟨w.heap.size, 6, none⟩ = some (.int .i64 c.rg) ∧ w'.cell? ⟨w.heap.size, 7, none⟩ = some (.int .i64 c.lk) ∧ w'.cell? ⟨w.heap.size, 8, none⟩ = some (.int .i64 c.un) ∧ w'.cell? ⟨w.heap.size, 9, none⟩ = some (.int .i64 c.es) ∧ w'.cell? ⟨w.heap.size, 10, none⟩ = some (.int .i64 c.tk) ∧ w'.cell? ⟨w.heap.size, 11, none⟩ = some (.int .i64 c.po))
      (first | exact BoxConf.all hB3 | exact BoxConf.all hB2 | exact BoxConf.all hB1 | exact BoxConf.all hB0 | go_keep)
      (first | (go_at_call 19; (with_reducible refine (HW.out _).mono ?_); rintro e w2 ⟨rfl, hf2⟩; have hB2 : BoxConf w2 w.heap.size c := BoxConf.frame (w := w1.drew) hB1 hf2 (fun x => x)) | (go_at_call 27; (with_reducible refine (HS.out _).mono ?_); rintro e w3 ⟨rfl, hf3⟩; have hB3 : BoxConf w3 w.heap.size c := BoxConf.frame hB2 hf3 (fun x => x)))
    go_wp2
    go_ret
    exact ⟨ret_i64 (by rw [iw, iw]; exact HX.out), (((((Fr.refl _ _).alloc _).trans hf1).drew).trans hf2).trans hf3⟩
  · have hk := Conf.chk_no h
    have HW := Lib.hid (show c.cells = 0 from by unfold Conf.cells Conf.S; rw [if_neg h]; omega)
    unfold Conf.val at *
    go_enter Try.func21, Try.ntmps21
    go_wp2_with (go_at_call 16; (with_reducible refine (HC.out _).mono ?_); rintro e w1 ⟨rfl, hf1⟩; have hB1 : BoxConf w1 w.heap.size c := BoxConf.frame hB0 hf1 (fun x => x))
    go_ret
    exact ⟨ret_i64 HW.out.symm, ((Fr.refl _ _).alloc _).trans hf1⟩

set_option maxRecDepth 100000 in
theorem ref_path_calls (c : Conf) (a : Int) (w : World) : Calls Try.prog 18 #[c.val, .int .i64 a] w fun e w' =>
    e = .returned (.tuple #[.int .i64 (c.regionOf a), .int .i64 (c.objectOf a), .int .i64 (c.stripeOf a), .int .i64 (c.pathErr a)]) ∧ Fr (fun _ => False) w w' := by
  have HW := Lib.hid (ref_words_calls c)
  have hB0 := BoxConf.mk w c
  have hw := c.words_bounds
  have hbd := c.bounds
  by_cases hh : c.has a = true
  · obtain ⟨h7, h8⟩ := (c.has_iff a).1 hh
    have hfine := Conf.fine_of_has hh
    have HO := Lib.hid (ref_objects_calls c hfine)
    rw [Conf.R_eq hfine] at hbd
    obtain ⟨⟨h1, h2⟩, ⟨h3, h4⟩, -⟩ := hbd
    have HR := Lib.hid (show c.regionOf a = _ from if_pos hh)
    have HQ := Lib.hid (show c.objectOf a = c.r + a / c.wd / c.s from by rw [← Conf.R_eq hfine]; exact if_pos hh)
    have HS := Lib.hid (show c.stripeOf a = c.r + c.O + a / c.wd from by rw [← Conf.R_eq hfine]; exact if_pos hh)
    have HE := Lib.hid (show c.pathErr a = _ from if_pos hh)
    obtain ⟨⟨-, ⟨o1, o2⟩, ⟨s1, s2⟩, ⟨w1, w2⟩⟩, -⟩ := hfine
    have d0 : 0 ≤ a / c.wd := Int.ediv_nonneg (by omega) (by omega)
    have d1 : a / c.wd ≤ a := Int.ediv_le_self _ (by omega)
    have d2 : 0 ≤ a / c.wd / c.s := Int.ediv_nonneg (by omega) (by omega)
    have d3 : a / c.wd / c.s ≤ a / c.wd := Int.ediv_le_self _ (by omega)
    have d4 : 0 ≤ a / c.wd / c.s / c.o := Int.ediv_nonneg (by omega) (by omega)
    have d5 : a / c.wd / c.s / c.o ≤ a / c.wd / c.s := Int.ediv_le_self _ (by omega)
    have HT := Lib.hid (show wrap64 ((a / c.wd / c.s).tdiv c.o) = a / c.wd / c.s / c.o from by rw [Int.tdiv_eq_ediv_of_nonneg d2]; unfold wrap64; omega)
    have HU := Lib.hid (show wrap64 (c.r + a / c.wd / c.s) = c.r + a / c.wd / c.s from by unfold wrap64; omega)
    have HV := Lib.hid (show wrap64 (wrap64 (c.r + c.O) + a / c.wd) = c.r + c.O + a / c.wd from by unfold wrap64; omega)
    have ho0 : ¬ c.o = 0 := by omega
    have ho1 : (c.o == 0) = false := by simpa using ho0
    clear hh
    unfold Conf.val at *
    go_enter Try.func18, Try.ntmps18
    go_upto_region 5 with (go_at_call 19; (with_reducible refine (HW.out _).mono ?_); rintro e w1 ⟨rfl, hf1⟩; have hB1 : BoxConf w1 w.heap.size c := BoxConf.frame hB0 hf1 (fun x => x); obtain ⟨⟨c0, c1, c2, c3⟩, ⟨c4, c5, c6, c7⟩, c8, c9, c10, c11⟩ := hB1.cell)
    go_region_held3 (fun w' => w'.cell? ⟨w.heap.size, 0, none⟩ = some (.int .i64 c.r) ∧ w'.cell? ⟨w.heap.size, 1, none⟩ = some (.int .i64 c.o) ∧ w'.cell? ⟨w.heap.size, 2, none⟩ = some (.int .i64 c.s) ∧ w'.cell? ⟨w.heap.size, 3, none⟩ = some (.int .i64 c.wd) ∧ w'.cell? ⟨w.heap.size, 4, none⟩ = some (.int .i64 c.th) ∧ w'.cell? ⟨w.heap.size, 5, none⟩ = some (.int .i64 c.sl) ∧ w'.cell? ⟨w.heap.size, 6, none⟩ = some (.int .i64 c.rg) ∧ w'.cell? ⟨w.heap.size, 7, none⟩ = some (.int .i64 c.lk) ∧ w'.cell? ⟨w.heap.size, 8, none⟩ = some (.int .i64 c.un) ∧ w'.cell? ⟨w.heap.size, 9, none⟩ = some (.int .i64 c.es) ∧ w'.cell? ⟨w.heap.size, 10, none⟩ = some (.int .i64 c.tk) ∧ w'.cell? ⟨w.heap.size, 11, none⟩ = some (.int .i64 c.po))
      (first | exact BoxConf.all hB3 | exact BoxConf.all hB2 | exact BoxConf.all hB1 | exact BoxConf.all hB0 | go_keep)
      (first | (go_at_call 26; (with_reducible refine (HO.out _).mono ?_); rintro e w2 ⟨rfl, hf2⟩; have hB2 : BoxConf w2 w.heap.size c := BoxConf.frame (w := w1.drew) hB1 hf2 (fun x => x)))
    go_wp2
    refine bodyPost_ret (v := .tuple #[.int .i64 (IntKind.i64.wrap ((a / c.wd / c.s).tdiv c.o)), .int .i64 (IntKind.i64.wrap (c.r + a / c.wd / c.s)), .int .i64 (IntKind.i64.wrap (IntKind.i64.wrap (c.r + c.O) + a / c.wd)), .int .i64 0]) (by simp [results, Try.results18, go_sem]) rfl ⟨by rw [iw, iw, iw, iw, HT.out, HU.out, HV.out, HR.out, HQ.out, HS.out, HE.out], ((((Fr.refl _ _).alloc _).trans hf1).drew).trans hf2⟩
  · have hno : a < 0 ∨ c.words ≤ a := by have := mt (c.has_iff a).2 hh; omega
    have HR := Lib.hid (show c.regionOf a = _ from if_neg hh)
    have HO := Lib.hid (show c.objectOf a = _ from if_neg hh)
    have HS := Lib.hid (show c.stripeOf a = _ from if_neg hh)
    have HE := Lib.hid (show c.pathErr a = _ from if_neg hh)
    clear hh
    unfold Conf.val at *
    rcases hno with hno | hno
    all_goals
      go_enter Try.func18, Try.ntmps18
      go_wp2_with (first
        | (go_at_call 19; refine (HW.out _).mono ?_; rintro e w1 ⟨rfl, hf1⟩))
      all_goals refine bodyPost_ret (v := .tuple #[.int .i64 0, .int .i64 0, .int .i64 0, .int .i64 1]) (by simp [results, Try.results18, go_sem]) rfl ⟨by rw [HR.out, HO.out, HS.out, HE.out], by first | exact ((Fr.refl _ _).alloc _).trans (by assumption) | exact (Fr.refl _ _).alloc _⟩

set_option maxRecDepth 100000 in
theorem ref_level_calls (c : Conf) (n : Int) (w : World) : Calls Try.prog 22 #[c.val, .int .i64 n] w fun e w' => e = .returned (.int .i64 (c.level n)) ∧ Fr (fun _ => False) w w' := by
  have HN := Lib.hid (ref_nodes_calls c)
  have hB0 := BoxConf.mk w c
  have HL : Hid (c.level n = if n < 0 ∨ c.nodes ≤ n then -1 else if n < c.R then 0 else if n < c.R + c.O then 1 else 2) := rfl
  by_cases hn : n < 0 ∨ c.nodes ≤ n
  · have HX := Lib.hid (show c.level n = -1 from by rw [HL.out, if_pos hn])
    unfold Conf.val at *
    rcases hn with hn | hn
    all_goals
      go_enter Try.func22, Try.ntmps22
      go_wp2_with (go_at_call 20; (with_reducible refine (HN.out _).mono ?_); rintro e w1 ⟨rfl, hf1⟩; have hB1 : BoxConf w1 w.heap.size c := BoxConf.frame hB0 hf1 (fun x => x); obtain ⟨⟨c0, c1, c2, c3⟩, ⟨c4, c5, c6, c7⟩, c8, c9, c10, c11⟩ := hB1.cell)
      all_goals go_ret
      all_goals exact ⟨ret_i64 HX.out.symm, by first | exact ((Fr.refl _ _).alloc _).trans (by assumption) | exact (Fr.refl _ _).alloc _⟩
  · have hn0 : 0 ≤ n := by omega
    have hn1 : n < c.nodes := by omega
    have hfine : c.Fine := by
      by_cases hf : c.Fine
      · exact hf
      · exfalso; unfold Conf.nodes Conf.R Conf.O Conf.S at hn1; rw [if_neg hf, if_neg hf, if_neg hf] at hn1; omega
    have hbd := c.bounds
    have HO := Lib.hid (ref_objects_calls c hfine)
    have HA := Lib.hid (show c.level n = if n < c.r then 0 else if n < c.r + c.O then 1 else 2 from by rw [HL.out, if_neg hn, Conf.R_eq hfine])
    rw [Conf.R_eq hfine] at hbd
    obtain ⟨⟨h1, h2⟩, ⟨h3, h4⟩, -⟩ := hbd
    have HW := Lib.hid (show wrap64 (c.r + c.O) = c.r + c.O from by unfold wrap64; omega)
    clear hn hfine
    unfold Conf.val at *
    by_cases hr : n < c.r
    · have HX := Lib.hid (show c.level n = 0 from by rw [HA.out, if_pos hr])
      go_enter Try.func22, Try.ntmps22
      go_wp2_with (go_at_call 20; (with_reducible refine (HN.out _).mono ?_); rintro e w1 ⟨rfl, hf1⟩; have hB1 : BoxConf w1 w.heap.size c := BoxConf.frame hB0 hf1 (fun x => x); obtain ⟨⟨c0, c1, c2, c3⟩, ⟨c4, c5, c6, c7⟩, c8, c9, c10, c11⟩ := hB1.cell)
      go_ret
      exact ⟨ret_i64 HX.out.symm, ((Fr.refl _ _).alloc _).trans hf1⟩
    · have HX := Lib.hid (show c.level n = if n < c.r + c.O then 1 else 2 from by rw [HA.out, if_neg hr])
      go_enter Try.func22, Try.ntmps22
      go_upto_region 5 with (go_at_call 20; (with_reducible refine (HN.out _).mono ?_); rintro e w1 ⟨rfl, hf1⟩; have hB1 : BoxConf w1 w.heap.size c := BoxConf.frame hB0 hf1 (fun x => x); obtain ⟨⟨c0, c1, c2, c3⟩, ⟨c4, c5, c6, c7⟩, c8, c9, c10, c11⟩ := hB1.cell)
      go_region_held3 (fun w' => w'.cell? ⟨w.heap.size, 0, none⟩ = some (.int .i64 c.r) ∧ w'.cell? ⟨w.heap.size, 1, none⟩ = some (.int .i64 c.o) ∧ w'.cell? ⟨w.heap.size, 2, none⟩ = some (.int .i64 c.s) ∧ w'.cell? ⟨w.heap.size, 3, none⟩ = some (.int .i64 c.wd) ∧ w'.cell? ⟨w.heap.size, 4, none⟩ = some (.int .i64 c.th) ∧ w'.cell? ⟨w.heap.size, 5, none⟩ = some (.int .i64 c.sl) ∧ w'.cell? ⟨w.heap.size, 6, none⟩ = some (.int .i64 c.rg) ∧ w'.cell? ⟨w.heap.size, 7, none⟩ = some (.int .i64 c.lk) ∧ w'.cell? ⟨w.heap.size, 8, none⟩ = some (.int .i64 c.un) ∧ w'.cell? ⟨w.heap.size, 9, none⟩ = some (.int .i64 c.es) ∧ w'.cell? ⟨w.heap.size, 10, none⟩ = some (.int .i64 c.tk) ∧ w'.cell? ⟨w.heap.size, 11, none⟩ = some (.int .i64 c.po))
        (first | exact BoxConf.all hB3 | exact BoxConf.all hB2 | exact BoxConf.all hB1 | exact BoxConf.all hB0 | go_keep)
        (first | (go_at_call 26; (with_reducible refine (HO.out _).mono ?_); rintro e w2 ⟨rfl, hf2⟩; have hB2 : BoxConf w2 w.heap.size c := BoxConf.frame (w := w1.drew) hB1 hf2 (fun x => x)))
      rw [iw, HW.out]
      by_cases hq : n < c.r + c.O
      all_goals
        go_wp2
        go_ret
        exact ⟨ret_i64 (by rw [HX.out]; first | rw [if_pos (by omega)] | rw [if_neg (by omega)]), ((((Fr.refl _ _).alloc _).trans hf1).drew).trans hf2⟩

set_option maxRecDepth 100000 in
theorem ref_latch_calls (c : Conf) (n : Int) (w : World) : Calls Try.prog 24 #[c.val, .int .i64 n] w fun e w' => e = .returned (.int .i64 (c.latch n)) ∧ Fr (fun _ => False) w w' := by
  have HV := Lib.hid (ref_level_calls c n)
  have HW := Lib.hid (ref_words_calls c)
  have hB0 := BoxConf.mk w c
  have hbd := c.bounds
  have hw := c.words_bounds
  by_cases hl : c.level n = 2
  · obtain ⟨h7, h8⟩ := Conf.level_two hl
    unfold Conf.nodes at h8
    have hfine := Conf.fine_of_level (c := c) (n := n) (by omega)
    have HO := Lib.hid (ref_objects_calls c hfine)
    have HL := Lib.hid (show c.latch n = c.words + (n - c.r - c.O) * 8 from by rw [← Conf.R_eq hfine]; exact Conf.latch_yes hl)
    rw [Conf.R_eq hfine] at hbd h7 h8
    have HX := Lib.hid (show wrap64 (c.words + wrap64 (8 * wrap64 (wrap64 (n - c.r) - c.O))) = c.words + (n - c.r - c.O) * 8 from by unfold wrap64; omega)
    clear hfine hbd hw h7 h8
    unfold Conf.val at *
    go_enter Try.func24, Try.ntmps24
    go_upto_region 3 with (go_at_call 22; (with_reducible refine (HV.out _).mono ?_); rintro e w1 ⟨rfl, hf1⟩; have hB1 : BoxConf w1 w.heap.size c := BoxConf.frame hB0 hf1 (fun x => x); obtain ⟨⟨c0, c1, c2, c3⟩, ⟨c4, c5, c6, c7⟩, c8, c9, c10, c11⟩ := hB1.cell)
    go_region_held3 (fun w' => w'.cell? ⟨w.heap.size, 0, none⟩ = some (.int .i64 c.r) ∧ w'.cell? ⟨w.heap.size, 1, none⟩ = some (.int .i64 c.o) ∧ w'.cell? ⟨w.heap.size, 2, none⟩ = some (.int .i64 c.s) ∧ w'.cell? ⟨w.heap.size, 3, none⟩ = some (.int .i64 c.wd) ∧ w'.cell? ⟨w.heap.size, 4, none⟩ = some (.int .i64 c.th) ∧ w'.cell? ⟨w.heap.size, 5, none⟩ = some (.int .i64 c.sl) ∧ w'.cell? ⟨w.heap.size, 6, none⟩ = some (.int .i64 c.rg) ∧ w'.cell? ⟨w.heap.size, 7, none⟩ = some (.int .i64 c.lk) ∧ w'.cell? ⟨w.heap.size, 8, none⟩ = some (.int .i64 c.un) ∧ w'.cell? ⟨w.heap.size, 9, none⟩ = some (.int .i64 c.es) ∧ w'.cell? ⟨w.heap.size, 10, none⟩ = some (.int .i64 c.tk) ∧ w'.cell? ⟨w.heap.size, 11, none⟩ = some (.int .i64 c.po))
      (first | exact BoxConf.all hB3 | exact BoxConf.all hB2 | exact BoxConf.all hB1 | exact BoxConf.all hB0 | go_keep)
      (first | (go_at_call 19; (with_reducible refine (HW.out _).mono ?_); rintro e w2 ⟨rfl, hf2⟩; have hB2 : BoxConf w2 w.heap.size c := BoxConf.frame (w := w1.drew) hB1 hf2 (fun x => x)) | (go_at_call 26; (with_reducible refine (HO.out _).mono ?_); rintro e w3 ⟨rfl, hf3⟩; have hB3 : BoxConf w3 w.heap.size c := BoxConf.frame hB2 hf3 (fun x => x)))
    go_wp2
    go_ret
    exact ⟨ret_i64 (by rw [HL.out]; simp only [iw]; exact HX.out), (((((Fr.refl _ _).alloc _).trans hf1).drew).trans hf2).trans hf3⟩
  · have HL := Lib.hid (Conf.latch_no hl)
    have hl' : (c.level n != 2) = true := by simpa using hl
    clear hl
    unfold Conf.val at *
    go_enter Try.func24, Try.ntmps24
    go_wp2_with (go_at_call 22; (with_reducible refine (HV.out _).mono ?_); rintro e w1 ⟨rfl, hf1⟩; have hB1 : BoxConf w1 w.heap.size c := BoxConf.frame hB0 hf1 (fun x => x); obtain ⟨⟨c0, c1, c2, c3⟩, ⟨c4, c5, c6, c7⟩, c8, c9, c10, c11⟩ := hB1.cell)
    go_ret
    exact ⟨ret_i64 HL.out.symm, ((Fr.refl _ _).alloc _).trans hf1⟩

set_option maxRecDepth 100000 in
theorem ref_parent_calls (c : Conf) (n : Int) (w : World) : Calls Try.prog 23 #[c.val, .int .i64 n] w fun e w' => e = .returned (.int .i64 (c.parent n)) ∧ Fr (fun _ => False) w w' := by
  have HV := Lib.hid (ref_level_calls c n)
  have hB0 := BoxConf.mk w c
  have hbd := c.bounds
  have HL : Hid (c.parent n = if c.level n = 1 then (n - c.R) / c.o else if c.level n = 2 then c.R + (n - c.R - c.O) / c.s else -1) := rfl
  by_cases hl1 : c.level n = 1
  · obtain ⟨h7, h8⟩ := Conf.level_one hl1
    have hfine := Conf.fine_of_level (c := c) (n := n) (by omega)
    rw [Conf.R_eq hfine] at hbd h7 h8
    obtain ⟨⟨h1, h2⟩, ⟨h3, h4⟩, h5, h6⟩ := hbd
    have HX := Lib.hid (show c.parent n = (n - c.r) / c.o from by rw [HL.out, if_pos hl1, Conf.R_eq hfine])
    obtain ⟨⟨-, ⟨h9, h10⟩, -⟩, -⟩ := hfine
    have hd0 : 0 ≤ (n - c.r) / c.o := Int.ediv_nonneg (by omega) (by omega)
    have hd1 : (n - c.r) / c.o ≤ n - c.r := Int.ediv_le_self _ (by omega)
    unfold Conf.val at *
    go_enter Try.func23, Try.ntmps23
    go_wp2_with (go_at_call 22; (with_reducible refine (HV.out _).mono ?_); rintro e w1 ⟨rfl, hf1⟩; have hB1 : BoxConf w1 w.heap.size c := BoxConf.frame hB0 hf1 (fun x => x); obtain ⟨⟨c0, c1, c2, c3⟩, ⟨c4, c5, c6, c7⟩, c8, c9, c10, c11⟩ := hB1.cell)
    go_ret
    exact ⟨ret_i64 HX.out.symm, ((Fr.refl _ _).alloc _).trans hf1⟩
  · by_cases hl2 : c.level n = 2
    · obtain ⟨h7, h8⟩ := Conf.level_two hl2
      unfold Conf.nodes at h8
      have hfine := Conf.fine_of_level (c := c) (n := n) (by omega)
      have HO := Lib.hid (ref_objects_calls c hfine)
      rw [Conf.R_eq hfine] at hbd h7 h8
      obtain ⟨⟨h1, h2⟩, ⟨h3, h4⟩, h5, h6⟩ := hbd
      have HX := Lib.hid (show c.parent n = c.r + (n - c.r - c.O) / c.s from by rw [HL.out, if_neg hl1, if_pos hl2, Conf.R_eq hfine])
      obtain ⟨⟨-, -, ⟨h9, h10⟩, -⟩, -⟩ := hfine
      have hd0 : 0 ≤ (n - c.r - c.O) / c.s := Int.ediv_nonneg (by omega) (by omega)
      have hd1 : (n - c.r - c.O) / c.s ≤ n - c.r - c.O := Int.ediv_le_self _ (by omega)
      have HY := Lib.hid (show wrap64 (c.r + wrap64 ((wrap64 (wrap64 (n - c.r) - c.O)).tdiv c.s)) = c.r + (n - c.r - c.O) / c.s from by
        rw [show wrap64 (wrap64 (n - c.r) - c.O) = n - c.r - c.O from by unfold wrap64; omega, Int.tdiv_eq_ediv_of_nonneg (by omega)]; unfold wrap64; omega)
      have hs0 : ¬ c.s = 0 := by omega
      have hs1 : (c.s == 0) = false := by simpa using hs0
      clear hl1 hd0 hd1 h7 h8 h1 h2 h3 h4 h5 h6
      unfold Conf.val at *
      go_enter Try.func23, Try.ntmps23
      go_upto_region 5 with (go_at_call 22; (with_reducible refine (HV.out _).mono ?_); rintro e w1 ⟨rfl, hf1⟩; have hB1 : BoxConf w1 w.heap.size c := BoxConf.frame hB0 hf1 (fun x => x); obtain ⟨⟨c0, c1, c2, c3⟩, ⟨c4, c5, c6, c7⟩, c8, c9, c10, c11⟩ := hB1.cell)
      go_region_held3 (fun w' => w'.cell? ⟨w.heap.size, 0, none⟩ = some (.int .i64 c.r) ∧ w'.cell? ⟨w.heap.size, 1, none⟩ = some (.int .i64 c.o) ∧ w'.cell? ⟨w.heap.size, 2, none⟩ = some (.int .i64 c.s) ∧ w'.cell? ⟨w.heap.size, 3, none⟩ = some (.int .i64 c.wd) ∧ w'.cell? ⟨w.heap.size, 4, none⟩ = some (.int .i64 c.th) ∧ w'.cell? ⟨w.heap.size, 5, none⟩ = some (.int .i64 c.sl) ∧ w'.cell? ⟨w.heap.size, 6, none⟩ = some (.int .i64 c.rg) ∧ w'.cell? ⟨w.heap.size, 7, none⟩ = some (.int .i64 c.lk) ∧ w'.cell? ⟨w.heap.size, 8, none⟩ = some (.int .i64 c.un) ∧ w'.cell? ⟨w.heap.size, 9, none⟩ = some (.int .i64 c.es) ∧ w'.cell? ⟨w.heap.size, 10, none⟩ = some (.int .i64 c.tk) ∧ w'.cell? ⟨w.heap.size, 11, none⟩ = some (.int .i64 c.po))
        (first | exact BoxConf.all hB3 | exact BoxConf.all hB2 | exact BoxConf.all hB1 | exact BoxConf.all hB0 | go_keep)
        (first | (go_at_call 26; (with_reducible refine (HO.out _).mono ?_); rintro e w2 ⟨rfl, hf2⟩; have hB2 : BoxConf w2 w.heap.size c := BoxConf.frame (w := w1.drew) hB1 hf2 (fun x => x)))
      go_wp2
      go_ret
      exact ⟨ret_i64 (by rw [HX.out]; simp only [iw]; exact HY.out), ((((Fr.refl _ _).alloc _).trans hf1).drew).trans hf2⟩
    · have e1 : (c.level n == 1) = false := by simpa using hl1
      have e2 : (c.level n == 2) = false := by simpa using hl2
      have HX := Lib.hid (show c.parent n = -1 from by rw [HL.out, if_neg hl1, if_neg hl2])
      clear hl1 hl2 HL
      unfold Conf.val at *
      go_enter Try.func23, Try.ntmps23
      go_wp2_with (go_at_call 22; (with_reducible refine (HV.out _).mono ?_); rintro e w1 ⟨rfl, hf1⟩; have hB1 : BoxConf w1 w.heap.size c := BoxConf.frame hB0 hf1 (fun x => x); obtain ⟨⟨c0, c1, c2, c3⟩, ⟨c4, c5, c6, c7⟩, c8, c9, c10, c11⟩ := hB1.cell)
      all_goals go_ret
      all_goals exact ⟨ret_i64 HX.out.symm, ((Fr.refl _ _).alloc _).trans hf1⟩
end Go.Proofs.Ytbfhkhklhghigaa
