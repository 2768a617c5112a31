/- ltklaw3.ShapeWhole answers true. -/
import Derived.Test.YtbfhkhklhghigaaL3Whole0
import Derived.Test.YtbfhkhklhghigaaRefCheck
import Derived.Deep.RegionHeld3
import Derived.Deep.DeepCutAuto
import Derived.Deep.CutBlock
namespace Go.Proofs.Ytbfhkhklhghigaa
open Go.RowKit

theorem iwS (n : Int) : IntKind.i64.wrap n = wrap64 n := by rw [IntKind.wrap_i64, wrap64]
set_option maxRecDepth 100000 in
set_option maxHeartbeats 2000000 in
theorem whole_bad (c : Conf) (w : World) (h : ¬ c.Fine) :
    Calls Try.prog 7 #[c.val] w fun e w' => e = .returned (.bool true) ∧ Fr (fun _ => False) w w' := by
  have hB0 := BoxConf.mk w c
  have HK := Lib.hid (ref_check_calls c)
  have hk := Conf.chk_no h
  rw [hk] at HK
  unfold Conf.val at *
  clear h hk
  go_enter Try.func7, Try.ntmps7
  go_wp2_with (first
    | (go_at_call 8; refine (first3_calls (w.alloc _)).mono ?_; rintro e w1 ⟨rfl, hf1⟩; have hB1 : BoxConf w1 w.heap.size c := BoxConf.frame hB0 hf1 (fun x => x); obtain ⟨⟨c0, c1, c2, c3⟩, ⟨c4, c5, c6, c7⟩, c8, c9, c10, c11⟩ := hB1.cell)
    | (go_at_call 16; (with_reducible refine (HK.out _).mono ?_); rintro e w2 ⟨rfl, hf2⟩)
    | (go_at_call 8; refine (first3_calls w2).mono ?_; rintro e w3 ⟨rfl, hf3⟩))
  go_ret
  exact ⟨rfl, ((((Fr.refl _ _).alloc _).trans hf1).trans hf2).trans hf3⟩

set_option maxRecDepth 100000 in
set_option maxHeartbeats 4000000 in
set_option linter.unusedVariables false in
theorem whole_main (c : Conf) (w : World) (h : c.Fine) :
    Calls Try.prog 7 #[c.val] w fun e w' => e = .returned (.bool true) ∧ Fr (fun _ => False) w w' := by
  have hB0 := BoxConf.mk w c
  have HK := Lib.hid (ref_check_calls c)
  have HKc := Lib.hid (check_calls c)
  have hk := Conf.chk_yes h
  rw [hk] at HK HKc
  have HWo := Lib.hid (words_calls c)
  have HP := Lib.hid (fun n => path_calls c n)
  have HL := Lib.hid (fun n => level_calls c n)
  have HQ := Lib.hid (fun n => parent_calls c n)
  have HT := Lib.hid (fun n => latch_calls c n)
  have HNo := Lib.hid (nodes_calls c)
  have HCe := Lib.hid (cells_calls c)
  obtain ⟨N, hN⟩ := Int.eq_ofNat_of_zero_le c.words_bounds.1
  have hNb : N ≤ 4096 := by have := c.words_bounds.2; omega
  have hmul := words_mul h
  rw [hN] at hmul HWo
  have HLI := Lib.hid (fun (i : Nat) (hi : i < N) => lies h (show (0 : Int) ≤ i by omega) (show (i : Int) < c.words by rw [hN]; omega))
  have HEND := Lib.hid (whole_end h)
  have HST := Lib.hid (fun (p : Nat) => div_step (m := c.wd) (p := p) h.1.2.2.2.1 (by omega))
  have hwd1 : 1 ≤ c.wd := h.1.2.2.2.1
  have hwd8 : c.wd ≤ 8 := h.1.2.2.2.2
  have HBD := Lib.hid c.bounds
  have HN := Lib.hid hN
  unfold Conf.val at *
  clear h hk hN
  go_enter Try.func7, Try.ntmps7
  go_wp2_with (first
    | (go_at_call 8; refine (first3_calls (w.alloc _)).mono ?_; rintro e w1 ⟨rfl, hf1⟩; have hB1 : BoxConf w1 w.heap.size c := BoxConf.frame hB0 hf1 (fun x => x); obtain ⟨⟨c0, c1, c2, c3⟩, ⟨c4, c5, c6, c7⟩, c8, c9, c10, c11⟩ := hB1.cell)
    | (go_at_call 16; (with_reducible refine (HK.out _).mono ?_); rintro e w2 ⟨rfl, hf2⟩; have hB2 := hB1.frame hf2 (fun x => x); clear c0 c1 c2 c3 c4 c5 c6 c7 c8 c9 c10 c11; obtain ⟨⟨c0, c1, c2, c3⟩, ⟨c4, c5, c6, c7⟩, c8, c9, c10, c11⟩ := hB2.cell)
    | (go_at_call 9; (with_reducible refine (HKc.out _).mono ?_); rintro e w3 ⟨rfl, hf3⟩; have hB3 := hB2.frame hf3 (fun x => x); clear c0 c1 c2 c3 c4 c5 c6 c7 c8 c9 c10 c11; obtain ⟨⟨c0, c1, c2, c3⟩, ⟨c4, c5, c6, c7⟩, c8, c9, c10, c11⟩ := hB3.cell)
    | (go_at_call 10; (with_reducible refine (HWo.out _).mono ?_); rintro e w4 ⟨rfl, hf4⟩; have hB4 := hB3.frame hf4 (fun x => x)))
  have HB4 := Lib.hid hB4
  have HF4 := Lib.hid (((((Fr.refl (fun _ => False) w).alloc _).trans hf1).trans hf2).trans hf3 |>.trans hf4)
  clear hB0 hB1 hB2 hB3 hB4 hf1 hf2 hf3 hf4 c0 c1 c2 c3 c4 c5 c6 c7 c8 c9 c10 c11 hmul
  go_loopw [4, 5, 6] (fun v4 v5 v6 wr => ∃ i : Nat, i ≤ N ∧ v6 = .int .i64 i ∧ BoxConf wr w.heap.size c ∧ Fr (fun _ => False) w wr ∧ ((i = 0 ∧ v4 = .int .i64 (-1) ∧ v5 = .int .i64 0) ∨ ∃ p : Nat, i = p + 1 ∧ v4 = .int .i64 (c.R + c.O + (p : Int) / c.wd) ∧ v5 = .int .i64 ((p : Int) % c.wd + 1))) (fun _ _ v6 _ => N - (intOf v6).toNat)
  case atStart => exact ⟨0, by omega, rfl, HB4.out, HF4.out, .inl ⟨rfl, rfl, rfl⟩⟩
  case round =>
    obtain ⟨i, hi, rfl, hb, hf, hst⟩ := hrel
    have HF := Lib.hid hf
    obtain ⟨⟨c0, c1, c2, c3⟩, ⟨c4, c5, c6, c7⟩, c8, c9, c10, c11⟩ := hb.cell
    clear hf
    by_cases hlt : i < N
    · have hL := HLI.out i hlt
      have e1 := hL.err
      have l0 := hL.l0
      have l1 := hL.l1
      have l2 := hL.l2
      have p2 := hL.p2
      have p1 := hL.p1
      have p0 := hL.p0
      have la := hL.la
      have SE := Lib.hid hL.st
      have q0 := hL.q0
      have q1 := hL.q1
      rw [HN.out] at la
      have hq : (i : Int).tdiv c.wd = (i : Int) / c.wd := Int.tdiv_eq_ediv_of_nonneg (by omega)
      clear hL
      generalize hrg : c.regionOf i = rg at *
      generalize hob : c.objectOf i = ob at *
      generalize hst' : c.stripeOf i = st at *
      have hcs : (i = 0 ∧ u4 = .int .i64 (-1) ∧ u5 = .int .i64 0) ∨ (∃ p : Nat, i = p + 1 ∧ u4 = .int .i64 st ∧ u5 = .int .i64 ((i : Int) % c.wd) ∧ 0 ≤ (i : Int) % c.wd ∧ (i : Int) % c.wd ≤ 8) ∨ (∃ p : Nat, i = p + 1 ∧ u4 = .int .i64 (st - 1) ∧ u5 = .int .i64 c.wd ∧ (i : Int) % c.wd = 0 ∧ 0 ≤ st - 1 ∧ st ≤ 1000) := by
        rcases hst with h | ⟨p, rfl, h4, h5⟩
        · exact .inl h
        · have hs := HST.out p
          have hb := HBD.out
          have hse := SE.out
          have hm0 := Int.emod_nonneg ((p + 1 : Nat) : Int) (show c.wd ≠ 0 by omega)
          have hm1 := Int.emod_lt_of_pos ((p + 1 : Nat) : Int) (show 0 < c.wd by omega)
          have hpc : ((p + 1 : Nat) : Int) = (p : Int) + 1 := by omega
          have hpd : 0 ≤ (p : Int) / c.wd := Int.ediv_nonneg (by omega) (by omega)
          rw [hpc] at hse hm0 hm1 q0 q1
          rcases hs with ⟨x1, x2⟩ | ⟨x1, x2, x3⟩
          · exact .inr (.inl ⟨p, rfl, by rw [h4, hse, x1], by rw [h5, x2, hpc], by rw [hpc]; exact hm0, by rw [hpc]; omega⟩)
          · exact .inr (.inr ⟨p, rfl, by rw [h4]; congr 1; omega, by rw [h5, x2], by rw [hpc]; exact x3, by omega, by omega⟩)
      clear hst
      have st0 : 0 ≤ st ∧ st ≤ 1000 := by have := SE.out; have := HBD.out; omega
      have SE2 := Lib.hid st0
      generalize hqq : (i : Int) / c.wd = q at *
      rcases hcs with ⟨hi0, rfl, rfl⟩ | ⟨p, hip, rfl, rfl, m0, m1⟩ | ⟨p, hip, rfl, rfl, m0, s0, s1⟩
      · have HI0 := Lib.hid hi0
        have HQQ := Lib.hid hqq
        have HSS := Lib.hid hst'
        have HRG := Lib.hid hrg
        have HOB := Lib.hid hob
        clear hi0 hqq hst' hrg hob
        have f1 : (st != -1) = true := by simp; omega
        have hwz : ¬ c.wd = 0 := by omega
        have hwz' : (c.wd == 0) = false := by simp; omega
        clear st0
        go_upto_region 16 with (first
          | (go_at_call 15; (with_reducible refine (HP.out i _).mono ?_); rw [HRG.out, HOB.out, HSS.out]; rintro e w5 ⟨rfl, hf5⟩; have hB5 := hb.frame hf5 (fun x => x); clear c0 c1 c2 c3 c4 c5 c6 c7 c8 c9 c10 c11; obtain ⟨⟨c0, c1, c2, c3⟩, ⟨c4, c5, c6, c7⟩, c8, c9, c10, c11⟩ := hB5.cell)
          | (go_at_call 13; (with_reducible refine (HL.out rg _).mono ?_); rintro e w6 ⟨rfl, hf6⟩; have hB6 := hB5.frame hf6 (fun x => x); clear c0 c1 c2 c3 c4 c5 c6 c7 c8 c9 c10 c11; obtain ⟨⟨c0, c1, c2, c3⟩, ⟨c4, c5, c6, c7⟩, c8, c9, c10, c11⟩ := hB6.cell)
          | (go_at_call 13; (with_reducible refine (HL.out ob _).mono ?_); rintro e w7 ⟨rfl, hf7⟩; have hB7 := hB6.frame hf7 (fun x => x); clear c0 c1 c2 c3 c4 c5 c6 c7 c8 c9 c10 c11; obtain ⟨⟨c0, c1, c2, c3⟩, ⟨c4, c5, c6, c7⟩, c8, c9, c10, c11⟩ := hB7.cell)
          | (go_at_call 13; (with_reducible refine (HL.out st _).mono ?_); rintro e w8 ⟨rfl, hf8⟩; have hB8 := hB7.frame hf8 (fun x => x); clear c0 c1 c2 c3 c4 c5 c6 c7 c8 c9 c10 c11; obtain ⟨⟨c0, c1, c2, c3⟩, ⟨c4, c5, c6, c7⟩, c8, c9, c10, c11⟩ := hB8.cell)
          | (go_at_call 17; (with_reducible refine (HQ.out st _).mono ?_); rintro e w9 ⟨rfl, hf9⟩; have hB9 := hB8.frame hf9 (fun x => x); clear c0 c1 c2 c3 c4 c5 c6 c7 c8 c9 c10 c11; obtain ⟨⟨c0, c1, c2, c3⟩, ⟨c4, c5, c6, c7⟩, c8, c9, c10, c11⟩ := hB9.cell)
          | (go_at_call 17; (with_reducible refine (HQ.out ob _).mono ?_); rintro e w10 ⟨rfl, hf10⟩; have hB10 := hB9.frame hf10 (fun x => x); clear c0 c1 c2 c3 c4 c5 c6 c7 c8 c9 c10 c11; obtain ⟨⟨c0, c1, c2, c3⟩, ⟨c4, c5, c6, c7⟩, c8, c9, c10, c11⟩ := hB10.cell)
          | (go_at_call 17; (with_reducible refine (HQ.out rg _).mono ?_); rintro e w11 ⟨rfl, hf11⟩; have hB11 := hB10.frame hf11 (fun x => x); clear c0 c1 c2 c3 c4 c5 c6 c7 c8 c9 c10 c11; obtain ⟨⟨c0, c1, c2, c3⟩, ⟨c4, c5, c6, c7⟩, c8, c9, c10, c11⟩ := hB11.cell))
        clear c0 c1 c2 c3 c4 c5 c6 c7 c8 c9 c10 c11 e1 l0 l1 l2 p2 p1 p0
        have g1 : decide ((0 : Int) ≤ -1) = false := by decide
        refine wp_region_held_drew (S := fun w' => w'.cell? ⟨w.heap.size, 0, none⟩ = some (.int .i64 c.r) ∧ w'.cell? ⟨w.heap.size, 1, none⟩ = some (.int .i64 c.o) ∧ w'.cell? ⟨w.heap.size, 2, none⟩ = some (.int .i64 c.s) ∧ w'.cell? ⟨w.heap.size, 3, none⟩ = some (.int .i64 c.wd) ∧ w'.cell? ⟨w.heap.size, 4, none⟩ = some (.int .i64 c.th) ∧ w'.cell? ⟨w.heap.size, 5, none⟩ = some (.int .i64 c.sl) ∧ w'.cell? ⟨w.heap.size, 6, none⟩ = some (.int .i64 c.rg) ∧ w'.cell? ⟨w.heap.size, 7, none⟩ = some (.int .i64 c.lk) ∧ w'.cell? ⟨w.heap.size, 8, none⟩ = some (.int .i64 c.un) ∧ w'.cell? ⟨w.heap.size, 9, none⟩ = some (.int .i64 c.es) ∧ w'.cell? ⟨w.heap.size, 10, none⟩ = some (.int .i64 c.tk) ∧ w'.cell? ⟨w.heap.size, 11, none⟩ = some (.int .i64 c.po)) (by kernel_rfl) ?_ (fun hHeld => ?_)
        · exact BoxConf.all (w := w11.drew) hB11
        refine wpAnyH_take (i := 0) (v := ?_) rfl (by kernel_rfl) (by kernel_rfl) (by kernel_rfl) (fun _ _ _ h => h) (Or.inl ⟨by kernel_rfl, ?_⟩) (by assumption) ?_
        rotate_left
        · intro wS hSw
          (try dsimp only at hSw)
          go_simp
          all_goals with_reducible rfl
        simp only [Act.put, List.getElem_toArray, List.getElem_cons_zero, List.setIfInBounds_toArray, List.set_cons_zero, List.set_cons_succ]
        refine wpAnyH_take (i := 1) (v := ?_) rfl (by kernel_rfl) (by kernel_rfl) (by kernel_rfl) (fun _ _ _ h => h) (Or.inl ⟨by kernel_rfl, ?_⟩) (by assumption) ?_
        rotate_left
        · intro wS hSw
          (try dsimp only at hSw)
          go_simp
          all_goals with_reducible rfl
        simp only [Act.put, List.getElem_toArray, List.getElem_cons_succ, List.getElem_cons_zero, List.setIfInBounds_toArray, List.set_cons_zero, List.set_cons_succ]
        refine wpAnyH_take (i := 2) (v := ?_) rfl (by kernel_rfl) (by kernel_rfl) (by kernel_rfl) (fun _ _ _ h => h) (Or.inl ⟨by kernel_rfl, ?_⟩) (by assumption) ?_
        rotate_left
        · intro wS hSw
          (try dsimp only at hSw)
          go_simp
          all_goals with_reducible rfl
        simp only [Act.put, List.getElem_toArray, List.getElem_cons_succ, List.getElem_cons_zero, List.setIfInBounds_toArray, List.set_cons_zero, List.set_cons_succ]
        refine wpAnyH_take (i := 3) (v := undef) rfl (by kernel_rfl) (by kernel_rfl) (by kernel_rfl) (fun _ _ _ h => h) (Or.inr ⟨by kernel_rfl, rfl⟩) (by assumption) ?_
        simp only [Act.put, List.getElem_toArray, List.getElem_cons_succ, List.getElem_cons_zero, List.setIfInBounds_toArray, List.set_cons_zero, List.set_cons_succ]
        refine wpAnyH_take (i := 4) (v := undef) rfl (by kernel_rfl) (by kernel_rfl) (by kernel_rfl) (fun _ _ _ h => h) (Or.inr ⟨by kernel_rfl, rfl⟩) (by assumption) ?_
        simp only [Act.put, List.getElem_toArray, List.getElem_cons_succ, List.getElem_cons_zero, List.setIfInBounds_toArray, List.set_cons_zero, List.set_cons_succ]
        refine wpAnyH_take (i := 5) (v := undef) rfl (by kernel_rfl) (by kernel_rfl) (by kernel_rfl) (fun _ _ _ h => h) (Or.inr ⟨by kernel_rfl, rfl⟩) (by assumption) ?_
        simp only [Act.put, List.getElem_toArray, List.getElem_cons_succ, List.getElem_cons_zero, List.setIfInBounds_toArray, List.set_cons_zero, List.set_cons_succ]
        refine wpAnyH_take (i := 6) (v := undef) rfl (by kernel_rfl) (by kernel_rfl) (by kernel_rfl) (fun _ _ _ h => h) (Or.inr ⟨by kernel_rfl, rfl⟩) (by assumption) ?_
        simp only [Act.put, List.getElem_toArray, List.getElem_cons_succ, List.getElem_cons_zero, List.setIfInBounds_toArray, List.set_cons_zero, List.set_cons_succ]
        refine wpAnyH_take (i := 7) (v := undef) rfl (by kernel_rfl) (by kernel_rfl) (by kernel_rfl) (fun _ _ _ h => h) (Or.inr ⟨by kernel_rfl, rfl⟩) (by assumption) ?_
        simp only [Act.put, List.getElem_toArray, List.getElem_cons_succ, List.getElem_cons_zero, List.setIfInBounds_toArray, List.set_cons_zero, List.set_cons_succ]
        refine wpAnyH_take (i := 8) (v := undef) rfl (by kernel_rfl) (by kernel_rfl) (by kernel_rfl) (fun _ _ _ h => h) (Or.inr ⟨by kernel_rfl, rfl⟩) (by assumption) ?_
        simp only [Act.put, List.getElem_toArray, List.getElem_cons_succ, List.getElem_cons_zero, List.setIfInBounds_toArray, List.set_cons_zero, List.set_cons_succ]
        refine wpAnyH_take (i := 9) (v := undef) rfl (by kernel_rfl) (by kernel_rfl) (by kernel_rfl) (fun _ _ _ h => h) (Or.inr ⟨by kernel_rfl, rfl⟩) (by assumption) ?_
        simp only [Act.put, List.getElem_toArray, List.getElem_cons_succ, List.getElem_cons_zero, List.setIfInBounds_toArray, List.set_cons_zero, List.set_cons_succ]
        refine wpAnyH_take (i := 10) (v := undef) rfl (by kernel_rfl) (by kernel_rfl) (by kernel_rfl) (fun _ _ _ h => h) (Or.inr ⟨by kernel_rfl, rfl⟩) (by assumption) ?_
        simp only [Act.put, List.getElem_toArray, List.getElem_cons_succ, List.getElem_cons_zero, List.setIfInBounds_toArray, List.set_cons_zero, List.set_cons_succ]
        refine wpAnyH_take (i := 11) (v := undef) rfl (by kernel_rfl) (by kernel_rfl) (by kernel_rfl) (fun _ _ _ h => h) (Or.inr ⟨by kernel_rfl, rfl⟩) (by assumption) ?_
        simp only [Act.put, List.getElem_toArray, List.getElem_cons_succ, List.getElem_cons_zero, List.setIfInBounds_toArray, List.set_cons_zero, List.set_cons_succ]
        refine wpAnyH_take (i := 12) (v := undef) rfl (by kernel_rfl) (by kernel_rfl) (by kernel_rfl) (fun _ _ _ h => h) (Or.inr ⟨by kernel_rfl, rfl⟩) (by assumption) ?_
        simp only [Act.put, List.getElem_toArray, List.getElem_cons_succ, List.getElem_cons_zero, List.setIfInBounds_toArray, List.set_cons_zero, List.set_cons_succ]
        refine wpAnyH_take (i := 13) (v := ?_) rfl (by kernel_rfl) (by kernel_rfl) (by kernel_rfl) (fun _ _ _ h => h) (Or.inl ⟨by kernel_rfl, ?_⟩) (by assumption) ?_
        rotate_left
        · intro wS hSw
          (try dsimp only at hSw)
          go_simp
          all_goals with_reducible rfl
        simp only [Act.put, List.getElem_toArray, List.getElem_cons_succ, List.getElem_cons_zero, List.setIfInBounds_toArray, List.set_cons_zero, List.set_cons_succ]
        refine wpAnyH_take (i := 14) (v := ?_) rfl (by kernel_rfl) (by kernel_rfl) (by kernel_rfl) (fun _ _ _ h => h) (Or.inl ⟨by kernel_rfl, ?_⟩) (by assumption) ?_
        rotate_left
        · intro wS hSw
          (try dsimp only at hSw)
          go_simp
          all_goals with_reducible rfl
        simp only [Act.put, List.getElem_toArray, List.getElem_cons_succ, List.getElem_cons_zero, List.setIfInBounds_toArray, List.set_cons_zero, List.set_cons_succ]
        refine wpAnyH_take (i := 15) (v := ?_) rfl (by kernel_rfl) (by kernel_rfl) (by kernel_rfl) (fun _ _ _ h => h) (Or.inl ⟨by kernel_rfl, ?_⟩) (by assumption) ?_
        rotate_left
        · intro wS hSw
          (try dsimp only at hSw)
          go_simp
          all_goals with_reducible rfl
        simp only [Act.put, List.getElem_toArray, List.getElem_cons_succ, List.getElem_cons_zero, List.setIfInBounds_toArray, List.set_cons_zero, List.set_cons_succ]
        refine wpAnyH_take (i := 16) (v := ?_) rfl (by kernel_rfl) (by kernel_rfl) (by kernel_rfl) (fun _ _ _ h => h) (Or.inl ⟨by kernel_rfl, ?_⟩) (by assumption) ?_
        rotate_left
        · intro wS hSw
          (try dsimp only at hSw)
          go_simp
          all_goals with_reducible rfl
        simp only [Act.put, List.getElem_toArray, List.getElem_cons_succ, List.getElem_cons_zero, List.setIfInBounds_toArray, List.set_cons_zero, List.set_cons_succ]
        refine wpAnyH_take (i := 18) (v := ?_) rfl (by kernel_rfl) (by kernel_rfl) (by kernel_rfl) (fun _ _ _ h => h) (Or.inl ⟨by kernel_rfl, ?_⟩) (by assumption) ?_
        rotate_left
        · intro wS hSw
          (try dsimp only at hSw)
          go_simp
          all_goals with_reducible rfl
        simp only [Act.put, List.getElem_toArray, List.getElem_cons_succ, List.getElem_cons_zero, List.setIfInBounds_toArray, List.set_cons_zero, List.set_cons_succ]
        refine wpAnyH_take (i := 19) (v := ?_) rfl (by kernel_rfl) (by kernel_rfl) (by kernel_rfl) (fun _ _ _ h => h) (Or.inl ⟨by kernel_rfl, ?_⟩) (by assumption) ?_
        rotate_left
        · intro wS hSw
          (try dsimp only at hSw)
          go_simp
          all_goals with_reducible rfl
        simp only [Act.put, List.getElem_toArray, List.getElem_cons_succ, List.getElem_cons_zero, List.setIfInBounds_toArray, List.set_cons_zero, List.set_cons_succ]
        refine wpAnyH_take (i := 20) (v := ?_) rfl (by kernel_rfl) (by kernel_rfl) (by kernel_rfl) (fun _ _ _ h => h) (Or.inl ⟨by kernel_rfl, ?_⟩) (by assumption) ?_
        rotate_left
        · intro wS hSw
          (try dsimp only at hSw)
          go_simp
          all_goals with_reducible rfl
        simp only [Act.put, List.getElem_toArray, List.getElem_cons_succ, List.getElem_cons_zero, List.setIfInBounds_toArray, List.set_cons_zero, List.set_cons_succ]
        refine wpAnyH_take (i := 21) (v := ?_) rfl (by kernel_rfl) (by kernel_rfl) (by kernel_rfl) (fun _ _ _ h => h) (Or.inl ⟨by kernel_rfl, ?_⟩) (by assumption) ?_
        rotate_left
        · intro wS hSw
          (try dsimp only at hSw)
          go_simp
          all_goals with_reducible rfl
        simp only [Act.put, List.getElem_toArray, List.getElem_cons_succ, List.getElem_cons_zero, List.setIfInBounds_toArray, List.set_cons_zero, List.set_cons_succ]
        refine wpAnyH_take (i := 22) (v := ?_) rfl (by kernel_rfl) (by kernel_rfl) (by kernel_rfl) (fun _ _ _ h => h) (Or.inl ⟨by kernel_rfl, ?_⟩) (by assumption) ?_
        rotate_left
        · intro wS hSw
          (try dsimp only at hSw)
          go_simp
          all_goals with_reducible rfl
        simp only [Act.put, List.getElem_toArray, List.getElem_cons_succ, List.getElem_cons_zero, List.setIfInBounds_toArray, List.set_cons_zero, List.set_cons_succ]
        refine wpAnyH_take (i := 23) (v := ?_) rfl (by kernel_rfl) (by kernel_rfl) (by kernel_rfl) (fun _ _ _ h => h) (Or.inl ⟨by kernel_rfl, ?_⟩) (by assumption) ?_
        rotate_left
        · intro wS hSw
          (try dsimp only at hSw)
          go_simp
          all_goals with_reducible rfl
        simp only [Act.put, List.getElem_toArray, List.getElem_cons_succ, List.getElem_cons_zero, List.setIfInBounds_toArray, List.set_cons_zero, List.set_cons_succ]
        refine wpAnyH_take (i := 24) (v := ?_) rfl (by kernel_rfl) (by kernel_rfl) (by kernel_rfl) (fun _ _ _ h => h) (Or.inl ⟨by kernel_rfl, ?_⟩) (by assumption) ?_
        rotate_left
        · intro wS hSw
          (try dsimp only at hSw)
          go_simp
          all_goals with_reducible rfl
        simp only [Act.put, List.getElem_toArray, List.getElem_cons_succ, List.getElem_cons_zero, List.setIfInBounds_toArray, List.set_cons_zero, List.set_cons_succ]
        refine wpAnyH_ready (rs := [17]) (by kernel_rfl) (by simp) ?_
        refine AllReadyH.cons rfl (fun K hK => ?_) AllReadyH.nil
        rw [if_pos (by kernel_rfl)]
        go_simp
        (go_at_call 14; (with_reducible refine (HT.out st _).mono ?_); rintro e w12 ⟨rfl, hf12⟩; have hB12 : BoxConf w12 w.heap.size c := BoxConf.frame (w := w11.drew) hB11 hf12 (fun x => x))
        refine hK.out _ _ ?_ (fun hHeld2 => ?_)
        · exact BoxConf.all hB12
        clear hK K hHeld
        refine wpAnyH_take (i := 25) (v := ?_) rfl (by kernel_rfl) (by kernel_rfl) (by kernel_rfl) (fun _ _ _ h => h) (Or.inl ⟨by kernel_rfl, ?_⟩) (by assumption) ?_
        rotate_left
        · intro wS hSw
          (try dsimp only at hSw)
          go_simp
          all_goals with_reducible rfl
        simp only [Act.put, List.getElem_toArray, List.getElem_cons_succ, List.getElem_cons_zero, List.setIfInBounds_toArray, List.set_cons_zero, List.set_cons_succ]
        refine wpAnyH_take (i := 26) (v := ?_) rfl (by kernel_rfl) (by kernel_rfl) (by kernel_rfl) (fun _ _ _ h => h) (Or.inl ⟨by kernel_rfl, ?_⟩) (by assumption) ?_
        rotate_left
        · intro wS hSw
          (try dsimp only at hSw)
          go_simp
          all_goals with_reducible rfl
        simp only [Act.put, List.getElem_toArray, List.getElem_cons_succ, List.getElem_cons_zero, List.setIfInBounds_toArray, List.set_cons_zero, List.set_cons_succ]
        refine wpAnyH_done (by kernel_rfl) ?_ _
        rw [iwS, iwS, iwS]
        have wq : wrap64 q = q := by unfold wrap64; omega
        have w8 : wrap64 (8 * q) = 8 * q := by unfold wrap64; omega
        have wN : wrap64 ((N : Int) + 8 * q) = (N : Int) + 8 * q := by unfold wrap64; omega
        rw [wq, w8, wN]
        have eL : ((N : Int) + 8 * q != (N : Int) + 8 * q) = false := by simp
        go_wp2
        go_roundw
        case rel =>
          have ha : i = 0 := HI0.out
          exact ⟨i + 1, by omega, by go_num, hB12, (((((((HF.out.trans hf5).trans hf6).trans hf7).trans hf8).trans hf9).trans hf10).trans hf11).drew.trans hf12, .inr ⟨i, rfl, by rw [SE.out, HQQ.out], by rw [ha]; simp⟩⟩
        case measure => simp [intOf]; omega
      · have HI0 := Lib.hid hip
        have HQQ := Lib.hid hqq
        have HSS := Lib.hid hst'
        have HRG := Lib.hid hrg
        have HOB := Lib.hid hob
        clear hip hqq hst' hrg hob
        clear st0
        go_wp2_with (first
          | (go_at_call 15; (with_reducible refine (HP.out i _).mono ?_); rw [HRG.out, HOB.out, HSS.out]; rintro e w5 ⟨rfl, hf5⟩; have hB5 := hb.frame hf5 (fun x => x); clear c0 c1 c2 c3 c4 c5 c6 c7 c8 c9 c10 c11; obtain ⟨⟨c0, c1, c2, c3⟩, ⟨c4, c5, c6, c7⟩, c8, c9, c10, c11⟩ := hB5.cell)
          | (go_at_call 13; (with_reducible refine (HL.out rg _).mono ?_); rintro e w6 ⟨rfl, hf6⟩; have hB6 := hB5.frame hf6 (fun x => x); clear c0 c1 c2 c3 c4 c5 c6 c7 c8 c9 c10 c11; obtain ⟨⟨c0, c1, c2, c3⟩, ⟨c4, c5, c6, c7⟩, c8, c9, c10, c11⟩ := hB6.cell)
          | (go_at_call 13; (with_reducible refine (HL.out ob _).mono ?_); rintro e w7 ⟨rfl, hf7⟩; have hB7 := hB6.frame hf7 (fun x => x); clear c0 c1 c2 c3 c4 c5 c6 c7 c8 c9 c10 c11; obtain ⟨⟨c0, c1, c2, c3⟩, ⟨c4, c5, c6, c7⟩, c8, c9, c10, c11⟩ := hB7.cell)
          | (go_at_call 13; (with_reducible refine (HL.out st _).mono ?_); rintro e w8 ⟨rfl, hf8⟩; have hB8 := hB7.frame hf8 (fun x => x); clear c0 c1 c2 c3 c4 c5 c6 c7 c8 c9 c10 c11; obtain ⟨⟨c0, c1, c2, c3⟩, ⟨c4, c5, c6, c7⟩, c8, c9, c10, c11⟩ := hB8.cell)
          | (go_at_call 17; (with_reducible refine (HQ.out st _).mono ?_); rintro e w9 ⟨rfl, hf9⟩; have hB9 := hB8.frame hf9 (fun x => x); clear c0 c1 c2 c3 c4 c5 c6 c7 c8 c9 c10 c11; obtain ⟨⟨c0, c1, c2, c3⟩, ⟨c4, c5, c6, c7⟩, c8, c9, c10, c11⟩ := hB9.cell)
          | (go_at_call 17; (with_reducible refine (HQ.out ob _).mono ?_); rintro e w10 ⟨rfl, hf10⟩; have hB10 := hB9.frame hf10 (fun x => x); clear c0 c1 c2 c3 c4 c5 c6 c7 c8 c9 c10 c11; obtain ⟨⟨c0, c1, c2, c3⟩, ⟨c4, c5, c6, c7⟩, c8, c9, c10, c11⟩ := hB10.cell)
          | (go_at_call 17; (with_reducible refine (HQ.out rg _).mono ?_); rintro e w11 ⟨rfl, hf11⟩; have hB11 := hB10.frame hf11 (fun x => x); clear c0 c1 c2 c3 c4 c5 c6 c7 c8 c9 c10 c11; obtain ⟨⟨c0, c1, c2, c3⟩, ⟨c4, c5, c6, c7⟩, c8, c9, c10, c11⟩ := hB11.cell))
        go_roundw
        case rel => exact ⟨i + 1, by omega, by go_num, hB11, (((((((HF.out.trans hf5).trans hf6).trans hf7).trans hf8).trans hf9).trans hf10).trans hf11), .inr ⟨i, rfl, by rw [SE.out, HQQ.out], rfl⟩⟩
        case measure => simp [intOf]; omega
      · have HI0 := Lib.hid hip
        have HQQ := Lib.hid hqq
        have HSS := Lib.hid hst'
        have HRG := Lib.hid hrg
        have HOB := Lib.hid hob
        clear hip hqq hst' hrg hob
        have f1 : (st != st - 1) = true := by simp; omega
        have hst1 : 1 ≤ st := by omega
        have g1 : decide (1 ≤ st) = true := by simp; omega
        have kst : IntKind.i64.wrap st = st := by rw [iwS]; unfold wrap64; omega
        have kq : IntKind.i64.wrap q = q := by rw [iwS]; unfold wrap64; omega
        have k8 : IntKind.i64.wrap (8 * q) = 8 * q := by rw [iwS]; unfold wrap64; omega
        have kN : IntKind.i64.wrap ((N : Int) + 8 * q) = (N : Int) + 8 * q := by rw [iwS]; unfold wrap64; omega
        have hwz : ¬ c.wd = 0 := by omega
        have hwz' : (c.wd == 0) = false := by simp; omega
        clear st0
        go_upto_region 16 with (first
          | (go_at_call 15; (with_reducible refine (HP.out i _).mono ?_); rw [HRG.out, HOB.out, HSS.out]; rintro e w5 ⟨rfl, hf5⟩; have hB5 := hb.frame hf5 (fun x => x); clear c0 c1 c2 c3 c4 c5 c6 c7 c8 c9 c10 c11; obtain ⟨⟨c0, c1, c2, c3⟩, ⟨c4, c5, c6, c7⟩, c8, c9, c10, c11⟩ := hB5.cell)
          | (go_at_call 13; (with_reducible refine (HL.out rg _).mono ?_); rintro e w6 ⟨rfl, hf6⟩; have hB6 := hB5.frame hf6 (fun x => x); clear c0 c1 c2 c3 c4 c5 c6 c7 c8 c9 c10 c11; obtain ⟨⟨c0, c1, c2, c3⟩, ⟨c4, c5, c6, c7⟩, c8, c9, c10, c11⟩ := hB6.cell)
          | (go_at_call 13; (with_reducible refine (HL.out ob _).mono ?_); rintro e w7 ⟨rfl, hf7⟩; have hB7 := hB6.frame hf7 (fun x => x); clear c0 c1 c2 c3 c4 c5 c6 c7 c8 c9 c10 c11; obtain ⟨⟨c0, c1, c2, c3⟩, ⟨c4, c5, c6, c7⟩, c8, c9, c10, c11⟩ := hB7.cell)
          | (go_at_call 13; (with_reducible refine (HL.out st _).mono ?_); rintro e w8 ⟨rfl, hf8⟩; have hB8 := hB7.frame hf8 (fun x => x); clear c0 c1 c2 c3 c4 c5 c6 c7 c8 c9 c10 c11; obtain ⟨⟨c0, c1, c2, c3⟩, ⟨c4, c5, c6, c7⟩, c8, c9, c10, c11⟩ := hB8.cell)
          | (go_at_call 17; (with_reducible refine (HQ.out st _).mono ?_); rintro e w9 ⟨rfl, hf9⟩; have hB9 := hB8.frame hf9 (fun x => x); clear c0 c1 c2 c3 c4 c5 c6 c7 c8 c9 c10 c11; obtain ⟨⟨c0, c1, c2, c3⟩, ⟨c4, c5, c6, c7⟩, c8, c9, c10, c11⟩ := hB9.cell)
          | (go_at_call 17; (with_reducible refine (HQ.out ob _).mono ?_); rintro e w10 ⟨rfl, hf10⟩; have hB10 := hB9.frame hf10 (fun x => x); clear c0 c1 c2 c3 c4 c5 c6 c7 c8 c9 c10 c11; obtain ⟨⟨c0, c1, c2, c3⟩, ⟨c4, c5, c6, c7⟩, c8, c9, c10, c11⟩ := hB10.cell)
          | (go_at_call 17; (with_reducible refine (HQ.out rg _).mono ?_); rintro e w11 ⟨rfl, hf11⟩; have hB11 := hB10.frame hf11 (fun x => x); clear c0 c1 c2 c3 c4 c5 c6 c7 c8 c9 c10 c11; obtain ⟨⟨c0, c1, c2, c3⟩, ⟨c4, c5, c6, c7⟩, c8, c9, c10, c11⟩ := hB11.cell))
        clear c0 c1 c2 c3 c4 c5 c6 c7 c8 c9 c10 c11 e1 l0 l1 l2 p2 p1 p0
        refine wp_region_held_drew (S := fun w' => w'.cell? ⟨w.heap.size, 0, none⟩ = some (.int .i64 c.r) ∧ w'.cell? ⟨w.heap.size, 1, none⟩ = some (.int .i64 c.o) ∧ w'.cell? ⟨w.heap.size, 2, none⟩ = some (.int .i64 c.s) ∧ w'.cell? ⟨w.heap.size, 3, none⟩ = some (.int .i64 c.wd) ∧ w'.cell? ⟨w.heap.size, 4, none⟩ = some (.int .i64 c.th) ∧ w'.cell? ⟨w.heap.size, 5, none⟩ = some (.int .i64 c.sl) ∧ w'.cell? ⟨w.heap.size, 6, none⟩ = some (.int .i64 c.rg) ∧ w'.cell? ⟨w.heap.size, 7, none⟩ = some (.int .i64 c.lk) ∧ w'.cell? ⟨w.heap.size, 8, none⟩ = some (.int .i64 c.un) ∧ w'.cell? ⟨w.heap.size, 9, none⟩ = some (.int .i64 c.es) ∧ w'.cell? ⟨w.heap.size, 10, none⟩ = some (.int .i64 c.tk) ∧ w'.cell? ⟨w.heap.size, 11, none⟩ = some (.int .i64 c.po)) (by kernel_rfl) ?_ (fun hHeld => ?_)
        · exact BoxConf.all (w := w11.drew) hB11
        refine wpAnyH_take (i := 0) (v := ?_) rfl (by kernel_rfl) (by kernel_rfl) (by kernel_rfl) (fun _ _ _ h => h) (Or.inl ⟨by kernel_rfl, ?_⟩) (by assumption) ?_
        rotate_left
        · intro wS hSw
          (try dsimp only at hSw)
          go_simp
          all_goals with_reducible rfl
        simp only [Act.put, List.getElem_toArray, List.getElem_cons_zero, List.setIfInBounds_toArray, List.set_cons_zero, List.set_cons_succ]
        refine wpAnyH_take (i := 1) (v := ?_) rfl (by kernel_rfl) (by kernel_rfl) (by kernel_rfl) (fun _ _ _ h => h) (Or.inl ⟨by kernel_rfl, ?_⟩) (by assumption) ?_
        rotate_left
        · intro wS hSw
          (try dsimp only at hSw)
          go_simp
          all_goals with_reducible rfl
        simp only [Act.put, List.getElem_toArray, List.getElem_cons_succ, List.getElem_cons_zero, List.setIfInBounds_toArray, List.set_cons_zero, List.set_cons_succ]
        refine wpAnyH_take (i := 2) (v := ?_) rfl (by kernel_rfl) (by kernel_rfl) (by kernel_rfl) (fun _ _ _ h => h) (Or.inl ⟨by kernel_rfl, ?_⟩) (by assumption) ?_
        rotate_left
        · intro wS hSw
          (try dsimp only at hSw)
          go_simp
          all_goals with_reducible rfl
        simp only [Act.put, List.getElem_toArray, List.getElem_cons_succ, List.getElem_cons_zero, List.setIfInBounds_toArray, List.set_cons_zero, List.set_cons_succ]
        refine wpAnyH_take (i := 3) (v := ?_) rfl (by kernel_rfl) (by kernel_rfl) (by kernel_rfl) (fun _ _ _ h => h) (Or.inl ⟨by kernel_rfl, ?_⟩) (by assumption) ?_
        rotate_left
        · intro wS hSw
          (try dsimp only at hSw)
          go_simp
          all_goals with_reducible rfl
        simp only [Act.put, List.getElem_toArray, List.getElem_cons_succ, List.getElem_cons_zero, List.setIfInBounds_toArray, List.set_cons_zero, List.set_cons_succ]
        refine wpAnyH_take (i := 4) (v := ?_) rfl (by kernel_rfl) (by kernel_rfl) (by kernel_rfl) (fun _ _ _ h => h) (Or.inl ⟨by kernel_rfl, ?_⟩) (by assumption) ?_
        rotate_left
        · intro wS hSw
          (try dsimp only at hSw)
          go_simp
          all_goals with_reducible rfl
        simp only [Act.put, List.getElem_toArray, List.getElem_cons_succ, List.getElem_cons_zero, List.setIfInBounds_toArray, List.set_cons_zero, List.set_cons_succ]
        refine wpAnyH_take (i := 5) (v := ?_) rfl (by kernel_rfl) (by kernel_rfl) (by kernel_rfl) (fun _ _ _ h => h) (Or.inl ⟨by kernel_rfl, ?_⟩) (by assumption) ?_
        rotate_left
        · intro wS hSw
          (try dsimp only at hSw)
          go_simp
          all_goals with_reducible rfl
        simp only [Act.put, List.getElem_toArray, List.getElem_cons_succ, List.getElem_cons_zero, List.setIfInBounds_toArray, List.set_cons_zero, List.set_cons_succ]
        refine wpAnyH_take (i := 6) (v := ?_) rfl (by kernel_rfl) (by kernel_rfl) (by kernel_rfl) (fun _ _ _ h => h) (Or.inl ⟨by kernel_rfl, ?_⟩) (by assumption) ?_
        rotate_left
        · intro wS hSw
          (try dsimp only at hSw)
          go_simp
          all_goals with_reducible rfl
        simp only [Act.put, List.getElem_toArray, List.getElem_cons_succ, List.getElem_cons_zero, List.setIfInBounds_toArray, List.set_cons_zero, List.set_cons_succ]
        refine wpAnyH_take (i := 7) (v := ?_) rfl (by kernel_rfl) (by kernel_rfl) (by kernel_rfl) (fun _ _ _ h => h) (Or.inl ⟨by kernel_rfl, ?_⟩) (by assumption) ?_
        rotate_left
        · intro wS hSw
          (try dsimp only at hSw)
          go_simp
          all_goals with_reducible rfl
        simp only [Act.put, List.getElem_toArray, List.getElem_cons_succ, List.getElem_cons_zero, List.setIfInBounds_toArray, List.set_cons_zero, List.set_cons_succ]
        refine wpAnyH_take (i := 8) (v := ?_) rfl (by kernel_rfl) (by kernel_rfl) (by kernel_rfl) (fun _ _ _ h => h) (Or.inl ⟨by kernel_rfl, ?_⟩) (by assumption) ?_
        rotate_left
        · intro wS hSw
          (try dsimp only at hSw)
          go_simp
          all_goals with_reducible rfl
        simp only [Act.put, List.getElem_toArray, List.getElem_cons_succ, List.getElem_cons_zero, List.setIfInBounds_toArray, List.set_cons_zero, List.set_cons_succ]
        refine wpAnyH_take (i := 9) (v := ?_) rfl (by kernel_rfl) (by kernel_rfl) (by kernel_rfl) (fun _ _ _ h => h) (Or.inl ⟨by kernel_rfl, ?_⟩) (by assumption) ?_
        rotate_left
        · intro wS hSw
          (try dsimp only at hSw)
          go_simp
          all_goals with_reducible rfl
        simp only [Act.put, List.getElem_toArray, List.getElem_cons_succ, List.getElem_cons_zero, List.setIfInBounds_toArray, List.set_cons_zero, List.set_cons_succ]
        refine wpAnyH_take (i := 10) (v := ?_) rfl (by kernel_rfl) (by kernel_rfl) (by kernel_rfl) (fun _ _ _ h => h) (Or.inl ⟨by kernel_rfl, ?_⟩) (by assumption) ?_
        rotate_left
        · intro wS hSw
          (try dsimp only at hSw)
          go_simp
          all_goals with_reducible rfl
        simp only [Act.put, List.getElem_toArray, List.getElem_cons_succ, List.getElem_cons_zero, List.setIfInBounds_toArray, List.set_cons_zero, List.set_cons_succ]
        refine wpAnyH_take (i := 11) (v := ?_) rfl (by kernel_rfl) (by kernel_rfl) (by kernel_rfl) (fun _ _ _ h => h) (Or.inl ⟨by kernel_rfl, ?_⟩) (by assumption) ?_
        rotate_left
        · intro wS hSw
          (try dsimp only at hSw)
          go_simp
          all_goals with_reducible rfl
        simp only [Act.put, List.getElem_toArray, List.getElem_cons_succ, List.getElem_cons_zero, List.setIfInBounds_toArray, List.set_cons_zero, List.set_cons_succ]
        refine wpAnyH_take (i := 12) (v := ?_) rfl (by kernel_rfl) (by kernel_rfl) (by kernel_rfl) (fun _ _ _ h => h) (Or.inl ⟨by kernel_rfl, ?_⟩) (by assumption) ?_
        rotate_left
        · intro wS hSw
          (try dsimp only at hSw)
          go_simp
          all_goals with_reducible rfl
        simp only [Act.put, List.getElem_toArray, List.getElem_cons_succ, List.getElem_cons_zero, List.setIfInBounds_toArray, List.set_cons_zero, List.set_cons_succ]
        refine wpAnyH_take (i := 13) (v := ?_) rfl (by kernel_rfl) (by kernel_rfl) (by kernel_rfl) (fun _ _ _ h => h) (Or.inl ⟨by kernel_rfl, ?_⟩) (by assumption) ?_
        rotate_left
        · intro wS hSw
          (try dsimp only at hSw)
          go_simp
          all_goals with_reducible rfl
        simp only [Act.put, List.getElem_toArray, List.getElem_cons_succ, List.getElem_cons_zero, List.setIfInBounds_toArray, List.set_cons_zero, List.set_cons_succ]
        refine wpAnyH_take (i := 14) (v := ?_) rfl (by kernel_rfl) (by kernel_rfl) (by kernel_rfl) (fun _ _ _ h => h) (Or.inl ⟨by kernel_rfl, ?_⟩) (by assumption) ?_
        rotate_left
        · intro wS hSw
          (try dsimp only at hSw)
          go_simp
          all_goals with_reducible rfl
        simp only [Act.put, List.getElem_toArray, List.getElem_cons_succ, List.getElem_cons_zero, List.setIfInBounds_toArray, List.set_cons_zero, List.set_cons_succ]
        refine wpAnyH_take (i := 15) (v := ?_) rfl (by kernel_rfl) (by kernel_rfl) (by kernel_rfl) (fun _ _ _ h => h) (Or.inl ⟨by kernel_rfl, ?_⟩) (by assumption) ?_
        rotate_left
        · intro wS hSw
          (try dsimp only at hSw)
          go_simp
          all_goals with_reducible rfl
        simp only [Act.put, List.getElem_toArray, List.getElem_cons_succ, List.getElem_cons_zero, List.setIfInBounds_toArray, List.set_cons_zero, List.set_cons_succ]
        refine wpAnyH_take (i := 16) (v := ?_) rfl (by kernel_rfl) (by kernel_rfl) (by kernel_rfl) (fun _ _ _ h => h) (Or.inl ⟨by kernel_rfl, ?_⟩) (by assumption) ?_
        rotate_left
        · intro wS hSw
          (try dsimp only at hSw)
          go_simp
          all_goals with_reducible rfl
        simp only [Act.put, List.getElem_toArray, List.getElem_cons_succ, List.getElem_cons_zero, List.setIfInBounds_toArray, List.set_cons_zero, List.set_cons_succ]
        refine wpAnyH_take (i := 18) (v := ?_) rfl (by kernel_rfl) (by kernel_rfl) (by kernel_rfl) (fun _ _ _ h => h) (Or.inl ⟨by kernel_rfl, ?_⟩) (by assumption) ?_
        rotate_left
        · intro wS hSw
          (try dsimp only at hSw)
          go_simp
          all_goals with_reducible rfl
        simp only [Act.put, List.getElem_toArray, List.getElem_cons_succ, List.getElem_cons_zero, List.setIfInBounds_toArray, List.set_cons_zero, List.set_cons_succ]
        refine wpAnyH_take (i := 19) (v := ?_) rfl (by kernel_rfl) (by kernel_rfl) (by kernel_rfl) (fun _ _ _ h => h) (Or.inl ⟨by kernel_rfl, ?_⟩) (by assumption) ?_
        rotate_left
        · intro wS hSw
          (try dsimp only at hSw)
          go_simp
          all_goals with_reducible rfl
        simp only [Act.put, List.getElem_toArray, List.getElem_cons_succ, List.getElem_cons_zero, List.setIfInBounds_toArray, List.set_cons_zero, List.set_cons_succ]
        refine wpAnyH_take (i := 20) (v := ?_) rfl (by kernel_rfl) (by kernel_rfl) (by kernel_rfl) (fun _ _ _ h => h) (Or.inl ⟨by kernel_rfl, ?_⟩) (by assumption) ?_
        rotate_left
        · intro wS hSw
          (try dsimp only at hSw)
          go_simp
          all_goals with_reducible rfl
        simp only [Act.put, List.getElem_toArray, List.getElem_cons_succ, List.getElem_cons_zero, List.setIfInBounds_toArray, List.set_cons_zero, List.set_cons_succ]
        refine wpAnyH_take (i := 21) (v := ?_) rfl (by kernel_rfl) (by kernel_rfl) (by kernel_rfl) (fun _ _ _ h => h) (Or.inl ⟨by kernel_rfl, ?_⟩) (by assumption) ?_
        rotate_left
        · intro wS hSw
          (try dsimp only at hSw)
          go_simp
          all_goals with_reducible rfl
        simp only [Act.put, List.getElem_toArray, List.getElem_cons_succ, List.getElem_cons_zero, List.setIfInBounds_toArray, List.set_cons_zero, List.set_cons_succ]
        refine wpAnyH_take (i := 22) (v := ?_) rfl (by kernel_rfl) (by kernel_rfl) (by kernel_rfl) (fun _ _ _ h => h) (Or.inl ⟨by kernel_rfl, ?_⟩) (by assumption) ?_
        rotate_left
        · intro wS hSw
          (try dsimp only at hSw)
          go_simp
          all_goals with_reducible rfl
        simp only [Act.put, List.getElem_toArray, List.getElem_cons_succ, List.getElem_cons_zero, List.setIfInBounds_toArray, List.set_cons_zero, List.set_cons_succ]
        refine wpAnyH_take (i := 23) (v := ?_) rfl (by kernel_rfl) (by kernel_rfl) (by kernel_rfl) (fun _ _ _ h => h) (Or.inl ⟨by kernel_rfl, ?_⟩) (by assumption) ?_
        rotate_left
        · intro wS hSw
          (try dsimp only at hSw)
          go_simp
          all_goals with_reducible rfl
        simp only [Act.put, List.getElem_toArray, List.getElem_cons_succ, List.getElem_cons_zero, List.setIfInBounds_toArray, List.set_cons_zero, List.set_cons_succ]
        refine wpAnyH_take (i := 24) (v := ?_) rfl (by kernel_rfl) (by kernel_rfl) (by kernel_rfl) (fun _ _ _ h => h) (Or.inl ⟨by kernel_rfl, ?_⟩) (by assumption) ?_
        rotate_left
        · intro wS hSw
          (try dsimp only at hSw)
          go_simp
          all_goals with_reducible rfl
        simp only [Act.put, List.getElem_toArray, List.getElem_cons_succ, List.getElem_cons_zero, List.setIfInBounds_toArray, List.set_cons_zero, List.set_cons_succ]
        refine wpAnyH_ready (rs := [17]) (by kernel_rfl) (by simp) ?_
        refine AllReadyH.cons rfl (fun K hK => ?_) AllReadyH.nil
        rw [if_pos (by kernel_rfl)]
        go_simp
        (go_at_call 14; (with_reducible refine (HT.out st _).mono ?_); rintro e w12 ⟨rfl, hf12⟩; have hB12 : BoxConf w12 w.heap.size c := BoxConf.frame (w := w11.drew) hB11 hf12 (fun x => x))
        refine hK.out _ _ ?_ (fun hHeld2 => ?_)
        · exact BoxConf.all hB12
        clear hK K hHeld
        refine wpAnyH_take (i := 25) (v := ?_) rfl (by kernel_rfl) (by kernel_rfl) (by kernel_rfl) (fun _ _ _ h => h) (Or.inl ⟨by kernel_rfl, ?_⟩) (by assumption) ?_
        rotate_left
        · intro wS hSw
          (try dsimp only at hSw)
          go_simp
          all_goals with_reducible rfl
        simp only [Act.put, List.getElem_toArray, List.getElem_cons_succ, List.getElem_cons_zero, List.setIfInBounds_toArray, List.set_cons_zero, List.set_cons_succ]
        refine wpAnyH_take (i := 26) (v := ?_) rfl (by kernel_rfl) (by kernel_rfl) (by kernel_rfl) (fun _ _ _ h => h) (Or.inl ⟨by kernel_rfl, ?_⟩) (by assumption) ?_
        rotate_left
        · intro wS hSw
          (try dsimp only at hSw)
          go_simp
          all_goals with_reducible rfl
        simp only [Act.put, List.getElem_toArray, List.getElem_cons_succ, List.getElem_cons_zero, List.setIfInBounds_toArray, List.set_cons_zero, List.set_cons_succ]
        refine wpAnyH_done (by kernel_rfl) ?_ _
        go_wp2
        go_roundw
        case rel => exact ⟨i + 1, by omega, by go_num, hB12, (((((((HF.out.trans hf5).trans hf6).trans hf7).trans hf8).trans hf9).trans hf10).trans hf11).drew.trans hf12, .inr ⟨i, rfl, by rw [SE.out, HQQ.out], by rw [m0]; simp⟩⟩
        case measure => simp [intOf]; omega
    · have hiN : i = N := by omega
      subst hiN
      have hE := HEND.out
      rw [HN.out] at hE
      obtain ⟨z1, z2, z3, z4, z5, z6, z7⟩ := hE
      have h45 : u4 = .int .i64 (c.nodes - 1) ∧ u5 = .int .i64 c.wd := by
        rcases hst with ⟨h, _⟩ | ⟨p, hp, h4, h5⟩
        · omega
        · have hpc : (i : Int) - 1 = (p : Int) := by omega
          rw [hpc] at z2 z3
          exact ⟨by rw [h4, z2], by rw [h5, z3]⟩
      obtain ⟨rfl, rfl⟩ := h45
      have hq : (i : Int).tdiv c.wd = (i : Int) / c.wd := Int.tdiv_eq_ediv_of_nonneg (by omega)
      have hbd := HBD.out
      have q0 : 0 ≤ (i : Int) / c.wd ∧ (i : Int) / c.wd ≤ 512 := by omega
      have hDb : 0 ≤ c.nodes ∧ c.nodes ≤ 1000 := by unfold Conf.nodes; omega
      generalize hqq : (i : Int) / c.wd = q at *
      generalize hD : c.nodes = D at *
      have HD := Lib.hid hD
      have HQQ := Lib.hid hqq
      have Z4 := Lib.hid z4
      have Z5 := Lib.hid z5
      have kq : IntKind.i64.wrap q = q := by rw [iwS]; unfold wrap64; omega
      have k8 : IntKind.i64.wrap (8 * q) = 8 * q := by rw [iwS]; unfold wrap64; omega
      have kN : IntKind.i64.wrap ((i : Int) + 8 * q) = (i : Int) + 8 * q := by rw [iwS]; unfold wrap64; omega
      have kD1 : IntKind.i64.wrap (D - 1) = D - 1 := by rw [iwS]; unfold wrap64; omega
      have kD : IntKind.i64.wrap D = D := by rw [iwS]; unfold wrap64; omega
      have kDD : IntKind.i64.wrap (D - 1 + 1) = D := by rw [iwS]; unfold wrap64; omega
      have hwz : ¬ c.wd = 0 := by omega
      have hwz' : (c.wd == 0) = false := by simp; omega
      clear hst z1 z2 z3 z4 z5 z7 hD hqq hbd
      go_upto_region 21 with (first
        | (go_at_call 15; (with_reducible refine (HP.out i _).mono ?_); rintro e w5 ⟨rfl, hf5⟩; have hB5 := hb.frame hf5 (fun x => x)))
      clear c0 c1 c2 c3 c4 c5 c6 c7 c8 c9 c10 c11
      refine wp_region_held_drew (S := fun w' => w'.cell? ⟨w.heap.size, 0, none⟩ = some (.int .i64 c.r) ∧ w'.cell? ⟨w.heap.size, 1, none⟩ = some (.int .i64 c.o) ∧ w'.cell? ⟨w.heap.size, 2, none⟩ = some (.int .i64 c.s) ∧ w'.cell? ⟨w.heap.size, 3, none⟩ = some (.int .i64 c.wd) ∧ w'.cell? ⟨w.heap.size, 4, none⟩ = some (.int .i64 c.th) ∧ w'.cell? ⟨w.heap.size, 5, none⟩ = some (.int .i64 c.sl) ∧ w'.cell? ⟨w.heap.size, 6, none⟩ = some (.int .i64 c.rg) ∧ w'.cell? ⟨w.heap.size, 7, none⟩ = some (.int .i64 c.lk) ∧ w'.cell? ⟨w.heap.size, 8, none⟩ = some (.int .i64 c.un) ∧ w'.cell? ⟨w.heap.size, 9, none⟩ = some (.int .i64 c.es) ∧ w'.cell? ⟨w.heap.size, 10, none⟩ = some (.int .i64 c.tk) ∧ w'.cell? ⟨w.heap.size, 11, none⟩ = some (.int .i64 c.po)) (by kernel_rfl) ?_ (fun hHeld => ?_)
      · exact BoxConf.all (w := w5.drew) hB5
      refine wpAnyH_ready (rs := [0]) (by kernel_rfl) (by simp) ?_
      refine AllReadyH.cons rfl (fun K hK => ?_) AllReadyH.nil
      rw [if_pos (by kernel_rfl)]
      go_simp
      (go_at_call 8; refine (first3_calls w5.drew).mono ?_; rintro e w6 ⟨rfl, hf6⟩; have hB6 : BoxConf w6 w.heap.size c := BoxConf.frame (w := w5.drew) hB5 hf6 (fun x => x))
      refine hK.out _ _ ?_ (fun hHeld0 => ?_)
      · exact BoxConf.all hB6
      clear hK K hHeld
      refine wpAnyH_take (i := 1) (v := ?_) rfl (by kernel_rfl) (by kernel_rfl) (by kernel_rfl) (fun _ _ _ h => h) (Or.inl ⟨by kernel_rfl, ?_⟩) (by assumption) ?_
      rotate_left
      · intro wS hSw
        (try dsimp only at hSw)
        go_simp
        all_goals with_reducible rfl
      simp only [Act.put, List.getElem_toArray, List.getElem_cons_succ, List.getElem_cons_zero, List.setIfInBounds_toArray, List.set_cons_zero, List.set_cons_succ]
      refine wpAnyH_take (i := 2) (v := ?_) rfl (by kernel_rfl) (by kernel_rfl) (by kernel_rfl) (fun _ _ _ h => h) (Or.inl ⟨by kernel_rfl, ?_⟩) (by assumption) ?_
      rotate_left
      · intro wS hSw
        (try dsimp only at hSw)
        go_simp
        all_goals with_reducible rfl
      simp only [Act.put, List.getElem_toArray, List.getElem_cons_succ, List.getElem_cons_zero, List.setIfInBounds_toArray, List.set_cons_zero, List.set_cons_succ]
      refine wpAnyH_take (i := 3) (v := ?_) rfl (by kernel_rfl) (by kernel_rfl) (by kernel_rfl) (fun _ _ _ h => h) (Or.inl ⟨by kernel_rfl, ?_⟩) (by assumption) ?_
      rotate_left
      · intro wS hSw
        (try dsimp only at hSw)
        go_simp
        all_goals with_reducible rfl
      simp only [Act.put, List.getElem_toArray, List.getElem_cons_succ, List.getElem_cons_zero, List.setIfInBounds_toArray, List.set_cons_zero, List.set_cons_succ]
      refine wpAnyH_take (i := 4) (v := ?_) rfl (by kernel_rfl) (by kernel_rfl) (by kernel_rfl) (fun _ _ _ h => h) (Or.inl ⟨by kernel_rfl, ?_⟩) (by assumption) ?_
      rotate_left
      · intro wS hSw
        (try dsimp only at hSw)
        go_simp
        all_goals with_reducible rfl
      simp only [Act.put, List.getElem_toArray, List.getElem_cons_succ, List.getElem_cons_zero, List.setIfInBounds_toArray, List.set_cons_zero, List.set_cons_succ]
      refine wpAnyH_take (i := 5) (v := ?_) rfl (by kernel_rfl) (by kernel_rfl) (by kernel_rfl) (fun _ _ _ h => h) (Or.inl ⟨by kernel_rfl, ?_⟩) (by assumption) ?_
      rotate_left
      · intro wS hSw
        (try dsimp only at hSw)
        go_simp
        all_goals with_reducible rfl
      simp only [Act.put, List.getElem_toArray, List.getElem_cons_succ, List.getElem_cons_zero, List.setIfInBounds_toArray, List.set_cons_zero, List.set_cons_succ]
      refine wpAnyH_take (i := 6) (v := ?_) rfl (by kernel_rfl) (by kernel_rfl) (by kernel_rfl) (fun _ _ _ h => h) (Or.inl ⟨by kernel_rfl, ?_⟩) (by assumption) ?_
      rotate_left
      · intro wS hSw
        (try dsimp only at hSw)
        go_simp
        all_goals with_reducible rfl
      simp only [Act.put, List.getElem_toArray, List.getElem_cons_succ, List.getElem_cons_zero, List.setIfInBounds_toArray, List.set_cons_zero, List.set_cons_succ]
      refine wpAnyH_take (i := 7) (v := ?_) rfl (by kernel_rfl) (by kernel_rfl) (by kernel_rfl) (fun _ _ _ h => h) (Or.inl ⟨by kernel_rfl, ?_⟩) (by assumption) ?_
      rotate_left
      · intro wS hSw
        (try dsimp only at hSw)
        go_simp
        all_goals with_reducible rfl
      simp only [Act.put, List.getElem_toArray, List.getElem_cons_succ, List.getElem_cons_zero, List.setIfInBounds_toArray, List.set_cons_zero, List.set_cons_succ]
      refine wpAnyH_ready (rs := [8]) (by kernel_rfl) (by simp) ?_
      refine AllReadyH.cons rfl (fun K hK => ?_) AllReadyH.nil
      rw [if_pos (by kernel_rfl)]
      go_simp
      (go_at_call 11; (with_reducible refine (HNo.out _).mono ?_); rintro e w7 ⟨rfl, hf7⟩; have hB7 := hB6.frame hf7 (fun x => x))
      refine hK.out _ _ ?_ (fun hHeld8 => ?_)
      · exact BoxConf.all hB7
      clear hK K hHeld0
      refine wpAnyH_take (i := 9) (v := ?_) rfl (by kernel_rfl) (by kernel_rfl) (by kernel_rfl) (fun _ _ _ h => h) (Or.inl ⟨by kernel_rfl, ?_⟩) (by assumption) ?_
      rotate_left
      · intro wS hSw
        (try dsimp only at hSw)
        go_simp
        all_goals with_reducible rfl
      simp only [Act.put, List.getElem_toArray, List.getElem_cons_succ, List.getElem_cons_zero, List.setIfInBounds_toArray, List.set_cons_zero, List.set_cons_succ]
      refine wpAnyH_take (i := 10) (v := ?_) rfl (by kernel_rfl) (by kernel_rfl) (by kernel_rfl) (fun _ _ _ h => h) (Or.inl ⟨by kernel_rfl, ?_⟩) (by assumption) ?_
      rotate_left
      · intro wS hSw
        (try dsimp only at hSw)
        go_simp
        all_goals with_reducible rfl
      simp only [Act.put, List.getElem_toArray, List.getElem_cons_succ, List.getElem_cons_zero, List.setIfInBounds_toArray, List.set_cons_zero, List.set_cons_succ]
      refine wpAnyH_take (i := 11) (v := ?_) rfl (by kernel_rfl) (by kernel_rfl) (by kernel_rfl) (fun _ _ _ h => h) (Or.inl ⟨by kernel_rfl, ?_⟩) (by assumption) ?_
      rotate_left
      · intro wS hSw
        (try dsimp only at hSw)
        go_simp
        all_goals with_reducible rfl
      simp only [Act.put, List.getElem_toArray, List.getElem_cons_succ, List.getElem_cons_zero, List.setIfInBounds_toArray, List.set_cons_zero, List.set_cons_succ]
      refine wpAnyH_take (i := 12) (v := ?_) rfl (by kernel_rfl) (by kernel_rfl) (by kernel_rfl) (fun _ _ _ h => h) (Or.inl ⟨by kernel_rfl, ?_⟩) (by assumption) ?_
      rotate_left
      · intro wS hSw
        (try dsimp only at hSw)
        go_simp
        all_goals with_reducible rfl
      simp only [Act.put, List.getElem_toArray, List.getElem_cons_succ, List.getElem_cons_zero, List.setIfInBounds_toArray, List.set_cons_zero, List.set_cons_succ]
      refine wpAnyH_take (i := 13) (v := ?_) rfl (by kernel_rfl) (by kernel_rfl) (by kernel_rfl) (fun _ _ _ h => h) (Or.inl ⟨by kernel_rfl, ?_⟩) (by assumption) ?_
      rotate_left
      · intro wS hSw
        (try dsimp only at hSw)
        go_simp
        all_goals with_reducible rfl
      simp only [Act.put, List.getElem_toArray, List.getElem_cons_succ, List.getElem_cons_zero, List.setIfInBounds_toArray, List.set_cons_zero, List.set_cons_succ]
      refine wpAnyH_take (i := 14) (v := ?_) rfl (by kernel_rfl) (by kernel_rfl) (by kernel_rfl) (fun _ _ _ h => h) (Or.inl ⟨by kernel_rfl, ?_⟩) (by assumption) ?_
      rotate_left
      · intro wS hSw
        (try dsimp only at hSw)
        go_simp
        all_goals with_reducible rfl
      simp only [Act.put, List.getElem_toArray, List.getElem_cons_succ, List.getElem_cons_zero, List.setIfInBounds_toArray, List.set_cons_zero, List.set_cons_succ]
      refine wpAnyH_take (i := 15) (v := ?_) rfl (by kernel_rfl) (by kernel_rfl) (by kernel_rfl) (fun _ _ _ h => h) (Or.inl ⟨by kernel_rfl, ?_⟩) (by assumption) ?_
      rotate_left
      · intro wS hSw
        (try dsimp only at hSw)
        go_simp
        all_goals with_reducible rfl
      simp only [Act.put, List.getElem_toArray, List.getElem_cons_succ, List.getElem_cons_zero, List.setIfInBounds_toArray, List.set_cons_zero, List.set_cons_succ]
      refine wpAnyH_take (i := 16) (v := ?_) rfl (by kernel_rfl) (by kernel_rfl) (by kernel_rfl) (fun _ _ _ h => h) (Or.inl ⟨by kernel_rfl, ?_⟩) (by assumption) ?_
      rotate_left
      · intro wS hSw
        (try dsimp only at hSw)
        go_simp
        all_goals with_reducible rfl
      simp only [Act.put, List.getElem_toArray, List.getElem_cons_succ, List.getElem_cons_zero, List.setIfInBounds_toArray, List.set_cons_zero, List.set_cons_succ]
      refine wpAnyH_take (i := 17) (v := ?_) rfl (by kernel_rfl) (by kernel_rfl) (by kernel_rfl) (fun _ _ _ h => h) (Or.inl ⟨by kernel_rfl, ?_⟩) (by assumption) ?_
      rotate_left
      · intro wS hSw
        (try dsimp only at hSw)
        go_simp
        all_goals with_reducible rfl
      simp only [Act.put, List.getElem_toArray, List.getElem_cons_succ, List.getElem_cons_zero, List.setIfInBounds_toArray, List.set_cons_zero, List.set_cons_succ]
      refine wpAnyH_take (i := 18) (v := ?_) rfl (by kernel_rfl) (by kernel_rfl) (by kernel_rfl) (fun _ _ _ h => h) (Or.inl ⟨by kernel_rfl, ?_⟩) (by assumption) ?_
      rotate_left
      · intro wS hSw
        (try dsimp only at hSw)
        go_simp
        all_goals with_reducible rfl
      simp only [Act.put, List.getElem_toArray, List.getElem_cons_succ, List.getElem_cons_zero, List.setIfInBounds_toArray, List.set_cons_zero, List.set_cons_succ]
      refine wpAnyH_take (i := 19) (v := ?_) rfl (by kernel_rfl) (by kernel_rfl) (by kernel_rfl) (fun _ _ _ h => h) (Or.inl ⟨by kernel_rfl, ?_⟩) (by assumption) ?_
      rotate_left
      · intro wS hSw
        (try dsimp only at hSw)
        go_simp
        all_goals with_reducible rfl
      simp only [Act.put, List.getElem_toArray, List.getElem_cons_succ, List.getElem_cons_zero, List.setIfInBounds_toArray, List.set_cons_zero, List.set_cons_succ]
      refine wpAnyH_take (i := 21) (v := ?_) rfl (by kernel_rfl) (by kernel_rfl) (by kernel_rfl) (fun _ _ _ h => h) (Or.inl ⟨by kernel_rfl, ?_⟩) (by assumption) ?_
      rotate_left
      · intro wS hSw
        (try dsimp only at hSw)
        go_simp
        all_goals with_reducible rfl
      simp only [Act.put, List.getElem_toArray, List.getElem_cons_succ, List.getElem_cons_zero, List.setIfInBounds_toArray, List.set_cons_zero, List.set_cons_succ]
      refine wpAnyH_take (i := 22) (v := ?_) rfl (by kernel_rfl) (by kernel_rfl) (by kernel_rfl) (fun _ _ _ h => h) (Or.inl ⟨by kernel_rfl, ?_⟩) (by assumption) ?_
      rotate_left
      · intro wS hSw
        (try dsimp only at hSw)
        go_simp
        all_goals with_reducible rfl
      simp only [Act.put, List.getElem_toArray, List.getElem_cons_succ, List.getElem_cons_zero, List.setIfInBounds_toArray, List.set_cons_zero, List.set_cons_succ]
      refine wpAnyH_take (i := 23) (v := ?_) rfl (by kernel_rfl) (by kernel_rfl) (by kernel_rfl) (fun _ _ _ h => h) (Or.inl ⟨by kernel_rfl, ?_⟩) (by assumption) ?_
      rotate_left
      · intro wS hSw
        (try dsimp only at hSw)
        go_simp
        all_goals with_reducible rfl
      simp only [Act.put, List.getElem_toArray, List.getElem_cons_succ, List.getElem_cons_zero, List.setIfInBounds_toArray, List.set_cons_zero, List.set_cons_succ]
      refine wpAnyH_take (i := 24) (v := ?_) rfl (by kernel_rfl) (by kernel_rfl) (by kernel_rfl) (fun _ _ _ h => h) (Or.inl ⟨by kernel_rfl, ?_⟩) (by assumption) ?_
      rotate_left
      · intro wS hSw
        (try dsimp only at hSw)
        go_simp
        all_goals with_reducible rfl
      simp only [Act.put, List.getElem_toArray, List.getElem_cons_succ, List.getElem_cons_zero, List.setIfInBounds_toArray, List.set_cons_zero, List.set_cons_succ]
      refine wpAnyH_take (i := 25) (v := ?_) rfl (by kernel_rfl) (by kernel_rfl) (by kernel_rfl) (fun _ _ _ h => h) (Or.inl ⟨by kernel_rfl, ?_⟩) (by assumption) ?_
      rotate_left
      · intro wS hSw
        (try dsimp only at hSw)
        go_simp
        all_goals with_reducible rfl
      simp only [Act.put, List.getElem_toArray, List.getElem_cons_succ, List.getElem_cons_zero, List.setIfInBounds_toArray, List.set_cons_zero, List.set_cons_succ]
      refine wpAnyH_take (i := 26) (v := ?_) rfl (by kernel_rfl) (by kernel_rfl) (by kernel_rfl) (fun _ _ _ h => h) (Or.inl ⟨by kernel_rfl, ?_⟩) (by assumption) ?_
      rotate_left
      · intro wS hSw
        (try dsimp only at hSw)
        go_simp
        all_goals with_reducible rfl
      simp only [Act.put, List.getElem_toArray, List.getElem_cons_succ, List.getElem_cons_zero, List.setIfInBounds_toArray, List.set_cons_zero, List.set_cons_succ]
      refine wpAnyH_take (i := 27) (v := ?_) rfl (by kernel_rfl) (by kernel_rfl) (by kernel_rfl) (fun _ _ _ h => h) (Or.inl ⟨by kernel_rfl, ?_⟩) (by assumption) ?_
      rotate_left
      · intro wS hSw
        (try dsimp only at hSw)
        go_simp
        all_goals with_reducible rfl
      simp only [Act.put, List.getElem_toArray, List.getElem_cons_succ, List.getElem_cons_zero, List.setIfInBounds_toArray, List.set_cons_zero, List.set_cons_succ]
      refine wpAnyH_ready (rs := [20]) (by kernel_rfl) (by simp) ?_
      refine AllReadyH.cons rfl (fun K hK => ?_) AllReadyH.nil
      rw [if_pos (by kernel_rfl)]
      go_simp
      (go_at_call 12; (with_reducible refine (HCe.out _).mono ?_); rw [Z4.out]; rintro e w8 ⟨rfl, hf8⟩; have hB8 := hB7.frame hf8 (fun x => x))
      refine hK.out _ _ ?_ (fun hHeld20 => ?_)
      · exact BoxConf.all hB8
      clear hK K hHeld8
      refine wpAnyH_take (i := 28) (v := ?_) rfl (by kernel_rfl) (by kernel_rfl) (by kernel_rfl) (fun _ _ _ h => h) (Or.inl ⟨by kernel_rfl, ?_⟩) (by assumption) ?_
      rotate_left
      · intro wS hSw
        (try dsimp only at hSw)
        go_simp
        all_goals with_reducible rfl
      simp only [Act.put, List.getElem_toArray, List.getElem_cons_succ, List.getElem_cons_zero, List.setIfInBounds_toArray, List.set_cons_zero, List.set_cons_succ]
      refine wpAnyH_take (i := 29) (v := ?_) rfl (by kernel_rfl) (by kernel_rfl) (by kernel_rfl) (fun _ _ _ h => h) (Or.inl ⟨by kernel_rfl, ?_⟩) (by assumption) ?_
      rotate_left
      · intro wS hSw
        (try dsimp only at hSw)
        go_simp
        all_goals with_reducible rfl
      simp only [Act.put, List.getElem_toArray, List.getElem_cons_succ, List.getElem_cons_zero, List.setIfInBounds_toArray, List.set_cons_zero, List.set_cons_succ]
      refine wpAnyH_take (i := 30) (v := ?_) rfl (by kernel_rfl) (by kernel_rfl) (by kernel_rfl) (fun _ _ _ h => h) (Or.inl ⟨by kernel_rfl, ?_⟩) (by assumption) ?_
      rotate_left
      · intro wS hSw
        (try dsimp only at hSw)
        go_simp
        all_goals with_reducible rfl
      simp only [Act.put, List.getElem_toArray, List.getElem_cons_succ, List.getElem_cons_zero, List.setIfInBounds_toArray, List.set_cons_zero, List.set_cons_succ]
      refine wpAnyH_take (i := 31) (v := ?_) rfl (by kernel_rfl) (by kernel_rfl) (by kernel_rfl) (fun _ _ _ h => h) (Or.inl ⟨by kernel_rfl, ?_⟩) (by assumption) ?_
      rotate_left
      · intro wS hSw
        (try dsimp only at hSw)
        go_simp
        all_goals with_reducible rfl
      simp only [Act.put, List.getElem_toArray, List.getElem_cons_succ, List.getElem_cons_zero, List.setIfInBounds_toArray, List.set_cons_zero, List.set_cons_succ]
      refine wpAnyH_take (i := 32) (v := ?_) rfl (by kernel_rfl) (by kernel_rfl) (by kernel_rfl) (fun _ _ _ h => h) (Or.inl ⟨by kernel_rfl, ?_⟩) (by assumption) ?_
      rotate_left
      · intro wS hSw
        (try dsimp only at hSw)
        go_simp
        all_goals with_reducible rfl
      simp only [Act.put, List.getElem_toArray, List.getElem_cons_succ, List.getElem_cons_zero, List.setIfInBounds_toArray, List.set_cons_zero, List.set_cons_succ]
      refine wpAnyH_take (i := 33) (v := ?_) rfl (by kernel_rfl) (by kernel_rfl) (by kernel_rfl) (fun _ _ _ h => h) (Or.inl ⟨by kernel_rfl, ?_⟩) (by assumption) ?_
      rotate_left
      · intro wS hSw
        (try dsimp only at hSw)
        go_simp
        all_goals with_reducible rfl
      simp only [Act.put, List.getElem_toArray, List.getElem_cons_succ, List.getElem_cons_zero, List.setIfInBounds_toArray, List.set_cons_zero, List.set_cons_succ]
      refine wpAnyH_ready (rs := [34]) (by kernel_rfl) (by simp) ?_
      refine AllReadyH.cons rfl (fun K hK => ?_) AllReadyH.nil
      rw [if_pos (by kernel_rfl)]
      go_simp
      (go_at_call 13; (with_reducible refine (HL.out D _).mono ?_); rw [Z5.out]; rintro e w9 ⟨rfl, hf9⟩; have hB9 := hB8.frame hf9 (fun x => x))
      refine hK.out _ _ ?_ (fun hHeld34 => ?_)
      · exact BoxConf.all hB9
      clear hK K hHeld20
      refine wpAnyH_take (i := 35) (v := ?_) rfl (by kernel_rfl) (by kernel_rfl) (by kernel_rfl) (fun _ _ _ h => h) (Or.inl ⟨by kernel_rfl, ?_⟩) (by assumption) ?_
      rotate_left
      · intro wS hSw
        (try dsimp only at hSw)
        go_simp
        all_goals with_reducible rfl
      simp only [Act.put, List.getElem_toArray, List.getElem_cons_succ, List.getElem_cons_zero, List.setIfInBounds_toArray, List.set_cons_zero, List.set_cons_succ]
      refine wpAnyH_take (i := 36) (v := ?_) rfl (by kernel_rfl) (by kernel_rfl) (by kernel_rfl) (fun _ _ _ h => h) (Or.inl ⟨by kernel_rfl, ?_⟩) (by assumption) ?_
      rotate_left
      · intro wS hSw
        (try dsimp only at hSw)
        go_simp
        all_goals with_reducible rfl
      simp only [Act.put, List.getElem_toArray, List.getElem_cons_succ, List.getElem_cons_zero, List.setIfInBounds_toArray, List.set_cons_zero, List.set_cons_succ]
      refine wpAnyH_take (i := 37) (v := ?_) rfl (by kernel_rfl) (by kernel_rfl) (by kernel_rfl) (fun _ _ _ h => h) (Or.inl ⟨by kernel_rfl, ?_⟩) (by assumption) ?_
      rotate_left
      · intro wS hSw
        (try dsimp only at hSw)
        go_simp
        all_goals with_reducible rfl
      simp only [Act.put, List.getElem_toArray, List.getElem_cons_succ, List.getElem_cons_zero, List.setIfInBounds_toArray, List.set_cons_zero, List.set_cons_succ]
      refine wpAnyH_done (by kernel_rfl) ?_ _
      go_wp2
      go_ret
      exact ⟨rfl, (((((HF.out.trans hf5).drew).trans hf6).trans hf7).trans hf8).trans hf9⟩

theorem whole_walk (cs : Array Value) (c : Conf) (w : World) (hc : ConfIn cs c) :
    Calls Try.prog 7 #[.agg cs] w fun e w' => e = .returned (.bool true) ∧ Fr (fun _ => False) w w' := by
  unfold ConfIn at hc
  rw [hc]
  by_cases h : c.Fine
  · exact whole_main c w h
  · exact whole_bad c w h
end Go.Proofs.Ytbfhkhklhghigaa
