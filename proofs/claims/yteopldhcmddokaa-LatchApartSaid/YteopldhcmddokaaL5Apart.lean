/- ltklaw5.LatchApart answers true. -/
import Derived.Test.YteopldhcmddokaaL5Apart0
import Derived.Test.YteopldhcmddokaaL5Clean
namespace Go.Proofs.Yteopldhcmddokaa
open Go.RowKit

theorem BoxConf.set2 {w : World} {b : Nat} {c : Conf} (h : BoxConf w b c) (n : Int) : BoxConf (w.setCell ⟨b, 2, none⟩ (.int .i64 n)) b { c with s := n } := by unfold BoxConf at *; rw [blk_set h]; rfl

set_option maxRecDepth 100000 in
set_option maxHeartbeats 2000000 in
theorem apart_bad (s a b : Int) (w : World) (h : s < 2 ∨ 8 < s ∨ a < 0 ∨ s ≤ a ∨ b < 0 ∨ s ≤ b ∨ a = b) :
    Calls Try.prog 4 #[.int .i64 s, .int .i64 a, .int .i64 b] w fun e w' => e = .returned (.bool true) ∧ Fr (fun _ => False) w w' := by
  have hh : (decide (s < 2) = true) ∨ (decide (s < 2) = false ∧ decide (8 < s) = true) ∨ (decide (s < 2) = false ∧ decide (8 < s) = false ∧ decide (a < 0) = true) ∨ (decide (s < 2) = false ∧ decide (8 < s) = false ∧ decide (a < 0) = false ∧ decide (s ≤ a) = true) ∨ (decide (s < 2) = false ∧ decide (8 < s) = false ∧ decide (a < 0) = false ∧ decide (s ≤ a) = false ∧ decide (b < 0) = true) ∨ (decide (s < 2) = false ∧ decide (8 < s) = false ∧ decide (a < 0) = false ∧ decide (s ≤ a) = false ∧ decide (b < 0) = false ∧ decide (s ≤ b) = true) ∨ (decide (s < 2) = false ∧ decide (8 < s) = false ∧ decide (a < 0) = false ∧ decide (s ≤ a) = false ∧ decide (b < 0) = false ∧ decide (s ≤ b) = false ∧ (a == b) = true) := by simp; omega
  clear h
  rcases hh with d1 | ⟨d1, d2⟩ | ⟨d1, d2, d3⟩ | ⟨d1, d2, d3, d4⟩ | ⟨d1, d2, d3, d4, d5⟩ | ⟨d1, d2, d3, d4, d5, d6⟩ | ⟨d1, d2, d3, d4, d5, d6, d7⟩
  all_goals
    go_enter Try.func4, Try.ntmps4
    go_wp2_with (first
      | (go_at_call 9; refine (first5_calls _).mono ?_; rintro e w0 ⟨rfl, hf0⟩))
    all_goals go_ret
    all_goals exact ⟨rfl, by repeat (first | exact Fr.refl _ _ | assumption | refine Fr.trans ?_ (by assumption))⟩

set_option maxRecDepth 100000 in
set_option maxHeartbeats 4000000 in
set_option linter.unusedVariables false in
theorem apart_main (s a b : Nat) (w : World) (h0 : 2 ≤ s) (h1 : s ≤ 8) (ha : a < s) (hb : b < s) (hne : a ≠ b) :
    Calls Try.prog 4 #[.int .i64 s, .int .i64 a, .int .i64 b] w fun e w' => e = .returned (.bool true) ∧ Fr (fun _ => False) w w' := by
  have hrun := apart_all s a b h0 h1 ha hb hne
  unfold apartRun at hrun
  dsimp only at hrun
  simp only [Bool.and_eq_true, Bool.not_eq_true'] at hrun
  obtain ⟨t1, t2, t3, t4, t5, t6, t7, t8, tz⟩ := hrun
  have HO := Lib.hid (one_calls 2 1)
  have HC := Lib.hid (fun (w : World) => (show Calls Try.prog 12 #[.agg #[.int .i64 1, .int .i64 1, .int .i64 s, .int .i64 1, .int .i64 2, .int .i64 1, .int .i64 1, .int .i64 1, .int .i64 1, .int .i64 0, .int .i64 1, .int .i64 0]] w fun e w' => e = .returned (.int .i64 (apartC s).cells) ∧ Fr (fun _ => False) w w' from cells_calls (apartC s) w))
  have HB := Lib.hid (fun (w : World) => (show BoxConf (w.alloc (.cells #[.int .i64 1, .int .i64 1, .int .i64 s, .int .i64 1, .int .i64 2, .int .i64 1, .int .i64 1, .int .i64 1, .int .i64 1, .int .i64 0, .int .i64 1, .int .i64 0] 25)) w.heap.size (apartC s) from BoxConf.mk w (apartC s)))
  have HALL := Lib.hid (fun (w : World) (b : Nat) (h : BoxConf w b (apartC s)) => (show w.cell? ⟨b, 0, none⟩ = some (.int .i64 1) ∧ w.cell? ⟨b, 1, none⟩ = some (.int .i64 1) ∧ w.cell? ⟨b, 2, none⟩ = some (.int .i64 s) ∧ w.cell? ⟨b, 3, none⟩ = some (.int .i64 1) ∧ w.cell? ⟨b, 4, none⟩ = some (.int .i64 2) ∧ w.cell? ⟨b, 5, none⟩ = some (.int .i64 1) ∧ w.cell? ⟨b, 6, none⟩ = some (.int .i64 1) ∧ w.cell? ⟨b, 7, none⟩ = some (.int .i64 1) ∧ w.cell? ⟨b, 8, none⟩ = some (.int .i64 1) ∧ w.cell? ⟨b, 9, none⟩ = some (.int .i64 0) ∧ w.cell? ⟨b, 10, none⟩ = some (.int .i64 1) ∧ w.cell? ⟨b, 11, none⟩ = some (.int .i64 0) from h.all))
  have HNEW := Lib.hid (fun (w : World) => new_calls (apartC s).cells w (apartC s).cells_bounds.1 (by have := (apartC s).cells_bounds.2; omega))
  have HWR := Lib.hid (fun (node th : Int) (rd : Bool) (w : World) => (show Calls Try.prog 15 #[.agg #[.int .i64 1, .int .i64 1, .int .i64 s, .int .i64 1, .int .i64 2, .int .i64 1, .int .i64 1, .int .i64 1, .int .i64 1, .int .i64 0, .int .i64 1, .int .i64 0], .int .i64 node, .int .i64 th, .bool rd] w fun e w' => e = .returned (.pointer (some ⟨w.heap.size + 1, 0, none⟩)) ∧ LatchAt w' (w.heap.size + 1) (LM.write (apartC s) node th rd) ∧ Fr (fun _ => False) w w' from write_calls (apartC s) node th rd w))
  have HRD := Lib.hid (fun (node th : Int) (w : World) => (show Calls Try.prog 14 #[.agg #[.int .i64 1, .int .i64 1, .int .i64 s, .int .i64 1, .int .i64 2, .int .i64 1, .int .i64 1, .int .i64 1, .int .i64 1, .int .i64 0, .int .i64 1, .int .i64 0], .int .i64 node, .int .i64 th] w fun e w' => e = .returned (.pointer (some ⟨w.heap.size + 1, 0, none⟩)) ∧ LatchAt w' (w.heap.size + 1) (LM.read (apartC s) node th) ∧ Fr (fun _ => False) w w' from read_calls (apartC s) node th w))
  have HER := Lib.hid (fun (node th : Int) (w : World) => (show Calls Try.prog 18 #[.agg #[.int .i64 1, .int .i64 1, .int .i64 s, .int .i64 1, .int .i64 2, .int .i64 1, .int .i64 1, .int .i64 1, .int .i64 1, .int .i64 0, .int .i64 1, .int .i64 0], .int .i64 node, .int .i64 th] w fun e w' => e = .returned (.pointer (some ⟨w.heap.size + 1, 0, none⟩)) ∧ LatchAt w' (w.heap.size + 1) (LM.endRead (apartC s) node th) ∧ Fr (fun _ => False) w w' from endRead_calls (apartC s) node th w))
  have HEW := Lib.hid (fun (node th : Int) (w : World) => (show Calls Try.prog 22 #[.agg #[.int .i64 1, .int .i64 1, .int .i64 s, .int .i64 1, .int .i64 2, .int .i64 1, .int .i64 1, .int .i64 1, .int .i64 1, .int .i64 0, .int .i64 1, .int .i64 0], .int .i64 node, .int .i64 th] w fun e w' => e = .returned (.pointer (some ⟨w.heap.size + 1, 0, none⟩)) ∧ LatchAt w' (w.heap.size + 1) (LM.endWrite (apartC s) node th) ∧ Fr (fun _ => False) w w' from endWrite_calls (apartC s) node th w))
  have HCLEAN := Lib.hid (fun (p ab : Nat) (S : CM) (w : World) (h : CellsAt w p ab S) (hz : ∀ k, S.word k = 0) => (show Calls Try.prog 23 #[.agg #[.int .i64 1, .int .i64 1, .int .i64 s, .int .i64 1, .int .i64 2, .int .i64 1, .int .i64 1, .int .i64 1, .int .i64 1, .int .i64 0, .int .i64 1, .int .i64 0], .pointer (some ⟨p, 0, none⟩)] w fun e w' => e = .returned (.bool true) ∧ Fr (fun _ => False) w w' from clean_calls (apartC s) p ab S w h hz))
  unfold Conf.val at HO
  dsimp only [oneC] at HO
  generalize hS0 : CM.zero (apartC s).cells.toNat = S0 at *
  generalize hr1 : thru 20 (LM.write (apartC s) (2 + (a : Int)) 0 false) S0 = r1 at *
  have T1 := Lib.hid (show (thru 20 (LM.write (apartC s) (2 + (a : Int)) 0 false) S0).2.2 = true from by rw [hr1]; exact t1)
  have E1 : Hid ((thru 20 (LM.write (apartC s) (2 + (a : Int)) 0 false) S0).2.1 = r1.2.1) := by show _ = _; rw [hr1]
  generalize r1.2.1 = S1 at *
  generalize hr2 : thru 20 (LM.write (apartC s) (2 + (b : Int)) 1 false) S1 = r2 at *
  have T2 := Lib.hid (show (thru 20 (LM.write (apartC s) (2 + (b : Int)) 1 false) S1).2.2 = true from by rw [hr2]; exact t2)
  have E2 : Hid ((thru 20 (LM.write (apartC s) (2 + (b : Int)) 1 false) S1).2.1 = r2.2.1) := by show _ = _; rw [hr2]
  generalize r2.2.1 = S2 at *
  generalize hr3 : thru 20 (LM.read (apartC s) (2 + (a : Int)) 1) S2 = r3 at *
  have T3 := Lib.hid (show (thru 20 (LM.read (apartC s) (2 + (a : Int)) 1) S2).2.2 = false from by rw [hr3]; exact t3)
  have E3 : Hid ((thru 20 (LM.read (apartC s) (2 + (a : Int)) 1) S2).2.1 = r3.2.1) := by show _ = _; rw [hr3]
  generalize r3.2.1 = S3 at *
  generalize hr4 : thru 20 (LM.write (apartC s) (2 + (b : Int)) 0 false) S3 = r4 at *
  have T4 := Lib.hid (show (thru 20 (LM.write (apartC s) (2 + (b : Int)) 0 false) S3).2.2 = false from by rw [hr4]; exact t4)
  have E4 : Hid ((thru 20 (LM.write (apartC s) (2 + (b : Int)) 0 false) S3).2.1 = r4.2.1) := by show _ = _; rw [hr4]
  generalize r4.2.1 = S4 at *
  generalize hr5 : thru 20 (LM.endWrite (apartC s) (2 + (a : Int)) 0) S4 = r5 at *
  have T5 := Lib.hid (show (thru 20 (LM.endWrite (apartC s) (2 + (a : Int)) 0) S4).2.2 = true from by rw [hr5]; exact t5)
  have E5 : Hid ((thru 20 (LM.endWrite (apartC s) (2 + (a : Int)) 0) S4).2.1 = r5.2.1) := by show _ = _; rw [hr5]
  generalize r5.2.1 = S5 at *
  generalize hr6 : thru 20 (LM.read (apartC s) (2 + (a : Int)) 1) S5 = r6 at *
  have T6 := Lib.hid (show (thru 20 (LM.read (apartC s) (2 + (a : Int)) 1) S5).2.2 = true from by rw [hr6]; exact t6)
  have E6 : Hid ((thru 20 (LM.read (apartC s) (2 + (a : Int)) 1) S5).2.1 = r6.2.1) := by show _ = _; rw [hr6]
  generalize r6.2.1 = S6 at *
  generalize hr7 : thru 20 (LM.endRead (apartC s) (2 + (a : Int)) 1) S6 = r7 at *
  have T7 := Lib.hid (show (thru 20 (LM.endRead (apartC s) (2 + (a : Int)) 1) S6).2.2 = true from by rw [hr7]; exact t7)
  have E7 : Hid ((thru 20 (LM.endRead (apartC s) (2 + (a : Int)) 1) S6).2.1 = r7.2.1) := by show _ = _; rw [hr7]
  generalize r7.2.1 = S7 at *
  generalize hr8 : thru 20 (LM.endWrite (apartC s) (2 + (b : Int)) 1) S7 = r8 at *
  have T8 := Lib.hid (show (thru 20 (LM.endWrite (apartC s) (2 + (b : Int)) 1) S7).2.2 = true from by rw [hr8]; exact t8)
  have E8 : Hid ((thru 20 (LM.endWrite (apartC s) (2 + (b : Int)) 1) S7).2.1 = r8.2.1) := by show _ = _; rw [hr8]
  generalize r8.2.1 = S8 at *
  have TZ := Lib.hid (all_zero tz)
  clear hr1 hr2 hr3 hr4 hr5 hr6 hr7 hr8 t1 t2 t3 t4 t5 t6 t7 t8 tz
  have d1 : decide ((s : Int) < 2) = false := by simp; omega
  have d2 : decide ((8 : Int) < s) = false := by simp; omega
  have d3 : decide ((a : Int) < 0) = false := by simp
  have d4 : decide ((s : Int) ≤ a) = false := by simp; omega
  have d4' : decide (s ≤ a) = false := by simp; omega
  have d5 : decide ((b : Int) < 0) = false := by simp
  have d6 : decide ((s : Int) ≤ b) = false := by simp; omega
  have d6' : decide (s ≤ b) = false := by simp; omega
  have d7 : ((a : Int) == b) = false := by simp; omega
  have d7' : (a == b) = false := by simp; omega
  have hWO : ∀ node th rd, 0 ≤ (LM.write (apartC s) node th rd).word ∧ (LM.write (apartC s) node th rd).word ≤ 7 := fun _ _ _ => ⟨by show (0 : Int) ≤ 1; omega, by show (1 : Int) ≤ 7; omega⟩
  have HWO := Lib.hid hWO
  have HRO : Hid (∀ node th, 0 ≤ (LM.read (apartC s) node th).word ∧ (LM.read (apartC s) node th).word ≤ 7) := fun _ _ => ⟨by show (0 : Int) ≤ 0; omega, by show (0 : Int) ≤ 7; omega⟩
  have HERO : Hid (∀ node th, 0 ≤ (LM.endRead (apartC s) node th).word ∧ (LM.endRead (apartC s) node th).word ≤ 7) := fun _ _ => ⟨by show (0 : Int) ≤ 0; omega, by show (0 : Int) ≤ 7; omega⟩
  have HEWO : Hid (∀ node th, 0 ≤ (LM.endWrite (apartC s) node th).word ∧ (LM.endWrite (apartC s) node th).word ≤ 7) := fun _ _ => ⟨by show (0 : Int) ≤ 0; omega, by show (0 : Int) ≤ 7; omega⟩
  clear hWO
  go_enter Try.func4, Try.ntmps4
  go_wp2_with (first
    | (go_at_call 9; refine (first5_calls w).mono ?_; rintro e w0 ⟨rfl, hf0⟩)
    | (go_at_call 10; (with_reducible refine (HO.out _).mono ?_); rintro e w1 ⟨rfl, hf1⟩; have hb1 := HB.out w1)
    | (go_at_call 12; (with_reducible refine (HC.out _).mono ?_); rintro e w2 ⟨rfl, hf2⟩; have hb2 := hb1.frame hf2 (fun x => x))
    | (go_at_call 11; (with_reducible refine (HNEW.out _).mono ?_); rintro e w3 ⟨rfl, hc3, hf3⟩; have hb := hb2.frame hf3 (fun x => x); obtain ⟨c0, c1, c2, c3, c4, c5, c6, c7, c8, c9, c10, c11⟩ := HALL.out _ _ hb; have hF := Lib.hid (((hf0.trans hf1).alloc _ |>.trans hf2).trans hf3); have hq : w.heap.size ≤ w2.heap.size := (((hf0.trans hf1).alloc _).trans hf2).size; have hz : w1.heap.size < w2.heap.size := blk_lt hb2; have hC := Lib.hid hc3; have hBx := Lib.hid hb; clear hf0 hf1 hf2 hf3 hb1 hb2 hc3 hb)
    | (go_at_call 15; (with_reducible refine (HWR.out (2 + (a : Int)) 0 false w3).mono ?_); rintro e w4 ⟨rfl, hl4, hg4⟩; have hm4 : w1.heap.size < w3.heap.size := blk_lt hBx.out; have hk4 : w.heap.size ≤ w3.heap.size := hF.out.size; have hCa4 := Lib.hid (hC.out.frame hg4 (fun x => x) (fun x => x)); have hLa4 := Lib.hid hl4; have hBa4 := Lib.hid (hBx.out.frame hg4 (fun x => x)); have hFa4 := Lib.hid (hF.out.trans hg4); clear hl4 hg4)
    | (go_at_call 13; (with_reducible refine (through_calls (w3.heap.size + 1) _ _ (LM.write (apartC s) (2 + (a : Int)) 0 false) S0 _ (LC.of hLa4.out hCa4.out) (by first | exact HWO.out _ _ _ | exact HRO.out _ _ | exact HERO.out _ _ | exact HEWO.out _ _)).mono ?_); rw [T1.out, E1.out]; rintro e w5 ⟨rfl, ht5, hg5⟩; have hC1 := Lib.hid ht5.s; have hF1 := Lib.hid (hFa4.out.trans' hg5 (fun k hk hl => by unfold trio at hk; omega)); have hbn5 := hBa4.out.frame hg5 (by unfold trio; omega); clear c0 c1 c2 c3 c4 c5 c6 c7 c8 c9 c10 c11; obtain ⟨c0, c1, c2, c3, c4, c5, c6, c7, c8, c9, c10, c11⟩ := HALL.out _ _ hbn5; have hBx1 := Lib.hid hbn5; clear hg5 ht5 hbn5)
    | (go_at_call 15; (with_reducible refine (HWR.out (2 + (b : Int)) 1 false w5).mono ?_); rintro e w6 ⟨rfl, hl6, hg6⟩; have hm6 : w1.heap.size < w5.heap.size := blk_lt hBx1.out; have hk6 : w.heap.size ≤ w5.heap.size := hF1.out.size; have hCa6 := Lib.hid (hC1.out.frame hg6 (fun x => x) (fun x => x)); have hLa6 := Lib.hid hl6; have hBa6 := Lib.hid (hBx1.out.frame hg6 (fun x => x)); have hFa6 := Lib.hid (hF1.out.trans hg6); clear hl6 hg6)
    | (go_at_call 13; (with_reducible refine (through_calls (w5.heap.size + 1) _ _ (LM.write (apartC s) (2 + (b : Int)) 1 false) S1 _ (LC.of hLa6.out hCa6.out) (by first | exact HWO.out _ _ _ | exact HRO.out _ _ | exact HERO.out _ _ | exact HEWO.out _ _)).mono ?_); rw [T2.out, E2.out]; rintro e w7 ⟨rfl, ht7, hg7⟩; have hC2 := Lib.hid ht7.s; have hF2 := Lib.hid (hFa6.out.trans' hg7 (fun k hk hl => by unfold trio at hk; omega)); have hbn7 := hBa6.out.frame hg7 (by unfold trio; omega); clear c0 c1 c2 c3 c4 c5 c6 c7 c8 c9 c10 c11; obtain ⟨c0, c1, c2, c3, c4, c5, c6, c7, c8, c9, c10, c11⟩ := HALL.out _ _ hbn7; have hBx2 := Lib.hid hbn7; clear hg7 ht7 hbn7)
    | (go_at_call 14; (with_reducible refine (HRD.out (2 + (a : Int)) 1 w7).mono ?_); rintro e w8 ⟨rfl, hl8, hg8⟩; have hm8 : w1.heap.size < w7.heap.size := blk_lt hBx2.out; have hk8 : w.heap.size ≤ w7.heap.size := hF2.out.size; have hCa8 := Lib.hid (hC2.out.frame hg8 (fun x => x) (fun x => x)); have hLa8 := Lib.hid hl8; have hBa8 := Lib.hid (hBx2.out.frame hg8 (fun x => x)); have hFa8 := Lib.hid (hF2.out.trans hg8); clear hl8 hg8)
    | (go_at_call 13; (with_reducible refine (through_calls (w7.heap.size + 1) _ _ (LM.read (apartC s) (2 + (a : Int)) 1) S2 _ (LC.of hLa8.out hCa8.out) (by first | exact HWO.out _ _ _ | exact HRO.out _ _ | exact HERO.out _ _ | exact HEWO.out _ _)).mono ?_); rw [T3.out, E3.out]; rintro e w9 ⟨rfl, ht9, hg9⟩; have hC3 := Lib.hid ht9.s; have hF3 := Lib.hid (hFa8.out.trans' hg9 (fun k hk hl => by unfold trio at hk; omega)); have hbn9 := hBa8.out.frame hg9 (by unfold trio; omega); clear c0 c1 c2 c3 c4 c5 c6 c7 c8 c9 c10 c11; obtain ⟨c0, c1, c2, c3, c4, c5, c6, c7, c8, c9, c10, c11⟩ := HALL.out _ _ hbn9; have hBx3 := Lib.hid hbn9; clear hg9 ht9 hbn9)
    | (go_at_call 15; (with_reducible refine (HWR.out (2 + (b : Int)) 0 false w9).mono ?_); rintro e w10 ⟨rfl, hl10, hg10⟩; have hm10 : w1.heap.size < w9.heap.size := blk_lt hBx3.out; have hk10 : w.heap.size ≤ w9.heap.size := hF3.out.size; have hCa10 := Lib.hid (hC3.out.frame hg10 (fun x => x) (fun x => x)); have hLa10 := Lib.hid hl10; have hBa10 := Lib.hid (hBx3.out.frame hg10 (fun x => x)); have hFa10 := Lib.hid (hF3.out.trans hg10); clear hl10 hg10)
    | (go_at_call 13; (with_reducible refine (through_calls (w9.heap.size + 1) _ _ (LM.write (apartC s) (2 + (b : Int)) 0 false) S3 _ (LC.of hLa10.out hCa10.out) (by first | exact HWO.out _ _ _ | exact HRO.out _ _ | exact HERO.out _ _ | exact HEWO.out _ _)).mono ?_); rw [T4.out, E4.out]; rintro e w11 ⟨rfl, ht11, hg11⟩; have hC4 := Lib.hid ht11.s; have hF4 := Lib.hid (hFa10.out.trans' hg11 (fun k hk hl => by unfold trio at hk; omega)); have hbn11 := hBa10.out.frame hg11 (by unfold trio; omega); clear c0 c1 c2 c3 c4 c5 c6 c7 c8 c9 c10 c11; obtain ⟨c0, c1, c2, c3, c4, c5, c6, c7, c8, c9, c10, c11⟩ := HALL.out _ _ hbn11; have hBx4 := Lib.hid hbn11; clear hg11 ht11 hbn11)
    | (go_at_call 22; (with_reducible refine (HEW.out (2 + (a : Int)) 0 w99).mono ?_); rintro e w12 ⟨rfl, hl12, hg12⟩; have hm12 : w1.heap.size < w99.heap.size := blk_lt hBx4b.out; have hk12 : w.heap.size ≤ w99.heap.size := hF4b.out.size; have hCa12 := Lib.hid (hC4b.out.frame hg12 (fun x => x) (fun x => x)); have hLa12 := Lib.hid hl12; have hBa12 := Lib.hid (hBx4b.out.frame hg12 (fun x => x)); have hFa12 := Lib.hid (hF4b.out.trans hg12); clear hl12 hg12)
    | (go_at_call 13; (with_reducible refine (through_calls (w99.heap.size + 1) _ _ (LM.endWrite (apartC s) (2 + (a : Int)) 0) S4 _ (LC.of hLa12.out hCa12.out) (by first | exact HWO.out _ _ _ | exact HRO.out _ _ | exact HERO.out _ _ | exact HEWO.out _ _)).mono ?_); rw [T5.out, E5.out]; rintro e w13 ⟨rfl, ht13, hg13⟩; have hC5 := Lib.hid ht13.s; have hF5 := Lib.hid (hFa12.out.trans' hg13 (fun k hk hl => by unfold trio at hk; omega)); have hbn13 := hBa12.out.frame hg13 (by unfold trio; omega); clear c0 c1 c2 c3 c4 c5 c6 c7 c8 c9 c10 c11; obtain ⟨c0, c1, c2, c3, c4, c5, c6, c7, c8, c9, c10, c11⟩ := HALL.out _ _ hbn13; have hBx5 := Lib.hid hbn13; clear hg13 ht13 hbn13)
    | (go_at_call 14; (with_reducible refine (HRD.out (2 + (a : Int)) 1 w13).mono ?_); rintro e w14 ⟨rfl, hl14, hg14⟩; have hm14 : w1.heap.size < w13.heap.size := blk_lt hBx5.out; have hk14 : w.heap.size ≤ w13.heap.size := hF5.out.size; have hCa14 := Lib.hid (hC5.out.frame hg14 (fun x => x) (fun x => x)); have hLa14 := Lib.hid hl14; have hBa14 := Lib.hid (hBx5.out.frame hg14 (fun x => x)); have hFa14 := Lib.hid (hF5.out.trans hg14); clear hl14 hg14)
    | (go_at_call 13; (with_reducible refine (through_calls (w13.heap.size + 1) _ _ (LM.read (apartC s) (2 + (a : Int)) 1) S5 _ (LC.of hLa14.out hCa14.out) (by first | exact HWO.out _ _ _ | exact HRO.out _ _ | exact HERO.out _ _ | exact HEWO.out _ _)).mono ?_); rw [T6.out, E6.out]; rintro e w15 ⟨rfl, ht15, hg15⟩; have hC6 := Lib.hid ht15.s; have hF6 := Lib.hid (hFa14.out.trans' hg15 (fun k hk hl => by unfold trio at hk; omega)); have hbn15 := hBa14.out.frame hg15 (by unfold trio; omega); clear c0 c1 c2 c3 c4 c5 c6 c7 c8 c9 c10 c11; obtain ⟨c0, c1, c2, c3, c4, c5, c6, c7, c8, c9, c10, c11⟩ := HALL.out _ _ hbn15; have hBx6 := Lib.hid hbn15; clear hg15 ht15 hbn15)
    | (go_at_call 18; (with_reducible refine (HER.out (2 + (a : Int)) 1 w15).mono ?_); rintro e w16 ⟨rfl, hl16, hg16⟩; have hm16 : w1.heap.size < w15.heap.size := blk_lt hBx6.out; have hk16 : w.heap.size ≤ w15.heap.size := hF6.out.size; have hCa16 := Lib.hid (hC6.out.frame hg16 (fun x => x) (fun x => x)); have hLa16 := Lib.hid hl16; have hBa16 := Lib.hid (hBx6.out.frame hg16 (fun x => x)); have hFa16 := Lib.hid (hF6.out.trans hg16); clear hl16 hg16)
    | (go_at_call 13; (with_reducible refine (through_calls (w15.heap.size + 1) _ _ (LM.endRead (apartC s) (2 + (a : Int)) 1) S6 _ (LC.of hLa16.out hCa16.out) (by first | exact HWO.out _ _ _ | exact HRO.out _ _ | exact HERO.out _ _ | exact HEWO.out _ _)).mono ?_); rw [T7.out, E7.out]; rintro e w17 ⟨rfl, ht17, hg17⟩; have hC7 := Lib.hid ht17.s; have hF7 := Lib.hid (hFa16.out.trans' hg17 (fun k hk hl => by unfold trio at hk; omega)); have hbn17 := hBa16.out.frame hg17 (by unfold trio; omega); clear c0 c1 c2 c3 c4 c5 c6 c7 c8 c9 c10 c11; obtain ⟨c0, c1, c2, c3, c4, c5, c6, c7, c8, c9, c10, c11⟩ := HALL.out _ _ hbn17; have hBx7 := Lib.hid hbn17; clear hg17 ht17 hbn17)
    | (go_at_call 22; (with_reducible refine (HEW.out (2 + (b : Int)) 1 w17).mono ?_); rintro e w18 ⟨rfl, hl18, hg18⟩; have hm18 : w1.heap.size < w17.heap.size := blk_lt hBx7.out; have hk18 : w.heap.size ≤ w17.heap.size := hF7.out.size; have hCa18 := Lib.hid (hC7.out.frame hg18 (fun x => x) (fun x => x)); have hLa18 := Lib.hid hl18; have hBa18 := Lib.hid (hBx7.out.frame hg18 (fun x => x)); have hFa18 := Lib.hid (hF7.out.trans hg18); clear hl18 hg18)
    | (go_at_call 13; (with_reducible refine (through_calls (w17.heap.size + 1) _ _ (LM.endWrite (apartC s) (2 + (b : Int)) 1) S7 _ (LC.of hLa18.out hCa18.out) (by first | exact HWO.out _ _ _ | exact HRO.out _ _ | exact HERO.out _ _ | exact HEWO.out _ _)).mono ?_); rw [T8.out, E8.out]; rintro e w19 ⟨rfl, ht19, hg19⟩; have hC8 := Lib.hid ht19.s; have hF8 := Lib.hid (hFa18.out.trans' hg19 (fun k hk hl => by unfold trio at hk; omega)); have hbn19 := hBa18.out.frame hg19 (by unfold trio; omega); clear c0 c1 c2 c3 c4 c5 c6 c7 c8 c9 c10 c11; obtain ⟨c0, c1, c2, c3, c4, c5, c6, c7, c8, c9, c10, c11⟩ := HALL.out _ _ hbn19; have hBx8 := Lib.hid hbn19; clear hg19 ht19 hbn19)
    | (go_at_call 9; refine (first5_calls w11).mono ?_; rintro e w99 ⟨rfl, hf99⟩; have hC4b := Lib.hid (hC4.out.frame hf99 (fun x => x) (fun x => x)); have hbb := hBx4.out.frame hf99 (fun x => x); have hF4b := Lib.hid (hF4.out.trans hf99); clear c0 c1 c2 c3 c4 c5 c6 c7 c8 c9 c10 c11 hf99; obtain ⟨c0, c1, c2, c3, c4, c5, c6, c7, c8, c9, c10, c11⟩ := HALL.out _ _ hbb; have hBx4b := Lib.hid hbb; clear hbb)
    | (go_at_call 23; (with_reducible refine (HCLEAN.out _ _ _ _ hC8.out TZ.out).mono ?_); rintro e w50 ⟨rfl, hf50⟩))
  go_ret
  exact ⟨rfl, hF8.out.trans hf50⟩
theorem apart_walk (s a b : Int) (w : World) (_ : (Lit.int .i64 s).wf = true) (_ : (Lit.int .i64 a).wf = true) (_ : (Lit.int .i64 b).wf = true) :
    Calls Try.prog 4 #[.int .i64 s, .int .i64 a, .int .i64 b] w fun e w' => e = .returned (.bool true) ∧ Fr (fun _ => False) w w' := by
  by_cases h : s < 2 ∨ 8 < s ∨ a < 0 ∨ s ≤ a ∨ b < 0 ∨ s ≤ b ∨ a = b
  · exact apart_bad s a b w h
  · obtain ⟨s, rfl⟩ := Int.eq_ofNat_of_zero_le (show 0 ≤ s by omega)
    obtain ⟨a, rfl⟩ := Int.eq_ofNat_of_zero_le (show 0 ≤ a by omega)
    obtain ⟨b, rfl⟩ := Int.eq_ofNat_of_zero_le (show 0 ≤ b by omega)
    exact apart_main s a b w (by omega) (by omega) (by omega) (by omega) (by omega)
end Go.Proofs.Yteopldhcmddokaa
