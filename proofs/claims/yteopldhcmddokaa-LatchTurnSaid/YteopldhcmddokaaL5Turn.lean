/- ltklaw5.LatchTurn answers true. -/
import Derived.Test.YteopldhcmddokaaL5Turn0
import Derived.Test.YteopldhcmddokaaL5Clean
namespace Go.Proofs.Yteopldhcmddokaa
open Go.RowKit

set_option maxRecDepth 100000 in
set_option maxHeartbeats 2000000 in
theorem turn_bad (sl : Int) (cn : Bool) (w : World) (h : sl < 0 ∨ 2 < sl) :
    Calls Try.prog 7 #[.int .i64 sl, .bool cn] w fun e w' => e = .returned (.bool true) ∧ Fr (fun _ => False) w w' := by
  have hh : (decide (sl < 0) = true) ∨ (decide (sl < 0) = false ∧ decide (2 < sl) = true) := by simp; omega
  clear h
  rcases hh with d1 | ⟨d1, d2⟩
  all_goals
    go_enter Try.func7, Try.ntmps7
    go_wp2_with (first
      | (go_at_call 9; refine (first5_calls _).mono ?_; rintro e w0 ⟨rfl, hf0⟩))
    all_goals go_ret
    all_goals exact ⟨rfl, by repeat (first | exact Fr.refl _ _ | assumption | refine Fr.trans ?_ (by assumption))⟩

theorem CellsAt.drew5 {w : World} {p ab : Nat} {s : CM} (h : CellsAt w p ab s) : CellsAt w.drew p ab s := ⟨h.len, h.hp, h.ha, h.ne⟩

set_option maxRecDepth 100000 in
set_option maxHeartbeats 4000000 in
set_option linter.unusedVariables false in
theorem turn_main (sl : Nat) (cn : Bool) (w : World) (h0 : sl < 3) :
    Calls Try.prog 7 #[.int .i64 sl, .bool cn] w fun e w' => e = .returned (.bool true) ∧ Fr (fun _ => False) w w' := by
  have hrun := turn_all sl h0
  unfold turnRun at hrun
  dsimp only at hrun
  simp only [Bool.and_eq_true, Bool.not_eq_true'] at hrun
  obtain ⟨t1, t2, t3, t4, t5, t6, t7, t8, t9, tz1, t10, t11, t12, tz2⟩ := hrun
  have HO := Lib.hid (fun (w : World) => (show Calls Try.prog 10 #[.int .i64 2, .int .i64 sl] w fun e w' => e = .returned (.agg #[.int .i64 1, .int .i64 1, .int .i64 1, .int .i64 1, .int .i64 2, .int .i64 sl, .int .i64 1, .int .i64 1, .int .i64 1, .int .i64 0, .int .i64 1, .int .i64 0]) ∧ Fr (fun _ => False) w w' from one_calls 2 sl w))
  have HC := Lib.hid (fun (w : World) => (show Calls Try.prog 12 #[.agg #[.int .i64 1, .int .i64 1, .int .i64 1, .int .i64 1, .int .i64 2, .int .i64 sl, .int .i64 1, .int .i64 1, .int .i64 1, .int .i64 0, .int .i64 1, .int .i64 0]] w fun e w' => e = .returned (.int .i64 (turnC sl).cells) ∧ Fr (fun _ => False) w w' from cells_calls (turnC sl) w))
  have HB := Lib.hid (fun (w : World) => (show BoxConf (w.alloc (.cells #[.int .i64 1, .int .i64 1, .int .i64 1, .int .i64 1, .int .i64 2, .int .i64 sl, .int .i64 1, .int .i64 1, .int .i64 1, .int .i64 0, .int .i64 1, .int .i64 0] 25)) w.heap.size (turnC sl) from BoxConf.mk w (turnC sl)))
  have HALL := Lib.hid (fun (w : World) (b : Nat) (h : BoxConf w b (turnC sl)) => (show w.cell? ⟨b, 0, none⟩ = some (.int .i64 1) ∧ w.cell? ⟨b, 1, none⟩ = some (.int .i64 1) ∧ w.cell? ⟨b, 2, none⟩ = some (.int .i64 1) ∧ w.cell? ⟨b, 3, none⟩ = some (.int .i64 1) ∧ w.cell? ⟨b, 4, none⟩ = some (.int .i64 2) ∧ w.cell? ⟨b, 5, none⟩ = some (.int .i64 sl) ∧ w.cell? ⟨b, 6, none⟩ = some (.int .i64 1) ∧ w.cell? ⟨b, 7, none⟩ = some (.int .i64 1) ∧ w.cell? ⟨b, 8, none⟩ = some (.int .i64 1) ∧ w.cell? ⟨b, 9, none⟩ = some (.int .i64 0) ∧ w.cell? ⟨b, 10, none⟩ = some (.int .i64 1) ∧ w.cell? ⟨b, 11, none⟩ = some (.int .i64 0) from h.all))
  have HNEW := Lib.hid (fun (w : World) => new_calls (turnC sl).cells w (turnC sl).cells_bounds.1 (by have := (turnC sl).cells_bounds.2; omega))
  have HWR := Lib.hid (fun (node th : Int) (rd : Bool) (w : World) => (show Calls Try.prog 15 #[.agg #[.int .i64 1, .int .i64 1, .int .i64 1, .int .i64 1, .int .i64 2, .int .i64 sl, .int .i64 1, .int .i64 1, .int .i64 1, .int .i64 0, .int .i64 1, .int .i64 0], .int .i64 node, .int .i64 th, .bool rd] w fun e w' => e = .returned (.pointer (some ⟨w.heap.size + 1, 0, none⟩)) ∧ LatchAt w' (w.heap.size + 1) (LM.write (turnC sl) node th rd) ∧ Fr (fun _ => False) w w' from write_calls (turnC sl) node th rd w))
  have HRD := Lib.hid (fun (node th : Int) (w : World) => (show Calls Try.prog 14 #[.agg #[.int .i64 1, .int .i64 1, .int .i64 1, .int .i64 1, .int .i64 2, .int .i64 sl, .int .i64 1, .int .i64 1, .int .i64 1, .int .i64 0, .int .i64 1, .int .i64 0], .int .i64 node, .int .i64 th] w fun e w' => e = .returned (.pointer (some ⟨w.heap.size + 1, 0, none⟩)) ∧ LatchAt w' (w.heap.size + 1) (LM.read (turnC sl) node th) ∧ Fr (fun _ => False) w w' from read_calls (turnC sl) node th w))
  have HER := Lib.hid (fun (node th : Int) (w : World) => (show Calls Try.prog 18 #[.agg #[.int .i64 1, .int .i64 1, .int .i64 1, .int .i64 1, .int .i64 2, .int .i64 sl, .int .i64 1, .int .i64 1, .int .i64 1, .int .i64 0, .int .i64 1, .int .i64 0], .int .i64 node, .int .i64 th] w fun e w' => e = .returned (.pointer (some ⟨w.heap.size + 1, 0, none⟩)) ∧ LatchAt w' (w.heap.size + 1) (LM.endRead (turnC sl) node th) ∧ Fr (fun _ => False) w w' from endRead_calls (turnC sl) node th w))
  have HEW := Lib.hid (fun (node th : Int) (w : World) => (show Calls Try.prog 22 #[.agg #[.int .i64 1, .int .i64 1, .int .i64 1, .int .i64 1, .int .i64 2, .int .i64 sl, .int .i64 1, .int .i64 1, .int .i64 1, .int .i64 0, .int .i64 1, .int .i64 0], .int .i64 node, .int .i64 th] w fun e w' => e = .returned (.pointer (some ⟨w.heap.size + 1, 0, none⟩)) ∧ LatchAt w' (w.heap.size + 1) (LM.endWrite (turnC sl) node th) ∧ Fr (fun _ => False) w w' from endWrite_calls (turnC sl) node th w))
  have HCLEAN := Lib.hid (fun (p ab : Nat) (S : CM) (w : World) (h : CellsAt w p ab S) (hz : ∀ k, S.word k = 0) => (show Calls Try.prog 23 #[.agg #[.int .i64 1, .int .i64 1, .int .i64 1, .int .i64 1, .int .i64 2, .int .i64 sl, .int .i64 1, .int .i64 1, .int .i64 1, .int .i64 0, .int .i64 1, .int .i64 0], .pointer (some ⟨p, 0, none⟩)] w fun e w' => e = .returned (.bool true) ∧ Fr (fun _ => False) w w' from clean_calls (turnC sl) p ab S w h hz))
  have HWO : Hid (∀ node th rd, 0 ≤ (LM.write (turnC sl) node th rd).word ∧ (LM.write (turnC sl) node th rd).word ≤ 7) := fun _ _ _ => ⟨by show (0 : Int) ≤ 1; omega, by show (1 : Int) ≤ 7; omega⟩
  have HRO : Hid (∀ node th, 0 ≤ (LM.read (turnC sl) node th).word ∧ (LM.read (turnC sl) node th).word ≤ 7) := fun _ _ => ⟨by show (0 : Int) ≤ 0; omega, by show (0 : Int) ≤ 7; omega⟩
  have HERO : Hid (∀ node th, 0 ≤ (LM.endRead (turnC sl) node th).word ∧ (LM.endRead (turnC sl) node th).word ≤ 7) := fun _ _ => ⟨by show (0 : Int) ≤ 0; omega, by show (0 : Int) ≤ 7; omega⟩
  have HEWO : Hid (∀ node th, 0 ≤ (LM.endWrite (turnC sl) node th).word ∧ (LM.endWrite (turnC sl) node th).word ≤ 7) := fun _ _ => ⟨by show (0 : Int) ≤ 0; omega, by show (0 : Int) ≤ 7; omega⟩
  have d1 : decide ((sl : Int) < 0) = false := by simp
  have d2 : decide ((2 : Int) < sl) = false := by simp; omega
  generalize hS0 : CM.zero (turnC sl).cells.toNat = S0 at *
  generalize hr1 : thru 20 (LM.read (turnC sl) 2 0) S0 = r1 at *
  have T1 := Lib.hid (show (thru 20 (LM.read (turnC sl) 2 0) S0).2.2 = true from by rw [hr1]; exact t1)
  have E1 : Hid ((thru 20 (LM.read (turnC sl) 2 0) S0).2.1 = r1.2.1) := by show _ = _; rw [hr1]
  generalize r1.2.1 = S1 at *
  generalize hr2 : thru 20 (LM.read (turnC sl) 2 1) S1 = r2 at *
  have T2 := Lib.hid (show (thru 20 (LM.read (turnC sl) 2 1) S1).2.2 = true from by rw [hr2]; exact t2)
  have E2 : Hid ((thru 20 (LM.read (turnC sl) 2 1) S1).2.1 = r2.2.1) := by show _ = _; rw [hr2]
  generalize r2.2.1 = S2 at *
  generalize hqq : run2 15 (LM.write (turnC sl) 2 0 true) (LM.write (turnC sl) 2 1 true) S2 = q at *
  obtain ⟨qa, qb, qs⟩ := q
  dsimp only at t3 t4 t5 t6 t7 t8 t9 tz1 t10 t11 t12 tz2
  generalize hr3 : thru 20 (LM.endRead (turnC sl) 2 0) (qa.cancelled.stepS qs) = r3 at *
  have T3 := Lib.hid (show (thru 20 (LM.endRead (turnC sl) 2 0) (qa.cancelled.stepS qs)).2.2 = true from by rw [hr3]; exact t8)
  have E3 : Hid ((thru 20 (LM.endRead (turnC sl) 2 0) (qa.cancelled.stepS qs)).2.1 = r3.2.1) := by show _ = _; rw [hr3]
  generalize r3.2.1 = S3 at *
  generalize hr4 : thru 20 (LM.endRead (turnC sl) 2 1) S3 = r4 at *
  have T4 := Lib.hid (show (thru 20 (LM.endRead (turnC sl) 2 1) S3).2.2 = true from by rw [hr4]; exact t9)
  have E4 : Hid ((thru 20 (LM.endRead (turnC sl) 2 1) S3).2.1 = r4.2.1) := by show _ = _; rw [hr4]
  generalize r4.2.1 = S4 at *
  generalize hr5 : thru 20 (LM.endRead (turnC sl) 2 1) qs = r5 at *
  have T5 := Lib.hid (show (thru 20 (LM.endRead (turnC sl) 2 1) qs).2.2 = true from by rw [hr5]; exact t10)
  have E5 : Hid ((thru 20 (LM.endRead (turnC sl) 2 1) qs).2.1 = r5.2.1) := by show _ = _; rw [hr5]
  generalize r5.2.1 = S5 at *
  generalize hnn : runLM 15 qa S5 = nn at *
  obtain ⟨na, ns⟩ := nn
  dsimp only at t11 t12 tz2
  generalize hr6 : thru 20 (LM.endWrite (turnC sl) 2 0) ns = r6 at *
  have T6 := Lib.hid (show (thru 20 (LM.endWrite (turnC sl) 2 0) ns).2.2 = true from by rw [hr6]; exact t12)
  have E6 : Hid ((thru 20 (LM.endWrite (turnC sl) 2 0) ns).2.1 = r6.2.1) := by show _ = _; rw [hr6]
  generalize r6.2.1 = S6 at *
  have TZ1 := Lib.hid (all_zero tz1)
  have TZ2 := Lib.hid (all_zero tz2)
  have HQ := Lib.hid hqq
  have HNN := Lib.hid hnn
  have X3 := Lib.hid t3
  have X4 := Lib.hid t4
  have X5 := Lib.hid t5
  have X6 := Lib.hid t6
  have X7 := Lib.hid t7
  have X11 := Lib.hid t11
  clear t1 t2 t3 t4 t5 t6 t7 t8 t9 tz1 t10 t11 t12 tz2 hr1 hr2 hr3 hr4 hr5 hr6 hqq hnn hS0
  go_enter Try.func7, Try.ntmps7
  go_upto_region 9 with (first
    | (go_at_call 9; refine (first5_calls w).mono ?_; rintro e w0 ⟨rfl, hf0⟩)
    | (go_at_call 10; (with_reducible refine (HO.out _).mono ?_); rintro e w1 ⟨rfl, hf1⟩; have hb1 := HB.out w1)
    | (go_at_call 12; (with_reducible refine (HC.out _).mono ?_); rintro e w2 ⟨rfl, hf2⟩; have hb2 := hb1.frame hf2 (fun x => x))
    | (go_at_call 11; (with_reducible refine (HNEW.out _).mono ?_); rintro e w3 ⟨rfl, hc3, hf3⟩; have hb := hb2.frame hf3 (fun x => x); obtain ⟨c0, c1, c2, c3, c4, c5, c6, c7, c8, c9, c10, c11⟩ := HALL.out _ _ hb; have hF0 := Lib.hid (((hf0.trans hf1).alloc _ |>.trans hf2).trans hf3); have hq : w.heap.size ≤ w2.heap.size := (((hf0.trans hf1).alloc _).trans hf2).size; have hz : w1.heap.size < w2.heap.size := blk_lt hb2; have hC0 := Lib.hid hc3; have hBx0 := Lib.hid hb; clear hf0 hf1 hf2 hf3 hb1 hb2 hc3 hb)
    | (go_at_call 14; (with_reducible refine (HRD.out 2 0 w3).mono ?_); rintro e w4 ⟨rfl, hl4, hg4⟩; have hm4 : w1.heap.size < w3.heap.size := blk_lt hBx0.out; have hk4 : w.heap.size ≤ w3.heap.size := hF0.out.size; have hCa4 := Lib.hid (hC0.out.frame hg4 (fun x => x) (fun x => x)); have hLa4 := Lib.hid hl4; have hBa4 := Lib.hid (hBx0.out.frame hg4 (fun x => x)); have hFa4 := Lib.hid (hF0.out.trans hg4); clear hl4 hg4)
    | (go_at_call 13; (with_reducible refine (through_calls (w3.heap.size + 1) _ _ (LM.read (turnC sl) 2 0) S0 _ (LC.of hLa4.out hCa4.out) (HRO.out _ _)).mono ?_); rw [T1.out, E1.out]; rintro e w5 ⟨rfl, ht5, hg5⟩; have hC1 := Lib.hid ht5.s; have hF1 := Lib.hid (hFa4.out.trans' hg5 (fun k hk hl => by unfold trio at hk; omega)); have hbn5 := hBa4.out.frame hg5 (by unfold trio; omega); clear c0 c1 c2 c3 c4 c5 c6 c7 c8 c9 c10 c11; obtain ⟨c0, c1, c2, c3, c4, c5, c6, c7, c8, c9, c10, c11⟩ := HALL.out _ _ hbn5; have hBx1 := Lib.hid hbn5; clear hg5 ht5 hbn5)
    | (go_at_call 14; (with_reducible refine (HRD.out 2 1 w5).mono ?_); rintro e w6 ⟨rfl, hl6, hg6⟩; have hm6 : w1.heap.size < w5.heap.size := blk_lt hBx1.out; have hk6 : w.heap.size ≤ w5.heap.size := hF1.out.size; have hCa6 := Lib.hid (hC1.out.frame hg6 (fun x => x) (fun x => x)); have hLa6 := Lib.hid hl6; have hBa6 := Lib.hid (hBx1.out.frame hg6 (fun x => x)); have hFa6 := Lib.hid (hF1.out.trans hg6); clear hl6 hg6)
    | (go_at_call 13; (with_reducible refine (through_calls (w5.heap.size + 1) _ _ (LM.read (turnC sl) 2 1) S1 _ (LC.of hLa6.out hCa6.out) (HRO.out _ _)).mono ?_); rw [T2.out, E2.out]; rintro e w7 ⟨rfl, ht7, hg7⟩; have hC2 := Lib.hid ht7.s; have hF2 := Lib.hid (hFa6.out.trans' hg7 (fun k hk hl => by unfold trio at hk; omega)); have hbn7 := hBa6.out.frame hg7 (by unfold trio; omega); clear c0 c1 c2 c3 c4 c5 c6 c7 c8 c9 c10 c11; obtain ⟨c0, c1, c2, c3, c4, c5, c6, c7, c8, c9, c10, c11⟩ := HALL.out _ _ hbn7; have hBx2 := Lib.hid hbn7; clear hg7 ht7 hbn7))
  have hz7 : w1.heap.size < w7.heap.size := blk_lt hBx2.out
  clear c0 c1 c2 c3 c4 c5 c6 c7 c8 c9 c10 c11
  go_cut [8, 9] (fun v8 v9 wc => ∃ x y : Nat, v8 = .pointer (some ⟨x, 0, none⟩) ∧ v9 = .pointer (some ⟨y, 0, none⟩) ∧ LatchAt wc x (LM.write (turnC sl) 2 0 true) ∧ LatchAt wc y (LM.write (turnC sl) 2 1 true) ∧ x ≠ y ∧ w7.heap.size ≤ x ∧ w7.heap.size ≤ y ∧ Fr (fun _ => False) w7 wc)
  case first =>
    go_region_held3 (fun w' => w'.cell? ⟨w1.heap.size, 0, none⟩ = some (.int .i64 1) ∧ w'.cell? ⟨w1.heap.size, 1, none⟩ = some (.int .i64 1) ∧ w'.cell? ⟨w1.heap.size, 2, none⟩ = some (.int .i64 1) ∧ w'.cell? ⟨w1.heap.size, 3, none⟩ = some (.int .i64 1) ∧ w'.cell? ⟨w1.heap.size, 4, none⟩ = some (.int .i64 2) ∧ w'.cell? ⟨w1.heap.size, 5, none⟩ = some (.int .i64 sl) ∧ w'.cell? ⟨w1.heap.size, 6, none⟩ = some (.int .i64 1) ∧ w'.cell? ⟨w1.heap.size, 7, none⟩ = some (.int .i64 1) ∧ w'.cell? ⟨w1.heap.size, 8, none⟩ = some (.int .i64 1) ∧ w'.cell? ⟨w1.heap.size, 9, none⟩ = some (.int .i64 0) ∧ w'.cell? ⟨w1.heap.size, 10, none⟩ = some (.int .i64 1) ∧ w'.cell? ⟨w1.heap.size, 11, none⟩ = some (.int .i64 0))
      (first | exact HALL.out _ _ hkb | exact HALL.out _ _ hka | exact HALL.out w7.drew _ hBx2.out | exact HALL.out w7 _ hBx2.out | go_keep)
      (first
        | (go_at_call 15; (with_reducible refine (HWR.out 2 0 true _).mono ?_); rintro e wa ⟨rfl, hla, hga⟩; have hka : BoxConf wa w1.heap.size (turnC sl) := (by first | exact BoxConf.frame (w := wb) hkb hga (fun x => x) | exact BoxConf.frame (w := w7.drew) hBx2.out hga (fun x => x)))
        | (go_at_call 15; (with_reducible refine (HWR.out 2 1 true _).mono ?_); rintro e wb ⟨rfl, hlb, hgb⟩; have hkb : BoxConf wb w1.heap.size (turnC sl) := (by first | exact BoxConf.frame (w := wa) hka hgb (fun x => x) | exact BoxConf.frame (w := w7.drew) hBx2.out hgb (fun x => x))))
    all_goals
      go_wp2
      go_meet
      case rel =>
        have h2 := hla.lt
        have h3 : w7.heap.size + 1 < wa.heap.size := h2
        exact ⟨_, _, rfl, rfl, hla.frame hgb (fun x => x), hlb, by omega, by omega, by omega, (((Fr.refl (fun _ => False) w7).drew).trans hga).trans hgb⟩
  case rest =>
    obtain ⟨x, y, rfl, rfl, hA, hBt, hxy, hx, hy, hfw⟩ := hcut
    have hp7 : w2.heap.size + 1 < w7.heap.size := blk_lt hC2.out.hp
    have HA0 := Lib.hid hA
    have HB0 := Lib.hid hBt
    have HC0 := Lib.hid (hC2.out.frame hfw (fun x => x) (fun x => x))
    have HBX := Lib.hid (hBx2.out.frame hfw (fun x => x))
    have HFC := Lib.hid (hF2.out.trans hfw)
    have hwx : w.heap.size ≤ w7.heap.size := hF2.out.size
    clear hA hBt hfw
    go_wp2
    go_loopw [10] (fun v10 wr => ∃ i : Nat, i ≤ 15 ∧ v10 = .int .i64 i ∧ LatchAt wr x (run2 i (LM.write (turnC sl) 2 0 true) (LM.write (turnC sl) 2 1 true) S2).1 ∧ LatchAt wr y (run2 i (LM.write (turnC sl) 2 0 true) (LM.write (turnC sl) 2 1 true) S2).2.1 ∧ CellsAt wr (w2.heap.size + 1) w2.heap.size (run2 i (LM.write (turnC sl) 2 0 true) (LM.write (turnC sl) 2 1 true) S2).2.2 ∧ BoxConf wr w1.heap.size (turnC sl) ∧ Fr (fun _ => False) w wr) (fun v10 _ => 15 - (intOf v10).toNat)
    case atStart => exact ⟨0, by omega, rfl, HA0.out, HB0.out, HC0.out, HBX.out, HFC.out⟩
    case round =>
      obtain ⟨i, hi, rfl, hA, hBt, hC, hBx, hF⟩ := hrel
      have HWD := Lib.hid (run2_word i (LM.write (turnC sl) 2 0 true) (LM.write (turnC sl) 2 1 true) S2 (HWO.out 2 0 true) (HWO.out 2 1 true))
      have HSU := Lib.hid (run2_succ i (LM.write (turnC sl) 2 0 true) (LM.write (turnC sl) 2 1 true) S2)
      have HA := Lib.hid hA
      have HBT := Lib.hid hBt
      have HCC := Lib.hid hC
      have HBB := Lib.hid hBx
      have HF := Lib.hid hF
      clear hA hBt hC hBx hF
      by_cases hlt : i < 15
      · generalize run2 i (LM.write (turnC sl) 2 0 true) (LM.write (turnC sl) 2 1 true) S2 = r at *
        obtain ⟨ra, rb, rs⟩ := r
        dsimp only at *
        go_wp2_with (first
          | (go_at_call 16; (with_reducible refine (step_calls x _ _ ra rs _ (LC.of HA.out HCC.out) HWD.out.1).mono ?_); rintro e wa ⟨rfl, h5, hf5⟩; have hb5 := HBT.out.frame hf5 (by unfold trio; omega); have hbx5 := HBB.out.frame hf5 (by unfold trio; omega))
          | (go_at_call 16; (with_reducible refine (step_calls y _ _ rb (ra.stepS rs) _ (LC.of hb5 h5.s) HWD.out.2).mono ?_); rintro e wb ⟨rfl, h6, hf6⟩; have ha6 := h5.l.frame hf6 (by unfold trio; omega); have hbx6 := hbx5.frame hf6 (by unfold trio; omega)))
        go_roundw
        case rel => exact ⟨i + 1, by omega, by go_num, by rw [HSU.out]; exact ha6, by rw [HSU.out]; exact h6.l, by rw [HSU.out]; exact h6.s, hbx6, (HF.out.trans' hf5 (fun k hk hl => by unfold trio at hk; omega)).trans' hf6 (fun k hk hl => by unfold trio at hk; omega)⟩
        case measure => simp [intOf]; omega
      · obtain rfl : i = 15 := by omega
        have hA := HA.out
        have hBt := HBT.out
        have hC := HCC.out
        have hWD := HWD.out
        rw [HQ.out] at hA hBt hC hWD
        dsimp only at hA hBt hC hWD
        have HA1 := Lib.hid hA
        have HB1 := Lib.hid hBt
        have HC1 := Lib.hid hC
        have HW1 := Lib.hid hWD
        have x3 := X3.out
        have x4 := X4.out
        have x5 := X5.out
        have x6 := X6.out
        have x7 := X7.out
        have x11 := X11.out
        have HBB1 := HBB.out
        obtain ⟨c0, c1, c2, c3, c4, c5, c6, c7, c8, c9, c10, c11⟩ := HALL.out _ _ HBB1
        clear hA hBt hC hWD HA HBT HCC HSU HWD HBB1
        have HCW : Hid (0 ≤ qa.cancelled.word ∧ qa.cancelled.word ≤ 7) := by
          show _ ∧ _
          unfold LM.cancelled
          split
          · exact HW1.out.1
          · split
            · exact HW1.out.1
            · exact HW1.out.1
        have hmr : w1.heap.size < wr.heap.size := blk_lt HBB.out
        have hkr : w.heap.size ≤ wr.heap.size := HF.out.size
        cases cn
        · go_wp2_with (first
            | (go_at_call 17; (with_reducible refine (done_calls x qa _ HA1.out).mono ?_); rintro e w20 ⟨rfl, rfl⟩)
            | (go_at_call 17; (with_reducible refine (done_calls y qb _ HB1.out).mono ?_); rintro e w20 ⟨rfl, rfl⟩)
            | (go_at_call 19; (with_reducible refine (got_calls y qb _ HB1.out).mono ?_); rintro e w20 ⟨rfl, rfl⟩)
            | (go_at_call 18; (with_reducible refine (HER.out 2 1 _).mono ?_); rintro e w30 ⟨rfl, hl30, hg30⟩; have hC30 := Lib.hid (HC1.out.frame hg30 (fun x => x) (fun x => x)); have hB30 := Lib.hid (HBB.out.frame hg30 (fun x => x)); have hA30 := Lib.hid (HA1.out.frame hg30 (fun x => x)); have hF30 := Lib.hid (HF.out.trans hg30); have hxw : x < w20.heap.size := HA1.out.lt)
            | (go_at_call 13; (with_reducible refine (through_calls _ _ _ (LM.endRead (turnC sl) 2 1) qs _ (LC.of hl30 hC30.out) (HERO.out _ _)).mono ?_); rw [T5.out, E5.out]; rintro e w31 ⟨rfl, ht31, hg31⟩))
          have hFr31 : Fr (fun _ => False) w w31 := hF30.out.trans' hg31 (fun k hk hl => by unfold trio at hk; omega)
          have hA31 : LatchAt w31 x qa := hA30.out.frame hg31 (by unfold trio; omega)
          have hB31 : BoxConf w31 w1.heap.size (turnC sl) := hB30.out.frame hg31 (by unfold trio; omega)
          have HA31 := Lib.hid hA31
          have HB31 := Lib.hid hB31
          have HF31 := Lib.hid hFr31
          have HC31 := Lib.hid ht31.s
          clear hFr31 hA31 hB31 ht31 hg31 hl30 hg30 hC30 hB30 hA30 hF30 c0 c1 c2 c3 c4 c5 c6 c7 c8 c9 c10 c11 HA1 HB1 HC1 HBB HF x3 x4 x5 x6 x7
          go_loopw [11] (fun v11 wt => ∃ i : Nat, i ≤ 15 ∧ v11 = .int .i64 i ∧ LatchAt wt x (runLM i qa S5).1 ∧ CellsAt wt (w2.heap.size + 1) w2.heap.size (runLM i qa S5).2 ∧ BoxConf wt w1.heap.size (turnC sl) ∧ Fr (fun _ => False) w wt) (fun v11 _ => 15 - (intOf v11).toNat)
          case atStart => exact ⟨0, by omega, rfl, HA31.out, HC31.out, HB31.out, HF31.out⟩
          case round =>
            obtain ⟨j, hj, rfl, hA, hC, hBx, hF⟩ := hrel
            have HWD := Lib.hid (runLM_word j qa S5 HW1.out.1)
            have HSU := Lib.hid (runLM_succ j qa S5)
            have HA := Lib.hid hA
            have HCC := Lib.hid hC
            have HBB := Lib.hid hBx
            have HF := Lib.hid hF
            clear hA hC hBx hF
            by_cases hlt2 : j < 15
            · generalize runLM j qa S5 = r at *
              obtain ⟨ra, rs⟩ := r
              dsimp only at *
              go_wp2_with (first
                | (go_at_call 16; (with_reducible refine (step_calls x _ _ ra rs _ (LC.of HA.out HCC.out) HWD.out).mono ?_); rintro e wa ⟨rfl, h5, hf5⟩; have hbx5 := HBB.out.frame hf5 (by unfold trio; omega)))
              go_roundw
              case rel => exact ⟨j + 1, by omega, by go_num, by rw [HSU.out]; exact h5.l, by rw [HSU.out]; exact h5.s, hbx5, HF.out.trans' hf5 (fun k hk hl => by unfold trio at hk; omega)⟩
              case measure => simp [intOf]; omega
            · obtain rfl : j = 15 := by omega
              have hA := HA.out
              have hC := HCC.out
              rw [HNN.out] at hA hC
              dsimp only at hA hC
              have HA2 := Lib.hid hA
              have hC40 := Lib.hid hC
              have hBx40 := HBB
              have hF40 := HF
              have hb40 := HBB.out
              obtain ⟨c0, c1, c2, c3, c4, c5, c6, c7, c8, c9, c10, c11⟩ := HALL.out _ _ hb40
              clear hA hC HA HCC HSU HWD HBB HF hb40
              go_wp2_with (first
                | (go_at_call 9; refine (first5_calls wr).mono ?_; rintro e w41 ⟨rfl, hf41⟩; have ha41 := HA2.out.frame hf41 (fun x => x); have hC41 := Lib.hid (hC40.out.frame hf41 (fun x => x) (fun x => x)); have hb41 := hBx40.out.frame hf41 (fun x => x); have hF41 := Lib.hid (hF40.out.trans hf41); clear c0 c1 c2 c3 c4 c5 c6 c7 c8 c9 c10 c11 hf41; obtain ⟨c0, c1, c2, c3, c4, c5, c6, c7, c8, c9, c10, c11⟩ := HALL.out _ _ hb41; have hBx41 := Lib.hid hb41; clear hb41)
                | (go_at_call 19; (with_reducible refine (got_calls x na _ ha41).mono ?_); rintro e w42 ⟨rfl, rfl⟩)
                | (go_at_call 22; (with_reducible refine (HEW.out 2 0 w42).mono ?_); rintro e w43 ⟨rfl, hl43, hg43⟩; have hm43 : w1.heap.size < w42.heap.size := blk_lt hBx41.out; have hk43 : w.heap.size ≤ w42.heap.size := hF41.out.size; have hCa43 := Lib.hid (hC41.out.frame hg43 (fun x => x) (fun x => x)); have hLa43 := Lib.hid hl43; have hBa43 := Lib.hid (hBx41.out.frame hg43 (fun x => x)); have hFa43 := Lib.hid (hF41.out.trans hg43); clear hl43 hg43)
                | (go_at_call 13; (with_reducible refine (through_calls (w42.heap.size + 1) _ _ (LM.endWrite (turnC sl) 2 0) ns _ (LC.of hLa43.out hCa43.out) (HEWO.out _ _)).mono ?_); rw [T6.out, E6.out]; rintro e w44 ⟨rfl, ht44, hg44⟩; have hC44 := Lib.hid ht44.s; have hF44 := Lib.hid (hFa43.out.trans' hg44 (fun k hk hl => by unfold trio at hk; omega)); have hbn44 := hBa43.out.frame hg44 (by unfold trio; omega); clear c0 c1 c2 c3 c4 c5 c6 c7 c8 c9 c10 c11; obtain ⟨c0, c1, c2, c3, c4, c5, c6, c7, c8, c9, c10, c11⟩ := HALL.out _ _ hbn44; have hBx44 := Lib.hid hbn44; clear hg44 ht44 hbn44)
                | (go_at_call 23; (with_reducible refine (HCLEAN.out _ _ _ _ hC44.out TZ2.out).mono ?_); rintro e w50 ⟨rfl, hf50⟩))
              go_ret
              exact ⟨rfl, hF44.out.trans hf50⟩
        · go_wp2_with (first
            | (go_at_call 17; (with_reducible refine (done_calls x qa _ HA1.out).mono ?_); rintro e w20 ⟨rfl, rfl⟩)
            | (go_at_call 17; (with_reducible refine (done_calls y qb _ HB1.out).mono ?_); rintro e w20 ⟨rfl, rfl⟩)
            | (go_at_call 19; (with_reducible refine (got_calls y qb _ HB1.out).mono ?_); rintro e w20 ⟨rfl, rfl⟩)
            | (go_at_call 27; (with_reducible refine (cancel_calls x qa _ HA1.out).mono ?_); rintro e w21 ⟨rfl, hl21, hg21⟩; have hC21 := HC1.out.frame hg21 (by unfold lone1; omega) (by unfold lone1; omega); have hB21 := HBB.out.frame hg21 (by unfold lone1; omega); have hF21 := Lib.hid (HF.out.trans' hg21 (fun k hk hl => by unfold lone1 at hk; omega)))
            | (go_at_call 9; refine (first5_calls w21).mono ?_; rintro e w22 ⟨rfl, hf22⟩; have hl22 := hl21.frame hf22 (fun x => x); have hC22 := hC21.frame hf22 (fun x => x) (fun x => x); have hB22 := hB21.frame hf22 (fun x => x); have hF22 := Lib.hid (hF21.out.trans hf22))
            | (go_at_call 16; (with_reducible refine (step_calls x _ _ qa.cancelled qs _ (LC.of hl22 hC22) HCW.out).mono ?_); rintro e w23 ⟨rfl, h23, hf23⟩; have hl23 := h23.l; have hC23 := Lib.hid h23.s; have hb23 := hB22.frame hf23 (by unfold trio; omega); have hF23 := Lib.hid (hF22.out.trans' hf23 (fun k hk hl => by unfold trio at hk; omega)); clear c0 c1 c2 c3 c4 c5 c6 c7 c8 c9 c10 c11; obtain ⟨c0, c1, c2, c3, c4, c5, c6, c7, c8, c9, c10, c11⟩ := HALL.out _ _ hb23; have hBx23 := Lib.hid hb23)
            | (go_at_call 19; (with_reducible refine (got_calls x _ _ hl23).mono ?_); rintro e w24 ⟨rfl, rfl⟩)
            | (go_at_call 18; (with_reducible refine (HER.out 2 0 w24).mono ?_); rintro e w25 ⟨rfl, hl25, hg25⟩; have hm25 : w1.heap.size < w24.heap.size := blk_lt hBx23.out; have hk25 : w.heap.size ≤ w24.heap.size := hF23.out.size; have hCa25 := Lib.hid (hC23.out.frame hg25 (fun x => x) (fun x => x)); have hLa25 := Lib.hid hl25; have hBa25 := Lib.hid (hBx23.out.frame hg25 (fun x => x)); have hFa25 := Lib.hid (hF23.out.trans hg25); clear hl25 hg25)
            | (go_at_call 13; (with_reducible refine (through_calls (w24.heap.size + 1) _ _ (LM.endRead (turnC sl) 2 0) (qa.cancelled.stepS qs) _ (LC.of hLa25.out hCa25.out) (HERO.out _ _)).mono ?_); rw [T3.out, E3.out]; rintro e w26 ⟨rfl, ht26, hg26⟩; have hC26 := Lib.hid ht26.s; have hF26 := Lib.hid (hFa25.out.trans' hg26 (fun k hk hl => by unfold trio at hk; omega)); have hbn26 := hBa25.out.frame hg26 (by unfold trio; omega); clear c0 c1 c2 c3 c4 c5 c6 c7 c8 c9 c10 c11; obtain ⟨c0, c1, c2, c3, c4, c5, c6, c7, c8, c9, c10, c11⟩ := HALL.out _ _ hbn26; have hBx26 := Lib.hid hbn26; clear hg26 ht26 hbn26)
            | (go_at_call 18; (with_reducible refine (HER.out 2 1 w26).mono ?_); rintro e w27 ⟨rfl, hl27, hg27⟩; have hm27 : w1.heap.size < w26.heap.size := blk_lt hBx26.out; have hk27 : w.heap.size ≤ w26.heap.size := hF26.out.size; have hCa27 := Lib.hid (hC26.out.frame hg27 (fun x => x) (fun x => x)); have hLa27 := Lib.hid hl27; have hBa27 := Lib.hid (hBx26.out.frame hg27 (fun x => x)); have hFa27 := Lib.hid (hF26.out.trans hg27); clear hl27 hg27)
            | (go_at_call 13; (with_reducible refine (through_calls (w26.heap.size + 1) _ _ (LM.endRead (turnC sl) 2 1) S3 _ (LC.of hLa27.out hCa27.out) (HERO.out _ _)).mono ?_); rw [T4.out, E4.out]; rintro e w28 ⟨rfl, ht28, hg28⟩; have hC28 := Lib.hid ht28.s; have hF28 := Lib.hid (hFa27.out.trans' hg28 (fun k hk hl => by unfold trio at hk; omega)); have hbn28 := hBa27.out.frame hg28 (by unfold trio; omega); clear c0 c1 c2 c3 c4 c5 c6 c7 c8 c9 c10 c11; obtain ⟨c0, c1, c2, c3, c4, c5, c6, c7, c8, c9, c10, c11⟩ := HALL.out _ _ hbn28; have hBx28 := Lib.hid hbn28; clear hg28 ht28 hbn28)
            | (go_at_call 23; (with_reducible refine (HCLEAN.out _ _ _ _ hC28.out TZ1.out).mono ?_); rintro e w50 ⟨rfl, hf50⟩))
          go_ret
          exact ⟨rfl, hF28.out.trans hf50⟩
theorem turn_walk (sl : Int) (cn : Bool) (w : World) (_ : (Lit.int .i64 sl).wf = true) :
    Calls Try.prog 7 #[.int .i64 sl, .bool cn] w fun e w' => e = .returned (.bool true) ∧ Fr (fun _ => False) w w' := by
  by_cases h : sl < 0 ∨ 2 < sl
  · exact turn_bad sl cn w h
  · obtain ⟨sl, rfl⟩ := Int.eq_ofNat_of_zero_le (show 0 ≤ sl by omega)
    exact turn_main sl cn w (by omega)
end Go.Proofs.Yteopldhcmddokaa
