/- ltklaw5.LatchSteps answers true. -/
import Derived.Test.YteopldhcmddokaaL5Steps0
import Derived.Test.YteopldhcmddokaaL5Clean
import Derived.Test.YteopldhcmddokaaOpen
namespace Go.Proofs.Yteopldhcmddokaa
open Go.RowKit

set_option maxRecDepth 100000 in
set_option maxHeartbeats 2000000 in
theorem steps_bad (sl th : Int) (w : World) (h : sl < 0 ∨ 4 < sl ∨ th < 0 ∨ 3 < th) :
    Calls Try.prog 5 #[.int .i64 sl, .int .i64 th] w fun e w' => e = .returned (.bool true) ∧ Fr (fun _ => False) w w' := by
  have hh : (decide (sl < 0) = true) ∨ (decide (sl < 0) = false ∧ decide (4 < sl) = true) ∨ (decide (sl < 0) = false ∧ decide (4 < sl) = false ∧ decide (th < 0) = true) ∨ (decide (sl < 0) = false ∧ decide (4 < sl) = false ∧ decide (th < 0) = false ∧ decide (3 < th) = true) := by simp; omega
  clear h
  rcases hh with d1 | ⟨d1, d2⟩ | ⟨d1, d2, d3⟩ | ⟨d1, d2, d3, d4⟩
  all_goals
    go_enter Try.func5, Try.ntmps5
    go_wp2_with (first
      | (go_at_call 9; refine (first5_calls _).mono ?_; rintro e w0 ⟨rfl, hf0⟩))
    all_goals go_ret
    all_goals exact ⟨rfl, by repeat (first | exact Fr.refl _ _ | assumption | refine Fr.trans ?_ (by assumption))⟩

/-- Where the latches lie. -/
def five (x0 x1 x2 x3 x4 : Nat) (i : Nat) : Nat := [x0, x1, x2, x3, x4].getD i 0
theorem five_lt {x0 x1 x2 x3 x4 : Nat} (h1 : x0 < x1) (h2 : x1 < x2) (h3 : x2 < x3) (h4 : x3 < x4) : ∀ i j, i < j → j < 5 → five x0 x1 x2 x3 x4 i < five x0 x1 x2 x3 x4 j := by
  intro i j hij hj
  have hj' : j = 1 ∨ j = 2 ∨ j = 3 ∨ j = 4 := by omega
  have hi' : i = 0 ∨ i = 1 ∨ i = 2 ∨ i = 3 := by omega
  unfold five
  rcases hj' with rfl | rfl | rfl | rfl <;> rcases hi' with rfl | rfl | rfl | rfl <;> simp <;> omega
theorem five_ge {x0 x1 x2 x3 x4 B : Nat} (h0 : B ≤ x0) (h1 : x0 < x1) (h2 : x1 < x2) (h3 : x2 < x3) (h4 : x3 < x4) : ∀ i, i < 5 → B ≤ five x0 x1 x2 x3 x4 i ∧ five x0 x1 x2 x3 x4 i ≤ x4 := by
  intro i hi
  have hi' : i = 0 ∨ i = 1 ∨ i = 2 ∨ i = 3 ∨ i = 4 := by omega
  unfold five
  rcases hi' with rfl | rfl | rfl | rfl | rfl <;> simp <;> omega

set_option maxRecDepth 100000 in
set_option maxHeartbeats 4000000 in
set_option linter.unusedVariables false in
theorem steps_main (sl th : Nat) (w : World) (h0 : sl < 5) (h1 : th < 4) :
    Calls Try.prog 5 #[.int .i64 sl, .int .i64 th] w fun e w' => e = .returned (.bool true) ∧ Fr (fun _ => False) w w' := by
  have HALLS := Lib.hid (steps_all sl h0 th h1)
  have TZ := Lib.hid (all_zero (steps_all sl h0 th h1).2)
  have HO := Lib.hid (fun (w : World) => (show Calls Try.prog 10 #[.int .i64 4, .int .i64 sl] w fun e w' => e = .returned (.agg #[.int .i64 1, .int .i64 1, .int .i64 1, .int .i64 1, .int .i64 4, .int .i64 sl, .int .i64 1, .int .i64 1, .int .i64 1, .int .i64 0, .int .i64 1, .int .i64 0]) ∧ Fr (fun _ => False) w w' from one_calls 4 sl w))
  have HC := Lib.hid (fun (w : World) => (show Calls Try.prog 12 #[.agg #[.int .i64 1, .int .i64 1, .int .i64 1, .int .i64 1, .int .i64 4, .int .i64 sl, .int .i64 1, .int .i64 1, .int .i64 1, .int .i64 0, .int .i64 1, .int .i64 0]] w fun e w' => e = .returned (.int .i64 (stepsC sl).cells) ∧ Fr (fun _ => False) w w' from cells_calls (stepsC sl) w))
  have HB := Lib.hid (fun (w : World) => (show BoxConf (w.alloc (.cells #[.int .i64 1, .int .i64 1, .int .i64 1, .int .i64 1, .int .i64 4, .int .i64 sl, .int .i64 1, .int .i64 1, .int .i64 1, .int .i64 0, .int .i64 1, .int .i64 0] 25)) w.heap.size (stepsC sl) from BoxConf.mk w (stepsC sl)))
  have HALL := Lib.hid (fun (w : World) (b : Nat) (h : BoxConf w b (stepsC sl)) => (show w.cell? ⟨b, 0, none⟩ = some (.int .i64 1) ∧ w.cell? ⟨b, 1, none⟩ = some (.int .i64 1) ∧ w.cell? ⟨b, 2, none⟩ = some (.int .i64 1) ∧ w.cell? ⟨b, 3, none⟩ = some (.int .i64 1) ∧ w.cell? ⟨b, 4, none⟩ = some (.int .i64 4) ∧ w.cell? ⟨b, 5, none⟩ = some (.int .i64 sl) ∧ w.cell? ⟨b, 6, none⟩ = some (.int .i64 1) ∧ w.cell? ⟨b, 7, none⟩ = some (.int .i64 1) ∧ w.cell? ⟨b, 8, none⟩ = some (.int .i64 1) ∧ w.cell? ⟨b, 9, none⟩ = some (.int .i64 0) ∧ w.cell? ⟨b, 10, none⟩ = some (.int .i64 1) ∧ w.cell? ⟨b, 11, none⟩ = some (.int .i64 0) from h.all))
  have HNEW := Lib.hid (fun (w : World) => new_calls (stepsC sl).cells w (stepsC sl).cells_bounds.1 (by have := (stepsC sl).cells_bounds.2; omega))
  have HWR := Lib.hid (fun (node th : Int) (rd : Bool) (w : World) => (show Calls Try.prog 15 #[.agg #[.int .i64 1, .int .i64 1, .int .i64 1, .int .i64 1, .int .i64 4, .int .i64 sl, .int .i64 1, .int .i64 1, .int .i64 1, .int .i64 0, .int .i64 1, .int .i64 0], .int .i64 node, .int .i64 th, .bool rd] w fun e w' => e = .returned (.pointer (some ⟨w.heap.size + 1, 0, none⟩)) ∧ LatchAt w' (w.heap.size + 1) (LM.write (stepsC sl) node th rd) ∧ Fr (fun _ => False) w w' from write_calls (stepsC sl) node th rd w))
  have HRD := Lib.hid (fun (node th : Int) (w : World) => (show Calls Try.prog 14 #[.agg #[.int .i64 1, .int .i64 1, .int .i64 1, .int .i64 1, .int .i64 4, .int .i64 sl, .int .i64 1, .int .i64 1, .int .i64 1, .int .i64 0, .int .i64 1, .int .i64 0], .int .i64 node, .int .i64 th] w fun e w' => e = .returned (.pointer (some ⟨w.heap.size + 1, 0, none⟩)) ∧ LatchAt w' (w.heap.size + 1) (LM.read (stepsC sl) node th) ∧ Fr (fun _ => False) w w' from read_calls (stepsC sl) node th w))
  have HER := Lib.hid (fun (node th : Int) (w : World) => (show Calls Try.prog 18 #[.agg #[.int .i64 1, .int .i64 1, .int .i64 1, .int .i64 1, .int .i64 4, .int .i64 sl, .int .i64 1, .int .i64 1, .int .i64 1, .int .i64 0, .int .i64 1, .int .i64 0], .int .i64 node, .int .i64 th] w fun e w' => e = .returned (.pointer (some ⟨w.heap.size + 1, 0, none⟩)) ∧ LatchAt w' (w.heap.size + 1) (LM.endRead (stepsC sl) node th) ∧ Fr (fun _ => False) w w' from endRead_calls (stepsC sl) node th w))
  have HEW := Lib.hid (fun (node th : Int) (w : World) => (show Calls Try.prog 22 #[.agg #[.int .i64 1, .int .i64 1, .int .i64 1, .int .i64 1, .int .i64 4, .int .i64 sl, .int .i64 1, .int .i64 1, .int .i64 1, .int .i64 0, .int .i64 1, .int .i64 0], .int .i64 node, .int .i64 th] w fun e w' => e = .returned (.pointer (some ⟨w.heap.size + 1, 0, none⟩)) ∧ LatchAt w' (w.heap.size + 1) (LM.endWrite (stepsC sl) node th) ∧ Fr (fun _ => False) w w' from endWrite_calls (stepsC sl) node th w))
  have HCLEAN := Lib.hid (fun (p ab : Nat) (S : CM) (w : World) (h : CellsAt w p ab S) (hz : ∀ k, S.word k = 0) => (show Calls Try.prog 23 #[.agg #[.int .i64 1, .int .i64 1, .int .i64 1, .int .i64 1, .int .i64 4, .int .i64 sl, .int .i64 1, .int .i64 1, .int .i64 1, .int .i64 0, .int .i64 1, .int .i64 0], .pointer (some ⟨p, 0, none⟩)] w fun e w' => e = .returned (.bool true) ∧ Fr (fun _ => False) w w' from clean_calls (stepsC sl) p ab S w h hz))
  have d1 : decide ((sl : Int) < 0) = false := by simp
  have d2 : decide ((4 : Int) < sl) = false := by simp; omega
  have d3 : decide ((th : Int) < 0) = false := by simp
  have d4 : decide ((3 : Int) < th) = false := by simp; omega
  go_enter Try.func5, Try.ntmps5
  go_upto_region 9 with (first
    | (go_at_call 9; refine (first5_calls w).mono ?_; rintro e w0 ⟨rfl, hf0⟩)
    | (go_at_call 10; (with_reducible refine (HO.out _).mono ?_); rintro e w1 ⟨rfl, hf1⟩; have hb1 := HB.out w1)
    | (go_at_call 12; (with_reducible refine (HC.out _).mono ?_); rintro e w2 ⟨rfl, hf2⟩; have hb2 := hb1.frame hf2 (fun x => x))
    | (go_at_call 11; (with_reducible refine (HNEW.out _).mono ?_); rintro e w3 ⟨rfl, hc3, hf3⟩; have hb := hb2.frame hf3 (fun x => x); have hF0 := Lib.hid (((hf0.trans hf1).alloc _ |>.trans hf2).trans hf3); have hq : w.heap.size ≤ w2.heap.size := (((hf0.trans hf1).alloc _).trans hf2).size; have hz : w1.heap.size < w2.heap.size := blk_lt hb2; have hp3 : w2.heap.size + 1 < w3.heap.size := blk_lt hc3.hp; have hC0 := Lib.hid hc3; have hBx0 := Lib.hid hb; clear hf0 hf1 hf2 hf3 hb1 hb2 hc3 hb))
  go_cut [8] (fun v8 wc => ∃ x0 x1 x2 x3 x4 ba : Nat, v8 = .slice (some ⟨ba, 0, none⟩) 5 5 ∧ (w3.heap.size ≤ x0 ∧ x0 < x1 ∧ x1 < x2 ∧ x2 < x3 ∧ x3 < x4 ∧ x4 < ba) ∧ (∀ i, i < 5 → LatchAt wc (five x0 x1 x2 x3 x4 i) (stepsL sl th i)) ∧ (∀ i, i < 5 → wc.cell? ⟨ba, i, none⟩ = some (.pointer (some ⟨five x0 x1 x2 x3 x4 i, 0, none⟩))) ∧ ba < wc.heap.size ∧ Fr (fun _ => False) w3 wc)
  case first =>
    go_region_held3 (fun w' => w'.cell? ⟨w1.heap.size, 0, none⟩ = some (.int .i64 1) ∧ w'.cell? ⟨w1.heap.size, 1, none⟩ = some (.int .i64 1) ∧ w'.cell? ⟨w1.heap.size, 2, none⟩ = some (.int .i64 1) ∧ w'.cell? ⟨w1.heap.size, 3, none⟩ = some (.int .i64 1) ∧ w'.cell? ⟨w1.heap.size, 4, none⟩ = some (.int .i64 4) ∧ w'.cell? ⟨w1.heap.size, 5, none⟩ = some (.int .i64 sl) ∧ w'.cell? ⟨w1.heap.size, 6, none⟩ = some (.int .i64 1) ∧ w'.cell? ⟨w1.heap.size, 7, none⟩ = some (.int .i64 1) ∧ w'.cell? ⟨w1.heap.size, 8, none⟩ = some (.int .i64 1) ∧ w'.cell? ⟨w1.heap.size, 9, none⟩ = some (.int .i64 0) ∧ w'.cell? ⟨w1.heap.size, 10, none⟩ = some (.int .i64 1) ∧ w'.cell? ⟨w1.heap.size, 11, none⟩ = some (.int .i64 0))
      (first | exact HALL.out _ _ hb8 | exact HALL.out _ _ hb7 | exact HALL.out _ _ hb6 | exact HALL.out _ _ hb5 | exact HALL.out _ _ hb4 | exact HALL.out w3.drew _ hBx0.out | exact HALL.out w3 _ hBx0.out | go_keep)
      (first
        | (go_at_call 14; (with_reducible refine (HRD.out 2 th w3.drew).mono ?_); rintro e w4 ⟨rfl, hl4, hg4⟩; have hb4 : BoxConf w4 w1.heap.size (stepsC sl) := BoxConf.frame (w := w3.drew) hBx0.out hg4 (fun x => x))
        | (go_at_call 15; (with_reducible refine (HWR.out 2 th true _).mono ?_); rintro e w5 ⟨rfl, hl5, hg5⟩; have hb5 : BoxConf w5 w1.heap.size (stepsC sl) := BoxConf.frame (w := w4) hb4 hg5 (fun x => x))
        | (go_at_call 22; (with_reducible refine (HEW.out 2 th _).mono ?_); rintro e w6 ⟨rfl, hl6, hg6⟩; have hb6 : BoxConf w6 w1.heap.size (stepsC sl) := BoxConf.frame (w := w5) hb5 hg6 (fun x => x))
        | (go_at_call 14; (with_reducible refine (HRD.out 2 th w6).mono ?_); rintro e w7 ⟨rfl, hl7, hg7⟩; have hb7 : BoxConf w7 w1.heap.size (stepsC sl) := BoxConf.frame (w := w6) hb6 hg7 (fun x => x))
        | (go_at_call 18; (with_reducible refine (HER.out 2 th _).mono ?_); rintro e w8 ⟨rfl, hl8, hg8⟩; have hb8 : BoxConf w8 w1.heap.size (stepsC sl) := BoxConf.frame (w := w7) hb7 hg8 (fun x => x)))
    all_goals
      go_wp2
      go_meet
      case rel =>
        have z4 : w3.heap.size + 1 < w4.heap.size := hl4.lt
        have z5 : w4.heap.size + 1 < w5.heap.size := hl5.lt
        have z6 : w5.heap.size + 1 < w6.heap.size := hl6.lt
        have z7 : w6.heap.size + 1 < w7.heap.size := hl7.lt
        have z8 : w7.heap.size + 1 < w8.heap.size := hl8.lt
        have hgz := (Fr.refl (fun _ => False) w8).alloc (.cells #[.pointer (some ⟨w3.heap.size + 1, 0, none⟩), .pointer (some ⟨w4.heap.size + 1, 0, none⟩), .pointer (some ⟨w5.heap.size + 1, 0, none⟩), .pointer (some ⟨w6.heap.size + 1, 0, none⟩), .pointer (some ⟨w7.heap.size + 1, 0, none⟩)] 33)
        refine ⟨w3.heap.size + 1, w4.heap.size + 1, w5.heap.size + 1, w6.heap.size + 1, w7.heap.size + 1, w8.heap.size, rfl, ⟨by omega, by omega, by omega, by omega, by omega, by omega⟩, fun i hi => ?_, fun i hi => ?_, ?_, ?_⟩
        · have hi' : i = 0 ∨ i = 1 ∨ i = 2 ∨ i = 3 ∨ i = 4 := by omega
          rcases hi' with rfl | rfl | rfl | rfl | rfl
          · exact ((((hl4.frame hg5 (fun x => x)).frame hg6 (fun x => x)).frame hg7 (fun x => x)).frame hg8 (fun x => x)).frame hgz (fun x => x)
          · exact (((hl5.frame hg6 (fun x => x)).frame hg7 (fun x => x)).frame hg8 (fun x => x)).frame hgz (fun x => x)
          · exact ((hl6.frame hg7 (fun x => x)).frame hg8 (fun x => x)).frame hgz (fun x => x)
          · exact (hl7.frame hg8 (fun x => x)).frame hgz (fun x => x)
          · exact hl8.frame hgz (fun x => x)
        · rw [blk_cell (heap_alloc_new w8 _)]
          have hi' : i = 0 ∨ i = 1 ∨ i = 2 ∨ i = 3 ∨ i = 4 := by omega
          rcases hi' with rfl | rfl | rfl | rfl | rfl <;> rfl
        · simp
        · exact ((((((Fr.refl (fun _ => False) w3).drew.trans hg4).trans hg5).trans hg6).trans hg7).trans hg8).trans hgz
  case rest =>
    obtain ⟨x0, x1, x2, x3, x4, ba, rfl, ⟨y0, y1, y2, y3, y4, y5⟩, hLs, hPs, hba, hfw⟩ := hcut
    have hLT := Lib.hid (five_lt y1 y2 y3 y4)
    have hGE := Lib.hid (five_ge y0 y1 y2 y3 y4)
    have hXB : Hid (∀ i, i < 5 → five x0 x1 x2 x3 x4 i < ba) := fun i hi => by have := hGE.out i hi; omega
    generalize five x0 x1 x2 x3 x4 = X at *
    have HC0 := Lib.hid (hC0.out.frame hfw (fun x => x) (fun x => x))
    have HBX := Lib.hid (hBx0.out.frame hfw (fun x => x))
    have HFC := Lib.hid (hF0.out.trans hfw)
    have HLS := Lib.hid hLs
    have HPS := Lib.hid hPs
    have hw3 : w.heap.size ≤ w3.heap.size := hF0.out.size
    clear hLs hPs hfw y0 y1 y2 y3 y4 y5 hC0 hBx0
    go_wp2
    have hgd := (Fr.refl (fun _ => False) wc).alloc (.cells #[.int .i64 2, .int .i64 9, .int .i64 1, .int .i64 2, .int .i64 1] 3)
    have hWs : ∀ i, i < 5 → (wc.alloc (.cells #[.int .i64 2, .int .i64 9, .int .i64 1, .int .i64 2, .int .i64 1] 3)).cell? ⟨wc.heap.size, i, none⟩ = some (.int .i64 (stepsK i)) := fun i hi => by
      rw [blk_cell (heap_alloc_new wc _)]
      have hi' : i = 0 ∨ i = 1 ∨ i = 2 ∨ i = 3 ∨ i = 4 := by omega
      rcases hi' with rfl | rfl | rfl | rfl | rfl <;> rfl
    have HWS := Lib.hid hWs
    have HC1 := Lib.hid (HC0.out.frame hgd (fun x => x) (fun x => x))
    have HBX1 := Lib.hid (HBX.out.frame hgd (fun x => x))
    have HLS1 := Lib.hid (fun i hi => (HLS.out i hi).frame hgd (fun x => x))
    have HPS1 := Lib.hid (fun i hi => hgd.cell (HPS.out i hi) (fun x => x))
    have HFD := Lib.hid (HFC.out.trans hgd)
    have hsd : wc.heap.size < (wc.alloc (.cells #[.int .i64 2, .int .i64 9, .int .i64 1, .int .i64 2, .int .i64 1] 3)).heap.size := by simp
    generalize hwd : wc.alloc (.cells #[.int .i64 2, .int .i64 9, .int .i64 1, .int .i64 2, .int .i64 1] 3) = wd at *
    clear hWs hgd hwd HC0 HBX HLS HPS HFC
    go_loopw [10, 11] (fun v10 v11 wr => ∃ i : Nat, i ≤ 5 ∧ v11 = .int .i64 i ∧ v10 = .int .i64 (stepsT i) ∧ CellsAt wr (w2.heap.size + 1) w2.heap.size (stepsS sl th i) ∧ (∀ j, i ≤ j → j < 5 → LatchAt wr (X j) (stepsL sl th j)) ∧ Fr (fun k => w2.heap.size ≤ k ∧ k < ba) wd wr) (fun _ v11 _ => 5 - (intOf v11).toNat)
    case atStart => exact ⟨0, by omega, rfl, rfl, HC1.out, fun j _ hj => HLS1.out j hj, Fr.refl _ _⟩
    case round =>
      obtain ⟨i, hi, rfl, rfl, hC, hLr, hF⟩ := hrel
      have HC := Lib.hid hC
      have HLR := Lib.hid hLr
      have HF := Lib.hid hF
      clear hC hLr hF
      by_cases hlt : i < 5
      · have hAi := (HALLS.out.1 i hlt)
        have HK1 := Lib.hid hAi.1
        have HGOT := Lib.hid hAi.2.1
        have HSTP := Lib.hid hAi.2.2.1
        have HCNT := Lib.hid hAi.2.2.2
        have HSN : Hid (stepsS sl th (i + 1) = (runLM (stepsK i) (stepsL sl th i) (stepsS sl th i)).2) := rfl
        have HTN : Hid (stepsT (i + 1) = stepsT i + stepsK i) := rfl
        have HWD0 := Lib.hid (stepsL_word sl th i)
        have HL0 := Lib.hid (HLR.out i (Nat.le_refl i) hlt)
        have hi0 : (0 : Int) ≤ (i : Int) := by omega
        have hi5 : (i : Int) < 5 := by omega
        have xg := hGE.out i hlt
        have xb := hXB.out i hlt
        have cp := HF.out.cell (HPS1.out i hlt) (by show ¬ (w2.heap.size ≤ ba ∧ ba < ba); omega)
        have cw := HF.out.cell (HWS.out i hlt) (by show ¬ (w2.heap.size ≤ wc.heap.size ∧ wc.heap.size < ba); omega)
        have HNE : Hid (∀ j, i < j → j < 5 → X j ≠ X i) := fun j hij hj => by have := hLT.out i j hij hj; omega
        have HKB : Hid (stepsK i ≤ 9 ∧ stepsT i ≤ 100) := by
          have hi' : i = 0 ∨ i = 1 ∨ i = 2 ∨ i = 3 ∨ i = 4 := by omega
          rcases hi' with rfl | rfl | rfl | rfl | rfl <;> (show _ ∧ _; decide)
        have hk9 := HKB.out.1
        have ht9 := HKB.out.2
        clear hAi
        generalize stepsL sl th i = L0 at *
        generalize stepsS sl th i = S0 at *
        generalize hKK : stepsK i = K at *
        generalize hTT : stepsT i = T at *
        generalize hXX : X i = x at *
        have HXX := Lib.hid hXX
        have HKK := Lib.hid hKK
        clear hKK hTT hXX
        go_wp2
        go_loopw [12] (fun v12 wt => ∃ k : Nat, k ≤ K ∧ v12 = .int .i64 k ∧ LC wt x (w2.heap.size + 1) w2.heap.size (runLM k L0 S0).1 (runLM k L0 S0).2 ∧ (∀ j, i < j → j < 5 → LatchAt wt (X j) (stepsL sl th j)) ∧ Fr (fun k => w2.heap.size ≤ k ∧ k < ba) wr wt) (fun v12 _ => K - (intOf v12).toNat)
        case atStart => exact ⟨0, by omega, rfl, LC.of HL0.out HC.out, fun j hij hj => HLR.out j (Nat.le_of_lt hij) hj, Fr.refl _ _⟩
        case round =>
          obtain ⟨k, hk, rfl, hlc, hLr, hF⟩ := hrel
          have HLC := Lib.hid hlc
          have HLR2 := Lib.hid hLr
          have HF2 := Lib.hid hF
          have HWD := Lib.hid (runLM_word k L0 S0 HWD0.out)
          have HSU := Lib.hid (runLM_succ k L0 S0)
          have cp2 := hF.cell cp (by show ¬ (w2.heap.size ≤ ba ∧ ba < ba); omega)
          have cw2 := hF.cell cw (by show ¬ (w2.heap.size ≤ wc.heap.size ∧ wc.heap.size < ba); omega)
          clear hlc hLr hF
          by_cases hlt2 : k < K
          · have hkk := HK1.out k hlt2
            rw [HSU.out] at hkk
            obtain ⟨o1, o2⟩ := hkk
            generalize hrr : runLM k L0 S0 = r at *
            obtain ⟨ra, rs⟩ := r
            dsimp only at *
            have HLCd : Hid (LC wr.drew x (w2.heap.size + 1) w2.heap.size ra rs) := HLC.out.drewN 1
            have HO2 := Lib.hid o2
            have HO1 := Lib.hid o1
            have HXF : Hid (∀ j, i < j → j < 5 → ¬ trio x (w2.heap.size + 1) w2.heap.size (X j)) := fun j hij hj => by
              have a := HNE.out j hij hj; have b := hGE.out j hj; unfold trio; omega
            clear o2 o1
            by_cases hlast : k + 1 = K
            · have eo : Hid ((k + 1 == K) = true) := by show _ = _; simpa using hlast
              have e1 : IntKind.i64.wrap ((K : Int) - 1) = (k : Int) := by rw [iw]; unfold wrap64; omega
              have HLAST := Lib.hid hlast
              clear hlast
              go_wp2
              go_region_held3 (fun w' => w'.cell? ⟨ba, i, none⟩ = some (.pointer (some ⟨x, 0, none⟩)) ∧ w'.cell? ⟨wc.heap.size, i, none⟩ = some (.int .i64 K)) (first | exact ⟨cp3, cw3⟩ | go_keep)
                (first
                  | (go_at_call 17; (with_reducible refine (done_calls x ra _ HLCd.out.l).mono ?_); rw [HO1.out]; rintro e w20 ⟨rfl, rfl⟩)
                  | (go_at_call 16; (with_reducible refine (step_calls x _ _ ra rs _ HLCd.out HWD.out).mono ?_); rw [HO2.out, eo.out]; rintro e w21 ⟨rfl, h21, hf21⟩; have cp3 := hf21.cell (show wr.drew.cell? _ = _ from cp2) (by show ¬ (ba = x ∨ ba = w2.heap.size + 1 ∨ ba = w2.heap.size); omega); have cw3 := hf21.cell (show wr.drew.cell? _ = _ from cw2) (by show ¬ (wc.heap.size = x ∨ wc.heap.size = w2.heap.size + 1 ∨ wc.heap.size = w2.heap.size); omega)))
              go_wp2
              go_roundw
              case rel => exact ⟨k + 1, by omega, by go_num, by rw [HSU.out]; exact h21, fun j hij hj => (HLR2.out j hij hj).frame (w' := w21) (((Fr.refl (trio x (w2.heap.size + 1) w2.heap.size) wr).drew).trans hf21) (HXF.out j hij hj), HF2.out.trans ((((Fr.refl (trio x (w2.heap.size + 1) w2.heap.size) wr).drew).trans hf21).mono (fun q hq => by unfold trio at hq; omega))⟩
              case measure => simp [intOf]; omega
            · have eo : Hid ((k + 1 == K) = false) := by show _ = _; simpa using hlast
              have e1 : ((k : Int) == IntKind.i64.wrap ((K : Int) - 1)) = false := by rw [iw]; simp; unfold wrap64; omega
              have HLAST := Lib.hid hlast
              clear hlast
              go_wp2
              go_region_held3 (fun w' => w'.cell? ⟨ba, i, none⟩ = some (.pointer (some ⟨x, 0, none⟩)) ∧ w'.cell? ⟨wc.heap.size, i, none⟩ = some (.int .i64 K)) (first | exact ⟨cp3, cw3⟩ | go_keep)
                (first
                  | (go_at_call 17; (with_reducible refine (done_calls x ra _ HLCd.out.l).mono ?_); rw [HO1.out]; rintro e w20 ⟨rfl, rfl⟩)
                  | (go_at_call 16; (with_reducible refine (step_calls x _ _ ra rs _ HLCd.out HWD.out).mono ?_); rw [HO2.out, eo.out]; rintro e w21 ⟨rfl, h21, hf21⟩; have cp3 := hf21.cell (show wr.drew.cell? _ = _ from cp2) (by show ¬ (ba = x ∨ ba = w2.heap.size + 1 ∨ ba = w2.heap.size); omega); have cw3 := hf21.cell (show wr.drew.cell? _ = _ from cw2) (by show ¬ (wc.heap.size = x ∨ wc.heap.size = w2.heap.size + 1 ∨ wc.heap.size = w2.heap.size); omega)))
              go_wp2
              go_roundw
              case rel => exact ⟨k + 1, by omega, by go_num, by rw [HSU.out]; exact h21, fun j hij hj => (HLR2.out j hij hj).frame (w' := w21) (((Fr.refl (trio x (w2.heap.size + 1) w2.heap.size) wr).drew).trans hf21) (HXF.out j hij hj), HF2.out.trans ((((Fr.refl (trio x (w2.heap.size + 1) w2.heap.size) wr).drew).trans hf21).mono (fun q hq => by unfold trio at hq; omega))⟩
              case measure => simp [intOf]; omega
          · obtain rfl : k = K := by omega
            have g1 := HGOT.out
            have g2 := HSTP.out
            have g3 := HCNT.out
            rw [HSN.out, HTN.out] at g3
            have HLCx := HLC.out
            have HSN2 := Lib.hid HSN.out
            generalize hrr : runLM k L0 S0 = r at *
            obtain ⟨ra, rs⟩ := r
            dsimp only at *
            have g3' : rs.cnt = (T : Int) + (k : Int) := by rw [g3]; omega
            have HLCd := Lib.hid HLCx
            clear g3 HLCx
            go_wp2
            go_quiet (first
              | (go_at_call 19; exact Calls.quiet_of_same (got_calls x ra _ (HLCd.out.drewN _).l))
              | (go_at_call 24; exact Calls.quiet_of_same (steps_calls x ra _ (HLCd.out.drewN _).l))
              | (go_at_call 25; exact Calls.quiet_of_same (count_calls _ _ rs _ (HLCd.out.drewN _).s)))
            go_wp2
            go_roundw
            case rel => exact ⟨i + 1, by omega, by go_num, by rw [HTN.out]; go_num, by rw [HSN2.out]; exact (HLCd.out.drewN nq).s, fun j hij hj => HLR2.out j (by omega) hj, (HF.out.trans HF2.out).drewN nq⟩
            case measure => simp [intOf]; omega
      · obtain rfl : i = 5 := by omega
        have hb5 := HBX1.out.frame HF.out (by show ¬ (w2.heap.size ≤ w1.heap.size ∧ w1.heap.size < ba); omega)
        have HCE := Lib.hid HC.out
        have HFE := Lib.hid (HFD.out.trans' HF.out (fun k hk hl => by omega))
        go_wp2_with (first
          | (go_at_call 9; refine (first5_calls wr).mono ?_; rintro e w41 ⟨rfl, hf41⟩; have hC41 := Lib.hid (HCE.out.frame hf41 (fun x => x) (fun x => x)); obtain ⟨c0, c1, c2, c3, c4, c5, c6, c7, c8, c9, c10, c11⟩ := HALL.out _ _ (hb5.frame hf41 (fun x => x)))
          | (go_at_call 23; (with_reducible refine (HCLEAN.out _ _ _ _ hC41.out TZ.out).mono ?_); rintro e w50 ⟨rfl, hf50⟩))
        go_ret
        exact ⟨rfl, (HFE.out.trans hf41).trans hf50⟩
theorem steps_walk (sl th : Int) (w : World) (_ : (Lit.int .i64 sl).wf = true) (_ : (Lit.int .i64 th).wf = true) :
    Calls Try.prog 5 #[.int .i64 sl, .int .i64 th] w fun e w' => e = .returned (.bool true) ∧ Fr (fun _ => False) w w' := by
  by_cases h : sl < 0 ∨ 4 < sl ∨ th < 0 ∨ 3 < th
  · exact steps_bad sl th w h
  · obtain ⟨sl, rfl⟩ := Int.eq_ofNat_of_zero_le (show 0 ≤ sl by omega)
    obtain ⟨th, rfl⟩ := Int.eq_ofNat_of_zero_le (show 0 ≤ th by omega)
    exact steps_main sl th w (by omega) (by omega)
end Go.Proofs.Yteopldhcmddokaa
