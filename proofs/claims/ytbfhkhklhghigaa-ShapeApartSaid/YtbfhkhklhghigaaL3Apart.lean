/- ltklaw3.ShapeApart answers true. -/
import Derived.Test.YtbfhkhklhghigaaL3First
import Derived.Test.YtbfhkhklhghigaaRefCheck
namespace Go.Proofs.Ytbfhkhklhghigaa
open Go.RowKit

theorem BoxConf.allocA {w : World} {b : Nat} {c : Conf} (h : BoxConf w b c) (o : Obj) : BoxConf (w.alloc o) b c := blk_alloc h o
theorem BoxConf.otherA {w : World} {b : Nat} {c : Conf} (h : BoxConf w b c) {p : Addr} (hne : b ≠ p.block) (v : Value) : BoxConf (w.setCell p v) b c := by
  unfold BoxConf at *; rw [heap_setCell_other _ _ _ _ hne]; exact h
/-- x brought within 0 .. a. -/
def cl (x a : Int) : Int := if x < 0 then 0 else if x < a then x else a
def lastOf (c : Conf) (j : Int) : Int := if j ≤ c.R + c.O then -8 else c.words + (j - 1 - c.R - c.O) * 8
/-- How many nodes of each level stand ahead of node j. -/
def Many (w : World) (b : Nat) (c : Conf) (j : Int) : Prop :=
  w.heap[b]? = some (.cells #[.int .i64 (cl j c.R), .int .i64 (cl (j - c.R) c.O), .int .i64 (cl (j - c.R - c.O) c.S)] 33 (0, 0))
theorem Many.cell {w : World} {b : Nat} {c : Conf} {j : Int} (h : Many w b c j) :
    w.cell? ⟨b, 0, none⟩ = some (.int .i64 (cl j c.R)) ∧ w.cell? ⟨b, 1, none⟩ = some (.int .i64 (cl (j - c.R) c.O)) ∧ w.cell? ⟨b, 2, none⟩ = some (.int .i64 (cl (j - c.R - c.O) c.S)) := by
  unfold Many at h
  refine ⟨?_, ?_, ?_⟩ <;> (rw [blk_cell h]; rfl)

theorem level_zero {c : Conf} {n : Int} (h0 : 0 ≤ n) (h : n < c.R) : c.level n = 0 := by
  have := c.bounds; unfold Conf.level; rw [if_neg (by unfold Conf.nodes; omega), if_pos h]
theorem level_mid {c : Conf} {n : Int} (h0 : c.R ≤ n) (h : n < c.R + c.O) : c.level n = 1 := by
  have := c.bounds; unfold Conf.level; rw [if_neg (by unfold Conf.nodes; omega), if_neg (by omega), if_pos h]
theorem level_low {c : Conf} {n : Int} (h0 : c.R + c.O ≤ n) (h : n < c.nodes) : c.level n = 2 := by
  have := c.bounds; unfold Conf.level; rw [if_neg (by omega), if_neg (by omega), if_neg (by omega)]

theorem Many.step0 {w : World} {b : Nat} {c : Conf} {j : Int} (h : Many w b c j) (hf : c.Fine) (h0 : 0 ≤ j) (h1 : j < c.R) : Many (w.setCell ⟨b, 0, none⟩ (.int .i64 (cl j c.R + 1))) b c (j + 1) := by
  have hb := c.bounds
  have h2 : 1 ≤ c.O := by rw [show c.O = c.r * c.o from if_pos hf]; exact mul_pos_of hf.1.1.1 hf.1.2.1.1
  unfold Many at *
  rw [blk_set h]
  rw [show cl j c.R + 1 = cl (j + 1) c.R by unfold cl; repeat' split; all_goals omega]
  rw [show cl (j - c.R) c.O = cl (j + 1 - c.R) c.O by unfold cl; repeat' split; all_goals omega]
  rw [show cl (j - c.R - c.O) c.S = cl (j + 1 - c.R - c.O) c.S by unfold cl; repeat' split; all_goals omega]
  rfl
theorem Many.step1 {w : World} {b : Nat} {c : Conf} {j : Int} (h : Many w b c j) (hf : c.Fine) (h0 : c.R ≤ j) (h1 : j < c.R + c.O) : Many (w.setCell ⟨b, 1, none⟩ (.int .i64 (cl (j - c.R) c.O + 1))) b c (j + 1) := by
  have hb := c.bounds
  unfold Many at *
  rw [blk_set h]
  rw [show cl j c.R = cl (j + 1) c.R by unfold cl; repeat' split; all_goals omega]
  rw [show cl (j - c.R) c.O + 1 = cl (j + 1 - c.R) c.O by unfold cl; repeat' split; all_goals omega]
  rw [show cl (j - c.R - c.O) c.S = cl (j + 1 - c.R - c.O) c.S by unfold cl; repeat' split; all_goals omega]
  rfl
theorem Many.step2 {w : World} {b : Nat} {c : Conf} {j : Int} (h : Many w b c j) (hf : c.Fine) (h0 : c.R + c.O ≤ j) (h1 : j < c.nodes) : Many (w.setCell ⟨b, 2, none⟩ (.int .i64 (cl (j - c.R - c.O) c.S + 1))) b c (j + 1) := by
  have hb := c.bounds
  unfold Conf.nodes at h1
  unfold Many at *
  rw [blk_set h]
  rw [show cl j c.R = cl (j + 1) c.R by unfold cl; repeat' split; all_goals omega]
  rw [show cl (j - c.R) c.O = cl (j + 1 - c.R) c.O by unfold cl; repeat' split; all_goals omega]
  rw [show cl (j - c.R - c.O) c.S + 1 = cl (j + 1 - c.R - c.O) c.S by unfold cl; repeat' split; all_goals omega]
  rfl
theorem cl_bounds (x a : Int) (ha : 0 ≤ a) : 0 ≤ cl x a ∧ cl x a ≤ a := by unfold cl; repeat' split; all_goals omega

set_option maxRecDepth 100000 in
set_option maxHeartbeats 8000000 in
theorem apart_walk (cs : Array Value) (c : Conf) (w : World) (hc : ConfIn cs c) :
    Calls Try.prog 5 #[.agg cs] w fun e w' => e = .returned (.bool true) ∧ Fr (fun _ => False) w w' := by
  unfold ConfIn at hc
  rw [hc]
  clear hc
  have hB0 := BoxConf.mk w c
  have HK := Lib.hid (check_calls c)
  have HKr := Lib.hid (ref_check_calls c)
  by_cases h : c.Fine
  · have hk := Conf.chk_yes h
    have HN := Lib.hid (nodes_calls c)
    have HC := Lib.hid (cells_calls c)
    have HLv := Lib.hid (level_calls c)
    have HLt := Lib.hid (latch_calls c)
    have HPr := Lib.hid (parent_calls c)
    have hb := c.bounds
    have hw := c.words_bounds
    have HF := Lib.hid h
    have hR : c.R = c.r := if_pos h
    have hO : c.O = c.r * c.o := if_pos h
    have hS : c.S = c.r * c.o * c.s := if_pos h
    obtain ⟨⟨⟨r1, r2⟩, ⟨o1, o2⟩, ⟨s1, s2⟩, ⟨w1, w2⟩⟩, -⟩ := h
    have ho := mul_le_of (a := c.o) (b := 1 + c.s) (A := 8) (B := 9) (by omega) (by omega) (by omega) (by omega)
    have e1 : wrap64 (c.o * (1 + c.s)) = c.o * (1 + c.s) := by unfold wrap64; omega
    have hn : c.r * (1 + c.o * (1 + c.s)) = c.nodes := by
      unfold Conf.nodes; rw [hR, hO, hS, Int.mul_add, Int.mul_add, Int.mul_add, Int.mul_one, Int.mul_one, Int.mul_assoc]; omega
    have e2 : wrap64 (c.r * (1 + c.o * (1 + c.s))) = c.nodes := by rw [hn]; unfold Conf.nodes wrap64; omega
    have e3 : wrap64 (c.r * c.o) = c.O := by rw [← hO]; unfold wrap64; omega
    have e4 : wrap64 (c.O * c.s) = c.S := by rw [show c.O * c.s = c.S by rw [hS, hO]]; unfold wrap64; omega
    obtain ⟨ho0, ho1⟩ := ho
    have HR := Lib.hid hR
    have HO := Lib.hid hO
    have HS := Lib.hid hS
    have HE3 := Lib.hid e3
    have HE4 := Lib.hid e4
    have HB := Lib.hid hb
    have HW := Lib.hid hw
    clear hR hO hS hn e3 e4 hb hw
    unfold Conf.val at HK HKr HN HC HLv HLt HPr
    unfold Conf.val
    go_enter Try.func5, Try.ntmps5
    go_wp2_with (first
      | (go_at_call 8; have hBx := hB0; refine (first3_calls _).mono ?_; rintro e wa ⟨rfl, hfa⟩; have hBa : BoxConf wa w.heap.size c := BoxConf.frame hBx hfa (fun x => x); clear hBx; obtain ⟨⟨c0, c1, c2, c3⟩, ⟨c4, c5, c6, c7⟩, c8, c9, c10, c11⟩ := hBa.cell)
      | (go_at_call 16; (with_reducible refine (HKr.out _).mono ?_); rintro e wb ⟨rfl, hfb⟩; have hBb := hBa.frame hfb (fun x => x); obtain ⟨⟨c0, c1, c2, c3⟩, ⟨c4, c5, c6, c7⟩, c8, c9, c10, c11⟩ := hBb.cell)
      | (go_at_call 9; (with_reducible refine (HK.out _).mono ?_); rintro e wc ⟨rfl, hfc⟩; have hBc := hBb.frame hfc (fun x => x); obtain ⟨⟨c0, c1, c2, c3⟩, ⟨c4, c5, c6, c7⟩, c8, c9, c10, c11⟩ := hBc.cell)
      | (go_at_call 11; (with_reducible refine (HN.out _).mono ?_); rintro e wd ⟨rfl, hfd⟩; have hBd := hBc.frame hfd (fun x => x); obtain ⟨⟨c0, c1, c2, c3⟩, ⟨c4, c5, c6, c7⟩, c8, c9, c10, c11⟩ := hBd.cell))
    have hfw := (((((Fr.refl (fun _ => False) w).alloc _).trans hfa).trans hfb).trans hfc).trans hfd
    have hlt0 := blk_lt hBd
    have HNE := Lib.hid (show w.heap.size ≠ wd.heap.size by omega)
    have hBw := hBd.allocA (.cells #[.int .i64 0, .int .i64 0, .int .i64 0] 33)
    have hM0 : Many (wd.alloc (.cells #[.int .i64 0, .int .i64 0, .int .i64 0] 33)) wd.heap.size c 0 := by
      unfold Many
      have hbb := HB.out
      rw [show cl 0 c.R = 0 by unfold cl; repeat' split; all_goals omega, show cl (0 - c.R) c.O = 0 by unfold cl; repeat' split; all_goals omega, show cl (0 - c.R - c.O) c.S = 0 by unfold cl; repeat' split; all_goals omega]
      exact heap_alloc_new wd _
    have hl0 : lastOf c 0 = -8 := by have := HB.out; unfold lastOf; rw [if_pos (by omega)]
    have hfww := hfw.alloc (.cells #[.int .i64 0, .int .i64 0, .int .i64 0] 33)
    have hls := hfw.size
    clear e1 e2 hfa hfb hfc hfd hBa hBb hBc hBd hfw c0 c1 c2 c3 c4 c5 c6 c7 c8 c9 c10 c11
    go_loopw [5, 6] (fun v5 v6 wr => ∃ j : Int, 0 ≤ j ∧ j ≤ c.nodes ∧ v6 = .int .i64 j ∧ v5 = .int .i64 (lastOf c j) ∧ BoxConf wr w.heap.size c ∧ Many wr wd.heap.size c j ∧ Fr (fun _ => False) w wr) (fun _ v6 _ => (c.nodes - intOf v6).toNat)
    case atStart => exact ⟨0, by omega, by have := HB.out; unfold Conf.nodes; omega, rfl, by rw [hl0], hBw, hM0, hfww⟩
    case round =>
      obtain ⟨j, hj0, hj1, rfl, rfl, hBr, hM, hf⟩ := hrel
      clear hBw hM0 hl0 hfww
      have HM := Lib.hid hM
      obtain ⟨⟨c0, c1, c2, c3⟩, ⟨c4, c5, c6, c7⟩, c8, c9, c10, c11⟩ := hBr.cell
      have hnb : c.nodes ≤ 584 := by have := HB.out; unfold Conf.nodes; omega
      clear hM
      by_cases hlt : j < c.nodes
      · have hbb := HB.out
        have b0 := cl_bounds j c.R hbb.1.1
        have b1 := cl_bounds (j - c.R) c.O hbb.2.1.1
        have b2 := cl_bounds (j - c.R - c.O) c.S hbb.2.2.1
        obtain ⟨⟨R0, R1⟩, ⟨O0, O1⟩, S0, S1⟩ := hbb
        by_cases hl0 : j < c.R
        · have l0 := level_zero hj0 hl0
          have la : c.latch j = -1 := Conf.latch_no (by omega)
          have pa : c.parent j = -1 := by unfold Conf.parent; rw [if_neg (by omega), if_neg (by omega)]
          have HLast := Lib.hid (show lastOf c (j + 1) = lastOf c j by unfold lastOf; rw [if_pos (by omega), if_pos (by omega)])
          have HS := Lib.hid (fun (w' : World) (h : Many w' wd.heap.size c j) => h.step0 HF.out hj0 hl0)
          go_wp2_with (first
              | (go_at_call 13; (with_reducible refine (HLv.out _ _).mono ?_); rintro e we ⟨rfl, hfe⟩; have hBe := hBr.frame hfe (fun x => x); have hMe : Many we wd.heap.size c j := hfe.heap HM.out (fun x => x); obtain ⟨⟨c0, c1, c2, c3⟩, ⟨c4, c5, c6, c7⟩, c8, c9, c10, c11⟩ := hBe.cell; obtain ⟨m0, m1, m2⟩ := hMe.cell; have g0 := blk_free hMe 0; have g1 := blk_free hMe 1; have g2 := blk_free hMe 2; have HMe := Lib.hid hMe; clear hMe)
              | (go_at_call 14; clear c0 c1 c2 c3 c4 c5 c6 c7 c8 c9 c10 c11; (with_reducible refine (HLt.out _ _).mono ?_); rintro e wf ⟨rfl, hff⟩; have hBf : BoxConf wf w.heap.size c := (hBe.otherA (p := ⟨wd.heap.size, 0, none⟩) HNE.out _).frame hff (fun x => x); obtain ⟨⟨c0, c1, c2, c3⟩, ⟨c4, c5, c6, c7⟩, c8, c9, c10, c11⟩ := hBf.cell)
              | (go_at_call 17; clear c0 c1 c2 c3 c4 c5 c6 c7 c8 c9 c10 c11; (with_reducible refine (HPr.out _ _).mono ?_); rintro e wg ⟨rfl, hfg⟩))
          go_roundw
          case rel => exact ⟨j + 1, by omega, by omega, rfl, by rw [HLast.out], hBf.frame hfg (fun x => x), (hfg.heap (hff.heap (HS.out _ HMe.out) (fun x => x)) (fun x => x)), (((hf.trans hfe).setCell (.inr (by simp; omega)) _).trans hff).trans hfg⟩
          case measure => simp [intOf]; omega
        · by_cases hl1 : j < c.R + c.O
          · have l0 := level_mid (by omega) hl1
            have la : c.latch j = -1 := Conf.latch_no (by omega)
            have hpp : 0 ≤ (j - c.R) / c.o := Int.ediv_nonneg (by omega) (by omega)
            have pa : c.parent j = (j - c.R) / c.o := by unfold Conf.parent; rw [if_pos l0]
            have HLast := Lib.hid (show lastOf c (j + 1) = lastOf c j by unfold lastOf; rw [if_pos (by omega), if_pos (by omega)])
            have HS := Lib.hid (fun (w' : World) (h : Many w' wd.heap.size c j) => h.step1 HF.out (by omega) hl1)
            go_wp2_with (first
              | (go_at_call 13; (with_reducible refine (HLv.out _ _).mono ?_); rintro e we ⟨rfl, hfe⟩; have hBe := hBr.frame hfe (fun x => x); have hMe : Many we wd.heap.size c j := hfe.heap HM.out (fun x => x); obtain ⟨⟨c0, c1, c2, c3⟩, ⟨c4, c5, c6, c7⟩, c8, c9, c10, c11⟩ := hBe.cell; obtain ⟨m0, m1, m2⟩ := hMe.cell; have g0 := blk_free hMe 0; have g1 := blk_free hMe 1; have g2 := blk_free hMe 2; have HMe := Lib.hid hMe; clear hMe)
              | (go_at_call 14; clear c0 c1 c2 c3 c4 c5 c6 c7 c8 c9 c10 c11; (with_reducible refine (HLt.out _ _).mono ?_); rintro e wf ⟨rfl, hff⟩; have hBf : BoxConf wf w.heap.size c := (hBe.otherA (p := ⟨wd.heap.size, 1, none⟩) HNE.out _).frame hff (fun x => x); obtain ⟨⟨c0, c1, c2, c3⟩, ⟨c4, c5, c6, c7⟩, c8, c9, c10, c11⟩ := hBf.cell)
              | (go_at_call 17; clear c0 c1 c2 c3 c4 c5 c6 c7 c8 c9 c10 c11; (with_reducible refine (HPr.out _ _).mono ?_); rintro e wg ⟨rfl, hfg⟩))
            go_roundw
            case rel => exact ⟨j + 1, by omega, by omega, rfl, by rw [HLast.out], hBf.frame hfg (fun x => x), (hfg.heap (hff.heap (HS.out _ HMe.out) (fun x => x)) (fun x => x)), (((hf.trans hfe).setCell (.inr (by simp; omega)) _).trans hff).trans hfg⟩
            case measure => simp [intOf]; omega
          · have l0 := level_low (by omega) hlt
            have hww := HW.out
            have la : c.latch j = c.words + (j - c.R - c.O) * 8 := Conf.latch_yes l0
            have hpp : 0 ≤ (j - c.R - c.O) / c.s := Int.ediv_nonneg (by omega) (by omega)
            have pa : c.parent j = c.R + (j - c.R - c.O) / c.s := by unfold Conf.parent; rw [if_neg (by omega), if_pos l0]
            have HLast := Lib.hid (show lastOf c (j + 1) = c.words + (j - c.R - c.O) * 8 by unfold lastOf; rw [if_neg (by omega)]; omega)
            have HS := Lib.hid (fun (w' : World) (h : Many w' wd.heap.size c j) => h.step2 HF.out (by omega) hlt)
            have hll : lastOf c j = -8 ∨ lastOf c j = c.words + (j - c.R - c.O) * 8 - 8 ∧ 8 ≤ c.words + (j - c.R - c.O) * 8 := by
              unfold lastOf
              by_cases hq : j ≤ c.R + c.O
              · exact .inl (if_pos hq)
              · right; rw [if_neg hq]; omega
            have hz0 : 0 ≤ c.words + (j - c.R - c.O) * 8 := by omega
            have hz1 : c.words + (j - c.R - c.O) * 8 ≤ 9000 := by unfold Conf.nodes at hlt; omega
            generalize c.words + (j - c.R - c.O) * 8 = z at la HLast hz0 hz1 hll
            rcases hll with hll | ⟨hll, hz8⟩
            all_goals
              rw [hll]
              go_wp2_with (first
              | (go_at_call 13; (with_reducible refine (HLv.out _ _).mono ?_); rintro e we ⟨rfl, hfe⟩; have hBe := hBr.frame hfe (fun x => x); have hMe : Many we wd.heap.size c j := hfe.heap HM.out (fun x => x); obtain ⟨⟨c0, c1, c2, c3⟩, ⟨c4, c5, c6, c7⟩, c8, c9, c10, c11⟩ := hBe.cell; obtain ⟨m0, m1, m2⟩ := hMe.cell; have g0 := blk_free hMe 0; have g1 := blk_free hMe 1; have g2 := blk_free hMe 2; have HMe := Lib.hid hMe; clear hMe)
              | (go_at_call 14; clear c0 c1 c2 c3 c4 c5 c6 c7 c8 c9 c10 c11; (with_reducible refine (HLt.out _ _).mono ?_); rintro e wf ⟨rfl, hff⟩; have hBf : BoxConf wf w.heap.size c := (hBe.otherA (p := ⟨wd.heap.size, 2, none⟩) HNE.out _).frame hff (fun x => x); obtain ⟨⟨c0, c1, c2, c3⟩, ⟨c4, c5, c6, c7⟩, c8, c9, c10, c11⟩ := hBf.cell)
              | (go_at_call 17; clear c0 c1 c2 c3 c4 c5 c6 c7 c8 c9 c10 c11; (with_reducible refine (HPr.out _ _).mono ?_); rintro e wg ⟨rfl, hfg⟩))
              go_roundw
              case rel => exact ⟨j + 1, by omega, by omega, rfl, by rw [HLast.out], hBf.frame hfg (fun x => x), (hfg.heap (hff.heap (HS.out _ HMe.out) (fun x => x)) (fun x => x)), (((hf.trans hfe).setCell (.inr (by simp; omega)) _).trans hff).trans hfg⟩
              case measure => simp [intOf]; omega
      · have hjn : j = c.nodes := by omega
        have hbb := HB.out
        have hff := HF.out
        have hS1 : 1 ≤ c.S := by
          have hO1 : 1 ≤ c.O := by rw [HO.out]; exact mul_pos_of hff.1.1.1 hff.1.2.1.1
          rw [show c.S = c.O * c.s by rw [HS.out, HO.out]]; exact mul_pos_of hO1 hff.1.2.2.1.1
        have q0 : cl j c.R = c.r := by rw [← HR.out, hjn]; unfold cl Conf.nodes; repeat' split; all_goals omega
        have q1 : cl (j - c.R) c.O = c.O := by rw [hjn]; unfold cl Conf.nodes; repeat' split; all_goals omega
        have q2 : cl (j - c.R - c.O) c.S = c.S := by rw [hjn]; unfold cl Conf.nodes; repeat' split; all_goals omega
        have q3 : lastOf c j = c.cells - 8 := by rw [hjn]; unfold lastOf; rw [if_neg (by unfold Conf.nodes; omega)]; unfold Conf.nodes Conf.words Conf.cells; omega
        have q4 : 8 ≤ c.cells ∧ c.cells ≤ 9000 := by have := HW.out; unfold Conf.words at this; unfold Conf.cells; omega
        have hM2 := HM.out
        unfold Many at hM2
        rw [q0, q1, q2] at hM2
        rw [q3]
        have HM2 := Lib.hid hM2
        clear hM2 q0 q1 q2 q3 hbb hff
        have e3 := HE3.out
        have e4 := HE4.out
        go_wp2_with (first
          | (go_at_call 8; clear c0 c1 c2 c3 c4 c5 c6 c7 c8 c9 c10 c11; refine (first3_calls _).mono ?_; rintro e wh ⟨rfl, hfh⟩; have hBh : BoxConf wh w.heap.size c := BoxConf.frame hBr hfh (fun x => x); have hMh := hfh.heap HM2.out (fun x => x); obtain ⟨⟨c0, c1, c2, c3⟩, ⟨c4, c5, c6, c7⟩, c8, c9, c10, c11⟩ := hBh.cell; have m0 := (blk_cell hMh 0).trans (c := some (.int .i64 c.r)) rfl; have m1 := (blk_cell hMh 1).trans (c := some (.int .i64 c.O)) rfl; have m2 := (blk_cell hMh 2).trans (c := some (.int .i64 c.S)) rfl; clear hMh)
          | (go_at_call 12; (with_reducible refine (HC.out _).mono ?_); rintro e wi ⟨rfl, hfi⟩))
        go_ret
        exact ⟨rfl, by repeat (first | exact Fr.refl _ _ | assumption | refine Fr.trans ?_ (by assumption))⟩
  · have hk := Conf.chk_no h
    clear h
    unfold Conf.val at HK HKr
    unfold Conf.val
    go_enter Try.func5, Try.ntmps5
    go_wp2_with (first
      | (go_at_call 8; have hBx := hB0; clear hB0; refine (first3_calls _).mono ?_; rintro e wa ⟨rfl, hfa⟩; have hBa : BoxConf wa w.heap.size c := BoxConf.frame hBx hfa (fun x => x); clear hBx; obtain ⟨⟨c0, c1, c2, c3⟩, ⟨c4, c5, c6, c7⟩, c8, c9, c10, c11⟩ := hBa.cell)
      | (go_at_call 16; (with_reducible refine (HKr.out _).mono ?_); rintro e wb ⟨rfl, hfb⟩)
      | (go_at_call 8; refine (first3_calls _).mono ?_; rintro e wd ⟨rfl, hfd⟩))
    go_ret
    exact ⟨rfl, ((((Fr.refl _ _).alloc _).trans hfa).trans hfb).trans hfd⟩
end Go.Proofs.Ytbfhkhklhghigaa
