/- ltklaw3.ShapeBad answers true. -/
import Derived.Test.YtbfhkhklhghigaaL3First
import Derived.Deep.DeepCutAuto
import Derived.Deep.CutBlock
namespace Go.Proofs.Ytbfhkhklhghigaa
open Go.RowKit

theorem Conf.words_no {c : Conf} (h : ¬ c.Fine) : c.words = 0 := by unfold Conf.words Conf.S; rw [if_neg h]; omega
theorem Conf.nodes_no {c : Conf} (h : ¬ c.Fine) : c.nodes = 0 := by unfold Conf.nodes Conf.R Conf.O Conf.S; rw [if_neg h, if_neg h, if_neg h]; omega
theorem Conf.cells_no {c : Conf} (h : ¬ c.Fine) : c.cells = 0 := by unfold Conf.cells Conf.S; rw [if_neg h]; omega
theorem Conf.level_no {c : Conf} (h : ¬ c.Fine) (n : Int) : c.level n = -1 := by unfold Conf.level; rw [Conf.nodes_no h, if_pos (by omega)]
theorem Conf.latch_no' {c : Conf} (h : ¬ c.Fine) (n : Int) : c.latch n = -1 := by unfold Conf.latch; rw [Conf.level_no h, if_neg (by omega)]
theorem Conf.pathErr_no {c : Conf} (h : ¬ c.Fine) (a : Int) : c.pathErr a = 1 := by
  unfold Conf.pathErr; rw [if_neg]; intro hh; exact h (Conf.fine_of_has hh)

theorem BoxConf.set0 {w : World} {b : Nat} {c : Conf} (h : BoxConf w b c) (n : Int) : BoxConf (w.setCell ⟨b, 0, none⟩ (.int .i64 n)) b { c with r := n } := by unfold BoxConf at *; rw [blk_set h]; rfl
theorem BoxConf.set3 {w : World} {b : Nat} {c : Conf} (h : BoxConf w b c) (n : Int) : BoxConf (w.setCell ⟨b, 3, none⟩ (.int .i64 n)) b { c with wd := n } := by unfold BoxConf at *; rw [blk_set h]; rfl
theorem BoxConf.set4 {w : World} {b : Nat} {c : Conf} (h : BoxConf w b c) (n : Int) : BoxConf (w.setCell ⟨b, 4, none⟩ (.int .i64 n)) b { c with th := n } := by unfold BoxConf at *; rw [blk_set h]; rfl
theorem BoxConf.set6 {w : World} {b : Nat} {c : Conf} (h : BoxConf w b c) (n : Int) : BoxConf (w.setCell ⟨b, 6, none⟩ (.int .i64 n)) b { c with rg := n } := by unfold BoxConf at *; rw [blk_set h]; rfl
theorem BoxConf.set7 {w : World} {b : Nat} {c : Conf} (h : BoxConf w b c) (n : Int) : BoxConf (w.setCell ⟨b, 7, none⟩ (.int .i64 n)) b { c with lk := n } := by unfold BoxConf at *; rw [blk_set h]; rfl
theorem BoxConf.set11 {w : World} {b : Nat} {c : Conf} (h : BoxConf w b c) (n : Int) : BoxConf (w.setCell ⟨b, 11, none⟩ (.int .i64 n)) b { c with po := n } := by unfold BoxConf at *; rw [blk_set h]; rfl
theorem BoxConf.set10 {w : World} {b : Nat} {c : Conf} (h : BoxConf w b c) (n : Int) : BoxConf (w.setCell ⟨b, 10, none⟩ (.int .i64 n)) b { c with tk := n } := by unfold BoxConf at *; rw [blk_set h]; rfl
/-- A number out of all bounds spoils a configuration. -/
theorem not_fine {c : Conf} {n : Int} (h : n < 0 ∨ 10000 < n) (hc : c.r = n ∨ c.wd = n ∨ c.th = n ∨ c.rg = n ∨ c.lk = n ∨ c.po = n ∨ c.tk = n) : ¬ c.Fine := by
  unfold Conf.Fine; omega

set_option maxRecDepth 100000 in
set_option maxHeartbeats 4000000 in
set_option linter.unusedVariables false in
theorem bad_walk (cs : Array Value) (c : Conf) (which n : Int) (w : World) (hc : ConfIn cs c) (_ : (Lit.int .i64 which).wf = true) (_ : (Lit.int .i64 n).wf = true) :
    Calls Try.prog 3 #[.agg cs, .int .i64 which, .int .i64 n] w fun e w' => e = .returned (.bool true) ∧ Fr (fun _ => False) w w' := by
  unfold ConfIn at hc
  rw [hc]
  clear hc
  have hB0 := BoxConf.mk w c
  have HK := Lib.hid (check_calls c)
  by_cases h : c.Fine
  · have hk := Conf.chk_yes h
    clear h
    unfold Conf.val at HK
    unfold Conf.val
    rcases (show n < 0 ∨ 10000 < n ∨ (0 ≤ n ∧ n ≤ 10000) by omega) with hn | hn | hn
    all_goals
      go_enter Try.func3, Try.ntmps3
      go_upto_block 0 with (first
        | (go_at_call 8; refine (first3_calls _).mono ?_; rintro e w1 ⟨rfl, hf1⟩; have hB1 : BoxConf w1 w.heap.size c := BoxConf.frame hB0 hf1 (fun x => x); obtain ⟨⟨c0, c1, c2, c3⟩, ⟨c4, c5, c6, c7⟩, c8, c9, c10, c11⟩ := hB1.cell)
        | (go_at_call 9; refine (HK.out _).mono ?_; rintro e w2 ⟨rfl, hf2⟩; have hB2 : BoxConf w2 w.heap.size c := BoxConf.frame hB1 hf2 (fun x => x); obtain ⟨⟨c0, c1, c2, c3⟩, ⟨c4, c5, c6, c7⟩, c8, c9, c10, c11⟩ := hB2.cell))
      have hfw := (((Fr.refl (fun _ => False) w).alloc _).trans hf1).trans hf2
      clear hf1 hf2 hB1
      have f0 := blk_free hB2 0
      have f3 := blk_free hB2 3
      have f4 := blk_free hB2 4
      have f6 := blk_free hB2 6
      have f7 := blk_free hB2 7
      have f10 := blk_free hB2 10
      have f11 := blk_free hB2 11
      have HB2 := Lib.hid hB2
      have HB0 := Lib.hid hB0
      clear hB2 hB0
      go_cut [7] (fun v7 wc => v7 = .bool (decide (n < 0) || decide (10000 < n)) ∧ ∃ c' : Conf, BoxConf wc w.heap.size c' ∧ ((n < 0 ∨ 10000 < n) → ¬ c'.Fine) ∧ Fr (fun _ => False) w wc)
      case first =>
        go_wp2
        all_goals
          go_meet
          case rel =>
            refine ⟨by simp <;> omega, ?_⟩
            first
              | exact ⟨_, HB2.out.set0 n, fun h => not_fine h (.inl rfl), hfw.setCell (.inr (Nat.le_refl _)) _⟩
              | exact ⟨_, HB2.out.set3 n, fun h => not_fine h (.inr (.inl rfl)), hfw.setCell (.inr (Nat.le_refl _)) _⟩
              | exact ⟨_, HB2.out.set4 n, fun h => not_fine h (.inr (.inr (.inl rfl))), hfw.setCell (.inr (Nat.le_refl _)) _⟩
              | exact ⟨_, HB2.out.set6 n, fun h => not_fine h (.inr (.inr (.inr (.inl rfl)))), hfw.setCell (.inr (Nat.le_refl _)) _⟩
              | exact ⟨_, HB2.out.set7 n, fun h => not_fine h (.inr (.inr (.inr (.inr (.inl rfl))))), hfw.setCell (.inr (Nat.le_refl _)) _⟩
              | exact ⟨_, HB2.out.set11 n, fun h => not_fine h (.inr (.inr (.inr (.inr (.inr (.inl rfl)))))), hfw.setCell (.inr (Nat.le_refl _)) _⟩
              | exact ⟨_, HB2.out.set10 n, fun h => not_fine h (.inr (.inr (.inr (.inr (.inr (.inr rfl)))))), hfw.setCell (.inr (Nat.le_refl _)) _⟩
      case rest =>
        obtain ⟨rfl, c', hB3, hno, hf3⟩ := hcut
        obtain ⟨⟨c0, c1, c2, c3⟩, ⟨c4, c5, c6, c7⟩, c8, c9, c10, c11⟩ := hB3.cell
        clear f0 f3 f4 f6 f7 f10 f11 HB2 hfw
        have HP := Lib.hid (path_calls c' 0)
        have HK' := Lib.hid (check_calls c')
        have HW := Lib.hid (words_calls c')
        unfold Conf.val at HP HK' HW
        first
          | (exfalso; omega)
          | (have hbad := hno (by omega)
             have e1 := Conf.chk_no hbad
             have e2 := Conf.pathErr_no hbad 0
             have e3 := Conf.words_no hbad
             clear hno hbad
             go_wp2_with (first
               | (go_at_call 15; refine (HP.out _).mono ?_; rintro e w4 ⟨rfl, hf4⟩; have hB4 := hB3.frame hf4 (fun x => x))
               | (go_at_call 8; refine (first3_calls _).mono ?_; rintro e w5 ⟨rfl, hf5⟩; have hB5 := hB4.frame hf5 (fun x => x); obtain ⟨⟨c0, c1, c2, c3⟩, ⟨c4, c5, c6, c7⟩, c8, c9, c10, c11⟩ := hB5.cell)
               | (go_at_call 9; refine (HK'.out _).mono ?_; rintro e w6 ⟨rfl, hf6⟩; have hB6 := hB5.frame hf6 (fun x => x); obtain ⟨⟨c0, c1, c2, c3⟩, ⟨c4, c5, c6, c7⟩, c8, c9, c10, c11⟩ := hB6.cell)
               | (go_at_call 10; refine (HW.out _).mono ?_; rintro e w7 ⟨rfl, hf7⟩))
             go_ret
             exact ⟨rfl, (((hf3.trans hf4).trans hf5).trans hf6).trans hf7⟩)
          | (clear hno
             go_wp2_with (first
               | (go_at_call 15; refine (HP.out _).mono ?_; rintro e w4 ⟨rfl, hf4⟩; have hB4 := hB3.frame hf4 (fun x => x))
               | (go_at_call 8; refine (first3_calls _).mono ?_; rintro e w5 ⟨rfl, hf5⟩))
             go_ret
             exact ⟨rfl, (hf3.trans hf4).trans hf5⟩)
  · have hk := Conf.chk_no h
    have e1 := Conf.words_no h
    have e2 := Conf.nodes_no h
    have e3 := Conf.cells_no h
    have e4 := Conf.level_no h 0
    have e5 := Conf.latch_no' h 0
    have HW := Lib.hid (words_calls c)
    have HN := Lib.hid (nodes_calls c)
    have HC := Lib.hid (cells_calls c)
    have HL := Lib.hid (level_calls c 0)
    have HT := Lib.hid (latch_calls c 0)
    clear h
    unfold Conf.val at *
    go_enter Try.func3, Try.ntmps3
    go_wp2_with (first
      | (go_at_call 8; have := hB0; clear this hB0; refine (first3_calls _).mono ?_; rintro e w1 ⟨rfl, hf1⟩; have hB1 : BoxConf w1 w.heap.size c := BoxConf.frame (BoxConf.mk w c) hf1 (fun x => x); obtain ⟨⟨c0, c1, c2, c3⟩, ⟨c4, c5, c6, c7⟩, c8, c9, c10, c11⟩ := hB1.cell)
      | (go_at_call 9; refine (HK.out _).mono ?_; rintro e w2 ⟨rfl, hf2⟩; have hB2 := hB1.frame hf2 (fun x => x); obtain ⟨⟨c0, c1, c2, c3⟩, ⟨c4, c5, c6, c7⟩, c8, c9, c10, c11⟩ := hB2.cell)
      | (go_at_call 8; refine (first3_calls _).mono ?_; rintro e w3 ⟨rfl, hf3⟩; have hB3 := hB2.frame hf3 (fun x => x); obtain ⟨⟨c0, c1, c2, c3⟩, ⟨c4, c5, c6, c7⟩, c8, c9, c10, c11⟩ := hB3.cell)
      | (go_at_call 10; refine (HW.out _).mono ?_; rintro e w4 ⟨rfl, hf4⟩; have hB4 := hB3.frame hf4 (fun x => x); obtain ⟨⟨c0, c1, c2, c3⟩, ⟨c4, c5, c6, c7⟩, c8, c9, c10, c11⟩ := hB4.cell)
      | (go_at_call 11; refine (HN.out _).mono ?_; rintro e w5 ⟨rfl, hf5⟩; have hB5 := hB4.frame hf5 (fun x => x); obtain ⟨⟨c0, c1, c2, c3⟩, ⟨c4, c5, c6, c7⟩, c8, c9, c10, c11⟩ := hB5.cell)
      | (go_at_call 12; refine (HC.out _).mono ?_; rintro e w6 ⟨rfl, hf6⟩; have hB6 := hB5.frame hf6 (fun x => x); obtain ⟨⟨c0, c1, c2, c3⟩, ⟨c4, c5, c6, c7⟩, c8, c9, c10, c11⟩ := hB6.cell)
      | (go_at_call 13; refine (HL.out _).mono ?_; rintro e w7 ⟨rfl, hf7⟩; have hB7 := hB6.frame hf7 (fun x => x); obtain ⟨⟨c0, c1, c2, c3⟩, ⟨c4, c5, c6, c7⟩, c8, c9, c10, c11⟩ := hB7.cell)
      | (go_at_call 14; refine (HT.out _).mono ?_; rintro e w8 ⟨rfl, hf8⟩))
    go_ret
    exact ⟨rfl, ((((((((Fr.refl _ _).alloc _).trans hf1).trans hf2).trans hf3).trans hf4).trans hf5).trans hf6).trans hf7 |>.trans hf8⟩
end Go.Proofs.Ytbfhkhklhghigaa
