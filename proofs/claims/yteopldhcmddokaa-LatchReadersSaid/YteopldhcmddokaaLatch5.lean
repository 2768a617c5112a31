/- one, clean and first of chapter 5. -/
import Derived.Test.YteopldhcmddokaaLatch4
namespace Go.Proofs.Yteopldhcmddokaa
open Go.RowKit

/-- One stripe, some threads, some slots. -/
def oneC (th sl : Int) : Conf := ⟨1, 1, 1, 1, th, sl, 1, 1, 1, 0, 1, 0⟩
set_option maxRecDepth 100000 in
theorem one_calls (th sl : Int) (w : World) : Calls Try.prog 10 #[.int .i64 th, .int .i64 sl] w fun e w' => e = .returned (oneC th sl).val ∧ Fr (fun _ => False) w w' := by
  unfold Conf.val oneC
  go_enter Try.func10, Try.ntmps10
  go_wp2
  refine bodyPost_ret (by simp [results, Try.results10, go_sem]; try rfl) rfl ⟨rfl, ?_⟩
  exact (Fr.refl _ _).alloc _

/-- From one state on, so many steps. -/
def runLM : Nat → LM → CM → LM × CM
  | 0, l, s => (l, s)
  | n + 1, l, s => runLM n (l.step s) (l.stepS s)
theorem runLM_succ : ∀ (n : Nat) (l : LM) (s : CM), runLM (n + 1) l s = ((runLM n l s).1.step (runLM n l s).2, (runLM n l s).1.stepS (runLM n l s).2)
  | 0, _, _ => rfl
  | n + 1, l, s => runLM_succ n (l.step s) (l.stepS s)
theorem runLM_word : ∀ (n : Nat) (l : LM) (s : CM), (0 ≤ l.word ∧ l.word ≤ 7) → 0 ≤ (runLM n l s).1.word ∧ (runLM n l s).1.word ≤ 7
  | 0, _, _, h => h
  | n + 1, l, s, h => runLM_word n _ _ (LM.step_word l s h)

theorem alloc_conf (w : World) (c : Conf) : BoxConf (w.alloc (.cells #[.int .i64 c.r, .int .i64 c.o, .int .i64 c.s, .int .i64 c.wd, .int .i64 c.th, .int .i64 c.sl, .int .i64 c.rg, .int .i64 c.lk, .int .i64 c.un, .int .i64 c.es, .int .i64 c.tk, .int .i64 c.po] 25)) w.heap.size c := BoxConf.mk w c

/-- What the chapter's example is. -/
def exL : LM := LM.write (oneC 2 1) 2 1 false
def exS : CM := CM.zero 9
theorem ex_runs : (∀ i, i < 7 → (runLM (i + 1) exL exS).1.over = false) ∧ (runLM 8 exL exS).1.over = true ∧ (runLM 8 exL exS).1.got = true ∧ (runLM 8 exL exS).1.steps = 8 ∧ (runLM 8 exL exS).1.e = 0 := by decide +kernel

set_option maxRecDepth 100000 in
set_option maxHeartbeats 2000000 in
theorem first5_calls (w : World) : Calls Try.prog 9 #[] w fun e w' => e = .returned (.bool true) ∧ Fr (fun _ => False) w w' := by
  have HO := Lib.hid (one_calls 2 1)
  have HC := Lib.hid (cells_calls (oneC 2 1))
  have HW := Lib.hid (write_calls (oneC 2 1) 2 1 false)
  have HCL := Lib.hid (show (oneC 2 1).cells = 9 from by decide)
  rw [HCL.out] at HC
  have HEX := Lib.hid ex_runs
  have HB := Lib.hid (fun (w : World) => BoxConf.mk w (oneC 2 1))
  have HALL := Lib.hid (fun (w : World) (b : Nat) (h : BoxConf w b (oneC 2 1)) => h.all)
  have HNEW := Lib.hid (fun (w : World) => new_calls 9 w (by omega) (by omega))
  unfold Conf.val at *
  dsimp only [oneC] at HO HC HW HB HALL
  go_enter Try.func9, Try.ntmps9
  go_wp2_with (first
    | (go_at_call 10; (with_reducible refine (HO.out _).mono ?_); rintro e w1 ⟨rfl, hf1⟩; have hb1 := HB.out w1)
    | (go_at_call 12; (with_reducible refine (HC.out _).mono ?_); rintro e w2 ⟨rfl, hf2⟩; have hb2 := hb1.frame hf2 (fun x => x))
    | (go_at_call 11; (with_reducible refine (HNEW.out _).mono ?_); rintro e w3 ⟨rfl, hc3, hf3⟩; have hb3 := hb2.frame hf3 (fun x => x); obtain ⟨b0, b1, b2, b3, b4, b5, b6, b7, b8, b9, b10, b11⟩ := HALL.out _ _ hb3)
    | (go_at_call 15; (with_reducible refine (HW.out _).mono ?_); rintro e w4 ⟨rfl, hl4, hf4⟩))
  have h4 : LC w4 (w3.heap.size + 1) (w2.heap.size + 1) w2.heap.size exL exS := LC.of hl4 (hc3.frame hf4 (fun x => x) (fun x => x))
  have hfw : Fr (fun _ => False) w w4 := (((hf1.alloc _).trans hf2).trans hf3).trans hf4
  have hsz : w.heap.size ≤ w2.heap.size := ((hf1.alloc _).trans hf2).size
  have hsz3 : w2.heap.size ≤ w3.heap.size := hf3.size
  have H4 := Lib.hid h4
  have HFW := Lib.hid hfw
  clear hf1 hf2 hf3 hf4 hb1 hb2 hb3 b0 b1 b2 b3 b4 b5 b6 b7 b8 b9 b10 b11 hc3 hl4 h4 hfw
  go_loopw [5] (fun v5 wr => ∃ i : Nat, i ≤ 7 ∧ v5 = .int .i64 i ∧ LC wr (w3.heap.size + 1) (w2.heap.size + 1) w2.heap.size (runLM i exL exS).1 (runLM i exL exS).2 ∧ Fr (fun _ => False) w wr) (fun v5 _ => 7 - (intOf v5).toNat)
  case atStart => exact ⟨0, by omega, rfl, H4.out, HFW.out⟩
  case round =>
    obtain ⟨i, hi, rfl, hc, hf⟩ := hrel
    have HCC := Lib.hid hc
    have HF := Lib.hid hf
    have HWD := Lib.hid (runLM_word i exL exS (by decide))
    have HSU := Lib.hid (runLM_succ i exL exS)
    clear hc hf
    by_cases hlt : i < 7
    · have ho : ((runLM i exL exS).1.step (runLM i exL exS).2).over = false := by have := HEX.out.1 i hlt; rw [HSU.out] at this; exact this
      generalize (runLM i exL exS).1 = li at *
      generalize (runLM i exL exS).2 = si at *
      go_wp2_with (first
        | (go_at_call 16; (with_reducible refine (step_calls _ _ _ li si _ HCC.out HWD.out).mono ?_); rintro e w5 ⟨rfl, h5, hf5⟩))
      go_roundw
      case rel => exact ⟨i + 1, by omega, by go_num, by rw [HSU.out]; exact h5, HF.out.trans' hf5 (fun k hk hl => by unfold trio at hk; omega)⟩
      case measure => simp [intOf]; omega
    · obtain rfl : i = 7 := by omega
      have h8 := HEX.out.2
      rw [HSU.out] at h8
      obtain ⟨x1, x2, x3, x4⟩ := h8
      generalize (runLM 7 exL exS).1 = li at *
      generalize (runLM 7 exL exS).2 = si at *
      dsimp only at x1 x2 x3 x4
      go_wp2_with (first
        | (go_at_call 16; (with_reducible refine (step_calls _ _ _ li si _ HCC.out HWD.out).mono ?_); rintro e w5 ⟨rfl, h5, hf5⟩)
        | (go_at_call 19; (with_reducible refine (got_calls _ _ _ h5.l).mono ?_); rintro e w6 ⟨rfl, rfl⟩)
        | (go_at_call 24; (with_reducible refine (steps_calls _ _ _ h5.l).mono ?_); rintro e w6 ⟨rfl, rfl⟩)
        | (go_at_call 34; (with_reducible refine (errno_calls _ _ _ h5.l).mono ?_); rintro e w6 ⟨rfl, rfl⟩))
      go_ret
      exact ⟨rfl, HF.out.trans' hf5 (fun k hk hl => by unfold trio at hk; omega)⟩
end Go.Proofs.Yteopldhcmddokaa
