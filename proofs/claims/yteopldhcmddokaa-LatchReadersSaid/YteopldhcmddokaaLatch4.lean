/- What makes a latch, what tells of one; through, clean, one, first of chapter 5. -/
import Derived.Test.YteopldhcmddokaaLatch3
namespace Go.Proofs.Yteopldhcmddokaa
open Go.RowKit

def Conf.cellsOf (c : Conf) : Array Value := #[.int .i64 c.r, .int .i64 c.o, .int .i64 c.s, .int .i64 c.wd, .int .i64 c.th, .int .i64 c.sl, .int .i64 c.rg, .int .i64 c.lk, .int .i64 c.un, .int .i64 c.es, .int .i64 c.tk, .int .i64 c.po]

theorem new_latch (w : World) (o : Obj) (l : LM) : LatchAt ((w.alloc o).alloc (.cells l.cells 73)) (w.heap.size + 1) l := by
  have h := heap_alloc_new (w.alloc o) (.cells l.cells 73)
  rw [show (w.alloc o).heap.size = w.heap.size + 1 by simp] at h
  exact h
theorem fr_two (w : World) (o u : Obj) : Fr (fun _ => False) w ((w.alloc o).alloc u) := ((Fr.refl _ w).alloc o).alloc u

set_option maxRecDepth 100000 in
theorem read_calls (c : Conf) (node th : Int) (w : World) : Calls Try.prog 14 #[c.val, .int .i64 node, .int .i64 th] w fun e w' => e = .returned (.pointer (some ⟨w.heap.size + 1, 0, none⟩)) ∧ LatchAt w' (w.heap.size + 1) (LM.read c node th) ∧ Fr (fun _ => False) w w' := by
  unfold Conf.val
  go_enter Try.func14, Try.ntmps14
  go_wp2
  go_ret
  exact ⟨rfl, new_latch w _ (LM.read c node th), fr_two w _ _⟩
set_option maxRecDepth 100000 in
theorem write_calls (c : Conf) (node th : Int) (rd : Bool) (w : World) : Calls Try.prog 15 #[c.val, .int .i64 node, .int .i64 th, .bool rd] w fun e w' => e = .returned (.pointer (some ⟨w.heap.size + 1, 0, none⟩)) ∧ LatchAt w' (w.heap.size + 1) (LM.write c node th rd) ∧ Fr (fun _ => False) w w' := by
  unfold Conf.val
  go_enter Try.func15, Try.ntmps15
  go_wp2
  go_ret
  exact ⟨rfl, new_latch w _ (LM.write c node th rd), fr_two w _ _⟩
set_option maxRecDepth 100000 in
theorem endRead_calls (c : Conf) (node th : Int) (w : World) : Calls Try.prog 18 #[c.val, .int .i64 node, .int .i64 th] w fun e w' => e = .returned (.pointer (some ⟨w.heap.size + 1, 0, none⟩)) ∧ LatchAt w' (w.heap.size + 1) (LM.endRead c node th) ∧ Fr (fun _ => False) w w' := by
  unfold Conf.val
  go_enter Try.func18, Try.ntmps18
  go_wp2
  go_ret
  exact ⟨rfl, new_latch w _ (LM.endRead c node th), fr_two w _ _⟩
set_option maxRecDepth 100000 in
theorem endWrite_calls (c : Conf) (node th : Int) (w : World) : Calls Try.prog 22 #[c.val, .int .i64 node, .int .i64 th] w fun e w' => e = .returned (.pointer (some ⟨w.heap.size + 1, 0, none⟩)) ∧ LatchAt w' (w.heap.size + 1) (LM.endWrite c node th) ∧ Fr (fun _ => False) w w' := by
  unfold Conf.val
  go_enter Try.func22, Try.ntmps22
  go_wp2
  go_ret
  exact ⟨rfl, new_latch w _ (LM.endWrite c node th), fr_two w _ _⟩

theorem done_calls (b : Nat) (l : LM) (w : World) (h : LatchAt w b l) : Calls Try.prog 17 #[.pointer (some ⟨b, 0, none⟩)] w fun e w' => e = .returned (.bool l.over) ∧ w' = w := by
  have c := h.c_at
  go_enter Try.func17, Try.ntmps17
  go_wp2
  go_ret
  exact ⟨rfl, rfl⟩
theorem got_calls (b : Nat) (l : LM) (w : World) (h : LatchAt w b l) : Calls Try.prog 19 #[.pointer (some ⟨b, 0, none⟩)] w fun e w' => e = .returned (.bool l.got) ∧ w' = w := by
  have c := h.c_got
  go_enter Try.func19, Try.ntmps19
  go_wp2
  go_ret
  exact ⟨rfl, rfl⟩
theorem errno_calls (b : Nat) (l : LM) (w : World) (h : LatchAt w b l) : Calls Try.prog 34 #[.pointer (some ⟨b, 0, none⟩)] w fun e w' => e = .returned (.int .i64 l.e) ∧ w' = w := by
  have c := h.c_e
  go_enter Try.func34, Try.ntmps34
  go_wp2
  go_ret
  exact ⟨rfl, rfl⟩
theorem steps_calls (b : Nat) (l : LM) (w : World) (h : LatchAt w b l) : Calls Try.prog 24 #[.pointer (some ⟨b, 0, none⟩)] w fun e w' => e = .returned (.int .i64 l.steps) ∧ w' = w := by
  have c := h.c_steps
  go_enter Try.func24, Try.ntmps24
  go_wp2
  go_ret
  exact ⟨rfl, rfl⟩
theorem cancel_calls (b : Nat) (l : LM) (w : World) (h : LatchAt w b l) : Calls Try.prog 27 #[.pointer (some ⟨b, 0, none⟩)] w fun e w' => e = .returned (.tuple #[]) ∧ LatchAt w' b l.cancelled ∧ Fr (lone1 b) w w' := by
  have c := h.c_at
  have c2 := h.c_cancel
  have f := h.free 20
  have HH := Lib.hid h
  have HN := Lib.hid (ends_calls b l false w h)
  have hcs : ((l.at_ == 3) = true ∧ Hid (l.cancelled = l.ends false)) ∨ ((l.at_ == 3) = false ∧ (l.at_ == 4) = true ∧ Hid (l.cancelled = { l with cancel := true })) ∨ ((l.at_ == 3) = false ∧ (l.at_ == 4) = false ∧ Hid (l.cancelled = l)) := by
    unfold Hid LM.cancelled
    by_cases h3 : l.at_ = 3
    · exact .inl ⟨by simpa using h3, if_pos h3⟩
    · by_cases h4 : l.at_ = 4
      · exact .inr (.inl ⟨by simpa using h3, by simpa using h4, by rw [if_neg h3, if_pos h4]⟩)
      · exact .inr (.inr ⟨by simpa using h3, by simpa using h4, by rw [if_neg h3, if_neg h4]⟩)
  clear h
  rcases hcs with ⟨h1, HX⟩ | ⟨h1, h2, HX⟩ | ⟨h1, h2, HX⟩
  all_goals
    go_enter Try.func27, Try.ntmps27
    go_wp2_with (first
      | (go_at_call 38; (with_reducible refine HN.out.mono ?_); rintro e w1 ⟨rfl, hl1, hf1⟩))
    go_end0
    first
      | exact ⟨rfl, by rw [HX.out]; exact hl1, hf1⟩
      | exact ⟨rfl, by rw [HX.out]; exact HH.out.setCancel true, fr_set _ _ _ _⟩
      | exact ⟨rfl, by rw [HX.out]; exact HH.out, Fr.refl _ _⟩

/-- To its end. -/
def thru : Nat → LM → CM → LM × CM × Bool
  | 0, l, s => (l, s, false)
  | n + 1, l, s => if (l.step s).over then (l.step s, l.stepS s, (l.step s).got) else thru n (l.step s) (l.stepS s)
set_option maxRecDepth 100000 in
theorem through_calls (b p ab : Nat) (l : LM) (s : CM) (w : World) (h : LC w b p ab l s) (hw : 0 ≤ l.word ∧ l.word ≤ 7) :
    Calls Try.prog 13 #[.pointer (some ⟨b, 0, none⟩), .pointer (some ⟨p, 0, none⟩)] w fun e w' => e = .returned (.bool (thru 20 l s).2.2) ∧ LC w' b p ab (thru 20 l s).1 (thru 20 l s).2.1 ∧ Fr (trio b p ab) w w' := by
  have H0 := Lib.hid h
  have HW0 := Lib.hid hw
  clear h hw
  go_enter Try.func13, Try.ntmps13
  go_wp2
  go_loopw [5] (fun v5 wr => ∃ (i : Nat) (l' : LM) (s' : CM), i ≤ 20 ∧ v5 = .int .i64 i ∧ LC wr b p ab l' s' ∧ (0 ≤ l'.word ∧ l'.word ≤ 7) ∧ thru 20 l s = thru (20 - i) l' s' ∧ Fr (trio b p ab) w wr) (fun v5 _ => 20 - (intOf v5).toNat)
  case atStart => exact ⟨0, l, s, by omega, rfl, H0.out, HW0.out, rfl, Fr.refl _ _⟩
  case round =>
    obtain ⟨i, l', s', hi, rfl, hc, hw, ht, hf⟩ := hrel
    have HT := Lib.hid ht
    have HC := Lib.hid hc
    have HF := Lib.hid hf
    have HW := Lib.hid hw
    clear ht hc hf hw
    by_cases hlt : i < 20
    · obtain ⟨m, hm⟩ : ∃ m, 20 - i = m + 1 := ⟨19 - i, by omega⟩
      have HM := Lib.hid hm
      clear hm
      rcases Bool.eq_false_or_eq_true (l'.step s').over with ho | ho
      · have HX := Lib.hid (show thru 20 l s = (l'.step s', l'.stepS s', (l'.step s').got) from by rw [HT.out, HM.out]; show (if _ then _ else _) = _; rw [if_pos ho])
        go_wp2_with (first
          | (go_at_call 16; (with_reducible refine (step_calls b p ab l' s' _ HC.out HW.out).mono ?_); rintro e w1 ⟨rfl, h1, hf1⟩)
          | (go_at_call 19; (with_reducible refine (got_calls b _ _ h1.l).mono ?_); rintro e w2 ⟨rfl, rfl⟩))
        go_ret
        exact ⟨by rw [HX.out]; rfl, by rw [HX.out]; exact h1, HF.out.trans hf1⟩
      · have HX := Lib.hid (show thru 20 l s = thru (20 - (i + 1)) (l'.step s') (l'.stepS s') from by rw [HT.out, HM.out, show 20 - (i + 1) = m by have := HM.out; omega]; show (if _ then _ else _) = _; rw [if_neg (by simp [ho])])
        go_wp2_with (first
          | (go_at_call 16; (with_reducible refine (step_calls b p ab l' s' _ HC.out HW.out).mono ?_); rintro e w1 ⟨rfl, h1, hf1⟩))
        go_roundw
        case rel => exact ⟨i + 1, _, _, by omega, by go_num, h1, LM.step_word _ _ HW.out, HX.out, HF.out.trans hf1⟩
        case measure => simp [intOf]; omega
    · obtain rfl : i = 20 := by omega
      have HX := Lib.hid (show thru 20 l s = (l', s', false) from HT.out)
      go_wp2
      go_ret
      exact ⟨by rw [HX.out]; rfl, by rw [HX.out]; exact HC.out, HF.out⟩
end Go.Proofs.Yteopldhcmddokaa
