/- ltklaw7.PlainSteps answers true. -/
import Derived.Test.YtfbdfboekgjbcaaPI
namespace Go.Proofs.Ytfbdfboekgjbcaa
open Go.RowKit

set_option maxRecDepth 100000 in
set_option maxHeartbeats 2000000 in
theorem steps_bad (c : Conf) (H : Option Addr) (hn hcap : Nat) (t tm en : Int) (w : World)
    (hb : (c.words == 0) = true ∨ ((c.words == 0) = false ∧ ((hn : Int) != c.words) = true) ∨ ((c.words == 0) = false ∧ ((hn : Int) != c.words) = false ∧ decide (c.rg < 2) = true) ∨ ((c.words == 0) = false ∧ ((hn : Int) != c.words) = false ∧ decide (c.rg < 2) = false ∧ decide (tm < 0) = true) ∨
      ((c.words == 0) = false ∧ ((hn : Int) != c.words) = false ∧ decide (c.rg < 2) = false ∧ decide (tm < 0) = false ∧ decide (14 < tm) = true) ∨ ((c.words == 0) = false ∧ ((hn : Int) != c.words) = false ∧ decide (c.rg < 2) = false ∧ decide (tm < 0) = false ∧ decide (14 < tm) = false ∧ decide (t < 0) = true) ∨
      ((c.words == 0) = false ∧ ((hn : Int) != c.words) = false ∧ decide (c.rg < 2) = false ∧ decide (tm < 0) = false ∧ decide (14 < tm) = false ∧ decide (t < 0) = false ∧ decide (c.words ≤ t) = true) ∨
      ((c.words == 0) = false ∧ ((hn : Int) != c.words) = false ∧ decide (c.rg < 2) = false ∧ decide (tm < 0) = false ∧ decide (14 < tm) = false ∧ decide (t < 0) = false ∧ decide (c.words ≤ t) = false ∧ decide (en < 0) = true) ∨
      ((c.words == 0) = false ∧ ((hn : Int) != c.words) = false ∧ decide (c.rg < 2) = false ∧ decide (tm < 0) = false ∧ decide (14 < tm) = false ∧ decide (t < 0) = false ∧ decide (c.words ≤ t) = false ∧ decide (en < 0) = false ∧ decide (2 < en) = true)) :
    Calls Try.prog 4 #[c.val, .slice H hn hcap, .int .i64 t, .int .i64 tm, .int .i64 en] w fun e w' => e = .returned (.bool true) ∧ Fr (fun _ => False) w w' := by
  have HBX := Lib.hid (box_all w c)
  have HW := Lib.hid (words_calls c)
  unfold Conf.val at *
  generalize c.words = wd at *
  rcases hb with h1 | ⟨h1, h2⟩ | ⟨h1, h2, h3⟩ | ⟨h1, h2, h3, h4⟩ | ⟨h1, h2, h3, h4, h5⟩ | ⟨h1, h2, h3, h4, h5, h6⟩ | ⟨h1, h2, h3, h4, h5, h6, h7⟩ | ⟨h1, h2, h3, h4, h5, h6, h7, h8⟩ | ⟨h1, h2, h3, h4, h5, h6, h7, h8, h9⟩
  all_goals
    have hk := (Fr.refl (fun _ => False) w).alloc (.cells #[.int .i64 c.r, .int .i64 c.o, .int .i64 c.s, .int .i64 c.wd, .int .i64 c.th, .int .i64 c.sl, .int .i64 c.rg, .int .i64 c.lk, .int .i64 c.un, .int .i64 c.es, .int .i64 c.tk, .int .i64 c.po] 23)
    have hbk := Fr.refl (fun _ => False) (w.alloc (.cells #[.int .i64 c.r, .int .i64 c.o, .int .i64 c.s, .int .i64 c.wd, .int .i64 c.th, .int .i64 c.sl, .int .i64 c.rg, .int .i64 c.lk, .int .i64 c.un, .int .i64 c.es, .int .i64 c.tk, .int .i64 c.po] 23))
    go_enter Try.func4, Try.ntmps4
    go_wp2_with (first
      | (go_at_call 9
         (with_reducible refine (first7_calls _).mono ?_)
         rintro ex w1 ⟨rfl, hf1⟩
         replace hk := hk.trans hf1
         replace hbk := hbk.trans hf1
         clear hf1
         try (clear c0 c1 c2 c3 c4 c5 c6 c7 c8 c9 c10 c11)
         obtain ⟨c0, c1, c2, c3, c4, c5, c6, c7, c8, c9, c10, c11⟩ := HBX.out _ hbk)
      | (go_at_call 12
         (with_reducible refine (HW.out _).mono ?_)
         rintro ex w4 ⟨rfl, hf4⟩
         replace hk := hk.trans hf4
         replace hbk := hbk.trans hf4
         clear hf4 c0 c1 c2 c3 c4 c5 c6 c7 c8 c9 c10 c11
         obtain ⟨c0, c1, c2, c3, c4, c5, c6, c7, c8, c9, c10, c11⟩ := HBX.out _ hbk))
    go_ret
    exact ⟨rfl, hk⟩

end Go.Proofs.Ytfbdfboekgjbcaa
