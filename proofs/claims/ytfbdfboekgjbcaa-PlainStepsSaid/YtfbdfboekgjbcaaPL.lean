/- ltklaw7.PlainSteps answers true. -/
import Derived.Test.YtfbdfboekgjbcaaPK1
import Derived.Test.YtfbdfboekgjbcaaPK2
namespace Go.Proofs.Ytfbdfboekgjbcaa
open Go.RowKit

theorem steps_walk (cs : Array Value) (c : Conf) (H : Option Addr) (hn hcap : Nat) (heap : List Int) (t tm en : Int) (w : World) (hc : ConfIn cs c) (hI : IntsW w H hn heap) (_ : (Lit.int .i64 t).wf = true) (_ : (Lit.int .i64 tm).wf = true) (_ : (Lit.int .i64 en).wf = true) :
    Calls Try.prog 4 #[.agg cs, .slice H hn hcap, .int .i64 t, .int .i64 tm, .int .i64 en] w fun e w' => e = .returned (.bool true) ∧ Fr (fun _ => False) w w' := by
  rw [hc]
  by_cases hg : c.words ≠ 0 ∧ (hn : Int) = c.words ∧ 2 ≤ c.rg ∧ 0 ≤ tm ∧ tm ≤ 14 ∧ 0 ≤ t ∧ t < c.words ∧ 0 ≤ en ∧ en ≤ 2
  · obtain ⟨g1, g2, g3, g4, g5, g6, g7, g8, g9⟩ := hg
    obtain ⟨t, rfl⟩ := Int.eq_ofNat_of_zero_le g6
    obtain ⟨n, rfl⟩ := Int.eq_ofNat_of_zero_le g4
    have hwb := c.words_bounds
    have hf : c.Fine := by
      by_cases hf : c.Fine
      · exact hf
      · exact absurd (by unfold Conf.words Conf.S; rw [if_neg hf, Int.zero_mul]) g1
    obtain ⟨had, rfl, _, hcells⟩ := hI.flat.at_ (by omega)
    have he : en = 0 ∨ en = 1 ∨ en = 2 := by omega
    rcases he with he | he | he
    · exact steps_ok0 c had hn hcap heap t n en w hI hcells hf g2 g3 (by omega) (by omega) (by omega) he
    · exact steps_ok1 c had hn hcap heap t n en w hI hcells hf g2 g3 (by omega) (by omega) (by omega) he
    · exact steps_ok2 c had hn hcap heap t n en w hI hcells hf g2 g3 (by omega) (by omega) (by omega) he
  · refine steps_bad c H hn hcap t tm en w ?_
    by_cases g1 : c.words = 0
    · exact .inl (by simpa using g1)
    · have e1 : (c.words == 0) = false := by simpa using g1
      refine .inr ?_
      by_cases g2 : (hn : Int) = c.words
      · have e2 : ((hn : Int) != c.words) = false := by simpa using g2
        refine .inr ?_
        by_cases g3 : c.rg < 2
        · exact .inl ⟨e1, e2, by simpa using g3⟩
        · have e3 : decide (c.rg < 2) = false := by simpa using g3
          refine .inr ?_
          by_cases g4 : tm < 0
          · exact .inl ⟨e1, e2, e3, by simpa using g4⟩
          · have e4 : decide (tm < 0) = false := by simpa using g4
            refine .inr ?_
            by_cases g5 : 14 < tm
            · exact .inl ⟨e1, e2, e3, e4, by simpa using g5⟩
            · have e5 : decide (14 < tm) = false := by simpa using g5
              refine .inr ?_
              by_cases g6 : t < 0
              · exact .inl ⟨e1, e2, e3, e4, e5, by simpa using g6⟩
              · have e6 : decide (t < 0) = false := by simpa using g6
                refine .inr ?_
                by_cases g7 : c.words ≤ t
                · exact .inl ⟨e1, e2, e3, e4, e5, e6, by simpa using g7⟩
                · have e7 : decide (c.words ≤ t) = false := by simpa using g7
                  refine .inr ?_
                  by_cases g8 : en < 0
                  · exact .inl ⟨e1, e2, e3, e4, e5, e6, e7, by simpa using g8⟩
                  · have e8 : decide (en < 0) = false := by simpa using g8
                    exact .inr ⟨e1, e2, e3, e4, e5, e6, e7, e8, by
                      by_cases g9 : 2 < en
                      · simpa using g9
                      · exact absurd ⟨g1, g2, by omega, by omega, by omega, by omega, by omega, by omega, by omega⟩ hg⟩
      · exact .inl ⟨e1, by simpa using g2⟩
end Go.Proofs.Ytfbdfboekgjbcaa
