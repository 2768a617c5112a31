/- The contract of a latch's Step, and of what makes and tells of one. -/
import Derived.Test.YteopldhcmddokaaLatch2
namespace Go.Proofs.Yteopldhcmddokaa
open Go.RowKit

theorem latch_bounds {c : Conf} {n : Int} (h : 0 ≤ c.latch n) : c.Fine ∧ c.latch n ≤ 100000 := by
  have hl : c.level n = 2 := by
    by_cases hl : c.level n = 2
    · exact hl
    · rw [Conf.latch_no hl] at h; omega
  have hb := c.bounds
  have hw := c.words_bounds
  have hn : ¬ (n < 0 ∨ c.nodes ≤ n) := by
    intro hh; unfold Conf.level at hl; rw [if_pos hh] at hl; omega
  have hf : c.Fine := by
    by_cases hf : c.Fine
    · exact hf
    · exfalso; unfold Conf.nodes Conf.R Conf.O Conf.S at hn; rw [if_neg hf, if_neg hf, if_neg hf] at hn; omega
  refine ⟨hf, ?_⟩
  rw [Conf.latch_yes hl]
  unfold Conf.nodes at hn
  omega
theorem LM.fit_sane {l : LM} (h : l.fit = true) (hw : 0 ≤ l.word ∧ l.word ≤ 7) : l.begun.Sane := by
  unfold LM.fit at h
  simp at h
  obtain ⟨⟨h1, h2⟩, h3⟩ := h
  obtain ⟨hf, hb⟩ := latch_bounds h1
  have ht : l.c.th ≤ 64 := hf.2.1.1.2
  exact ⟨h2, by show l.th ≤ 100000; omega, h1, hb, hw.1, hw.2⟩
theorem LM.doesL_word (l : LM) (s : CM) (hw : 0 ≤ l.word ∧ l.word ≤ 7) : 0 ≤ (l.doesL s).word ∧ (l.doesL s).word ≤ 7 := by
  unfold LM.doesL LM.drainsL
  repeat' split
  all_goals first | exact hw | (show 0 ≤ l.word + 1 ∧ l.word + 1 ≤ 7; omega)
theorem LM.step_word (l : LM) (s : CM) (hw : 0 ≤ l.word ∧ l.word ≤ 7) : 0 ≤ (l.step s).word ∧ (l.step s).word ≤ 7 := by
  unfold LM.step
  split
  · exact hw
  · split
    · split
      · exact LM.doesL_word l.begun s hw
      · exact LM.doesL_word l.begun s hw
    · exact hw

set_option maxRecDepth 100000 in
set_option maxHeartbeats 2000000 in
theorem step_calls (b p ab : Nat) (l : LM) (s : CM) (w : World) (h : LC w b p ab l s) (hw : 0 ≤ l.word ∧ l.word ≤ 7) :
    Calls Try.prog 16 #[.pointer (some ⟨b, 0, none⟩), .pointer (some ⟨p, 0, none⟩)] w fun e w' => e = .returned (.bool (l.step s).over) ∧ LC w' b p ab (l.step s) (l.stepS s) ∧ Fr (trio b p ab) w w' := by
  have HH := Lib.hid h
  have c2 := h.l.c_at
  have c7 := h.l.c_steps
  have f18 := h.l.free 18
  have f19 := h.l.free 19
  by_cases h6 : l.at_ = 6
  · have h6' : (l.at_ == 6) = true := by simpa using h6
    have HX := Lib.hid (show l.step s = l ∧ l.stepS s = s ∧ l.over = true from ⟨if_pos h6, if_pos h6, h6'⟩)
    clear h hw h6
    go_enter Try.func16, Try.ntmps16
    go_wp2
    go_ret
    exact ⟨by rw [HX.out.1, HX.out.2.2]; rfl, by rw [HX.out.1, HX.out.2.1]; exact HH.out, Fr.refl _ _⟩
  · have h6' : (l.at_ == 6) = false := by simpa using h6
    have h1 : LC (w.setCell ⟨b, 19, none⟩ (.int .i64 (wrap64 (l.steps + 1)))) b p ab { l with steps := wrap64 (l.steps + 1) } s := h.stored (h.l.setSteps _) (fr_set _ _ _ _)
    have HC1 := Lib.hid h1
    have HT := Lib.hid (latch_calls l.c l.node)
    unfold Conf.val at HT
    have hcs : (decide (0 ≤ l.c.latch l.node) = false ∧ Hid (l.fit = false)) ∨ (decide (0 ≤ l.c.latch l.node) = true ∧ decide (0 ≤ l.th) = false ∧ Hid (l.fit = false)) ∨ (decide (0 ≤ l.c.latch l.node) = true ∧ decide (0 ≤ l.th) = true ∧ decide (l.th < l.c.th) = false ∧ Hid (l.fit = false)) ∨ (decide (0 ≤ l.c.latch l.node) = true ∧ decide (0 ≤ l.th) = true ∧ decide (l.th < l.c.th) = true ∧ Hid (l.fit = true)) := by
      unfold Hid LM.fit
      cases decide (0 ≤ l.c.latch l.node) <;> cases decide (0 ≤ l.th) <;> cases decide (l.th < l.c.th) <;> simp
    have HN := Lib.hid (fun l' g w' h' => ends_calls b l' g w' h')
    have HW := Lib.hid hw
    have HNo : Hid (l.fit = false → l.step s = l.begun.spoilt ∧ l.stepS s = s) := fun hf => ⟨by unfold LM.step; rw [if_neg h6, hf]; rfl, by unfold LM.stepS; rw [if_neg h6, hf]; rfl⟩
    have HYes : Hid (l.fit = true → l.begun.doesE s = 0 → l.step s = l.begun.doesL s ∧ l.stepS s = l.begun.doesS s) := fun hf he => ⟨by unfold LM.step; rw [if_neg h6, hf, if_pos rfl, if_pos he], by unfold LM.stepS; rw [if_neg h6, hf]; rfl⟩
    have HYesN : Hid (l.fit = true → ¬ l.begun.doesE s = 0 → l.step s = (l.begun.doesL s).spoilt ∧ l.stepS s = l.begun.doesS s) := fun hf he => ⟨by unfold LM.step; rw [if_neg h6, hf, if_pos rfl, if_neg he], by unfold LM.stepS; rw [if_neg h6, hf]; rfl⟩
    clear h hw h6 h1
    have hE : (l.begun.doesE s != 0) = true ∨ (l.begun.doesE s != 0) = false := by cases (l.begun.doesE s != 0) <;> simp
    have hcs2 : (decide (0 ≤ l.c.latch l.node) = false ∧ Hid (l.fit = false)) ∨ (decide (0 ≤ l.c.latch l.node) = true ∧ decide (0 ≤ l.th) = false ∧ Hid (l.fit = false)) ∨ (decide (0 ≤ l.c.latch l.node) = true ∧ decide (0 ≤ l.th) = true ∧ decide (l.th < l.c.th) = false ∧ Hid (l.fit = false)) ∨ (decide (0 ≤ l.c.latch l.node) = true ∧ decide (0 ≤ l.th) = true ∧ decide (l.th < l.c.th) = true ∧ Hid (l.fit = true) ∧ (l.begun.doesE s != 0) = true) ∨ (decide (0 ≤ l.c.latch l.node) = true ∧ decide (0 ≤ l.th) = true ∧ decide (l.th < l.c.th) = true ∧ Hid (l.fit = true) ∧ (l.begun.doesE s != 0) = false) := by
      rcases hcs with h | h | h | ⟨h1, h2, h3, h4⟩
      · exact .inl h
      · exact .inr (.inl h)
      · exact .inr (.inr (.inl h))
      · rcases hE with h5 | h5
        · exact .inr (.inr (.inr (.inl ⟨h1, h2, h3, h4, h5⟩)))
        · exact .inr (.inr (.inr (.inr ⟨h1, h2, h3, h4, h5⟩)))
    clear hcs hE
    rcases hcs2 with ⟨d1, hf⟩ | ⟨d1, d2, hf⟩ | ⟨d1, d2, d3, hf⟩ | ⟨d1, d2, d3, hf, d4⟩ | ⟨d1, d2, d3, hf, d4⟩
    all_goals
      go_enter Try.func16, Try.ntmps16
      go_wp2
      go_region_held3 (fun w' => w'.cell? ⟨b, 0, none⟩ = some (.int .i64 l.c.r) ∧ w'.cell? ⟨b, 1, none⟩ = some (.int .i64 l.c.o) ∧ w'.cell? ⟨b, 2, none⟩ = some (.int .i64 l.c.s) ∧ w'.cell? ⟨b, 3, none⟩ = some (.int .i64 l.c.wd) ∧ w'.cell? ⟨b, 4, none⟩ = some (.int .i64 l.c.th) ∧ w'.cell? ⟨b, 5, none⟩ = some (.int .i64 l.c.sl) ∧ w'.cell? ⟨b, 6, none⟩ = some (.int .i64 l.c.rg) ∧ w'.cell? ⟨b, 7, none⟩ = some (.int .i64 l.c.lk) ∧ w'.cell? ⟨b, 8, none⟩ = some (.int .i64 l.c.un) ∧ w'.cell? ⟨b, 9, none⟩ = some (.int .i64 l.c.es) ∧ w'.cell? ⟨b, 10, none⟩ = some (.int .i64 l.c.tk) ∧ w'.cell? ⟨b, 11, none⟩ = some (.int .i64 l.c.po) ∧ w'.cell? ⟨b, 12, none⟩ = some (.int .i64 l.node))
        (first | exact (h2.l.setBase (l.c.latch l.node)).conf13 | exact h2.l.conf13 | exact HC1.out.l.conf13 | go_keep)
        (first | (go_at_call 21; (with_reducible refine (HT.out _).mono ?_); rintro e w2 ⟨rfl, hf2⟩; have h2 : LC w2 b p ab { l with steps := wrap64 (l.steps + 1) } s := (LC.drewN HC1.out 1).frame hf2 (fun x => x) (fun x => x) (fun x => x); have g18 := h2.l.free 18; have g7 := h2.l.c_base))
      have h3 : LC (w2.setCell ⟨b, 18, none⟩ (.int .i64 (l.c.latch l.node))) b p ab l.begun s := h2.stored (h2.l.setBase _) (fr_set _ _ _ _)
      have hf3 : Fr (trio b p ab) w (w2.setCell ⟨b, 18, none⟩ (.int .i64 (l.c.latch l.node))) := ((((fr_set w b 19 _).tri).drew).trans hf2.tri0).trans (fr_set _ _ _ _).tri
      generalize w2.setCell ⟨b, 18, none⟩ (.int .i64 (l.c.latch l.node)) = w3 at *
      have HC3 := Lib.hid h3
      have HF3 := Lib.hid hf3
      have e7 : w3.cell? ⟨b, 18, none⟩ = some (.int .i64 (l.c.latch l.node)) := h3.l.c_base
      have e3 : w3.cell? ⟨b, 13, none⟩ = some (.int .i64 l.th) := h3.l.c_th
      have e4 : w3.cell? ⟨b, 4, none⟩ = some (.int .i64 l.c.th) := h3.l.cell.1.1
      clear h2 hf2 g18 g7 h3 hf3 c2 c7 f18 f19
      go_wp2
      go_quiet (fail)
      have HC4 := Lib.hid (HC3.out.drewN nq)
      clear e7 e3 e4
      go_wp2_with (first
        | (go_at_call 37; (with_reducible refine (does_calls b p ab l.begun s _ HC4.out (LM.fit_sane hf.out HW.out)).mono ?_); rintro e w5 ⟨rfl, h5, hf5⟩; have g5 := h5.l.c_at)
        | (go_at_call 38; (with_reducible refine (HN.out _ _ _ (by first | exact h5.l | exact HC4.out.l)).mono ?_); rintro e w6 ⟨rfl, hl6, hf6⟩; have g6 := hl6.c_e; have g7 := hl6.free 22; have g8 : w6.cell? ⟨b, 14, none⟩ = some (.int .i64 6) := hl6.c_at))
      go_ret
      first
        | exact ⟨by rw [(HYes.out hf.out (by simpa using d4)).1]; rfl, by rw [(HYes.out hf.out (by simpa using d4)).1, (HYes.out hf.out (by simpa using d4)).2]; exact h5, (HF3.out.drewN nq).trans hf5⟩
        | exact ⟨by rw [(HYesN.out hf.out (by simpa using d4)).1]; rfl, by rw [(HYesN.out hf.out (by simpa using d4)).1, (HYesN.out hf.out (by simpa using d4)).2]; exact (h5.stored hl6 hf6).stored (hl6.setE 13) (fr_set _ _ _ _), (((HF3.out.drewN nq).trans hf5).trans hf6.tri).trans (fr_set _ _ _ _).tri⟩
        | exact ⟨by rw [(HNo.out hf.out).1]; rfl, by rw [(HNo.out hf.out).1, (HNo.out hf.out).2]; exact (HC4.out.stored hl6 hf6).stored (hl6.setE 13) (fr_set _ _ _ _), ((HF3.out.drewN nq).trans hf6.tri).trans (fr_set _ _ _ _).tri⟩
end Go.Proofs.Yteopldhcmddokaa
