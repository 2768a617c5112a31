/- The contracts of package latch: drains, does, Step. -/
import Derived.Test.YteopldhcmddokaaLatch1
namespace Go.Proofs.Yteopldhcmddokaa
open Go.RowKit

theorem LatchAt.ends {l : LM} (g : Bool) : l.ends g = { { l with at_ := 6 } with got := g } := rfl

set_option maxRecDepth 100000 in
set_option maxHeartbeats 2000000 in
theorem drains_calls (b p ab : Nat) (l : LM) (s : CM) (w : World) (h : LC w b p ab l s) (hs : l.Sane) :
    Calls Try.prog 55 #[.pointer (some ⟨b, 0, none⟩), .pointer (some ⟨p, 0, none⟩)] w fun e w' => e = .returned (.int .i64 (l.drainsE s)) ∧ LC w' b p ab (l.drainsL s) (l.drainsS s) ∧ Fr (trio b p ab) w w' := by
  have HH := Lib.hid h
  obtain ⟨-, -, -, -, -, c5, c6, c7, -, c9, -⟩ := h.l.cell
  have f14 := h.l.free 14
  have f17 := h.l.free 17
  by_cases hcan : l.cancel = true
  · have HE := Lib.hid (show l.drainsE s = s.err l.base from by unfold LM.drainsE; rw [hcan]; rfl)
    have HL := Lib.hid (show l.drainsL s = l.ends false from by unfold LM.drainsL; rw [hcan]; rfl)
    have HS := Lib.hid (show l.drainsS s = s.store l.base 0 from by unfold LM.drainsS; rw [hcan]; rfl)
    have HN := Lib.hid (ends_calls b l false w h.l)
    clear h hs
    go_enter Try.func55, Try.ntmps55
    go_wp2_with (first
      | (go_at_call 38; (with_reducible refine HN.out.mono ?_); rintro e w1 ⟨rfl, hl1, hf1⟩; have h1 := HH.out.stored hl1 hf1; have hc1 := h1.s; have d7 : w1.cell? ⟨b, 18, none⟩ = some (.int .i64 l.base) := hl1.c_base)
      | (go_at_call 56; (with_reducible refine (store_calls p ab s l.base 0 _ hc1).mono ?_); rintro e w2 ⟨rfl, hc2, hf2⟩))
    go_ret
    exact ⟨by rw [HE.out]; rfl, by rw [HL.out, HS.out]; exact h1.access hc2 hf2, hf1.tri.trans hf2.tri2⟩
  · replace hcan : l.cancel = false := by simpa using hcan
    have HE := Lib.hid (show l.drainsE s = s.err (l.base + l.word) from by unfold LM.drainsE; rw [hcan]; rfl)
    have HS := Lib.hid (show l.drainsS s = s.tick from by unfold LM.drainsS; rw [hcan]; rfl)
    have HL : Hid (l.drainsL s = if l.others (s.word (l.base + l.word)) != 0 then l else if l.word < 7 then { l with word := l.word + 1 } else if l.rd then { l with at_ := 2 } else l.ends true) := by
      show l.drainsL s = _; unfold LM.drainsL; rw [hcan]; rfl
    have HO := Lib.hid (fun n w h => others_calls b l n w h hs)
    have HN := Lib.hid (fun w h => ends_calls b l true w h)
    have b0 := hs.b0
    have b1 := hs.b1
    have w0 := hs.w0
    have w1 := hs.w1
    have HB := Lib.hid (show wrap64 (l.base + l.word) = l.base + l.word from by unfold wrap64; omega)
    have hcs : ((l.others (s.word (l.base + l.word)) != 0) = true ∧ Hid (l.drainsL s = l)) ∨ ((l.others (s.word (l.base + l.word)) != 0) = false ∧ l.word < 7 ∧ Hid (l.drainsL s = { l with word := l.word + 1 })) ∨ ((l.others (s.word (l.base + l.word)) != 0) = false ∧ ¬ l.word < 7 ∧ l.rd = true ∧ Hid (l.drainsL s = { l with at_ := 2 })) ∨ ((l.others (s.word (l.base + l.word)) != 0) = false ∧ ¬ l.word < 7 ∧ l.rd = false ∧ Hid (l.drainsL s = l.ends true)) := by
      have HLo := HL.out
      cases h1 : (l.others (s.word (l.base + l.word)) != 0)
      · rw [h1, if_neg (by simp)] at HLo
        by_cases h2 : l.word < 7
        · rw [if_pos h2] at HLo; exact .inr (.inl ⟨rfl, h2, HLo⟩)
        · rw [if_neg h2] at HLo
          rcases Bool.eq_false_or_eq_true l.rd with h3 | h3
          · rw [if_pos h3] at HLo; exact .inr (.inr (.inl ⟨rfl, h2, h3, HLo⟩))
          · rw [if_neg (by simp [h3])] at HLo; exact .inr (.inr (.inr ⟨rfl, h2, h3, HLo⟩))
      · rw [h1, if_pos rfl] at HLo; exact .inl ⟨rfl, HLo⟩
    clear HL
    have hst := h.s
    clear h hs
    rcases hcs with ⟨x1, HL⟩ | ⟨x1, x2, HL⟩ | ⟨x1, x2, x3, HL⟩ | ⟨x1, x2, x3, HL⟩
    all_goals
      go_enter Try.func55, Try.ntmps55
      go_wp2
      go_region_held3 (fun w' => w'.cell? ⟨b, 18, none⟩ = some (.int .i64 l.base) ∧ w'.cell? ⟨b, 17, none⟩ = some (.int .i64 l.word)) (first | (have q := h1.l.cell; exact ⟨q.2.2.2.2.2.2.2.1, q.2.2.2.2.2.2.1⟩) | go_keep)
        (first | (go_at_call 53; rw [iw, HB.out]; (with_reducible refine (load_calls p ab s (l.base + l.word) _ hst.drew).mono ?_); rintro e w1 ⟨rfl, hc1, hf1⟩; have h1 : LC w1 b p ab l s.tick := LC.access (LC.drewN HH.out 1) hc1 hf1))
      have HC1 := Lib.hid h1
      have hfb : Fr (two p ab) w w1 := ((Fr.refl _ w).drew).trans hf1
      clear h1 hc1 
      go_wp2_with (first
        | (go_at_call 70; (with_reducible refine (HO.out _ _ HC1.out.l).mono ?_); rintro e w2 ⟨rfl, q, rfl⟩; have h2 := HC1.out.drewN q; have g14 := h2.l.free 14; have g17 := h2.l.free 17; have g5 := h2.l.c_rd; have g6 := h2.l.c_word; have g7 := h2.l.c_at)
        | (go_at_call 38; (with_reducible refine (HN.out _ h2.l).mono ?_); rintro e w3 ⟨rfl, hl3, hf3⟩))
      go_ret
      first
        | exact ⟨by rw [HE.out]; rfl, by rw [HL.out, HS.out]; exact h2, hfb.tri2.trans ((Fr.refl _ _).drewN q)⟩
        | exact ⟨by rw [HE.out]; rfl, by rw [HL.out, HS.out]; exact h2.stored (h2.l.setWord _) (fr_set _ _ _ _), (hfb.tri2.trans ((Fr.refl _ _).drewN q)).trans (fr_set _ _ _ _).tri⟩
        | exact ⟨by rw [HE.out]; rfl, by rw [HL.out, HS.out]; exact h2.stored (h2.l.setAt _) (fr_set _ _ _ _), (hfb.tri2.trans ((Fr.refl _ _).drewN q)).trans (fr_set _ _ _ _).tri⟩
        | exact ⟨by rw [HE.out]; rfl, by rw [HL.out, HS.out]; exact h2.stored hl3 hf3, (hfb.tri2.trans ((Fr.refl _ _).drewN q)).trans hf3.tri⟩

theorem LM.ends_at (l : LM) (n : Int) (g : Bool) : LM.ends { l with at_ := n } g = l.ends g := rfl
set_option maxRecDepth 100000 in
set_option maxHeartbeats 2000000 in
theorem does_calls (b p ab : Nat) (l : LM) (s : CM) (w : World) (h : LC w b p ab l s) (hs : l.Sane) :
    Calls Try.prog 37 #[.pointer (some ⟨b, 0, none⟩), .pointer (some ⟨p, 0, none⟩)] w fun e w' => e = .returned (.int .i64 (l.doesE s)) ∧ LC w' b p ab (l.doesL s) (l.doesS s) ∧ Fr (trio b p ab) w w' := by
  have HH := Lib.hid h
  obtain ⟨-, -, c2, c3, c4, c5, c6, c7, -, c9, -⟩ := h.l.cell
  have f14 := h.l.free 14
  have hst := h.s
  have b0 := hs.b0
  have b1 := hs.b1
  have t0 := hs.th0
  have t1 := hs.th1
  have HSA : Hid (∀ n, LM.Sane { l with at_ := n }) := fun n => ⟨hs.th0, hs.th1, hs.b0, hs.b1, hs.w0, hs.w1⟩
  have HSE : Hid (∀ g, (l.ends g).Sane) := fun n => ⟨hs.th0, hs.th1, hs.b0, hs.b1, hs.w0, hs.w1⟩
  have HR := Lib.hid (fun l' (hl : l'.Sane) s' n hn w' h' => reads_calls b p ab l' s' n hn w' h' hl)
  have HD := Lib.hid (drains_calls b p ab l s w h hs)
  have HN := Lib.hid (fun l' g w' h' => ends_calls b l' g w' h')
  have HHS := Lib.hid hs
  have HT := Lib.hid (show wrap64 (l.th + 1) = l.th + 1 from by unfold wrap64; omega)
  have hcs : ((l.at_ == 0) = true) ∨ ((l.at_ == 0) = false ∧ (l.at_ == 1) = true) ∨ ((l.at_ == 0) = false ∧ (l.at_ == 1) = false ∧ (l.at_ == 2) = true) ∨ ((l.at_ == 0) = false ∧ (l.at_ == 1) = false ∧ (l.at_ == 2) = false ∧ (l.at_ == 3) = true) ∨ ((l.at_ == 0) = false ∧ (l.at_ == 1) = false ∧ (l.at_ == 2) = false ∧ (l.at_ == 3) = false ∧ (l.at_ == 4) = true) ∨ ((l.at_ == 0) = false ∧ (l.at_ == 1) = false ∧ (l.at_ == 2) = false ∧ (l.at_ == 3) = false ∧ (l.at_ == 4) = false) := by simp; omega
  clear h hs
  rcases hcs with a0 | ⟨a0, a1⟩ | ⟨a0, a1, a2⟩ | ⟨a0, a1, a2, a3⟩ | ⟨a0, a1, a2, a3, a4⟩ | ⟨a0, a1, a2, a3, a4⟩
  · have HX := Lib.hid (show l.doesE s = l.readsE s 1 ∧ l.doesL s = { l with at_ := 1 } ∧ l.doesS s = l.readsS s 1 from by unfold LM.doesE LM.doesL LM.doesS; simp_all)
    go_enter Try.func37, Try.ntmps37
    go_wp2_with (first
      | (go_at_call 52; (with_reducible refine (HR.out _ (HSA.out 1) s 1 (.inl rfl) _ (HH.out.stored (HH.out.l.setAt 1) (fr_set _ _ _ _))).mono ?_); rintro e w1 ⟨rfl, h1, hf1⟩))
    go_ret
    exact ⟨by rw [HX.out.1]; rfl, by rw [HX.out.2.1, HX.out.2.2]; exact h1, (fr_set _ _ _ _).tri.trans hf1.tri2⟩
  · have hx : (s.word l.base == 0) = true ∨ ((s.word l.base == 0) = false ∧ (s.word l.base == l.th + 1) = true) ∨ ((s.word l.base == 0) = false ∧ (s.word l.base == l.th + 1) = false) := by
      cases (s.word l.base == 0) <;> cases (s.word l.base == l.th + 1) <;> simp
    have HX : Hid (l.doesE s = s.err l.base ∧ l.doesL s = (if s.word l.base == 0 || s.word l.base == l.th + 1 then LM.ends { l with at_ := 2 } true else { l with at_ := 2 }) ∧ l.doesS s = s.tick) := by
      show _ ∧ _ ∧ _; unfold LM.doesE LM.doesL LM.doesS; simp_all
    rcases hx with x1 | ⟨x1, x2⟩ | ⟨x1, x2⟩
    all_goals
      go_enter Try.func37, Try.ntmps37
      go_wp2_with (first
        | (go_at_call 53; (with_reducible refine (load_calls p ab s l.base _ hst).mono ?_); rintro e w1 ⟨rfl, hc1, hf1⟩; have h1 := HH.out.access hc1 hf1; have g14 := h1.l.free 14; have g1 := h1.l.c_at; have g2 := h1.l.c_th)
        | (go_at_call 38; (with_reducible refine (HN.out _ _ _ (h1.l.setAt 2)).mono ?_); rintro e w2 ⟨rfl, hl2, hf2⟩))
      go_ret
      first
        | exact ⟨by rw [HX.out.1]; rfl, by rw [HX.out.2.1, HX.out.2.2, x1]; exact (h1.stored (h1.l.setAt 2) (fr_set _ _ _ _)).stored hl2 hf2, (hf1.tri2.trans (fr_set _ _ _ _).tri).trans hf2.tri⟩
        | exact ⟨by rw [HX.out.1]; rfl, by rw [HX.out.2.1, HX.out.2.2, x1, x2]; exact (h1.stored (h1.l.setAt 2) (fr_set _ _ _ _)).stored hl2 hf2, (hf1.tri2.trans (fr_set _ _ _ _).tri).trans hf2.tri⟩
        | exact ⟨by rw [HX.out.1]; rfl, by rw [HX.out.2.1, HX.out.2.2, x1, x2]; exact h1.stored (h1.l.setAt 2) (fr_set _ _ _ _), hf1.tri2.trans (fr_set _ _ _ _).tri⟩
  · have HX := Lib.hid (show l.doesE s = l.readsE s (-1) ∧ l.doesL s = l.ends l.good ∧ l.doesS s = l.readsS s (-1) from by unfold LM.doesE LM.doesL LM.doesS; simp_all)
    go_enter Try.func37, Try.ntmps37
    go_wp2_with (first
      | (go_at_call 38; (with_reducible refine (HN.out _ _ _ HH.out.l).mono ?_); rintro e w1 ⟨rfl, hl1, hf1⟩; have h1 := HH.out.stored hl1 hf1)
      | (go_at_call 52; (with_reducible refine (HR.out _ (HSE.out _) s (-1) (.inr rfl) _ h1).mono ?_); rintro e w2 ⟨rfl, h2, hf2⟩))
    go_ret
    exact ⟨by rw [HX.out.1]; rfl, by rw [HX.out.2.1, HX.out.2.2]; exact h2, hf1.tri.trans hf2.tri2⟩
  · have HX : Hid (l.doesE s = s.err l.base ∧ l.doesL s = (if s.hit l.base 0 then { l with at_ := 4 } else LM.ends { l with at_ := 4 } false) ∧ l.doesS s = s.swap l.base 0 (l.th + 1)) := by
      show _ ∧ _ ∧ _; unfold LM.doesE LM.doesL LM.doesS; simp_all
    rcases Bool.eq_false_or_eq_true (s.hit l.base 0) with x1 | x1
    all_goals
      go_enter Try.func37, Try.ntmps37
      go_wp2
      go_region_held3 (fun w' => w'.cell? ⟨b, 18, none⟩ = some (.int .i64 l.base) ∧ w'.cell? ⟨b, 13, none⟩ = some (.int .i64 l.th)) (first | exact ⟨h1.l.c_base, h1.l.c_th⟩ | go_keep)
        (first | (go_at_call 54; rw [iw, HT.out]; (with_reducible refine (swap_calls p ab s l.base 0 (l.th + 1) _ hst.drew).mono ?_); rintro e w1 ⟨rfl, hc1, hf1⟩; have h1 : LC w1 b p ab l (s.swap l.base 0 (l.th + 1)) := LC.access (LC.drewN HH.out 1) hc1 hf1))
      have hfb : Fr (two p ab) w w1 := ((Fr.refl _ w).drew).trans hf1
      have HC1 := Lib.hid h1
      have g14 := h1.l.free 14
      have g1 := h1.l.c_at
      clear h1 hc1
      go_wp2_with (first
        | (go_at_call 38; (with_reducible refine (HN.out _ _ _ (HC1.out.l.setAt 4)).mono ?_); rintro e w2 ⟨rfl, hl2, hf2⟩))
      go_ret
      first
        | exact ⟨by rw [HX.out.1]; rfl, by rw [HX.out.2.1, HX.out.2.2, if_pos x1]; exact HC1.out.stored (HC1.out.l.setAt 4) (fr_set _ _ _ _), hfb.tri2.trans (fr_set _ _ _ _).tri⟩
        | exact ⟨by rw [HX.out.1]; rfl, by rw [HX.out.2.1, HX.out.2.2, if_neg (by simp [x1])]; exact (HC1.out.stored (HC1.out.l.setAt 4) (fr_set _ _ _ _)).stored hl2 hf2, (hfb.tri2.trans (fr_set _ _ _ _).tri).trans hf2.tri⟩
  · have HX := Lib.hid (show l.doesE s = l.drainsE s ∧ l.doesL s = l.drainsL s ∧ l.doesS s = l.drainsS s from by unfold LM.doesE LM.doesL LM.doesS; simp_all)
    go_enter Try.func37, Try.ntmps37
    go_wp2_with (first
      | (go_at_call 55; (with_reducible refine HD.out.mono ?_); rintro e w1 ⟨rfl, h1, hf1⟩))
    go_ret
    exact ⟨by rw [HX.out.1]; rfl, by rw [HX.out.2.1, HX.out.2.2]; exact h1, hf1⟩
  · have HX := Lib.hid (show l.doesE s = s.err l.base ∧ l.doesL s = l.ends true ∧ l.doesS s = s.store l.base 0 from by unfold LM.doesE LM.doesL LM.doesS; simp_all)
    go_enter Try.func37, Try.ntmps37
    go_wp2_with (first
      | (go_at_call 38; (with_reducible refine (HN.out _ _ _ HH.out.l).mono ?_); rintro e w1 ⟨rfl, hl1, hf1⟩; have h1 := HH.out.stored hl1 hf1; have g1 : w1.cell? ⟨b, 18, none⟩ = some (.int .i64 l.base) := h1.l.c_base)
      | (go_at_call 56; (with_reducible refine (store_calls p ab s l.base 0 _ h1.s).mono ?_); rintro e w2 ⟨rfl, hc2, hf2⟩))
    go_ret
    exact ⟨by rw [HX.out.1]; rfl, by rw [HX.out.2.1, HX.out.2.2]; exact h1.access hc2 hf2, hf1.tri.trans hf2.tri2⟩
end Go.Proofs.Yteopldhcmddokaa
