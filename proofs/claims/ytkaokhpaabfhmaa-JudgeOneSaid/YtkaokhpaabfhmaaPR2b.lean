/- ltkref5.Check. -/
import Derived.Test.YtkaokhpaabfhmaaPR1
import Derived.Test.YtkaokhpaabfhmaaP2
namespace Go.Proofs.Ytkaokhpaabfhmaa
open Go.RowKit

theorem progOk_falseb {c : Conf} {p : List Ins} {j : Nat} (h : j < p.length) (hm : mayB c (p.getD j default) j p.length = false) : progOk c p = false := by
  cases hp : progOk c p with
  | false => rfl
  | true => rw [(progOk_iff.1 hp).2.2 j h] at hm; cases hm
theorem any_take_succb {l : List Int} {f : Int → Bool} {q : Nat} (h : q < l.length) : (l.take (q + 1)).any f = ((l.take q).any f || f (l.getD q 0)) := by
  rw [List.take_add_one, List.getElem?_eq_getElem h, List.any_append, List.getD_eq_getElem?_getD, List.getElem?_eq_getElem h]
  simp


set_option maxRecDepth 100000 in
set_option maxHeartbeats 16000000 in
theorem refCheck5_any (c : Conf) (A : Option Addr) (n cap : Nat) (p : List Ins) (F : Nat → Prop) (w : World) (h : ProgAt w F A n cap p) :
    Calls Try.prog 18 #[c.val, .slice A n cap] w fun e w' => e = .returned (.int .i64 (chkV c p)) ∧ Fr (fun _ => False) w w' := by
  obtain ⟨r, hr⟩ : ∃ r, r = chkV c p := ⟨_, rfl⟩
  rw [← hr]
  unfold chkV at hr
  have HR := Lib.hid hr
  have HC := Lib.hid (ref_check_calls c)
  have HB := Lib.hid (BoxConf.mk w c)
  have HREG := Lib.hid (ref_reg_calls c)
  obtain ⟨cs, hcs, hrow⟩ := h.ex
  have HCS := Lib.hid hcs
  have HROW := Lib.hid hrow
  have HLEN := Lib.hid h.len
  have hcap := h.cap
  clear hr h hcs hrow
  by_cases hf : c.Fine
  · have hck : c.chk = 0 := Conf.chk_yes hf
    rw [hck] at HC
    have HFINE := Lib.hid hf
    clear hck hf
    unfold Conf.val at *
    by_cases hn : 60 < n
    · have hd : decide ((60 : Int) < n) = true := by simp; omega
      have HX := Lib.hid (show progOk c p = false by
        have := HLEN.out
        unfold progOk; simp; omega)
      go_enter Try.func18, Try.ntmps18
      go_wp2_with (go_at_call 33; (with_reducible refine (HC.out _).mono ?_); rintro ex w1 ⟨rfl, hf1⟩)
      go_ret
      exact ⟨by rw [HR.out, HX.out]; rfl, ((Fr.refl _ _).alloc _).trans hf1⟩
    · have hd : decide ((60 : Int) < n) = false := by simp; omega
      go_enter Try.func18, Try.ntmps18
      go_wp2_with (go_at_call 33; (with_reducible refine (HC.out _).mono ?_); rintro ex w1 ⟨rfl, hf1⟩; have HBX := Lib.hid (HB.out.frame hf1 (fun x => x)); have HF1 := Lib.hid (((Fr.refl _ w).alloc _).trans hf1); clear hf1)
      have HNOT0 := Lib.hid (fun (j : Nat) (hj : j < n) (hm : mayB c (p.getD j default) j n = false) => progOk_falseb (c := c) (p := p) (j := j) (by rw [HLEN.out]; exact hj) (by rw [HLEN.out]; exact hm))
      have HYES := Lib.hid (fun (hall : ∀ j, j < n → mayB c (p.getD j default) j n = true) => show progOk c p = true from progOk_iff.2 ⟨HFINE.out, by rw [HLEN.out]; omega, by rw [HLEN.out]; exact hall⟩)
      clear hd
      go_loopw [5, 7, 8] (fun v5 _ _ wr => ∃ j : Nat, j ≤ n ∧ v5 = .int .i64 j ∧ (∀ i, i < j → mayB c (p.getD i default) i n = true) ∧ BoxConf wr w.heap.size c ∧ Fr (fun _ => False) w wr) (fun v5 _ _ _ => n - (intOf v5).toNat)
      case atStart => exact ⟨0, Nat.zero_le _, rfl, fun i hi => absurd hi (Nat.not_lt_zero _), HBX.out, HF1.out⟩
      case round =>
        obtain ⟨j, hj, rfl, hb, hbx, hf⟩ := hrel
        have HBJ := Lib.hid hb
        have HBX2 := Lib.hid hbx
        have HF := Lib.hid hf
        clear hb hbx hf
        by_cases hlt : j < n
        · obtain ⟨ad, rfl, _, h1⟩ := HCS.out (by omega)
          obtain ⟨A1, n1, k1, hrw, _, hfl⟩ := HROW.out j hlt
          obtain ⟨q0, q1, q2, q3, q4⟩ := ins_cells (fun t u ht => HF.out.cell (h1 t u ht) (fun x => x)) hrw
          have HNOT := Lib.hid (HNOT0.out j hlt)
          generalize hx : p.getD j default = x at *
          have HX := Lib.hid hx
          obtain ⟨k, a, b, d, l⟩ := x
          dsimp only at q0 q1 q2 q3 q4 hfl
          have HLL := Lib.hid hfl.len
          have HFLI := Lib.hid (fun w' (hw : Fr (fun _ => False) (wr.alloc (.cells #[.int .i64 k, .int .i64 a, .int .i64 b, .int .i64 d, .slice A1 n1 k1] 67)) w') => hfl.frame ((HF.out.alloc (.cells #[.int .i64 k, .int .i64 a, .int .i64 b, .int .i64 d, .slice A1 n1 k1] 67)).trans hw) (fun _ _ x => x.elim))
          have HKW0 := Lib.hid (fun w' (hw : Fr (fun _ => False) (wr.alloc (.cells #[.int .i64 k, .int .i64 a, .int .i64 b, .int .i64 d, .slice A1 n1 k1] 67)) w') => show Fr (fun _ => False) w w' from (HF.out.alloc (.cells #[.int .i64 k, .int .i64 a, .int .i64 b, .int .i64 d, .slice A1 n1 k1] 67)).trans hw)
          have HKW := Lib.hid (fun w' (hw : Fr (fun _ => False) (wr.alloc (.cells #[.int .i64 k, .int .i64 a, .int .i64 b, .int .i64 d, .slice A1 n1 k1] 67)) w') => And.intro ((alloc_conf' _ _ _ HBX2.out (.cells #[.int .i64 k, .int .i64 a, .int .i64 b, .int .i64 d, .slice A1 n1 k1] 67)).frame hw (fun x => x)) (HKW0.out w' hw))
          have HBB := Lib.hid (fun w' (hw : Fr (fun _ => False) (wr.alloc (.cells #[.int .i64 k, .int .i64 a, .int .i64 b, .int .i64 d, .slice A1 n1 k1] 67)) w') => And.intro ((alloc_conf' _ _ _ HBX2.out (.cells #[.int .i64 k, .int .i64 a, .int .i64 b, .int .i64 d, .slice A1 n1 k1] 67)).frame hw (fun x => x)).all (box_ins (x := ⟨k, a, b, d, l⟩) (v := .slice A1 n1 k1) (hw.heap (heap_alloc_new wr _) (fun x => x))))
          dsimp only at HBB
          have hk := Fr.refl (fun _ => False) (wr.alloc (.cells #[.int .i64 k, .int .i64 a, .int .i64 b, .int .i64 d, .slice A1 n1 k1] 67))
          obtain ⟨⟨c0, c1, c2, c3, c4, c5, c6, c7, c8, c9, c10, c11⟩, p0, p1, p2, p3, p4⟩ := HBB.out _ hk
          have HNA := Lib.hid (fun w' => HREG.out a w')
          have HND := Lib.hid (fun w' => HREG.out d w')
          have HKN := Lib.hid (fun w' => refKnownC b w')
          obtain ⟨r0, hr⟩ : ∃ r0, r0 = mayB c ⟨k, a, b, d, l⟩ j n := ⟨_, rfl⟩
          have HMR := Lib.hid hr.symm
          unfold mayB at hr
          dsimp only at hr
          rw [HLL.out] at hr
          clear h1 hrw hfl hx
          generalize noneB c a = na at *
          generalize noneB c d = nd at *
          generalize known b = kn at *
          by_cases hkk : 1 ≤ k ∧ k ≤ 7
          · have hks : k = 1 ∨ k = 2 ∨ k = 3 ∨ k = 4 ∨ k = 5 ∨ k = 6 ∨ k = 7 := by omega
            clear hkk
            rcases hks with rfl | rfl | rfl | rfl | rfl | rfl | rfl
            · as_aux_lemma =>
                cases na with
                | true =>
                  simp at hr
                  subst hr
                  have TA := Lib.hid trivial
                  go_wp2_with (first
                    | (go_at_call 34
                       clear TA
                       (with_reducible refine (HNA.out _).mono ?_)
                       rintro ex w1 ⟨rfl, hf1⟩
                       replace hk := hk.trans hf1
                       clear hf1 c0 c1 c2 c3 c4 c5 c6 c7 c8 c9 c10 c11 p0 p1 p2 p3 p4
                       obtain ⟨⟨c0, c1, c2, c3, c4, c5, c6, c7, c8, c9, c10, c11⟩, p0, p1, p2, p3, p4⟩ := HBB.out _ hk)
                    | (go_at_call 34
                       (with_reducible refine (HND.out _).mono ?_)
                       rintro ex w1 ⟨rfl, hf1⟩
                       replace hk := hk.trans hf1
                       clear hf1 c0 c1 c2 c3 c4 c5 c6 c7 c8 c9 c10 c11 p0 p1 p2 p3 p4
                       obtain ⟨⟨c0, c1, c2, c3, c4, c5, c6, c7, c8, c9, c10, c11⟩, p0, p1, p2, p3, p4⟩ := HBB.out _ hk)
                    | (go_at_call 35
                       (with_reducible refine (HKN.out _).mono ?_)
                       rintro ex w1 ⟨rfl, rfl⟩))
                  all_goals
                    first
                    | (go_roundw
                       case rel => exact ⟨j + 1, by omega, by go_num, fun i hi => by
                         rcases Nat.lt_succ_iff_lt_or_eq.1 hi with h | rfl
                         · exact HBJ.out i h
                         · rw [HX.out]; exact HMR.out, (HKW.out _ hk).1, (HKW.out _ hk).2⟩
                       case measure => simp [intOf]; omega)
                    | (go_ret
                       exact ⟨by rw [HR.out, HNOT.out HMR.out]; rfl, (HKW.out _ hk).2⟩)
                | false =>
                  by_cases hd : d = -1
                  · subst hd
                    have hc2 : (n1 ≠ 0) ∨ (n1 = 0) := by omega
                    rcases hc2 with hn0 | rfl
                    · have he : ((n1 : Int) == 0) = false := by simp; omega
                      simp [hn0] at hr
                      subst hr
                      have TA := Lib.hid trivial
                      go_wp2_with (first
                        | (go_at_call 34
                           clear TA
                           (with_reducible refine (HNA.out _).mono ?_)
                           rintro ex w1 ⟨rfl, hf1⟩
                           replace hk := hk.trans hf1
                           clear hf1 c0 c1 c2 c3 c4 c5 c6 c7 c8 c9 c10 c11 p0 p1 p2 p3 p4
                           obtain ⟨⟨c0, c1, c2, c3, c4, c5, c6, c7, c8, c9, c10, c11⟩, p0, p1, p2, p3, p4⟩ := HBB.out _ hk)
                        | (go_at_call 34
                           (with_reducible refine (HND.out _).mono ?_)
                           rintro ex w1 ⟨rfl, hf1⟩
                           replace hk := hk.trans hf1
                           clear hf1 c0 c1 c2 c3 c4 c5 c6 c7 c8 c9 c10 c11 p0 p1 p2 p3 p4
                           obtain ⟨⟨c0, c1, c2, c3, c4, c5, c6, c7, c8, c9, c10, c11⟩, p0, p1, p2, p3, p4⟩ := HBB.out _ hk)
                        | (go_at_call 35
                           (with_reducible refine (HKN.out _).mono ?_)
                           rintro ex w1 ⟨rfl, rfl⟩))
                      all_goals
                        first
                        | (go_roundw
                           case rel => exact ⟨j + 1, by omega, by go_num, fun i hi => by
                             rcases Nat.lt_succ_iff_lt_or_eq.1 hi with h | rfl
                             · exact HBJ.out i h
                             · rw [HX.out]; exact HMR.out, (HKW.out _ hk).1, (HKW.out _ hk).2⟩
                           case measure => simp [intOf]; omega)
                        | (go_ret
                           exact ⟨by rw [HR.out, HNOT.out HMR.out]; rfl, (HKW.out _ hk).2⟩)
                    · simp at hr
                      subst hr
                      have TA := Lib.hid trivial
                      go_wp2_with (first
                        | (go_at_call 34
                           clear TA
                           (with_reducible refine (HNA.out _).mono ?_)
                           rintro ex w1 ⟨rfl, hf1⟩
                           replace hk := hk.trans hf1
                           clear hf1 c0 c1 c2 c3 c4 c5 c6 c7 c8 c9 c10 c11 p0 p1 p2 p3 p4
                           obtain ⟨⟨c0, c1, c2, c3, c4, c5, c6, c7, c8, c9, c10, c11⟩, p0, p1, p2, p3, p4⟩ := HBB.out _ hk)
                        | (go_at_call 34
                           (with_reducible refine (HND.out _).mono ?_)
                           rintro ex w1 ⟨rfl, hf1⟩
                           replace hk := hk.trans hf1
                           clear hf1 c0 c1 c2 c3 c4 c5 c6 c7 c8 c9 c10 c11 p0 p1 p2 p3 p4
                           obtain ⟨⟨c0, c1, c2, c3, c4, c5, c6, c7, c8, c9, c10, c11⟩, p0, p1, p2, p3, p4⟩ := HBB.out _ hk)
                        | (go_at_call 35
                           (with_reducible refine (HKN.out _).mono ?_)
                           rintro ex w1 ⟨rfl, rfl⟩))
                      all_goals
                        first
                        | (go_roundw
                           case rel => exact ⟨j + 1, by omega, by go_num, fun i hi => by
                             rcases Nat.lt_succ_iff_lt_or_eq.1 hi with h | rfl
                             · exact HBJ.out i h
                             · rw [HX.out]; exact HMR.out, (HKW.out _ hk).1, (HKW.out _ hk).2⟩
                           case measure => simp [intOf]; omega)
                        | (go_ret
                           exact ⟨by rw [HR.out, HNOT.out HMR.out]; rfl, (HKW.out _ hk).2⟩)
                  · have hdd : (d == -1) = false := by simpa using hd
                    clear hd
                    cases nd with
                    | true =>
                      simp [hdd] at hr
                      subst hr
                      have TA := Lib.hid trivial
                      go_wp2_with (first
                        | (go_at_call 34
                           clear TA
                           (with_reducible refine (HNA.out _).mono ?_)
                           rintro ex w1 ⟨rfl, hf1⟩
                           replace hk := hk.trans hf1
                           clear hf1 c0 c1 c2 c3 c4 c5 c6 c7 c8 c9 c10 c11 p0 p1 p2 p3 p4
                           obtain ⟨⟨c0, c1, c2, c3, c4, c5, c6, c7, c8, c9, c10, c11⟩, p0, p1, p2, p3, p4⟩ := HBB.out _ hk)
                        | (go_at_call 34
                           (with_reducible refine (HND.out _).mono ?_)
                           rintro ex w1 ⟨rfl, hf1⟩
                           replace hk := hk.trans hf1
                           clear hf1 c0 c1 c2 c3 c4 c5 c6 c7 c8 c9 c10 c11 p0 p1 p2 p3 p4
                           obtain ⟨⟨c0, c1, c2, c3, c4, c5, c6, c7, c8, c9, c10, c11⟩, p0, p1, p2, p3, p4⟩ := HBB.out _ hk)
                        | (go_at_call 35
                           (with_reducible refine (HKN.out _).mono ?_)
                           rintro ex w1 ⟨rfl, rfl⟩))
                      all_goals
                        first
                        | (go_roundw
                           case rel => exact ⟨j + 1, by omega, by go_num, fun i hi => by
                             rcases Nat.lt_succ_iff_lt_or_eq.1 hi with h | rfl
                             · exact HBJ.out i h
                             · rw [HX.out]; exact HMR.out, (HKW.out _ hk).1, (HKW.out _ hk).2⟩
                           case measure => simp [intOf]; omega)
                        | (go_ret
                           exact ⟨by rw [HR.out, HNOT.out HMR.out]; rfl, (HKW.out _ hk).2⟩)
                    | false =>
                      have hc2 : (n1 ≠ 0) ∨ (n1 = 0) := by omega
                      rcases hc2 with hn0 | rfl
                      · have he : ((n1 : Int) == 0) = false := by simp; omega
                        simp [hn0, hdd] at hr
                        subst hr
                        have TA := Lib.hid trivial
                        go_wp2_with (first
                          | (go_at_call 34
                             clear TA
                             (with_reducible refine (HNA.out _).mono ?_)
                             rintro ex w1 ⟨rfl, hf1⟩
                             replace hk := hk.trans hf1
                             clear hf1 c0 c1 c2 c3 c4 c5 c6 c7 c8 c9 c10 c11 p0 p1 p2 p3 p4
                             obtain ⟨⟨c0, c1, c2, c3, c4, c5, c6, c7, c8, c9, c10, c11⟩, p0, p1, p2, p3, p4⟩ := HBB.out _ hk)
                          | (go_at_call 34
                             (with_reducible refine (HND.out _).mono ?_)
                             rintro ex w1 ⟨rfl, hf1⟩
                             replace hk := hk.trans hf1
                             clear hf1 c0 c1 c2 c3 c4 c5 c6 c7 c8 c9 c10 c11 p0 p1 p2 p3 p4
                             obtain ⟨⟨c0, c1, c2, c3, c4, c5, c6, c7, c8, c9, c10, c11⟩, p0, p1, p2, p3, p4⟩ := HBB.out _ hk)
                          | (go_at_call 35
                             (with_reducible refine (HKN.out _).mono ?_)
                             rintro ex w1 ⟨rfl, rfl⟩))
                        all_goals
                          first
                          | (go_roundw
                             case rel => exact ⟨j + 1, by omega, by go_num, fun i hi => by
                               rcases Nat.lt_succ_iff_lt_or_eq.1 hi with h | rfl
                               · exact HBJ.out i h
                               · rw [HX.out]; exact HMR.out, (HKW.out _ hk).1, (HKW.out _ hk).2⟩
                             case measure => simp [intOf]; omega)
                          | (go_ret
                             exact ⟨by rw [HR.out, HNOT.out HMR.out]; rfl, (HKW.out _ hk).2⟩)
                      · simp [hdd] at hr
                        subst hr
                        have TA := Lib.hid trivial
                        go_wp2_with (first
                          | (go_at_call 34
                             clear TA
                             (with_reducible refine (HNA.out _).mono ?_)
                             rintro ex w1 ⟨rfl, hf1⟩
                             replace hk := hk.trans hf1
                             clear hf1 c0 c1 c2 c3 c4 c5 c6 c7 c8 c9 c10 c11 p0 p1 p2 p3 p4
                             obtain ⟨⟨c0, c1, c2, c3, c4, c5, c6, c7, c8, c9, c10, c11⟩, p0, p1, p2, p3, p4⟩ := HBB.out _ hk)
                          | (go_at_call 34
                             (with_reducible refine (HND.out _).mono ?_)
                             rintro ex w1 ⟨rfl, hf1⟩
                             replace hk := hk.trans hf1
                             clear hf1 c0 c1 c2 c3 c4 c5 c6 c7 c8 c9 c10 c11 p0 p1 p2 p3 p4
                             obtain ⟨⟨c0, c1, c2, c3, c4, c5, c6, c7, c8, c9, c10, c11⟩, p0, p1, p2, p3, p4⟩ := HBB.out _ hk)
                          | (go_at_call 35
                             (with_reducible refine (HKN.out _).mono ?_)
                             rintro ex w1 ⟨rfl, rfl⟩))
                        all_goals
                          first
                          | (go_roundw
                             case rel => exact ⟨j + 1, by omega, by go_num, fun i hi => by
                               rcases Nat.lt_succ_iff_lt_or_eq.1 hi with h | rfl
                               · exact HBJ.out i h
                               · rw [HX.out]; exact HMR.out, (HKW.out _ hk).1, (HKW.out _ hk).2⟩
                             case measure => simp [intOf]; omega)
                          | (go_ret
                             exact ⟨by rw [HR.out, HNOT.out HMR.out]; rfl, (HKW.out _ hk).2⟩)
            · as_aux_lemma =>
                cases na with
                | true =>
                  simp at hr
                  subst hr
                  have TA := Lib.hid trivial
                  go_wp2_with (first
                    | (go_at_call 34
                       clear TA
                       (with_reducible refine (HNA.out _).mono ?_)
                       rintro ex w1 ⟨rfl, hf1⟩
                       replace hk := hk.trans hf1
                       clear hf1 c0 c1 c2 c3 c4 c5 c6 c7 c8 c9 c10 c11 p0 p1 p2 p3 p4
                       obtain ⟨⟨c0, c1, c2, c3, c4, c5, c6, c7, c8, c9, c10, c11⟩, p0, p1, p2, p3, p4⟩ := HBB.out _ hk)
                    | (go_at_call 34
                       (with_reducible refine (HND.out _).mono ?_)
                       rintro ex w1 ⟨rfl, hf1⟩
                       replace hk := hk.trans hf1
                       clear hf1 c0 c1 c2 c3 c4 c5 c6 c7 c8 c9 c10 c11 p0 p1 p2 p3 p4
                       obtain ⟨⟨c0, c1, c2, c3, c4, c5, c6, c7, c8, c9, c10, c11⟩, p0, p1, p2, p3, p4⟩ := HBB.out _ hk)
                    | (go_at_call 35
                       (with_reducible refine (HKN.out _).mono ?_)
                       rintro ex w1 ⟨rfl, rfl⟩))
                  all_goals
                    first
                    | (go_roundw
                       case rel => exact ⟨j + 1, by omega, by go_num, fun i hi => by
                         rcases Nat.lt_succ_iff_lt_or_eq.1 hi with h | rfl
                         · exact HBJ.out i h
                         · rw [HX.out]; exact HMR.out, (HKW.out _ hk).1, (HKW.out _ hk).2⟩
                       case measure => simp [intOf]; omega)
                    | (go_ret
                       exact ⟨by rw [HR.out, HNOT.out HMR.out]; rfl, (HKW.out _ hk).2⟩)
                | false =>
                  by_cases hd : d = -1
                  · subst hd
                    have hc2 : (n1 ≠ 0) ∨ (n1 = 0) := by omega
                    rcases hc2 with hn0 | rfl
                    · have he : ((n1 : Int) == 0) = false := by simp; omega
                      simp [hn0] at hr
                      subst hr
                      have TA := Lib.hid trivial
                      go_wp2_with (first
                        | (go_at_call 34
                           clear TA
                           (with_reducible refine (HNA.out _).mono ?_)
                           rintro ex w1 ⟨rfl, hf1⟩
                           replace hk := hk.trans hf1
                           clear hf1 c0 c1 c2 c3 c4 c5 c6 c7 c8 c9 c10 c11 p0 p1 p2 p3 p4
                           obtain ⟨⟨c0, c1, c2, c3, c4, c5, c6, c7, c8, c9, c10, c11⟩, p0, p1, p2, p3, p4⟩ := HBB.out _ hk)
                        | (go_at_call 34
                           (with_reducible refine (HND.out _).mono ?_)
                           rintro ex w1 ⟨rfl, hf1⟩
                           replace hk := hk.trans hf1
                           clear hf1 c0 c1 c2 c3 c4 c5 c6 c7 c8 c9 c10 c11 p0 p1 p2 p3 p4
                           obtain ⟨⟨c0, c1, c2, c3, c4, c5, c6, c7, c8, c9, c10, c11⟩, p0, p1, p2, p3, p4⟩ := HBB.out _ hk)
                        | (go_at_call 35
                           (with_reducible refine (HKN.out _).mono ?_)
                           rintro ex w1 ⟨rfl, rfl⟩))
                      all_goals
                        first
                        | (go_roundw
                           case rel => exact ⟨j + 1, by omega, by go_num, fun i hi => by
                             rcases Nat.lt_succ_iff_lt_or_eq.1 hi with h | rfl
                             · exact HBJ.out i h
                             · rw [HX.out]; exact HMR.out, (HKW.out _ hk).1, (HKW.out _ hk).2⟩
                           case measure => simp [intOf]; omega)
                        | (go_ret
                           exact ⟨by rw [HR.out, HNOT.out HMR.out]; rfl, (HKW.out _ hk).2⟩)
                    · simp at hr
                      subst hr
                      have TA := Lib.hid trivial
                      go_wp2_with (first
                        | (go_at_call 34
                           clear TA
                           (with_reducible refine (HNA.out _).mono ?_)
                           rintro ex w1 ⟨rfl, hf1⟩
                           replace hk := hk.trans hf1
                           clear hf1 c0 c1 c2 c3 c4 c5 c6 c7 c8 c9 c10 c11 p0 p1 p2 p3 p4
                           obtain ⟨⟨c0, c1, c2, c3, c4, c5, c6, c7, c8, c9, c10, c11⟩, p0, p1, p2, p3, p4⟩ := HBB.out _ hk)
                        | (go_at_call 34
                           (with_reducible refine (HND.out _).mono ?_)
                           rintro ex w1 ⟨rfl, hf1⟩
                           replace hk := hk.trans hf1
                           clear hf1 c0 c1 c2 c3 c4 c5 c6 c7 c8 c9 c10 c11 p0 p1 p2 p3 p4
                           obtain ⟨⟨c0, c1, c2, c3, c4, c5, c6, c7, c8, c9, c10, c11⟩, p0, p1, p2, p3, p4⟩ := HBB.out _ hk)
                        | (go_at_call 35
                           (with_reducible refine (HKN.out _).mono ?_)
                           rintro ex w1 ⟨rfl, rfl⟩))
                      all_goals
                        first
                        | (go_roundw
                           case rel => exact ⟨j + 1, by omega, by go_num, fun i hi => by
                             rcases Nat.lt_succ_iff_lt_or_eq.1 hi with h | rfl
                             · exact HBJ.out i h
                             · rw [HX.out]; exact HMR.out, (HKW.out _ hk).1, (HKW.out _ hk).2⟩
                           case measure => simp [intOf]; omega)
                        | (go_ret
                           exact ⟨by rw [HR.out, HNOT.out HMR.out]; rfl, (HKW.out _ hk).2⟩)
                  · have hdd : (d == -1) = false := by simpa using hd
                    clear hd
                    cases nd with
                    | true =>
                      simp [hdd] at hr
                      subst hr
                      have TA := Lib.hid trivial
                      go_wp2_with (first
                        | (go_at_call 34
                           clear TA
                           (with_reducible refine (HNA.out _).mono ?_)
                           rintro ex w1 ⟨rfl, hf1⟩
                           replace hk := hk.trans hf1
                           clear hf1 c0 c1 c2 c3 c4 c5 c6 c7 c8 c9 c10 c11 p0 p1 p2 p3 p4
                           obtain ⟨⟨c0, c1, c2, c3, c4, c5, c6, c7, c8, c9, c10, c11⟩, p0, p1, p2, p3, p4⟩ := HBB.out _ hk)
                        | (go_at_call 34
                           (with_reducible refine (HND.out _).mono ?_)
                           rintro ex w1 ⟨rfl, hf1⟩
                           replace hk := hk.trans hf1
                           clear hf1 c0 c1 c2 c3 c4 c5 c6 c7 c8 c9 c10 c11 p0 p1 p2 p3 p4
                           obtain ⟨⟨c0, c1, c2, c3, c4, c5, c6, c7, c8, c9, c10, c11⟩, p0, p1, p2, p3, p4⟩ := HBB.out _ hk)
                        | (go_at_call 35
                           (with_reducible refine (HKN.out _).mono ?_)
                           rintro ex w1 ⟨rfl, rfl⟩))
                      all_goals
                        first
                        | (go_roundw
                           case rel => exact ⟨j + 1, by omega, by go_num, fun i hi => by
                             rcases Nat.lt_succ_iff_lt_or_eq.1 hi with h | rfl
                             · exact HBJ.out i h
                             · rw [HX.out]; exact HMR.out, (HKW.out _ hk).1, (HKW.out _ hk).2⟩
                           case measure => simp [intOf]; omega)
                        | (go_ret
                           exact ⟨by rw [HR.out, HNOT.out HMR.out]; rfl, (HKW.out _ hk).2⟩)
                    | false =>
                      have hc2 : (n1 ≠ 0) ∨ (n1 = 0) := by omega
                      rcases hc2 with hn0 | rfl
                      · have he : ((n1 : Int) == 0) = false := by simp; omega
                        simp [hn0, hdd] at hr
                        subst hr
                        have TA := Lib.hid trivial
                        go_wp2_with (first
                          | (go_at_call 34
                             clear TA
                             (with_reducible refine (HNA.out _).mono ?_)
                             rintro ex w1 ⟨rfl, hf1⟩
                             replace hk := hk.trans hf1
                             clear hf1 c0 c1 c2 c3 c4 c5 c6 c7 c8 c9 c10 c11 p0 p1 p2 p3 p4
                             obtain ⟨⟨c0, c1, c2, c3, c4, c5, c6, c7, c8, c9, c10, c11⟩, p0, p1, p2, p3, p4⟩ := HBB.out _ hk)
                          | (go_at_call 34
                             (with_reducible refine (HND.out _).mono ?_)
                             rintro ex w1 ⟨rfl, hf1⟩
                             replace hk := hk.trans hf1
                             clear hf1 c0 c1 c2 c3 c4 c5 c6 c7 c8 c9 c10 c11 p0 p1 p2 p3 p4
                             obtain ⟨⟨c0, c1, c2, c3, c4, c5, c6, c7, c8, c9, c10, c11⟩, p0, p1, p2, p3, p4⟩ := HBB.out _ hk)
                          | (go_at_call 35
                             (with_reducible refine (HKN.out _).mono ?_)
                             rintro ex w1 ⟨rfl, rfl⟩))
                        all_goals
                          first
                          | (go_roundw
                             case rel => exact ⟨j + 1, by omega, by go_num, fun i hi => by
                               rcases Nat.lt_succ_iff_lt_or_eq.1 hi with h | rfl
                               · exact HBJ.out i h
                               · rw [HX.out]; exact HMR.out, (HKW.out _ hk).1, (HKW.out _ hk).2⟩
                             case measure => simp [intOf]; omega)
                          | (go_ret
                             exact ⟨by rw [HR.out, HNOT.out HMR.out]; rfl, (HKW.out _ hk).2⟩)
                      · simp [hdd] at hr
                        subst hr
                        have TA := Lib.hid trivial
                        go_wp2_with (first
                          | (go_at_call 34
                             clear TA
                             (with_reducible refine (HNA.out _).mono ?_)
                             rintro ex w1 ⟨rfl, hf1⟩
                             replace hk := hk.trans hf1
                             clear hf1 c0 c1 c2 c3 c4 c5 c6 c7 c8 c9 c10 c11 p0 p1 p2 p3 p4
                             obtain ⟨⟨c0, c1, c2, c3, c4, c5, c6, c7, c8, c9, c10, c11⟩, p0, p1, p2, p3, p4⟩ := HBB.out _ hk)
                          | (go_at_call 34
                             (with_reducible refine (HND.out _).mono ?_)
                             rintro ex w1 ⟨rfl, hf1⟩
                             replace hk := hk.trans hf1
                             clear hf1 c0 c1 c2 c3 c4 c5 c6 c7 c8 c9 c10 c11 p0 p1 p2 p3 p4
                             obtain ⟨⟨c0, c1, c2, c3, c4, c5, c6, c7, c8, c9, c10, c11⟩, p0, p1, p2, p3, p4⟩ := HBB.out _ hk)
                          | (go_at_call 35
                             (with_reducible refine (HKN.out _).mono ?_)
                             rintro ex w1 ⟨rfl, rfl⟩))
                        all_goals
                          first
                          | (go_roundw
                             case rel => exact ⟨j + 1, by omega, by go_num, fun i hi => by
                               rcases Nat.lt_succ_iff_lt_or_eq.1 hi with h | rfl
                               · exact HBJ.out i h
                               · rw [HX.out]; exact HMR.out, (HKW.out _ hk).1, (HKW.out _ hk).2⟩
                             case measure => simp [intOf]; omega)
                          | (go_ret
                             exact ⟨by rw [HR.out, HNOT.out HMR.out]; rfl, (HKW.out _ hk).2⟩)
            · as_aux_lemma =>
                cases na with
                | true =>
                  simp at hr
                  subst hr
                  have TA := Lib.hid trivial
                  go_wp2_with (first
                    | (go_at_call 34
                       clear TA
                       (with_reducible refine (HNA.out _).mono ?_)
                       rintro ex w1 ⟨rfl, hf1⟩
                       replace hk := hk.trans hf1
                       clear hf1 c0 c1 c2 c3 c4 c5 c6 c7 c8 c9 c10 c11 p0 p1 p2 p3 p4
                       obtain ⟨⟨c0, c1, c2, c3, c4, c5, c6, c7, c8, c9, c10, c11⟩, p0, p1, p2, p3, p4⟩ := HBB.out _ hk)
                    | (go_at_call 34
                       (with_reducible refine (HND.out _).mono ?_)
                       rintro ex w1 ⟨rfl, hf1⟩
                       replace hk := hk.trans hf1
                       clear hf1 c0 c1 c2 c3 c4 c5 c6 c7 c8 c9 c10 c11 p0 p1 p2 p3 p4
                       obtain ⟨⟨c0, c1, c2, c3, c4, c5, c6, c7, c8, c9, c10, c11⟩, p0, p1, p2, p3, p4⟩ := HBB.out _ hk)
                    | (go_at_call 35
                       (with_reducible refine (HKN.out _).mono ?_)
                       rintro ex w1 ⟨rfl, rfl⟩))
                  all_goals
                    first
                    | (go_roundw
                       case rel => exact ⟨j + 1, by omega, by go_num, fun i hi => by
                         rcases Nat.lt_succ_iff_lt_or_eq.1 hi with h | rfl
                         · exact HBJ.out i h
                         · rw [HX.out]; exact HMR.out, (HKW.out _ hk).1, (HKW.out _ hk).2⟩
                       case measure => simp [intOf]; omega)
                    | (go_ret
                       exact ⟨by rw [HR.out, HNOT.out HMR.out]; rfl, (HKW.out _ hk).2⟩)
                | false =>
                  have hc2 : (n1 ≠ 0) ∨ (n1 = 0) := by omega
                  rcases hc2 with hn0 | rfl
                  · have he : ((n1 : Int) == 0) = false := by simp; omega
                    simp [hn0] at hr
                    subst hr
                    have TA := Lib.hid trivial
                    go_wp2_with (first
                      | (go_at_call 34
                         clear TA
                         (with_reducible refine (HNA.out _).mono ?_)
                         rintro ex w1 ⟨rfl, hf1⟩
                         replace hk := hk.trans hf1
                         clear hf1 c0 c1 c2 c3 c4 c5 c6 c7 c8 c9 c10 c11 p0 p1 p2 p3 p4
                         obtain ⟨⟨c0, c1, c2, c3, c4, c5, c6, c7, c8, c9, c10, c11⟩, p0, p1, p2, p3, p4⟩ := HBB.out _ hk)
                      | (go_at_call 34
                         (with_reducible refine (HND.out _).mono ?_)
                         rintro ex w1 ⟨rfl, hf1⟩
                         replace hk := hk.trans hf1
                         clear hf1 c0 c1 c2 c3 c4 c5 c6 c7 c8 c9 c10 c11 p0 p1 p2 p3 p4
                         obtain ⟨⟨c0, c1, c2, c3, c4, c5, c6, c7, c8, c9, c10, c11⟩, p0, p1, p2, p3, p4⟩ := HBB.out _ hk)
                      | (go_at_call 35
                         (with_reducible refine (HKN.out _).mono ?_)
                         rintro ex w1 ⟨rfl, rfl⟩))
                    all_goals
                      first
                      | (go_roundw
                         case rel => exact ⟨j + 1, by omega, by go_num, fun i hi => by
                           rcases Nat.lt_succ_iff_lt_or_eq.1 hi with h | rfl
                           · exact HBJ.out i h
                           · rw [HX.out]; exact HMR.out, (HKW.out _ hk).1, (HKW.out _ hk).2⟩
                         case measure => simp [intOf]; omega)
                      | (go_ret
                         exact ⟨by rw [HR.out, HNOT.out HMR.out]; rfl, (HKW.out _ hk).2⟩)
                  · simp at hr
                    subst hr
                    have TA := Lib.hid trivial
                    go_wp2_with (first
                      | (go_at_call 34
                         clear TA
                         (with_reducible refine (HNA.out _).mono ?_)
                         rintro ex w1 ⟨rfl, hf1⟩
                         replace hk := hk.trans hf1
                         clear hf1 c0 c1 c2 c3 c4 c5 c6 c7 c8 c9 c10 c11 p0 p1 p2 p3 p4
                         obtain ⟨⟨c0, c1, c2, c3, c4, c5, c6, c7, c8, c9, c10, c11⟩, p0, p1, p2, p3, p4⟩ := HBB.out _ hk)
                      | (go_at_call 34
                         (with_reducible refine (HND.out _).mono ?_)
                         rintro ex w1 ⟨rfl, hf1⟩
                         replace hk := hk.trans hf1
                         clear hf1 c0 c1 c2 c3 c4 c5 c6 c7 c8 c9 c10 c11 p0 p1 p2 p3 p4
                         obtain ⟨⟨c0, c1, c2, c3, c4, c5, c6, c7, c8, c9, c10, c11⟩, p0, p1, p2, p3, p4⟩ := HBB.out _ hk)
                      | (go_at_call 35
                         (with_reducible refine (HKN.out _).mono ?_)
                         rintro ex w1 ⟨rfl, rfl⟩))
                    all_goals
                      first
                      | (go_roundw
                         case rel => exact ⟨j + 1, by omega, by go_num, fun i hi => by
                           rcases Nat.lt_succ_iff_lt_or_eq.1 hi with h | rfl
                           · exact HBJ.out i h
                           · rw [HX.out]; exact HMR.out, (HKW.out _ hk).1, (HKW.out _ hk).2⟩
                         case measure => simp [intOf]; omega)
                      | (go_ret
                         exact ⟨by rw [HR.out, HNOT.out HMR.out]; rfl, (HKW.out _ hk).2⟩)
            · as_aux_lemma =>
                have hc : (na = true) ∨ (na = false ∧ kn = false) ∨ (na = false ∧ kn = true ∧ n1 = 0) ∨ (na = false ∧ kn = true ∧ n1 ≠ 0 ∧ 8 < n1) ∨ (na = false ∧ kn = true ∧ n1 ≠ 0 ∧ n1 ≤ 8) := by cases na <;> cases kn <;> simp <;> omega
                rcases hc with rfl | ⟨rfl, rfl⟩ | ⟨rfl, rfl, hn0⟩ | ⟨rfl, rfl, hn0, hn8⟩ | ⟨rfl, rfl, hn0, hn8⟩
                · simp at hr
                  obtain ⟨mm, hmm⟩ : ∃ mm, mm ≤ n1 ∧ mm ≤ 8 ∧ (mm = n1 ∨ mm = 8) := ⟨min n1 8, by omega, by omega, by omega⟩
                  subst hr
                  have TA := Lib.hid trivial
                  go_wp2_with (first
                    | (go_at_call 34
                       clear TA
                       (with_reducible refine (HNA.out _).mono ?_)
                       rintro ex w1 ⟨rfl, hf1⟩
                       replace hk := hk.trans hf1
                       clear hf1 c0 c1 c2 c3 c4 c5 c6 c7 c8 c9 c10 c11 p0 p1 p2 p3 p4
                       obtain ⟨⟨c0, c1, c2, c3, c4, c5, c6, c7, c8, c9, c10, c11⟩, p0, p1, p2, p3, p4⟩ := HBB.out _ hk)
                    | (go_at_call 34
                       (with_reducible refine (HND.out _).mono ?_)
                       rintro ex w1 ⟨rfl, hf1⟩
                       replace hk := hk.trans hf1
                       clear hf1 c0 c1 c2 c3 c4 c5 c6 c7 c8 c9 c10 c11 p0 p1 p2 p3 p4
                       obtain ⟨⟨c0, c1, c2, c3, c4, c5, c6, c7, c8, c9, c10, c11⟩, p0, p1, p2, p3, p4⟩ := HBB.out _ hk)
                    | (go_at_call 35
                       (with_reducible refine (HKN.out _).mono ?_)
                       rintro ex w1 ⟨rfl, rfl⟩))
                  go_loopw [7, 8] (fun v7 v8 wq => ∃ q : Nat, q ≤ mm ∧ v8 = .int .i64 q ∧ v7 = .bool false ∧ Fr (fun _ => False) (wr.alloc (.cells #[.int .i64 4, .int .i64 a, .int .i64 b, .int .i64 d, .slice A1 n1 k1] 67)) wq) (fun _ v8 _ => mm - (intOf v8).toNat)
                  case atStart => exact ⟨0, Nat.zero_le _, rfl, rfl, hk⟩
                  case round =>
                    obtain ⟨q, hq, rfl, rfl, hkq⟩ := hrel
                    clear hk c0 c1 c2 c3 c4 c5 c6 c7 c8 c9 c10 c11 p0 p1 p2 p3 p4
                    have hk := hkq
                    clear hkq
                    obtain ⟨⟨c0, c1, c2, c3, c4, c5, c6, c7, c8, c9, c10, c11⟩, p0, p1, p2, p3, p4⟩ := HBB.out _ hk
                    by_cases hqm : q < mm
                    · have d1 : decide ((q : Int) < (n1 : Int)) = true := by simp; omega
                      have d2 : decide ((q : Int) < 8) = true := by simp; omega
                      go_wp2
                      go_quiet (fail)
                      go_wp2
                      go_roundw
                      case rel => exact ⟨q + 1, by omega, by go_num, rfl, by first | exact hk.drewN _ | exact hk.drew | exact hk⟩
                      case measure => simp [intOf]; omega
                    · have dq : ¬ (q < n1 ∧ q < 8) := by omega
                      have dd : decide ((q : Int) < (n1 : Int)) = false ∨ (decide ((q : Int) < (n1 : Int)) = true ∧ decide ((q : Int) < 8) = false) := by simp; omega
                      clear dq hqm
                      have e1 : n1 ≤ q ∨ (q < n1 ∧ 8 ≤ q) := by simp at dd; omega
                      clear dd
                      rcases e1 with e1 | ⟨e1, e2⟩
                      all_goals
                       
                      go_wp2
                      go_ret
                      exact ⟨by rw [HR.out, HNOT.out HMR.out]; rfl, (HKW.out _ hk).2⟩
                · simp at hr
                  obtain ⟨mm, hmm⟩ : ∃ mm, mm ≤ n1 ∧ mm ≤ 8 ∧ (mm = n1 ∨ mm = 8) := ⟨min n1 8, by omega, by omega, by omega⟩
                  subst hr
                  have TA := Lib.hid trivial
                  go_wp2_with (first
                    | (go_at_call 34
                       clear TA
                       (with_reducible refine (HNA.out _).mono ?_)
                       rintro ex w1 ⟨rfl, hf1⟩
                       replace hk := hk.trans hf1
                       clear hf1 c0 c1 c2 c3 c4 c5 c6 c7 c8 c9 c10 c11 p0 p1 p2 p3 p4
                       obtain ⟨⟨c0, c1, c2, c3, c4, c5, c6, c7, c8, c9, c10, c11⟩, p0, p1, p2, p3, p4⟩ := HBB.out _ hk)
                    | (go_at_call 34
                       (with_reducible refine (HND.out _).mono ?_)
                       rintro ex w1 ⟨rfl, hf1⟩
                       replace hk := hk.trans hf1
                       clear hf1 c0 c1 c2 c3 c4 c5 c6 c7 c8 c9 c10 c11 p0 p1 p2 p3 p4
                       obtain ⟨⟨c0, c1, c2, c3, c4, c5, c6, c7, c8, c9, c10, c11⟩, p0, p1, p2, p3, p4⟩ := HBB.out _ hk)
                    | (go_at_call 35
                       (with_reducible refine (HKN.out _).mono ?_)
                       rintro ex w1 ⟨rfl, rfl⟩))
                  go_loopw [7, 8] (fun v7 v8 wq => ∃ q : Nat, q ≤ mm ∧ v8 = .int .i64 q ∧ v7 = .bool false ∧ Fr (fun _ => False) (wr.alloc (.cells #[.int .i64 4, .int .i64 a, .int .i64 b, .int .i64 d, .slice A1 n1 k1] 67)) wq) (fun _ v8 _ => mm - (intOf v8).toNat)
                  case atStart => exact ⟨0, Nat.zero_le _, rfl, rfl, hk⟩
                  case round =>
                    obtain ⟨q, hq, rfl, rfl, hkq⟩ := hrel
                    clear hk c0 c1 c2 c3 c4 c5 c6 c7 c8 c9 c10 c11 p0 p1 p2 p3 p4
                    have hk := hkq
                    clear hkq
                    obtain ⟨⟨c0, c1, c2, c3, c4, c5, c6, c7, c8, c9, c10, c11⟩, p0, p1, p2, p3, p4⟩ := HBB.out _ hk
                    by_cases hqm : q < mm
                    · have d1 : decide ((q : Int) < (n1 : Int)) = true := by simp; omega
                      have d2 : decide ((q : Int) < 8) = true := by simp; omega
                      go_wp2
                      go_quiet (fail)
                      go_wp2
                      go_roundw
                      case rel => exact ⟨q + 1, by omega, by go_num, rfl, by first | exact hk.drewN _ | exact hk.drew | exact hk⟩
                      case measure => simp [intOf]; omega
                    · have dq : ¬ (q < n1 ∧ q < 8) := by omega
                      have dd : decide ((q : Int) < (n1 : Int)) = false ∨ (decide ((q : Int) < (n1 : Int)) = true ∧ decide ((q : Int) < 8) = false) := by simp; omega
                      clear dq hqm
                      have e1 : n1 ≤ q ∨ (q < n1 ∧ 8 ≤ q) := by simp at dd; omega
                      clear dd
                      rcases e1 with e1 | ⟨e1, e2⟩
                      all_goals
                       
                      go_wp2
                      go_ret
                      exact ⟨by rw [HR.out, HNOT.out HMR.out]; rfl, (HKW.out _ hk).2⟩
                · have hp : decide ((1 : Int) ≤ n1) = false := by simp; omega
                  simp [hn0] at hr
                  obtain ⟨mm, hmm⟩ : ∃ mm, mm ≤ n1 ∧ mm ≤ 8 ∧ (mm = n1 ∨ mm = 8) := ⟨min n1 8, by omega, by omega, by omega⟩
                  clear hn0
                  subst hr
                  have TA := Lib.hid trivial
                  go_wp2_with (first
                    | (go_at_call 34
                       clear TA
                       (with_reducible refine (HNA.out _).mono ?_)
                       rintro ex w1 ⟨rfl, hf1⟩
                       replace hk := hk.trans hf1
                       clear hf1 c0 c1 c2 c3 c4 c5 c6 c7 c8 c9 c10 c11 p0 p1 p2 p3 p4
                       obtain ⟨⟨c0, c1, c2, c3, c4, c5, c6, c7, c8, c9, c10, c11⟩, p0, p1, p2, p3, p4⟩ := HBB.out _ hk)
                    | (go_at_call 34
                       (with_reducible refine (HND.out _).mono ?_)
                       rintro ex w1 ⟨rfl, hf1⟩
                       replace hk := hk.trans hf1
                       clear hf1 c0 c1 c2 c3 c4 c5 c6 c7 c8 c9 c10 c11 p0 p1 p2 p3 p4
                       obtain ⟨⟨c0, c1, c2, c3, c4, c5, c6, c7, c8, c9, c10, c11⟩, p0, p1, p2, p3, p4⟩ := HBB.out _ hk)
                    | (go_at_call 35
                       (with_reducible refine (HKN.out _).mono ?_)
                       rintro ex w1 ⟨rfl, rfl⟩))
                  go_loopw [7, 8] (fun v7 v8 wq => ∃ q : Nat, q ≤ mm ∧ v8 = .int .i64 q ∧ v7 = .bool false ∧ Fr (fun _ => False) (wr.alloc (.cells #[.int .i64 4, .int .i64 a, .int .i64 b, .int .i64 d, .slice A1 n1 k1] 67)) wq) (fun _ v8 _ => mm - (intOf v8).toNat)
                  case atStart => exact ⟨0, Nat.zero_le _, rfl, rfl, hk⟩
                  case round =>
                    obtain ⟨q, hq, rfl, rfl, hkq⟩ := hrel
                    clear hk c0 c1 c2 c3 c4 c5 c6 c7 c8 c9 c10 c11 p0 p1 p2 p3 p4
                    have hk := hkq
                    clear hkq
                    obtain ⟨⟨c0, c1, c2, c3, c4, c5, c6, c7, c8, c9, c10, c11⟩, p0, p1, p2, p3, p4⟩ := HBB.out _ hk
                    by_cases hqm : q < mm
                    · have d1 : decide ((q : Int) < (n1 : Int)) = true := by simp; omega
                      have d2 : decide ((q : Int) < 8) = true := by simp; omega
                      go_wp2
                      go_quiet (fail)
                      go_wp2
                      go_roundw
                      case rel => exact ⟨q + 1, by omega, by go_num, rfl, by first | exact hk.drewN _ | exact hk.drew | exact hk⟩
                      case measure => simp [intOf]; omega
                    · have dq : ¬ (q < n1 ∧ q < 8) := by omega
                      have dd : decide ((q : Int) < (n1 : Int)) = false ∨ (decide ((q : Int) < (n1 : Int)) = true ∧ decide ((q : Int) < 8) = false) := by simp; omega
                      clear dq hqm
                      have e1 : n1 ≤ q ∨ (q < n1 ∧ 8 ≤ q) := by simp at dd; omega
                      clear dd
                      rcases e1 with e1 | ⟨e1, e2⟩
                      all_goals
                       
                      go_wp2
                      go_ret
                      exact ⟨by rw [HR.out, HNOT.out HMR.out]; rfl, (HKW.out _ hk).2⟩
                · have hp : decide ((1 : Int) ≤ n1) = true := by simp; omega
                  have hq8 : decide ((n1 : Int) ≤ 8) = false := by simp; omega
                  simp [hn0, show ¬ n1 ≤ 8 by omega] at hr
                  obtain ⟨mm, hmm⟩ : ∃ mm, mm ≤ n1 ∧ mm ≤ 8 ∧ (mm = n1 ∨ mm = 8) := ⟨min n1 8, by omega, by omega, by omega⟩
                  subst hr
                  have TA := Lib.hid trivial
                  go_wp2_with (first
                    | (go_at_call 34
                       clear TA
                       (with_reducible refine (HNA.out _).mono ?_)
                       rintro ex w1 ⟨rfl, hf1⟩
                       replace hk := hk.trans hf1
                       clear hf1 c0 c1 c2 c3 c4 c5 c6 c7 c8 c9 c10 c11 p0 p1 p2 p3 p4
                       obtain ⟨⟨c0, c1, c2, c3, c4, c5, c6, c7, c8, c9, c10, c11⟩, p0, p1, p2, p3, p4⟩ := HBB.out _ hk)
                    | (go_at_call 34
                       (with_reducible refine (HND.out _).mono ?_)
                       rintro ex w1 ⟨rfl, hf1⟩
                       replace hk := hk.trans hf1
                       clear hf1 c0 c1 c2 c3 c4 c5 c6 c7 c8 c9 c10 c11 p0 p1 p2 p3 p4
                       obtain ⟨⟨c0, c1, c2, c3, c4, c5, c6, c7, c8, c9, c10, c11⟩, p0, p1, p2, p3, p4⟩ := HBB.out _ hk)
                    | (go_at_call 35
                       (with_reducible refine (HKN.out _).mono ?_)
                       rintro ex w1 ⟨rfl, rfl⟩))
                  go_loopw [7, 8] (fun v7 v8 wq => ∃ q : Nat, q ≤ mm ∧ v8 = .int .i64 q ∧ v7 = .bool false ∧ Fr (fun _ => False) (wr.alloc (.cells #[.int .i64 4, .int .i64 a, .int .i64 b, .int .i64 d, .slice A1 n1 k1] 67)) wq) (fun _ v8 _ => mm - (intOf v8).toNat)
                  case atStart => exact ⟨0, Nat.zero_le _, rfl, rfl, hk⟩
                  case round =>
                    obtain ⟨q, hq, rfl, rfl, hkq⟩ := hrel
                    clear hk c0 c1 c2 c3 c4 c5 c6 c7 c8 c9 c10 c11 p0 p1 p2 p3 p4
                    have hk := hkq
                    clear hkq
                    obtain ⟨⟨c0, c1, c2, c3, c4, c5, c6, c7, c8, c9, c10, c11⟩, p0, p1, p2, p3, p4⟩ := HBB.out _ hk
                    by_cases hqm : q < mm
                    · have d1 : decide ((q : Int) < (n1 : Int)) = true := by simp; omega
                      have d2 : decide ((q : Int) < 8) = true := by simp; omega
                      go_wp2
                      go_quiet (fail)
                      go_wp2
                      go_roundw
                      case rel => exact ⟨q + 1, by omega, by go_num, rfl, by first | exact hk.drewN _ | exact hk.drew | exact hk⟩
                      case measure => simp [intOf]; omega
                    · obtain ⟨e1, e2⟩ : q < n1 ∧ 8 ≤ q := by omega
                      clear hqm
                      go_wp2
                      go_ret
                      exact ⟨by rw [HR.out, HNOT.out HMR.out]; rfl, (HKW.out _ hk).2⟩
                · have hp : decide ((1 : Int) ≤ n1) = true := by simp; omega
                  have hq8 : decide ((n1 : Int) ≤ 8) = true := by simp; omega
                  generalize han : l.any (noneB c) = an at hr
                  simp [hn0, hn8] at hr
                  have HAN := Lib.hid han
                  clear han
                  have HRR := Lib.hid hr
                  clear hr
                  have TA := Lib.hid trivial
                  go_wp2_with (first
                    | (go_at_call 34
                       clear TA
                       (with_reducible refine (HNA.out _).mono ?_)
                       rintro ex w1 ⟨rfl, hf1⟩
                       replace hk := hk.trans hf1
                       clear hf1 c0 c1 c2 c3 c4 c5 c6 c7 c8 c9 c10 c11 p0 p1 p2 p3 p4
                       obtain ⟨⟨c0, c1, c2, c3, c4, c5, c6, c7, c8, c9, c10, c11⟩, p0, p1, p2, p3, p4⟩ := HBB.out _ hk)
                    | (go_at_call 34
                       (with_reducible refine (HND.out _).mono ?_)
                       rintro ex w1 ⟨rfl, hf1⟩
                       replace hk := hk.trans hf1
                       clear hf1 c0 c1 c2 c3 c4 c5 c6 c7 c8 c9 c10 c11 p0 p1 p2 p3 p4
                       obtain ⟨⟨c0, c1, c2, c3, c4, c5, c6, c7, c8, c9, c10, c11⟩, p0, p1, p2, p3, p4⟩ := HBB.out _ hk)
                    | (go_at_call 35
                       (with_reducible refine (HKN.out _).mono ?_)
                       rintro ex w1 ⟨rfl, rfl⟩))
                  generalize hib : wr.heap.size = ib at *
                  have HIB := Lib.hid hib
                  clear hib
                  go_loopw [7, 8] (fun v7 v8 wq => ∃ q : Nat, q ≤ n1 ∧ v8 = .int .i64 q ∧ v7 = .bool (true && !((l.take q).any (noneB c))) ∧ Fr (fun _ => False) (wr.alloc (.cells #[.int .i64 4, .int .i64 a, .int .i64 b, .int .i64 d, .slice A1 n1 k1] 67)) wq) (fun _ v8 _ => n1 - (intOf v8).toNat)
                  case atStart => exact ⟨0, Nat.zero_le _, rfl, rfl, hk⟩
                  case round =>
                    obtain ⟨q, hq, rfl, rfl, hkq⟩ := hrel
                    clear hk c0 c1 c2 c3 c4 c5 c6 c7 c8 c9 c10 c11 p0 p1 p2 p3 p4
                    have hk := hkq
                    clear hkq
                    obtain ⟨⟨c0, c1, c2, c3, c4, c5, c6, c7, c8, c9, c10, c11⟩, p0, p1, p2, p3, p4⟩ := HBB.out _ hk
                    by_cases hqm : q < n1
                    · have d1 : decide ((q : Int) < (n1 : Int)) = true := by simp; omega
                      have d2 : decide ((q : Int) < 8) = true := by simp; omega
                      have HS := Lib.hid (any_take_succb (f := noneB c) (show q < l.length by have := HLL.out; omega))
                      generalize hbb : (true && !((l.take q).any (noneB c))) = bb at *
                      have HB1 := Lib.hid hbb
                      clear hbb
                      cases bb with
                      | false =>
                        go_wp2
                        go_quiet (fail)
                        go_wp2
                        go_roundw
                        case rel => exact ⟨q + 1, by omega, by go_num, by rw [HS.out]; have h := HB1.out; revert h; cases (l.take q).any (noneB c) <;> simp, by first | exact hk.drewN _ | exact hk.drew | exact hk⟩
                        case measure => simp [intOf]; omega
                      | true =>
                        obtain ⟨ad1, rfl, _, g1⟩ := (HFLI.out _ hk).at_ (by omega)
                        have q1 := g1 q (by omega)
                        have HRG := Lib.hid (fun w' => HREG.out (l.getD q 0) w')
                        generalize l.getD q 0 = r at *
                        generalize hnb : noneB c r = nb at *
                        clear g1 hnb
                        have HG1 := Lib.hid q1
                        have HK := Lib.hid hk
                        have hnq : ¬ n1 ≤ q := by omega
                        have hnq1 : q < n1 := by omega
                        go_wp2
                        go_region_held3 (fun w' => (w'.cell? ⟨w.heap.size, 0, none⟩ = some (.int .i64 c.r) ∧ w'.cell? ⟨w.heap.size, 1, none⟩ = some (.int .i64 c.o) ∧ w'.cell? ⟨w.heap.size, 2, none⟩ = some (.int .i64 c.s) ∧ w'.cell? ⟨w.heap.size, 3, none⟩ = some (.int .i64 c.wd) ∧ w'.cell? ⟨w.heap.size, 4, none⟩ = some (.int .i64 c.th) ∧ w'.cell? ⟨w.heap.size, 5, none⟩ = some (.int .i64 c.sl) ∧ w'.cell? ⟨w.heap.size, 6, none⟩ = some (.int .i64 c.rg) ∧ w'.cell? ⟨w.heap.size, 7, none⟩ = some (.int .i64 c.lk) ∧ w'.cell? ⟨w.heap.size, 8, none⟩ = some (.int .i64 c.un) ∧ w'.cell? ⟨w.heap.size, 9, none⟩ = some (.int .i64 c.es) ∧ w'.cell? ⟨w.heap.size, 10, none⟩ = some (.int .i64 c.tk) ∧ w'.cell? ⟨w.heap.size, 11, none⟩ = some (.int .i64 c.po)) ∧ w'.cell? ⟨ib, 4, none⟩ = some (.slice (some ad1) n1 k1) ∧ w'.cell? (ad1.add q) = some (.int .i64 r))
                          (first | exact HKK | exact ⟨(HBB.out _ (HK.out.drew)).1, (HBB.out _ (HK.out.drew)).2.2.2.2.2, HG1.out⟩)
                          (first
                            | (go_at_call 34
                               (with_reducible refine (HRG.out _).mono ?_)
                               rintro ex w1 ⟨rfl, hf1⟩
                               have hk1 := HK.out.drew.trans hf1
                               have HKK := And.intro (HBB.out _ hk1).1 (And.intro (HBB.out _ hk1).2.2.2.2.2 (((Fr.refl (fun _ => False) _).drew.trans hf1).cell HG1.out (fun x => x)))))
                        all_goals
                          go_wp2
                          go_roundw
                          case rel => exact ⟨q + 1, by omega, by go_num, by rw [HS.out]; have h := HB1.out; revert h; cases (l.take q).any (noneB c) <;> simp, hk1⟩
                          case measure => simp [intOf]; omega
                    · obtain rfl : q = n1 := by omega
                      have hall : l.take q = l := List.take_of_length_le (by have := HLL.out; omega)
                      rw [hall, HAN.out]
                      have hr := HRR.out
                      clear HRR HAN
                      cases an
                      · subst  hr
                        go_wp2
                        first
                        | (go_roundw
                           case rel => exact ⟨j + 1, by omega, by go_num, fun i hi => by
                             rcases Nat.lt_succ_iff_lt_or_eq.1 hi with h | rfl
                             · exact HBJ.out i h
                             · rw [HX.out]; exact HMR.out, (HKW.out _ hk).1, (HKW.out _ hk).2⟩
                           case measure => simp [intOf]; omega)
                        | (go_ret
                           exact ⟨by rw [HR.out, HNOT.out HMR.out]; rfl, (HKW.out _ hk).2⟩)
                      · subst  hr
                        go_wp2
                        first
                        | (go_roundw
                           case rel => exact ⟨j + 1, by omega, by go_num, fun i hi => by
                             rcases Nat.lt_succ_iff_lt_or_eq.1 hi with h | rfl
                             · exact HBJ.out i h
                             · rw [HX.out]; exact HMR.out, (HKW.out _ hk).1, (HKW.out _ hk).2⟩
                           case measure => simp [intOf]; omega)
                        | (go_ret
                           exact ⟨by rw [HR.out, HNOT.out HMR.out]; rfl, (HKW.out _ hk).2⟩)
            · as_aux_lemma =>
                have hc : (na = true) ∨ (na = false ∧ n1 ≠ 0) ∨ (na = false ∧ n1 = 0 ∧ ¬ (j : Int) < b) ∨ (na = false ∧ n1 = 0 ∧ (j : Int) < b) := by cases na <;> simp <;> omega
                rcases hc with rfl | ⟨rfl, hn0⟩ | ⟨rfl, rfl, hb⟩ | ⟨rfl, rfl, hb⟩
                · simp at hr
                  subst hr
                  have TA := Lib.hid trivial
                  go_wp2_with (first
                    | (go_at_call 34
                       clear TA
                       (with_reducible refine (HNA.out _).mono ?_)
                       rintro ex w1 ⟨rfl, hf1⟩
                       replace hk := hk.trans hf1
                       clear hf1 c0 c1 c2 c3 c4 c5 c6 c7 c8 c9 c10 c11 p0 p1 p2 p3 p4
                       obtain ⟨⟨c0, c1, c2, c3, c4, c5, c6, c7, c8, c9, c10, c11⟩, p0, p1, p2, p3, p4⟩ := HBB.out _ hk)
                    | (go_at_call 34
                       (with_reducible refine (HND.out _).mono ?_)
                       rintro ex w1 ⟨rfl, hf1⟩
                       replace hk := hk.trans hf1
                       clear hf1 c0 c1 c2 c3 c4 c5 c6 c7 c8 c9 c10 c11 p0 p1 p2 p3 p4
                       obtain ⟨⟨c0, c1, c2, c3, c4, c5, c6, c7, c8, c9, c10, c11⟩, p0, p1, p2, p3, p4⟩ := HBB.out _ hk)
                    | (go_at_call 35
                       (with_reducible refine (HKN.out _).mono ?_)
                       rintro ex w1 ⟨rfl, rfl⟩))
                  all_goals
                    first
                    | (go_roundw
                       case rel => exact ⟨j + 1, by omega, by go_num, fun i hi => by
                         rcases Nat.lt_succ_iff_lt_or_eq.1 hi with h | rfl
                         · exact HBJ.out i h
                         · rw [HX.out]; exact HMR.out, (HKW.out _ hk).1, (HKW.out _ hk).2⟩
                       case measure => simp [intOf]; omega)
                    | (go_ret
                       exact ⟨by rw [HR.out, HNOT.out HMR.out]; rfl, (HKW.out _ hk).2⟩)
                · have he : ((n1 : Int) == 0) = false := by simp; omega
                  simp [hn0] at hr
                  subst hr
                  have TA := Lib.hid trivial
                  go_wp2_with (first
                    | (go_at_call 34
                       clear TA
                       (with_reducible refine (HNA.out _).mono ?_)
                       rintro ex w1 ⟨rfl, hf1⟩
                       replace hk := hk.trans hf1
                       clear hf1 c0 c1 c2 c3 c4 c5 c6 c7 c8 c9 c10 c11 p0 p1 p2 p3 p4
                       obtain ⟨⟨c0, c1, c2, c3, c4, c5, c6, c7, c8, c9, c10, c11⟩, p0, p1, p2, p3, p4⟩ := HBB.out _ hk)
                    | (go_at_call 34
                       (with_reducible refine (HND.out _).mono ?_)
                       rintro ex w1 ⟨rfl, hf1⟩
                       replace hk := hk.trans hf1
                       clear hf1 c0 c1 c2 c3 c4 c5 c6 c7 c8 c9 c10 c11 p0 p1 p2 p3 p4
                       obtain ⟨⟨c0, c1, c2, c3, c4, c5, c6, c7, c8, c9, c10, c11⟩, p0, p1, p2, p3, p4⟩ := HBB.out _ hk)
                    | (go_at_call 35
                       (with_reducible refine (HKN.out _).mono ?_)
                       rintro ex w1 ⟨rfl, rfl⟩))
                  all_goals
                    first
                    | (go_roundw
                       case rel => exact ⟨j + 1, by omega, by go_num, fun i hi => by
                         rcases Nat.lt_succ_iff_lt_or_eq.1 hi with h | rfl
                         · exact HBJ.out i h
                         · rw [HX.out]; exact HMR.out, (HKW.out _ hk).1, (HKW.out _ hk).2⟩
                       case measure => simp [intOf]; omega)
                    | (go_ret
                       exact ⟨by rw [HR.out, HNOT.out HMR.out]; rfl, (HKW.out _ hk).2⟩)
                · have hb1 : decide ((j : Int) < b) = false := by simpa using hb
                  simp [hb] at hr
                  clear hb
                  subst hr
                  have TA := Lib.hid trivial
                  go_wp2_with (first
                    | (go_at_call 34
                       clear TA
                       (with_reducible refine (HNA.out _).mono ?_)
                       rintro ex w1 ⟨rfl, hf1⟩
                       replace hk := hk.trans hf1
                       clear hf1 c0 c1 c2 c3 c4 c5 c6 c7 c8 c9 c10 c11 p0 p1 p2 p3 p4
                       obtain ⟨⟨c0, c1, c2, c3, c4, c5, c6, c7, c8, c9, c10, c11⟩, p0, p1, p2, p3, p4⟩ := HBB.out _ hk)
                    | (go_at_call 34
                       (with_reducible refine (HND.out _).mono ?_)
                       rintro ex w1 ⟨rfl, hf1⟩
                       replace hk := hk.trans hf1
                       clear hf1 c0 c1 c2 c3 c4 c5 c6 c7 c8 c9 c10 c11 p0 p1 p2 p3 p4
                       obtain ⟨⟨c0, c1, c2, c3, c4, c5, c6, c7, c8, c9, c10, c11⟩, p0, p1, p2, p3, p4⟩ := HBB.out _ hk)
                    | (go_at_call 35
                       (with_reducible refine (HKN.out _).mono ?_)
                       rintro ex w1 ⟨rfl, rfl⟩))
                  all_goals
                    first
                    | (go_roundw
                       case rel => exact ⟨j + 1, by omega, by go_num, fun i hi => by
                         rcases Nat.lt_succ_iff_lt_or_eq.1 hi with h | rfl
                         · exact HBJ.out i h
                         · rw [HX.out]; exact HMR.out, (HKW.out _ hk).1, (HKW.out _ hk).2⟩
                       case measure => simp [intOf]; omega)
                    | (go_ret
                       exact ⟨by rw [HR.out, HNOT.out HMR.out]; rfl, (HKW.out _ hk).2⟩)
                · have hb1 : decide ((j : Int) < b) = true := by simpa using hb
                  by_cases hb3 : b ≤ (n : Int)
                  · have hb2 : decide (b ≤ (n : Int)) = true := by simpa using hb3
                    simp [hb, hb3] at hr
                    clear hb hb3
                    subst hr
                    have TA := Lib.hid trivial
                    go_wp2_with (first
                      | (go_at_call 34
                         clear TA
                         (with_reducible refine (HNA.out _).mono ?_)
                         rintro ex w1 ⟨rfl, hf1⟩
                         replace hk := hk.trans hf1
                         clear hf1 c0 c1 c2 c3 c4 c5 c6 c7 c8 c9 c10 c11 p0 p1 p2 p3 p4
                         obtain ⟨⟨c0, c1, c2, c3, c4, c5, c6, c7, c8, c9, c10, c11⟩, p0, p1, p2, p3, p4⟩ := HBB.out _ hk)
                      | (go_at_call 34
                         (with_reducible refine (HND.out _).mono ?_)
                         rintro ex w1 ⟨rfl, hf1⟩
                         replace hk := hk.trans hf1
                         clear hf1 c0 c1 c2 c3 c4 c5 c6 c7 c8 c9 c10 c11 p0 p1 p2 p3 p4
                         obtain ⟨⟨c0, c1, c2, c3, c4, c5, c6, c7, c8, c9, c10, c11⟩, p0, p1, p2, p3, p4⟩ := HBB.out _ hk)
                      | (go_at_call 35
                         (with_reducible refine (HKN.out _).mono ?_)
                         rintro ex w1 ⟨rfl, rfl⟩))
                    all_goals
                      first
                      | (go_roundw
                         case rel => exact ⟨j + 1, by omega, by go_num, fun i hi => by
                           rcases Nat.lt_succ_iff_lt_or_eq.1 hi with h | rfl
                           · exact HBJ.out i h
                           · rw [HX.out]; exact HMR.out, (HKW.out _ hk).1, (HKW.out _ hk).2⟩
                         case measure => simp [intOf]; omega)
                      | (go_ret
                         exact ⟨by rw [HR.out, HNOT.out HMR.out]; rfl, (HKW.out _ hk).2⟩)
                  · have hb2 : decide (b ≤ (n : Int)) = false := by simpa using hb3
                    simp [hb, hb3] at hr
                    clear hb hb3
                    subst hr
                    have TA := Lib.hid trivial
                    go_wp2_with (first
                      | (go_at_call 34
                         clear TA
                         (with_reducible refine (HNA.out _).mono ?_)
                         rintro ex w1 ⟨rfl, hf1⟩
                         replace hk := hk.trans hf1
                         clear hf1 c0 c1 c2 c3 c4 c5 c6 c7 c8 c9 c10 c11 p0 p1 p2 p3 p4
                         obtain ⟨⟨c0, c1, c2, c3, c4, c5, c6, c7, c8, c9, c10, c11⟩, p0, p1, p2, p3, p4⟩ := HBB.out _ hk)
                      | (go_at_call 34
                         (with_reducible refine (HND.out _).mono ?_)
                         rintro ex w1 ⟨rfl, hf1⟩
                         replace hk := hk.trans hf1
                         clear hf1 c0 c1 c2 c3 c4 c5 c6 c7 c8 c9 c10 c11 p0 p1 p2 p3 p4
                         obtain ⟨⟨c0, c1, c2, c3, c4, c5, c6, c7, c8, c9, c10, c11⟩, p0, p1, p2, p3, p4⟩ := HBB.out _ hk)
                      | (go_at_call 35
                         (with_reducible refine (HKN.out _).mono ?_)
                         rintro ex w1 ⟨rfl, rfl⟩))
                    all_goals
                      first
                      | (go_roundw
                         case rel => exact ⟨j + 1, by omega, by go_num, fun i hi => by
                           rcases Nat.lt_succ_iff_lt_or_eq.1 hi with h | rfl
                           · exact HBJ.out i h
                           · rw [HX.out]; exact HMR.out, (HKW.out _ hk).1, (HKW.out _ hk).2⟩
                         case measure => simp [intOf]; omega)
                      | (go_ret
                         exact ⟨by rw [HR.out, HNOT.out HMR.out]; rfl, (HKW.out _ hk).2⟩)
            · as_aux_lemma =>
                have hc2 : (n1 ≠ 0) ∨ (n1 = 0) := by omega
                rcases hc2 with hn0 | rfl
                · have he : ((n1 : Int) == 0) = false := by simp; omega
                  simp [hn0] at hr
                  subst hr
                  have TA := Lib.hid trivial
                  go_wp2_with (first
                    | (go_at_call 34
                       clear TA
                       (with_reducible refine (HNA.out _).mono ?_)
                       rintro ex w1 ⟨rfl, hf1⟩
                       replace hk := hk.trans hf1
                       clear hf1 c0 c1 c2 c3 c4 c5 c6 c7 c8 c9 c10 c11 p0 p1 p2 p3 p4
                       obtain ⟨⟨c0, c1, c2, c3, c4, c5, c6, c7, c8, c9, c10, c11⟩, p0, p1, p2, p3, p4⟩ := HBB.out _ hk)
                    | (go_at_call 34
                       (with_reducible refine (HND.out _).mono ?_)
                       rintro ex w1 ⟨rfl, hf1⟩
                       replace hk := hk.trans hf1
                       clear hf1 c0 c1 c2 c3 c4 c5 c6 c7 c8 c9 c10 c11 p0 p1 p2 p3 p4
                       obtain ⟨⟨c0, c1, c2, c3, c4, c5, c6, c7, c8, c9, c10, c11⟩, p0, p1, p2, p3, p4⟩ := HBB.out _ hk)
                    | (go_at_call 35
                       (with_reducible refine (HKN.out _).mono ?_)
                       rintro ex w1 ⟨rfl, rfl⟩))
                  all_goals
                    first
                    | (go_roundw
                       case rel => exact ⟨j + 1, by omega, by go_num, fun i hi => by
                         rcases Nat.lt_succ_iff_lt_or_eq.1 hi with h | rfl
                         · exact HBJ.out i h
                         · rw [HX.out]; exact HMR.out, (HKW.out _ hk).1, (HKW.out _ hk).2⟩
                       case measure => simp [intOf]; omega)
                    | (go_ret
                       exact ⟨by rw [HR.out, HNOT.out HMR.out]; rfl, (HKW.out _ hk).2⟩)
                · simp at hr
                  subst hr
                  have TA := Lib.hid trivial
                  go_wp2_with (first
                    | (go_at_call 34
                       clear TA
                       (with_reducible refine (HNA.out _).mono ?_)
                       rintro ex w1 ⟨rfl, hf1⟩
                       replace hk := hk.trans hf1
                       clear hf1 c0 c1 c2 c3 c4 c5 c6 c7 c8 c9 c10 c11 p0 p1 p2 p3 p4
                       obtain ⟨⟨c0, c1, c2, c3, c4, c5, c6, c7, c8, c9, c10, c11⟩, p0, p1, p2, p3, p4⟩ := HBB.out _ hk)
                    | (go_at_call 34
                       (with_reducible refine (HND.out _).mono ?_)
                       rintro ex w1 ⟨rfl, hf1⟩
                       replace hk := hk.trans hf1
                       clear hf1 c0 c1 c2 c3 c4 c5 c6 c7 c8 c9 c10 c11 p0 p1 p2 p3 p4
                       obtain ⟨⟨c0, c1, c2, c3, c4, c5, c6, c7, c8, c9, c10, c11⟩, p0, p1, p2, p3, p4⟩ := HBB.out _ hk)
                    | (go_at_call 35
                       (with_reducible refine (HKN.out _).mono ?_)
                       rintro ex w1 ⟨rfl, rfl⟩))
                  all_goals
                    first
                    | (go_roundw
                       case rel => exact ⟨j + 1, by omega, by go_num, fun i hi => by
                         rcases Nat.lt_succ_iff_lt_or_eq.1 hi with h | rfl
                         · exact HBJ.out i h
                         · rw [HX.out]; exact HMR.out, (HKW.out _ hk).1, (HKW.out _ hk).2⟩
                       case measure => simp [intOf]; omega)
                    | (go_ret
                       exact ⟨by rw [HR.out, HNOT.out HMR.out]; rfl, (HKW.out _ hk).2⟩)
            · as_aux_lemma =>
                have hc2 : (n1 ≠ 0) ∨ (n1 = 0) := by omega
                rcases hc2 with hn0 | rfl
                · have he : ((n1 : Int) == 0) = false := by simp; omega
                  simp [hn0] at hr
                  subst hr
                  have TA := Lib.hid trivial
                  go_wp2_with (first
                    | (go_at_call 34
                       clear TA
                       (with_reducible refine (HNA.out _).mono ?_)
                       rintro ex w1 ⟨rfl, hf1⟩
                       replace hk := hk.trans hf1
                       clear hf1 c0 c1 c2 c3 c4 c5 c6 c7 c8 c9 c10 c11 p0 p1 p2 p3 p4
                       obtain ⟨⟨c0, c1, c2, c3, c4, c5, c6, c7, c8, c9, c10, c11⟩, p0, p1, p2, p3, p4⟩ := HBB.out _ hk)
                    | (go_at_call 34
                       (with_reducible refine (HND.out _).mono ?_)
                       rintro ex w1 ⟨rfl, hf1⟩
                       replace hk := hk.trans hf1
                       clear hf1 c0 c1 c2 c3 c4 c5 c6 c7 c8 c9 c10 c11 p0 p1 p2 p3 p4
                       obtain ⟨⟨c0, c1, c2, c3, c4, c5, c6, c7, c8, c9, c10, c11⟩, p0, p1, p2, p3, p4⟩ := HBB.out _ hk)
                    | (go_at_call 35
                       (with_reducible refine (HKN.out _).mono ?_)
                       rintro ex w1 ⟨rfl, rfl⟩))
                  all_goals
                    first
                    | (go_roundw
                       case rel => exact ⟨j + 1, by omega, by go_num, fun i hi => by
                         rcases Nat.lt_succ_iff_lt_or_eq.1 hi with h | rfl
                         · exact HBJ.out i h
                         · rw [HX.out]; exact HMR.out, (HKW.out _ hk).1, (HKW.out _ hk).2⟩
                       case measure => simp [intOf]; omega)
                    | (go_ret
                       exact ⟨by rw [HR.out, HNOT.out HMR.out]; rfl, (HKW.out _ hk).2⟩)
                · simp at hr
                  subst hr
                  have TA := Lib.hid trivial
                  go_wp2_with (first
                    | (go_at_call 34
                       clear TA
                       (with_reducible refine (HNA.out _).mono ?_)
                       rintro ex w1 ⟨rfl, hf1⟩
                       replace hk := hk.trans hf1
                       clear hf1 c0 c1 c2 c3 c4 c5 c6 c7 c8 c9 c10 c11 p0 p1 p2 p3 p4
                       obtain ⟨⟨c0, c1, c2, c3, c4, c5, c6, c7, c8, c9, c10, c11⟩, p0, p1, p2, p3, p4⟩ := HBB.out _ hk)
                    | (go_at_call 34
                       (with_reducible refine (HND.out _).mono ?_)
                       rintro ex w1 ⟨rfl, hf1⟩
                       replace hk := hk.trans hf1
                       clear hf1 c0 c1 c2 c3 c4 c5 c6 c7 c8 c9 c10 c11 p0 p1 p2 p3 p4
                       obtain ⟨⟨c0, c1, c2, c3, c4, c5, c6, c7, c8, c9, c10, c11⟩, p0, p1, p2, p3, p4⟩ := HBB.out _ hk)
                    | (go_at_call 35
                       (with_reducible refine (HKN.out _).mono ?_)
                       rintro ex w1 ⟨rfl, rfl⟩))
                  all_goals
                    first
                    | (go_roundw
                       case rel => exact ⟨j + 1, by omega, by go_num, fun i hi => by
                         rcases Nat.lt_succ_iff_lt_or_eq.1 hi with h | rfl
                         · exact HBJ.out i h
                         · rw [HX.out]; exact HMR.out, (HKW.out _ hk).1, (HKW.out _ hk).2⟩
                       case measure => simp [intOf]; omega)
                    | (go_ret
                       exact ⟨by rw [HR.out, HNOT.out HMR.out]; rfl, (HKW.out _ hk).2⟩)
          · as_aux_lemma =>
              rw [if_neg (by omega), if_neg (by omega), if_neg (by omega), if_neg (by omega), if_neg (by omega)] at hr
              have e1 : (k == 1) = false := by simp; omega
              have e2 : (k == 2) = false := by simp; omega
              have e4 : (k == 4) = false := by simp; omega
              have e5 : (k == 5) = false := by simp; omega
              by_cases hlo : 1 ≤ k
              · have d1 : decide (1 ≤ k) = true := by simpa using hlo
                have d7 : decide (k ≤ 7) = false := by simp; omega
                have d5 : decide (k ≤ 5) = false := by simp; omega
                clear hlo hkk
                subst hr
                have TA := Lib.hid trivial
                go_wp2_with (first
                  | (go_at_call 34
                     clear TA
                     (with_reducible refine (HNA.out _).mono ?_)
                     rintro ex w1 ⟨rfl, hf1⟩
                     replace hk := hk.trans hf1
                     clear hf1 c0 c1 c2 c3 c4 c5 c6 c7 c8 c9 c10 c11 p0 p1 p2 p3 p4
                     obtain ⟨⟨c0, c1, c2, c3, c4, c5, c6, c7, c8, c9, c10, c11⟩, p0, p1, p2, p3, p4⟩ := HBB.out _ hk)
                  | (go_at_call 34
                     (with_reducible refine (HND.out _).mono ?_)
                     rintro ex w1 ⟨rfl, hf1⟩
                     replace hk := hk.trans hf1
                     clear hf1 c0 c1 c2 c3 c4 c5 c6 c7 c8 c9 c10 c11 p0 p1 p2 p3 p4
                     obtain ⟨⟨c0, c1, c2, c3, c4, c5, c6, c7, c8, c9, c10, c11⟩, p0, p1, p2, p3, p4⟩ := HBB.out _ hk)
                  | (go_at_call 35
                     (with_reducible refine (HKN.out _).mono ?_)
                     rintro ex w1 ⟨rfl, rfl⟩))
                all_goals
                  first
                  | (go_roundw
                     case rel => exact ⟨j + 1, by omega, by go_num, fun i hi => by
                       rcases Nat.lt_succ_iff_lt_or_eq.1 hi with h | rfl
                       · exact HBJ.out i h
                       · rw [HX.out]; exact HMR.out, (HKW.out _ hk).1, (HKW.out _ hk).2⟩
                     case measure => simp [intOf]; omega)
                  | (go_ret
                     exact ⟨by rw [HR.out, HNOT.out HMR.out]; rfl, (HKW.out _ hk).2⟩)
              · have d1 : decide (1 ≤ k) = false := by simpa using hlo
                clear hlo hkk
                subst hr
                have TA := Lib.hid trivial
                go_wp2_with (first
                  | (go_at_call 34
                     clear TA
                     (with_reducible refine (HNA.out _).mono ?_)
                     rintro ex w1 ⟨rfl, hf1⟩
                     replace hk := hk.trans hf1
                     clear hf1 c0 c1 c2 c3 c4 c5 c6 c7 c8 c9 c10 c11 p0 p1 p2 p3 p4
                     obtain ⟨⟨c0, c1, c2, c3, c4, c5, c6, c7, c8, c9, c10, c11⟩, p0, p1, p2, p3, p4⟩ := HBB.out _ hk)
                  | (go_at_call 34
                     (with_reducible refine (HND.out _).mono ?_)
                     rintro ex w1 ⟨rfl, hf1⟩
                     replace hk := hk.trans hf1
                     clear hf1 c0 c1 c2 c3 c4 c5 c6 c7 c8 c9 c10 c11 p0 p1 p2 p3 p4
                     obtain ⟨⟨c0, c1, c2, c3, c4, c5, c6, c7, c8, c9, c10, c11⟩, p0, p1, p2, p3, p4⟩ := HBB.out _ hk)
                  | (go_at_call 35
                     (with_reducible refine (HKN.out _).mono ?_)
                     rintro ex w1 ⟨rfl, rfl⟩))
                all_goals
                  first
                  | (go_roundw
                     case rel => exact ⟨j + 1, by omega, by go_num, fun i hi => by
                       rcases Nat.lt_succ_iff_lt_or_eq.1 hi with h | rfl
                       · exact HBJ.out i h
                       · rw [HX.out]; exact HMR.out, (HKW.out _ hk).1, (HKW.out _ hk).2⟩
                     case measure => simp [intOf]; omega)
                  | (go_ret
                     exact ⟨by rw [HR.out, HNOT.out HMR.out]; rfl, (HKW.out _ hk).2⟩)
        · obtain rfl : j = n := by omega
          go_wp2
          go_ret
          exact ⟨by rw [HR.out, HYES.out HBJ.out]; rfl, HF.out⟩
  · have hck : c.chk = 1 := Conf.chk_no hf
    rw [hck] at HC
    have HX := Lib.hid (show progOk c p = false by
      unfold progOk; simp [hf])
    clear hf hck
    unfold Conf.val at *
    go_enter Try.func18, Try.ntmps18
    go_wp2_with (go_at_call 33; (with_reducible refine (HC.out _).mono ?_); rintro ex w1 ⟨rfl, hf1⟩)
    go_ret
    exact ⟨by rw [HR.out, HX.out]; rfl, ((Fr.refl _ _).alloc _).trans hf1⟩
end Go.Proofs.Ytkaokhpaabfhmaa
