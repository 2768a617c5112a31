/- ltklaw7.PlainTwice answers true. -/
import Derived.Test.YtfbdfboekgjbcaaPB
namespace Go.Proofs.Ytfbdfboekgjbcaa
open Go.RowKit

theorem ws_nil {c : Conf} {p : List Ins} : ∀ n at_ (s : PS), (runP c p n at_ s).ws = [] → (runP c p n at_ s).heap = s.heap
  | 0, _, _ => fun _ => rfl
  | n + 1, at_, s => fun h => by
    by_cases hg : at_ < p.length ∧ s.e = 1
    · rw [runP_go hg.1 hg.2] at h ⊢
      rw [ws_nil n _ _ h]
      have hl := (runP_lens c p n (s.next (p.getD at_ default) at_) (s.step c (p.getD at_ default))).2.2.1
      rw [h] at hl
      have hw : (s.step c (p.getD at_ default)).ws = [] := List.length_eq_zero_iff.1 (by simpa using hl)
      revert hw
      unfold PS.step
      repeat' split
      all_goals simp
    · rw [runP_stop hg]
theorem after_nil {c : Conf} {heap : List Int} {p : List Ins} (h : resE c heap p = 0) (hw : (resS c heap p).ws = []) : resH c heap p = heap := by
  by_cases hr : progOk c p = true ∧ (heap.length : Int) = c.words
  · obtain ⟨e1, e2, _⟩ := runs_full hr.1 hr.2
    rw [e1] at hw
    rw [e2]
    unfold PS.after
    split
    · exact ws_nil _ _ _ hw
    · rfl
  · obtain ⟨_, _, e3⟩ := runs_not hr
    rw [e3] at h
    split at h <;> cases h
theorem sameB_refl (a : PS) : sameB a a = true := by unfold sameB; simp
/-- The box of a configuration, behind all that follows. -/
theorem box_all (w : World) (c : Conf) : ∀ w' (_ : Fr (fun _ => False) (w.alloc (.cells #[.int .i64 c.r, .int .i64 c.o, .int .i64 c.s, .int .i64 c.wd, .int .i64 c.th, .int .i64 c.sl, .int .i64 c.rg, .int .i64 c.lk, .int .i64 c.un, .int .i64 c.es, .int .i64 c.tk, .int .i64 c.po] 23)) w'),
    w'.cell? ⟨w.heap.size, 0, none⟩ = some (.int .i64 c.r) ∧ w'.cell? ⟨w.heap.size, 1, none⟩ = some (.int .i64 c.o) ∧ w'.cell? ⟨w.heap.size, 2, none⟩ = some (.int .i64 c.s) ∧ w'.cell? ⟨w.heap.size, 3, none⟩ = some (.int .i64 c.wd) ∧
    w'.cell? ⟨w.heap.size, 4, none⟩ = some (.int .i64 c.th) ∧ w'.cell? ⟨w.heap.size, 5, none⟩ = some (.int .i64 c.sl) ∧ w'.cell? ⟨w.heap.size, 6, none⟩ = some (.int .i64 c.rg) ∧ w'.cell? ⟨w.heap.size, 7, none⟩ = some (.int .i64 c.lk) ∧
    w'.cell? ⟨w.heap.size, 8, none⟩ = some (.int .i64 c.un) ∧ w'.cell? ⟨w.heap.size, 9, none⟩ = some (.int .i64 c.es) ∧ w'.cell? ⟨w.heap.size, 10, none⟩ = some (.int .i64 c.tk) ∧ w'.cell? ⟨w.heap.size, 11, none⟩ = some (.int .i64 c.po) :=
  fun _ h => ((BoxConf.mk w c).frame h (fun x => x)).all

theorem ints_eq (A1 : Option Addr) (n1 c1 : Nat) (A2 : Option Addr) (n2 c2 : Nat) (xs : List Int) (F G : Nat → Prop) (w : World) (hx : Flat w F A1 n1 xs) (hs : xs.length ≤ 20000) (hy : Flat w G A2 n2 xs) :
    Calls Try.prog 14 #[.slice A1 n1 c1, .slice A2 n2 c2] w fun e w' => e = .returned (.bool true) ∧ Fr (fun _ => False) w w' :=
  (ints_calls A1 n1 c1 A2 n2 c2 xs xs F G w hx (by rw [← hx.len]; exact hs) hy).mono fun _ _ h => ⟨by rw [h.1, decide_eq_true rfl], h.2⟩
theorem same_eq (a : PS) (A1 : Option Addr) (n1 c1 : Nat) (A2 : Option Addr) (n2 c2 : Nat) (A3 : Option Addr) (n3 c3 : Nat) (A4 : Option Addr) (n4 : Nat) (B1 : Option Addr) (m1 d1 : Nat) (B2 : Option Addr) (m2 d2 : Nat) (B3 : Option Addr) (m3 d3 : Nat) (B4 : Option Addr) (m4 : Nat) (b1 b2 : Nat) (h1 h2 : List Int) (w : World)
    (g : RunIs w b1 a h1 A1 n1 A2 n2 A3 n3 A4 n4) (k : RunIs w b2 a h2 B1 m1 B2 m2 B3 m3 B4 m4) (s1 : a.regs.length ≤ 20000) (s2 : a.rs.length ≤ 20000) (s3 : a.ws.length ≤ 20000) :
    Calls Try.prog 17 #[.agg #[.int .i64 a.e, .slice A1 n1 c1, .slice A2 n2 c2, .slice A3 n3 c3], .agg #[.int .i64 a.e, .slice B1 m1 d1, .slice B2 m2 d2, .slice B3 m3 d3]] w fun e w' => e = .returned (.bool true) ∧ Fr (fun _ => False) w w' :=
  (same_calls a a A1 n1 c1 A2 n2 c2 A3 n3 c3 B1 m1 d1 B2 m2 d2 B3 m3 d3 _ _ w g.g g.r g.w_ k.g k.r k.w_ (by rw [← g.g.len]; exact s1) (by have := g.r.len; omega) (by have := g.w_.len; omega)).mono fun _ _ h => ⟨by rw [h.1, sameB_refl], h.2⟩

set_option maxRecDepth 100000 in
set_option maxHeartbeats 1000000 in
theorem twice_many (c : Conf) (H : Option Addr) (hn hcap : Nat) (A : Option Addr) (n cap : Nat) (p : List Ins) (w : World) (h : ProgAt w (fun _ => True) A n cap p) (hb : fewP p = false ∨ (fewP p = true ∧ 5000 < hn)) :
    Calls Try.prog 8 #[c.val, .slice H hn hcap, .slice A n cap] w fun e w' => e = .returned (.bool true) ∧ Fr (fun _ => False) w w' := by
  have HF := Lib.hid (fun w' (hf : Fr (fun _ => False) w w') => few6_calls A n cap p _ w' (h.frame hf (fun _ _ x => x.elim)))
  rcases hb with hb | ⟨hb, hg⟩
  all_goals
    rw [hb] at HF
    clear h hb
    unfold Conf.val
    have hk := (Fr.refl (fun _ => False) w).alloc (.cells #[.int .i64 c.r, .int .i64 c.o, .int .i64 c.s, .int .i64 c.wd, .int .i64 c.th, .int .i64 c.sl, .int .i64 c.rg, .int .i64 c.lk, .int .i64 c.un, .int .i64 c.es, .int .i64 c.tk, .int .i64 c.po] 23)
    go_enter Try.func8, Try.ntmps8
    go_wp2_with (first
      | (go_at_call 10
         (with_reducible refine (HF.out _ hk).mono ?_)
         rintro ex w2 ⟨rfl, hf2⟩
         replace hk := hk.trans hf2)
      | (go_at_call 9
         (with_reducible refine (first7_calls _).mono ?_)
         rintro ex w1 ⟨rfl, hf1⟩
         replace hk := hk.trans hf1
         clear hf1))
    go_ret
    exact ⟨rfl, hk⟩

set_option maxRecDepth 100000 in
set_option maxHeartbeats 4000000 in
theorem twice_few (c : Conf) (H : Option Addr) (hn hcap : Nat) (heap : List Int) (A : Option Addr) (n cap : Nat) (p : List Ins) (w : World) (hI : IntsW w H hn heap) (h : ProgAt w (fun _ => True) A n cap p) (hb : fewP p = true) (hs : hn ≤ 5000) :
    Calls Try.prog 8 #[c.val, .slice H hn hcap, .slice A n cap] w fun e w' => e = .returned (.bool true) ∧ Fr (fun _ => False) w w' := by
  have HF := Lib.hid (fun w' (hf : Fr (fun _ => False) w w') => few6_calls A n cap p _ w' (h.frame hf (fun _ _ x => x.elim)))
  rw [hb] at HF
  have hlh := hI.flat.len
  obtain ⟨l1, l2, l3, l4⟩ := res_small c heap p (by omega)
  have hRUN := fun w' (hf : Fr (fun _ => False) w w') => run_calls c H hn hcap heap A n cap p _ _ w' (h.frame hf (fun _ _ x => x.elim)) (fewP_short hb) (hI.flat.frame hf (fun _ _ x => x.elim)) hI.i64
  have hRUN2 := fun (hE : resE c heap p = 0) (hW : (resS c heap p).ws = []) (A4 : Option Addr) (n4 c4 : Nat) (B : Nat) w' (hf : Fr (fun _ => False) w w') (hh : Flat w' (fun k => B ≤ k) A4 n4 (resH c heap p)) => run_calls c A4 n4 c4 heap A n cap p _ _ w' (h.frame hf (fun _ _ x => x.elim)) (fewP_short hb) (by rw [after_nil hE hW] at hh; exact hh) hI.i64
  have HIN := Lib.hid (fun w' (hf : Fr (fun _ => False) w w') => hI.flat.frame hf (fun _ _ x => x.elim))
  have HBX := Lib.hid (box_all w c)
  have HAN := Lib.hid (fun (h1 : resE c heap p = 0) (h2 : (resS c heap p).ws = []) => after_nil h1 h2)
  unfold Conf.val at *
  have HRUN := Lib.hid hRUN
  have HRUN2 := Lib.hid hRUN2
  clear hRUN hRUN2 h hb hI
  have T1 := Lib.hid trivial
  have T2 := Lib.hid trivial
  have T3 := Lib.hid trivial
  generalize hS : resS c heap p = S at *
  generalize hH : resH c heap p = R at *
  generalize hE : resE c heap p = E at *
  clear hS hH hE
  have hk := (Fr.refl (fun _ => False) w).alloc (.cells #[.int .i64 c.r, .int .i64 c.o, .int .i64 c.s, .int .i64 c.wd, .int .i64 c.th, .int .i64 c.sl, .int .i64 c.rg, .int .i64 c.lk, .int .i64 c.un, .int .i64 c.es, .int .i64 c.tk, .int .i64 c.po] 23)
  have hbk := Fr.refl (fun _ => False) (w.alloc (.cells #[.int .i64 c.r, .int .i64 c.o, .int .i64 c.s, .int .i64 c.wd, .int .i64 c.th, .int .i64 c.sl, .int .i64 c.rg, .int .i64 c.lk, .int .i64 c.un, .int .i64 c.es, .int .i64 c.tk, .int .i64 c.po] 23))
  have HL := Lib.hid hlh
  clear hlh
  have hg : ¬ 5000 < hn := by omega
  have hcase : (E ≠ 0) ∨ (E = 0 ∧ S.ws ≠ []) ∨ (E = 0 ∧ S.ws = []) := by
    by_cases h1 : E = 0
    · by_cases h2 : S.ws = []
      · exact .inr (.inr ⟨h1, h2⟩)
      · exact .inr (.inl ⟨h1, h2⟩)
    · exact .inl h1
  rcases hcase with hE | ⟨rfl, hW⟩ | ⟨rfl, hW⟩
  · have hE1 : (E != 0) = true := by simpa using hE
    clear hE
    go_enter Try.func8, Try.ntmps8
    go_wp2_with (first
      | (go_at_call 9
         (with_reducible refine (first7_calls _).mono ?_)
         rintro ex w1 ⟨rfl, hf1⟩
         replace hk := hk.trans hf1
         replace hbk := hbk.trans hf1
         try (replace k1 := k1.trans hf1)
         try (replace k2 := k2.trans hf1)
         try (replace k3 := k3.trans hf1)
         try (clear c0 c1 c2 c3 c4 c5 c6 c7 c8 c9 c10 c11)
         try (clear p0 p1 p2 p3)
         try (clear q0 q1 q2 q3)
         try (clear r0 r1 r2 r3)
         clear hf1
         obtain ⟨c0, c1, c2, c3, c4, c5, c6, c7, c8, c9, c10, c11⟩ := HBX.out _ hbk
         try (obtain ⟨p0, p1, p2, p3⟩ := HO1.out _ k1)
         try (obtain ⟨q0, q1, q2, q3⟩ := HO2.out _ k2)
         try (obtain ⟨r0, r1, r2, r3⟩ := HO3.out _ k3))
      | (go_at_call 10
         (with_reducible refine (HF.out _ hk).mono ?_)
         rintro ex w2 ⟨rfl, hf2⟩
         replace hk := hk.trans hf2
         replace hbk := hbk.trans hf2
         try (replace k1 := k1.trans hf2)
         try (replace k2 := k2.trans hf2)
         try (replace k3 := k3.trans hf2)
         try (clear c0 c1 c2 c3 c4 c5 c6 c7 c8 c9 c10 c11)
         try (clear p0 p1 p2 p3)
         try (clear q0 q1 q2 q3)
         try (clear r0 r1 r2 r3)
         clear hf2
         obtain ⟨c0, c1, c2, c3, c4, c5, c6, c7, c8, c9, c10, c11⟩ := HBX.out _ hbk
         try (obtain ⟨p0, p1, p2, p3⟩ := HO1.out _ k1)
         try (obtain ⟨q0, q1, q2, q3⟩ := HO2.out _ k2)
         try (obtain ⟨r0, r1, r2, r3⟩ := HO3.out _ k3))
      | (go_at_call 11
         clear T1
         (with_reducible refine (HRUN.out _ hk).mono ?_)
         rintro ex v1 ⟨A1, nA1, cA1, A2, nA2, cA2, A3, nA3, cA3, A4, nA4, cA4, rfl, ho1, hf1⟩
         try (have hn3 := HPOS.out _ ho1.w_.len)
         try (have hn3 := HZERO.out _ ho1.w_.len)
         have HO1 := Lib.hid (fun w' (hf : Fr (fun _ => False) (v1.alloc (.cells #[.int .i64 S.e, .slice A1 nA1 cA1, .slice A2 nA2 cA2, .slice A3 nA3 cA3] 30)) w') => out_box (hf.heap (heap_alloc_new v1 _) (fun x => x)) rfl)
         have HR1 := Lib.hid (fun w' (hf : Fr (fun _ => False) (v1.alloc (.cells #[.int .i64 S.e, .slice A1 nA1 cA1, .slice A2 nA2 cA2, .slice A3 nA3 cA3] 30)) w') => (ho1.frame ((Fr.refl (fun _ => False) v1).alloc (.cells #[.int .i64 S.e, .slice A1 nA1 cA1, .slice A2 nA2 cA2, .slice A3 nA3 cA3] 30)) (fun _ _ x => x.elim)).frame hf (fun _ _ x => x.elim))
         replace hk := (hk.trans hf1).alloc (.cells #[.int .i64 S.e, .slice A1 nA1 cA1, .slice A2 nA2 cA2, .slice A3 nA3 cA3] 30)
         replace hbk := (hbk.trans hf1).alloc (.cells #[.int .i64 S.e, .slice A1 nA1 cA1, .slice A2 nA2 cA2, .slice A3 nA3 cA3] 30)
         try (replace k1 := (k1.trans hf1).alloc (.cells #[.int .i64 S.e, .slice A1 nA1 cA1, .slice A2 nA2 cA2, .slice A3 nA3 cA3] 30))
         try (replace k2 := (k2.trans hf1).alloc (.cells #[.int .i64 S.e, .slice A1 nA1 cA1, .slice A2 nA2 cA2, .slice A3 nA3 cA3] 30))
         try (replace k3 := (k3.trans hf1).alloc (.cells #[.int .i64 S.e, .slice A1 nA1 cA1, .slice A2 nA2 cA2, .slice A3 nA3 cA3] 30))
         try (clear c0 c1 c2 c3 c4 c5 c6 c7 c8 c9 c10 c11)
         try (clear p0 p1 p2 p3)
         try (clear q0 q1 q2 q3)
         try (clear r0 r1 r2 r3)
         have k1 := Fr.refl (fun _ => False) (v1.alloc (.cells #[.int .i64 S.e, .slice A1 nA1 cA1, .slice A2 nA2 cA2, .slice A3 nA3 cA3] 30))
         clear hf1 ho1
         obtain ⟨c0, c1, c2, c3, c4, c5, c6, c7, c8, c9, c10, c11⟩ := HBX.out _ hbk
         try (obtain ⟨p0, p1, p2, p3⟩ := HO1.out _ k1)
         try (obtain ⟨q0, q1, q2, q3⟩ := HO2.out _ k2)
         try (obtain ⟨r0, r1, r2, r3⟩ := HO3.out _ k3))
      | (go_at_call 11
         clear T2
         (with_reducible refine (HRUN.out _ hk).mono ?_)
         rintro ex v2 ⟨B1, nB1, cB1, B2, nB2, cB2, B3, nB3, cB3, B4, nB4, cB4, rfl, ho2, hf2⟩
         have HO2 := Lib.hid (fun w' (hf : Fr (fun _ => False) (v2.alloc (.cells #[.int .i64 S.e, .slice B1 nB1 cB1, .slice B2 nB2 cB2, .slice B3 nB3 cB3] 30)) w') => out_box (hf.heap (heap_alloc_new v2 _) (fun x => x)) rfl)
         have HR2 := Lib.hid (fun w' (hf : Fr (fun _ => False) (v2.alloc (.cells #[.int .i64 S.e, .slice B1 nB1 cB1, .slice B2 nB2 cB2, .slice B3 nB3 cB3] 30)) w') => (ho2.frame ((Fr.refl (fun _ => False) v2).alloc (.cells #[.int .i64 S.e, .slice B1 nB1 cB1, .slice B2 nB2 cB2, .slice B3 nB3 cB3] 30)) (fun _ _ x => x.elim)).frame hf (fun _ _ x => x.elim))
         replace hk := (hk.trans hf2).alloc (.cells #[.int .i64 S.e, .slice B1 nB1 cB1, .slice B2 nB2 cB2, .slice B3 nB3 cB3] 30)
         replace hbk := (hbk.trans hf2).alloc (.cells #[.int .i64 S.e, .slice B1 nB1 cB1, .slice B2 nB2 cB2, .slice B3 nB3 cB3] 30)
         try (replace k1 := (k1.trans hf2).alloc (.cells #[.int .i64 S.e, .slice B1 nB1 cB1, .slice B2 nB2 cB2, .slice B3 nB3 cB3] 30))
         try (replace k2 := (k2.trans hf2).alloc (.cells #[.int .i64 S.e, .slice B1 nB1 cB1, .slice B2 nB2 cB2, .slice B3 nB3 cB3] 30))
         try (replace k3 := (k3.trans hf2).alloc (.cells #[.int .i64 S.e, .slice B1 nB1 cB1, .slice B2 nB2 cB2, .slice B3 nB3 cB3] 30))
         try (clear c0 c1 c2 c3 c4 c5 c6 c7 c8 c9 c10 c11)
         try (clear p0 p1 p2 p3)
         try (clear q0 q1 q2 q3)
         try (clear r0 r1 r2 r3)
         have k2 := Fr.refl (fun _ => False) (v2.alloc (.cells #[.int .i64 S.e, .slice B1 nB1 cB1, .slice B2 nB2 cB2, .slice B3 nB3 cB3] 30))
         clear hf2 ho2
         obtain ⟨c0, c1, c2, c3, c4, c5, c6, c7, c8, c9, c10, c11⟩ := HBX.out _ hbk
         try (obtain ⟨p0, p1, p2, p3⟩ := HO1.out _ k1)
         try (obtain ⟨q0, q1, q2, q3⟩ := HO2.out _ k2)
         try (obtain ⟨r0, r1, r2, r3⟩ := HO3.out _ k3))
      | (go_at_call 11
         clear T3
         (with_reducible refine (HRUN3.out _ _ _ _ _ hk (HR1.out _ k1).h).mono ?_)
         rintro ex v3 ⟨D1, nD1, cD1, D2, nD2, cD2, D3, nD3, cD3, D4, nD4, cD4, rfl, ho3, hf3⟩
         have HO3 := Lib.hid (fun w' (hf : Fr (fun _ => False) (v3.alloc (.cells #[.int .i64 S.e, .slice D1 nD1 cD1, .slice D2 nD2 cD2, .slice D3 nD3 cD3] 30)) w') => out_box (hf.heap (heap_alloc_new v3 _) (fun x => x)) rfl)
         have HR3 := Lib.hid (fun w' (hf : Fr (fun _ => False) (v3.alloc (.cells #[.int .i64 S.e, .slice D1 nD1 cD1, .slice D2 nD2 cD2, .slice D3 nD3 cD3] 30)) w') => (ho3.frame ((Fr.refl (fun _ => False) v3).alloc (.cells #[.int .i64 S.e, .slice D1 nD1 cD1, .slice D2 nD2 cD2, .slice D3 nD3 cD3] 30)) (fun _ _ x => x.elim)).frame hf (fun _ _ x => x.elim))
         replace hk := (hk.trans hf3).alloc (.cells #[.int .i64 S.e, .slice D1 nD1 cD1, .slice D2 nD2 cD2, .slice D3 nD3 cD3] 30)
         replace hbk := (hbk.trans hf3).alloc (.cells #[.int .i64 S.e, .slice D1 nD1 cD1, .slice D2 nD2 cD2, .slice D3 nD3 cD3] 30)
         try (replace k1 := (k1.trans hf3).alloc (.cells #[.int .i64 S.e, .slice D1 nD1 cD1, .slice D2 nD2 cD2, .slice D3 nD3 cD3] 30))
         try (replace k2 := (k2.trans hf3).alloc (.cells #[.int .i64 S.e, .slice D1 nD1 cD1, .slice D2 nD2 cD2, .slice D3 nD3 cD3] 30))
         try (replace k3 := (k3.trans hf3).alloc (.cells #[.int .i64 S.e, .slice D1 nD1 cD1, .slice D2 nD2 cD2, .slice D3 nD3 cD3] 30))
         try (clear c0 c1 c2 c3 c4 c5 c6 c7 c8 c9 c10 c11)
         try (clear p0 p1 p2 p3)
         try (clear q0 q1 q2 q3)
         try (clear r0 r1 r2 r3)
         have k3 := Fr.refl (fun _ => False) (v3.alloc (.cells #[.int .i64 S.e, .slice D1 nD1 cD1, .slice D2 nD2 cD2, .slice D3 nD3 cD3] 30))
         clear hf3 ho3
         obtain ⟨c0, c1, c2, c3, c4, c5, c6, c7, c8, c9, c10, c11⟩ := HBX.out _ hbk
         try (obtain ⟨p0, p1, p2, p3⟩ := HO1.out _ k1)
         try (obtain ⟨q0, q1, q2, q3⟩ := HO2.out _ k2)
         try (obtain ⟨r0, r1, r2, r3⟩ := HO3.out _ k3))
      | (go_at_call 17
         first
         | (with_reducible refine (same_eq S _ _ _ _ _ _ _ _ _ _ _ _ _ _ _ _ _ _ _ _ _ _ _ _ _ _ _ (HR1.out _ k1) (HR2.out _ k2) l1 l2 l3).mono ?_)
         | (with_reducible refine (same_eq S _ _ _ _ _ _ _ _ _ _ _ _ _ _ _ _ _ _ _ _ _ _ _ _ _ _ _ (HR1.out _ k1) (HR3.out _ k3) l1 l2 l3).mono ?_)
         rintro ex w6 ⟨rfl, hf6⟩
         replace hk := hk.trans hf6
         replace hbk := hbk.trans hf6
         try (replace k1 := k1.trans hf6)
         try (replace k2 := k2.trans hf6)
         try (replace k3 := k3.trans hf6)
         try (clear c0 c1 c2 c3 c4 c5 c6 c7 c8 c9 c10 c11)
         try (clear p0 p1 p2 p3)
         try (clear q0 q1 q2 q3)
         try (clear r0 r1 r2 r3)
         clear hf6
         obtain ⟨c0, c1, c2, c3, c4, c5, c6, c7, c8, c9, c10, c11⟩ := HBX.out _ hbk
         try (obtain ⟨p0, p1, p2, p3⟩ := HO1.out _ k1)
         try (obtain ⟨q0, q1, q2, q3⟩ := HO2.out _ k2)
         try (obtain ⟨r0, r1, r2, r3⟩ := HO3.out _ k3))
      | (go_at_call 14
         first
         | (with_reducible refine (ints_eq _ _ _ _ _ _ _ _ _ _ (HR1.out _ k1).h l4 (HR2.out _ k2).h).mono ?_)
         | (with_reducible refine (ints_eq _ _ _ _ _ _ _ _ _ _ (HR1.out _ k1).h l4 (HIN.out _ hk)).mono ?_)
         | (with_reducible refine (ints_eq _ _ _ _ _ _ _ _ _ _ (HR3.out _ k3).h l4 (HIN.out _ hk)).mono ?_)
         rintro ex w7 ⟨rfl, hf7⟩
         replace hk := hk.trans hf7
         replace hbk := hbk.trans hf7
         try (replace k1 := k1.trans hf7)
         try (replace k2 := k2.trans hf7)
         try (replace k3 := k3.trans hf7)
         try (clear c0 c1 c2 c3 c4 c5 c6 c7 c8 c9 c10 c11)
         try (clear p0 p1 p2 p3)
         try (clear q0 q1 q2 q3)
         try (clear r0 r1 r2 r3)
         clear hf7
         obtain ⟨c0, c1, c2, c3, c4, c5, c6, c7, c8, c9, c10, c11⟩ := HBX.out _ hbk
         try (obtain ⟨p0, p1, p2, p3⟩ := HO1.out _ k1)
         try (obtain ⟨q0, q1, q2, q3⟩ := HO2.out _ k2)
         try (obtain ⟨r0, r1, r2, r3⟩ := HO3.out _ k3)))
    go_ret
    exact ⟨rfl, hk⟩
  · have HPOS := Lib.hid (fun (m : Nat) (h : S.ws.length = m * 2) => show 0 < m by
      have : S.ws.length ≠ 0 := fun x => hW (List.length_eq_zero_iff.1 x)
      omega)
    clear hW
    go_enter Try.func8, Try.ntmps8
    go_wp2_with (first
      | (go_at_call 9
         (with_reducible refine (first7_calls _).mono ?_)
         rintro ex w1 ⟨rfl, hf1⟩
         replace hk := hk.trans hf1
         replace hbk := hbk.trans hf1
         try (replace k1 := k1.trans hf1)
         try (replace k2 := k2.trans hf1)
         try (replace k3 := k3.trans hf1)
         try (clear c0 c1 c2 c3 c4 c5 c6 c7 c8 c9 c10 c11)
         try (clear p0 p1 p2 p3)
         try (clear q0 q1 q2 q3)
         try (clear r0 r1 r2 r3)
         clear hf1
         obtain ⟨c0, c1, c2, c3, c4, c5, c6, c7, c8, c9, c10, c11⟩ := HBX.out _ hbk
         try (obtain ⟨p0, p1, p2, p3⟩ := HO1.out _ k1)
         try (obtain ⟨q0, q1, q2, q3⟩ := HO2.out _ k2)
         try (obtain ⟨r0, r1, r2, r3⟩ := HO3.out _ k3))
      | (go_at_call 10
         (with_reducible refine (HF.out _ hk).mono ?_)
         rintro ex w2 ⟨rfl, hf2⟩
         replace hk := hk.trans hf2
         replace hbk := hbk.trans hf2
         try (replace k1 := k1.trans hf2)
         try (replace k2 := k2.trans hf2)
         try (replace k3 := k3.trans hf2)
         try (clear c0 c1 c2 c3 c4 c5 c6 c7 c8 c9 c10 c11)
         try (clear p0 p1 p2 p3)
         try (clear q0 q1 q2 q3)
         try (clear r0 r1 r2 r3)
         clear hf2
         obtain ⟨c0, c1, c2, c3, c4, c5, c6, c7, c8, c9, c10, c11⟩ := HBX.out _ hbk
         try (obtain ⟨p0, p1, p2, p3⟩ := HO1.out _ k1)
         try (obtain ⟨q0, q1, q2, q3⟩ := HO2.out _ k2)
         try (obtain ⟨r0, r1, r2, r3⟩ := HO3.out _ k3))
      | (go_at_call 11
         clear T1
         (with_reducible refine (HRUN.out _ hk).mono ?_)
         rintro ex v1 ⟨A1, nA1, cA1, A2, nA2, cA2, A3, nA3, cA3, A4, nA4, cA4, rfl, ho1, hf1⟩
         try (have hn3 := HPOS.out _ ho1.w_.len)
         try (have hn3 := HZERO.out _ ho1.w_.len)
         have HO1 := Lib.hid (fun w' (hf : Fr (fun _ => False) (v1.alloc (.cells #[.int .i64 S.e, .slice A1 nA1 cA1, .slice A2 nA2 cA2, .slice A3 nA3 cA3] 30)) w') => out_box (hf.heap (heap_alloc_new v1 _) (fun x => x)) rfl)
         have HR1 := Lib.hid (fun w' (hf : Fr (fun _ => False) (v1.alloc (.cells #[.int .i64 S.e, .slice A1 nA1 cA1, .slice A2 nA2 cA2, .slice A3 nA3 cA3] 30)) w') => (ho1.frame ((Fr.refl (fun _ => False) v1).alloc (.cells #[.int .i64 S.e, .slice A1 nA1 cA1, .slice A2 nA2 cA2, .slice A3 nA3 cA3] 30)) (fun _ _ x => x.elim)).frame hf (fun _ _ x => x.elim))
         replace hk := (hk.trans hf1).alloc (.cells #[.int .i64 S.e, .slice A1 nA1 cA1, .slice A2 nA2 cA2, .slice A3 nA3 cA3] 30)
         replace hbk := (hbk.trans hf1).alloc (.cells #[.int .i64 S.e, .slice A1 nA1 cA1, .slice A2 nA2 cA2, .slice A3 nA3 cA3] 30)
         try (replace k1 := (k1.trans hf1).alloc (.cells #[.int .i64 S.e, .slice A1 nA1 cA1, .slice A2 nA2 cA2, .slice A3 nA3 cA3] 30))
         try (replace k2 := (k2.trans hf1).alloc (.cells #[.int .i64 S.e, .slice A1 nA1 cA1, .slice A2 nA2 cA2, .slice A3 nA3 cA3] 30))
         try (replace k3 := (k3.trans hf1).alloc (.cells #[.int .i64 S.e, .slice A1 nA1 cA1, .slice A2 nA2 cA2, .slice A3 nA3 cA3] 30))
         try (clear c0 c1 c2 c3 c4 c5 c6 c7 c8 c9 c10 c11)
         try (clear p0 p1 p2 p3)
         try (clear q0 q1 q2 q3)
         try (clear r0 r1 r2 r3)
         have k1 := Fr.refl (fun _ => False) (v1.alloc (.cells #[.int .i64 S.e, .slice A1 nA1 cA1, .slice A2 nA2 cA2, .slice A3 nA3 cA3] 30))
         clear hf1 ho1
         obtain ⟨c0, c1, c2, c3, c4, c5, c6, c7, c8, c9, c10, c11⟩ := HBX.out _ hbk
         try (obtain ⟨p0, p1, p2, p3⟩ := HO1.out _ k1)
         try (obtain ⟨q0, q1, q2, q3⟩ := HO2.out _ k2)
         try (obtain ⟨r0, r1, r2, r3⟩ := HO3.out _ k3))
      | (go_at_call 11
         clear T2
         (with_reducible refine (HRUN.out _ hk).mono ?_)
         rintro ex v2 ⟨B1, nB1, cB1, B2, nB2, cB2, B3, nB3, cB3, B4, nB4, cB4, rfl, ho2, hf2⟩
         have HO2 := Lib.hid (fun w' (hf : Fr (fun _ => False) (v2.alloc (.cells #[.int .i64 S.e, .slice B1 nB1 cB1, .slice B2 nB2 cB2, .slice B3 nB3 cB3] 30)) w') => out_box (hf.heap (heap_alloc_new v2 _) (fun x => x)) rfl)
         have HR2 := Lib.hid (fun w' (hf : Fr (fun _ => False) (v2.alloc (.cells #[.int .i64 S.e, .slice B1 nB1 cB1, .slice B2 nB2 cB2, .slice B3 nB3 cB3] 30)) w') => (ho2.frame ((Fr.refl (fun _ => False) v2).alloc (.cells #[.int .i64 S.e, .slice B1 nB1 cB1, .slice B2 nB2 cB2, .slice B3 nB3 cB3] 30)) (fun _ _ x => x.elim)).frame hf (fun _ _ x => x.elim))
         replace hk := (hk.trans hf2).alloc (.cells #[.int .i64 S.e, .slice B1 nB1 cB1, .slice B2 nB2 cB2, .slice B3 nB3 cB3] 30)
         replace hbk := (hbk.trans hf2).alloc (.cells #[.int .i64 S.e, .slice B1 nB1 cB1, .slice B2 nB2 cB2, .slice B3 nB3 cB3] 30)
         try (replace k1 := (k1.trans hf2).alloc (.cells #[.int .i64 S.e, .slice B1 nB1 cB1, .slice B2 nB2 cB2, .slice B3 nB3 cB3] 30))
         try (replace k2 := (k2.trans hf2).alloc (.cells #[.int .i64 S.e, .slice B1 nB1 cB1, .slice B2 nB2 cB2, .slice B3 nB3 cB3] 30))
         try (replace k3 := (k3.trans hf2).alloc (.cells #[.int .i64 S.e, .slice B1 nB1 cB1, .slice B2 nB2 cB2, .slice B3 nB3 cB3] 30))
         try (clear c0 c1 c2 c3 c4 c5 c6 c7 c8 c9 c10 c11)
         try (clear p0 p1 p2 p3)
         try (clear q0 q1 q2 q3)
         try (clear r0 r1 r2 r3)
         have k2 := Fr.refl (fun _ => False) (v2.alloc (.cells #[.int .i64 S.e, .slice B1 nB1 cB1, .slice B2 nB2 cB2, .slice B3 nB3 cB3] 30))
         clear hf2 ho2
         obtain ⟨c0, c1, c2, c3, c4, c5, c6, c7, c8, c9, c10, c11⟩ := HBX.out _ hbk
         try (obtain ⟨p0, p1, p2, p3⟩ := HO1.out _ k1)
         try (obtain ⟨q0, q1, q2, q3⟩ := HO2.out _ k2)
         try (obtain ⟨r0, r1, r2, r3⟩ := HO3.out _ k3))
      | (go_at_call 11
         clear T3
         (with_reducible refine (HRUN3.out _ _ _ _ _ hk (HR1.out _ k1).h).mono ?_)
         rintro ex v3 ⟨D1, nD1, cD1, D2, nD2, cD2, D3, nD3, cD3, D4, nD4, cD4, rfl, ho3, hf3⟩
         have HO3 := Lib.hid (fun w' (hf : Fr (fun _ => False) (v3.alloc (.cells #[.int .i64 S.e, .slice D1 nD1 cD1, .slice D2 nD2 cD2, .slice D3 nD3 cD3] 30)) w') => out_box (hf.heap (heap_alloc_new v3 _) (fun x => x)) rfl)
         have HR3 := Lib.hid (fun w' (hf : Fr (fun _ => False) (v3.alloc (.cells #[.int .i64 S.e, .slice D1 nD1 cD1, .slice D2 nD2 cD2, .slice D3 nD3 cD3] 30)) w') => (ho3.frame ((Fr.refl (fun _ => False) v3).alloc (.cells #[.int .i64 S.e, .slice D1 nD1 cD1, .slice D2 nD2 cD2, .slice D3 nD3 cD3] 30)) (fun _ _ x => x.elim)).frame hf (fun _ _ x => x.elim))
         replace hk := (hk.trans hf3).alloc (.cells #[.int .i64 S.e, .slice D1 nD1 cD1, .slice D2 nD2 cD2, .slice D3 nD3 cD3] 30)
         replace hbk := (hbk.trans hf3).alloc (.cells #[.int .i64 S.e, .slice D1 nD1 cD1, .slice D2 nD2 cD2, .slice D3 nD3 cD3] 30)
         try (replace k1 := (k1.trans hf3).alloc (.cells #[.int .i64 S.e, .slice D1 nD1 cD1, .slice D2 nD2 cD2, .slice D3 nD3 cD3] 30))
         try (replace k2 := (k2.trans hf3).alloc (.cells #[.int .i64 S.e, .slice D1 nD1 cD1, .slice D2 nD2 cD2, .slice D3 nD3 cD3] 30))
         try (replace k3 := (k3.trans hf3).alloc (.cells #[.int .i64 S.e, .slice D1 nD1 cD1, .slice D2 nD2 cD2, .slice D3 nD3 cD3] 30))
         try (clear c0 c1 c2 c3 c4 c5 c6 c7 c8 c9 c10 c11)
         try (clear p0 p1 p2 p3)
         try (clear q0 q1 q2 q3)
         try (clear r0 r1 r2 r3)
         have k3 := Fr.refl (fun _ => False) (v3.alloc (.cells #[.int .i64 S.e, .slice D1 nD1 cD1, .slice D2 nD2 cD2, .slice D3 nD3 cD3] 30))
         clear hf3 ho3
         obtain ⟨c0, c1, c2, c3, c4, c5, c6, c7, c8, c9, c10, c11⟩ := HBX.out _ hbk
         try (obtain ⟨p0, p1, p2, p3⟩ := HO1.out _ k1)
         try (obtain ⟨q0, q1, q2, q3⟩ := HO2.out _ k2)
         try (obtain ⟨r0, r1, r2, r3⟩ := HO3.out _ k3))
      | (go_at_call 17
         first
         | (with_reducible refine (same_eq S _ _ _ _ _ _ _ _ _ _ _ _ _ _ _ _ _ _ _ _ _ _ _ _ _ _ _ (HR1.out _ k1) (HR2.out _ k2) l1 l2 l3).mono ?_)
         | (with_reducible refine (same_eq S _ _ _ _ _ _ _ _ _ _ _ _ _ _ _ _ _ _ _ _ _ _ _ _ _ _ _ (HR1.out _ k1) (HR3.out _ k3) l1 l2 l3).mono ?_)
         rintro ex w6 ⟨rfl, hf6⟩
         replace hk := hk.trans hf6
         replace hbk := hbk.trans hf6
         try (replace k1 := k1.trans hf6)
         try (replace k2 := k2.trans hf6)
         try (replace k3 := k3.trans hf6)
         try (clear c0 c1 c2 c3 c4 c5 c6 c7 c8 c9 c10 c11)
         try (clear p0 p1 p2 p3)
         try (clear q0 q1 q2 q3)
         try (clear r0 r1 r2 r3)
         clear hf6
         obtain ⟨c0, c1, c2, c3, c4, c5, c6, c7, c8, c9, c10, c11⟩ := HBX.out _ hbk
         try (obtain ⟨p0, p1, p2, p3⟩ := HO1.out _ k1)
         try (obtain ⟨q0, q1, q2, q3⟩ := HO2.out _ k2)
         try (obtain ⟨r0, r1, r2, r3⟩ := HO3.out _ k3))
      | (go_at_call 14
         first
         | (with_reducible refine (ints_eq _ _ _ _ _ _ _ _ _ _ (HR1.out _ k1).h l4 (HR2.out _ k2).h).mono ?_)
         | (with_reducible refine (ints_eq _ _ _ _ _ _ _ _ _ _ (HR1.out _ k1).h l4 (HIN.out _ hk)).mono ?_)
         | (with_reducible refine (ints_eq _ _ _ _ _ _ _ _ _ _ (HR3.out _ k3).h l4 (HIN.out _ hk)).mono ?_)
         rintro ex w7 ⟨rfl, hf7⟩
         replace hk := hk.trans hf7
         replace hbk := hbk.trans hf7
         try (replace k1 := k1.trans hf7)
         try (replace k2 := k2.trans hf7)
         try (replace k3 := k3.trans hf7)
         try (clear c0 c1 c2 c3 c4 c5 c6 c7 c8 c9 c10 c11)
         try (clear p0 p1 p2 p3)
         try (clear q0 q1 q2 q3)
         try (clear r0 r1 r2 r3)
         clear hf7
         obtain ⟨c0, c1, c2, c3, c4, c5, c6, c7, c8, c9, c10, c11⟩ := HBX.out _ hbk
         try (obtain ⟨p0, p1, p2, p3⟩ := HO1.out _ k1)
         try (obtain ⟨q0, q1, q2, q3⟩ := HO2.out _ k2)
         try (obtain ⟨r0, r1, r2, r3⟩ := HO3.out _ k3)))
    go_ret
    exact ⟨rfl, hk⟩
  · have HZERO := Lib.hid (fun (m : Nat) (h : S.ws.length = m * 2) => show ¬ 0 < m by
      rw [hW] at h
      simp at h
      omega)
    obtain rfl := HAN.out rfl hW
    have HRUN3 := Lib.hid (HRUN2.out rfl hW)
    clear HRUN2 hW HAN
    go_enter Try.func8, Try.ntmps8
    go_wp2_with (first
      | (go_at_call 9
         (with_reducible refine (first7_calls _).mono ?_)
         rintro ex w1 ⟨rfl, hf1⟩
         replace hk := hk.trans hf1
         replace hbk := hbk.trans hf1
         try (replace k1 := k1.trans hf1)
         try (replace k2 := k2.trans hf1)
         try (replace k3 := k3.trans hf1)
         try (clear c0 c1 c2 c3 c4 c5 c6 c7 c8 c9 c10 c11)
         try (clear p0 p1 p2 p3)
         try (clear q0 q1 q2 q3)
         try (clear r0 r1 r2 r3)
         clear hf1
         obtain ⟨c0, c1, c2, c3, c4, c5, c6, c7, c8, c9, c10, c11⟩ := HBX.out _ hbk
         try (obtain ⟨p0, p1, p2, p3⟩ := HO1.out _ k1)
         try (obtain ⟨q0, q1, q2, q3⟩ := HO2.out _ k2)
         try (obtain ⟨r0, r1, r2, r3⟩ := HO3.out _ k3))
      | (go_at_call 10
         (with_reducible refine (HF.out _ hk).mono ?_)
         rintro ex w2 ⟨rfl, hf2⟩
         replace hk := hk.trans hf2
         replace hbk := hbk.trans hf2
         try (replace k1 := k1.trans hf2)
         try (replace k2 := k2.trans hf2)
         try (replace k3 := k3.trans hf2)
         try (clear c0 c1 c2 c3 c4 c5 c6 c7 c8 c9 c10 c11)
         try (clear p0 p1 p2 p3)
         try (clear q0 q1 q2 q3)
         try (clear r0 r1 r2 r3)
         clear hf2
         obtain ⟨c0, c1, c2, c3, c4, c5, c6, c7, c8, c9, c10, c11⟩ := HBX.out _ hbk
         try (obtain ⟨p0, p1, p2, p3⟩ := HO1.out _ k1)
         try (obtain ⟨q0, q1, q2, q3⟩ := HO2.out _ k2)
         try (obtain ⟨r0, r1, r2, r3⟩ := HO3.out _ k3))
      | (go_at_call 11
         clear T1
         (with_reducible refine (HRUN.out _ hk).mono ?_)
         rintro ex v1 ⟨A1, nA1, cA1, A2, nA2, cA2, A3, nA3, cA3, A4, nA4, cA4, rfl, ho1, hf1⟩
         try (have hn3 := HPOS.out _ ho1.w_.len)
         try (have hn3 := HZERO.out _ ho1.w_.len)
         have HO1 := Lib.hid (fun w' (hf : Fr (fun _ => False) (v1.alloc (.cells #[.int .i64 S.e, .slice A1 nA1 cA1, .slice A2 nA2 cA2, .slice A3 nA3 cA3] 30)) w') => out_box (hf.heap (heap_alloc_new v1 _) (fun x => x)) rfl)
         have HR1 := Lib.hid (fun w' (hf : Fr (fun _ => False) (v1.alloc (.cells #[.int .i64 S.e, .slice A1 nA1 cA1, .slice A2 nA2 cA2, .slice A3 nA3 cA3] 30)) w') => (ho1.frame ((Fr.refl (fun _ => False) v1).alloc (.cells #[.int .i64 S.e, .slice A1 nA1 cA1, .slice A2 nA2 cA2, .slice A3 nA3 cA3] 30)) (fun _ _ x => x.elim)).frame hf (fun _ _ x => x.elim))
         replace hk := (hk.trans hf1).alloc (.cells #[.int .i64 S.e, .slice A1 nA1 cA1, .slice A2 nA2 cA2, .slice A3 nA3 cA3] 30)
         replace hbk := (hbk.trans hf1).alloc (.cells #[.int .i64 S.e, .slice A1 nA1 cA1, .slice A2 nA2 cA2, .slice A3 nA3 cA3] 30)
         try (replace k1 := (k1.trans hf1).alloc (.cells #[.int .i64 S.e, .slice A1 nA1 cA1, .slice A2 nA2 cA2, .slice A3 nA3 cA3] 30))
         try (replace k2 := (k2.trans hf1).alloc (.cells #[.int .i64 S.e, .slice A1 nA1 cA1, .slice A2 nA2 cA2, .slice A3 nA3 cA3] 30))
         try (replace k3 := (k3.trans hf1).alloc (.cells #[.int .i64 S.e, .slice A1 nA1 cA1, .slice A2 nA2 cA2, .slice A3 nA3 cA3] 30))
         try (clear c0 c1 c2 c3 c4 c5 c6 c7 c8 c9 c10 c11)
         try (clear p0 p1 p2 p3)
         try (clear q0 q1 q2 q3)
         try (clear r0 r1 r2 r3)
         have k1 := Fr.refl (fun _ => False) (v1.alloc (.cells #[.int .i64 S.e, .slice A1 nA1 cA1, .slice A2 nA2 cA2, .slice A3 nA3 cA3] 30))
         clear hf1 ho1
         obtain ⟨c0, c1, c2, c3, c4, c5, c6, c7, c8, c9, c10, c11⟩ := HBX.out _ hbk
         try (obtain ⟨p0, p1, p2, p3⟩ := HO1.out _ k1)
         try (obtain ⟨q0, q1, q2, q3⟩ := HO2.out _ k2)
         try (obtain ⟨r0, r1, r2, r3⟩ := HO3.out _ k3))
      | (go_at_call 11
         clear T2
         (with_reducible refine (HRUN.out _ hk).mono ?_)
         rintro ex v2 ⟨B1, nB1, cB1, B2, nB2, cB2, B3, nB3, cB3, B4, nB4, cB4, rfl, ho2, hf2⟩
         have HO2 := Lib.hid (fun w' (hf : Fr (fun _ => False) (v2.alloc (.cells #[.int .i64 S.e, .slice B1 nB1 cB1, .slice B2 nB2 cB2, .slice B3 nB3 cB3] 30)) w') => out_box (hf.heap (heap_alloc_new v2 _) (fun x => x)) rfl)
         have HR2 := Lib.hid (fun w' (hf : Fr (fun _ => False) (v2.alloc (.cells #[.int .i64 S.e, .slice B1 nB1 cB1, .slice B2 nB2 cB2, .slice B3 nB3 cB3] 30)) w') => (ho2.frame ((Fr.refl (fun _ => False) v2).alloc (.cells #[.int .i64 S.e, .slice B1 nB1 cB1, .slice B2 nB2 cB2, .slice B3 nB3 cB3] 30)) (fun _ _ x => x.elim)).frame hf (fun _ _ x => x.elim))
         replace hk := (hk.trans hf2).alloc (.cells #[.int .i64 S.e, .slice B1 nB1 cB1, .slice B2 nB2 cB2, .slice B3 nB3 cB3] 30)
         replace hbk := (hbk.trans hf2).alloc (.cells #[.int .i64 S.e, .slice B1 nB1 cB1, .slice B2 nB2 cB2, .slice B3 nB3 cB3] 30)
         try (replace k1 := (k1.trans hf2).alloc (.cells #[.int .i64 S.e, .slice B1 nB1 cB1, .slice B2 nB2 cB2, .slice B3 nB3 cB3] 30))
         try (replace k2 := (k2.trans hf2).alloc (.cells #[.int .i64 S.e, .slice B1 nB1 cB1, .slice B2 nB2 cB2, .slice B3 nB3 cB3] 30))
         try (replace k3 := (k3.trans hf2).alloc (.cells #[.int .i64 S.e, .slice B1 nB1 cB1, .slice B2 nB2 cB2, .slice B3 nB3 cB3] 30))
         try (clear c0 c1 c2 c3 c4 c5 c6 c7 c8 c9 c10 c11)
         try (clear p0 p1 p2 p3)
         try (clear q0 q1 q2 q3)
         try (clear r0 r1 r2 r3)
         have k2 := Fr.refl (fun _ => False) (v2.alloc (.cells #[.int .i64 S.e, .slice B1 nB1 cB1, .slice B2 nB2 cB2, .slice B3 nB3 cB3] 30))
         clear hf2 ho2
         obtain ⟨c0, c1, c2, c3, c4, c5, c6, c7, c8, c9, c10, c11⟩ := HBX.out _ hbk
         try (obtain ⟨p0, p1, p2, p3⟩ := HO1.out _ k1)
         try (obtain ⟨q0, q1, q2, q3⟩ := HO2.out _ k2)
         try (obtain ⟨r0, r1, r2, r3⟩ := HO3.out _ k3))
      | (go_at_call 11
         clear T3
         (with_reducible refine (HRUN3.out _ _ _ _ _ hk (HR1.out _ k1).h).mono ?_)
         rintro ex v3 ⟨D1, nD1, cD1, D2, nD2, cD2, D3, nD3, cD3, D4, nD4, cD4, rfl, ho3, hf3⟩
         have HO3 := Lib.hid (fun w' (hf : Fr (fun _ => False) (v3.alloc (.cells #[.int .i64 S.e, .slice D1 nD1 cD1, .slice D2 nD2 cD2, .slice D3 nD3 cD3] 30)) w') => out_box (hf.heap (heap_alloc_new v3 _) (fun x => x)) rfl)
         have HR3 := Lib.hid (fun w' (hf : Fr (fun _ => False) (v3.alloc (.cells #[.int .i64 S.e, .slice D1 nD1 cD1, .slice D2 nD2 cD2, .slice D3 nD3 cD3] 30)) w') => (ho3.frame ((Fr.refl (fun _ => False) v3).alloc (.cells #[.int .i64 S.e, .slice D1 nD1 cD1, .slice D2 nD2 cD2, .slice D3 nD3 cD3] 30)) (fun _ _ x => x.elim)).frame hf (fun _ _ x => x.elim))
         replace hk := (hk.trans hf3).alloc (.cells #[.int .i64 S.e, .slice D1 nD1 cD1, .slice D2 nD2 cD2, .slice D3 nD3 cD3] 30)
         replace hbk := (hbk.trans hf3).alloc (.cells #[.int .i64 S.e, .slice D1 nD1 cD1, .slice D2 nD2 cD2, .slice D3 nD3 cD3] 30)
         try (replace k1 := (k1.trans hf3).alloc (.cells #[.int .i64 S.e, .slice D1 nD1 cD1, .slice D2 nD2 cD2, .slice D3 nD3 cD3] 30))
         try (replace k2 := (k2.trans hf3).alloc (.cells #[.int .i64 S.e, .slice D1 nD1 cD1, .slice D2 nD2 cD2, .slice D3 nD3 cD3] 30))
         try (replace k3 := (k3.trans hf3).alloc (.cells #[.int .i64 S.e, .slice D1 nD1 cD1, .slice D2 nD2 cD2, .slice D3 nD3 cD3] 30))
         try (clear c0 c1 c2 c3 c4 c5 c6 c7 c8 c9 c10 c11)
         try (clear p0 p1 p2 p3)
         try (clear q0 q1 q2 q3)
         try (clear r0 r1 r2 r3)
         have k3 := Fr.refl (fun _ => False) (v3.alloc (.cells #[.int .i64 S.e, .slice D1 nD1 cD1, .slice D2 nD2 cD2, .slice D3 nD3 cD3] 30))
         clear hf3 ho3
         obtain ⟨c0, c1, c2, c3, c4, c5, c6, c7, c8, c9, c10, c11⟩ := HBX.out _ hbk
         try (obtain ⟨p0, p1, p2, p3⟩ := HO1.out _ k1)
         try (obtain ⟨q0, q1, q2, q3⟩ := HO2.out _ k2)
         try (obtain ⟨r0, r1, r2, r3⟩ := HO3.out _ k3))
      | (go_at_call 17
         first
         | (with_reducible refine (same_eq S _ _ _ _ _ _ _ _ _ _ _ _ _ _ _ _ _ _ _ _ _ _ _ _ _ _ _ (HR1.out _ k1) (HR2.out _ k2) l1 l2 l3).mono ?_)
         | (with_reducible refine (same_eq S _ _ _ _ _ _ _ _ _ _ _ _ _ _ _ _ _ _ _ _ _ _ _ _ _ _ _ (HR1.out _ k1) (HR3.out _ k3) l1 l2 l3).mono ?_)
         rintro ex w6 ⟨rfl, hf6⟩
         replace hk := hk.trans hf6
         replace hbk := hbk.trans hf6
         try (replace k1 := k1.trans hf6)
         try (replace k2 := k2.trans hf6)
         try (replace k3 := k3.trans hf6)
         try (clear c0 c1 c2 c3 c4 c5 c6 c7 c8 c9 c10 c11)
         try (clear p0 p1 p2 p3)
         try (clear q0 q1 q2 q3)
         try (clear r0 r1 r2 r3)
         clear hf6
         obtain ⟨c0, c1, c2, c3, c4, c5, c6, c7, c8, c9, c10, c11⟩ := HBX.out _ hbk
         try (obtain ⟨p0, p1, p2, p3⟩ := HO1.out _ k1)
         try (obtain ⟨q0, q1, q2, q3⟩ := HO2.out _ k2)
         try (obtain ⟨r0, r1, r2, r3⟩ := HO3.out _ k3))
      | (go_at_call 14
         first
         | (with_reducible refine (ints_eq _ _ _ _ _ _ _ _ _ _ (HR1.out _ k1).h l4 (HR2.out _ k2).h).mono ?_)
         | (with_reducible refine (ints_eq _ _ _ _ _ _ _ _ _ _ (HR1.out _ k1).h l4 (HIN.out _ hk)).mono ?_)
         | (with_reducible refine (ints_eq _ _ _ _ _ _ _ _ _ _ (HR3.out _ k3).h l4 (HIN.out _ hk)).mono ?_)
         rintro ex w7 ⟨rfl, hf7⟩
         replace hk := hk.trans hf7
         replace hbk := hbk.trans hf7
         try (replace k1 := k1.trans hf7)
         try (replace k2 := k2.trans hf7)
         try (replace k3 := k3.trans hf7)
         try (clear c0 c1 c2 c3 c4 c5 c6 c7 c8 c9 c10 c11)
         try (clear p0 p1 p2 p3)
         try (clear q0 q1 q2 q3)
         try (clear r0 r1 r2 r3)
         clear hf7
         obtain ⟨c0, c1, c2, c3, c4, c5, c6, c7, c8, c9, c10, c11⟩ := HBX.out _ hbk
         try (obtain ⟨p0, p1, p2, p3⟩ := HO1.out _ k1)
         try (obtain ⟨q0, q1, q2, q3⟩ := HO2.out _ k2)
         try (obtain ⟨r0, r1, r2, r3⟩ := HO3.out _ k3)))
    go_ret
    exact ⟨rfl, hk⟩

theorem twice_walk (cs : Array Value) (c : Conf) (H : Option Addr) (hn hcap : Nat) (heap : List Int) (A : Option Addr) (n cap : Nat) (p : List Ins) (w : World) (hc : ConfIn cs c) (hI : IntsW w H hn heap) (h : ProgAt w (fun _ => True) A n cap p) :
    Calls Try.prog 8 #[.agg cs, .slice H hn hcap, .slice A n cap] w fun e w' => e = .returned (.bool true) ∧ Fr (fun _ => False) w w' := by
  rw [hc]
  cases hb : fewP p with
  | false => exact twice_many c H hn hcap A n cap p w h (.inl hb)
  | true =>
    by_cases hs : hn ≤ 5000
    · exact twice_few c H hn hcap heap A n cap p w hI h hb hs
    · exact twice_many c H hn hcap A n cap p w h (.inr ⟨hb, by omega⟩)
end Go.Proofs.Ytfbdfboekgjbcaa
