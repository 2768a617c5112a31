/- ltklaw7.PlainRuns answers true. -/
import Derived.Test.YtfbdfboekgjbcaaPR4
import Derived.Test.YtfbdfboekgjbcaaPC
namespace Go.Proofs.Ytfbdfboekgjbcaa
open Go.RowKit

theorem refOut_is (a b : PS) (A1 : Option Addr) (n1 c1 : Nat) (A2 : Option Addr) (n2 c2 : Nat) (A3 : Option Addr) (n3 c3 : Nat) (A4 : Option Addr) (n4 : Nat) (B1 : Option Addr) (m1 d1 : Nat) (B2 : Option Addr) (m2 d2 : Nat) (B3 : Option Addr) (m3 d3 : Nat) (B4 : Option Addr) (m4 : Nat) (b1 b2 : Nat) (h1 h2 : List Int) (r : Bool) (hr : sameB a b = r) (w : World)
    (g : RunIs w b1 a h1 A1 n1 A2 n2 A3 n3 A4 n4) (k : RunIs w b2 b h2 B1 m1 B2 m2 B3 m3 B4 m4) (s1 : a.regs.length ≤ 20000) (s2 : a.rs.length ≤ 20000) (s3 : a.ws.length ≤ 20000) :
    Calls Try.prog 16 #[.agg #[.int .i64 a.e, .slice A1 n1 c1, .slice A2 n2 c2, .slice A3 n3 c3], .agg #[.int .i64 b.e, .slice B1 m1 d1, .slice B2 m2 d2, .slice B3 m3 d3]] w fun e w' => e = .returned (.bool r) ∧ Fr (fun _ => False) w w' := by
  subst hr
  exact ref_sameOut_calls a b A1 n1 c1 A2 n2 c2 A3 n3 c3 B1 m1 d1 B2 m2 d2 B3 m3 d3 _ _ w g.g g.r g.w_ k.g k.r k.w_ (by rw [← g.g.len]; exact s1) (by have := g.r.len; omega) (by have := g.w_.len; omega)
theorem plainSame_is (a b : PS) (A1 : Option Addr) (n1 c1 : Nat) (A2 : Option Addr) (n2 c2 : Nat) (A3 : Option Addr) (n3 c3 : Nat) (A4 : Option Addr) (n4 : Nat) (B1 : Option Addr) (m1 d1 : Nat) (B2 : Option Addr) (m2 d2 : Nat) (B3 : Option Addr) (m3 d3 : Nat) (B4 : Option Addr) (m4 : Nat) (b1 b2 : Nat) (h1 h2 : List Int) (r : Bool) (hr : sameB a b = r) (w : World)
    (g : RunIs w b1 a h1 A1 n1 A2 n2 A3 n3 A4 n4) (k : RunIs w b2 b h2 B1 m1 B2 m2 B3 m3 B4 m4) (s1 : a.regs.length ≤ 20000) (s2 : a.rs.length ≤ 20000) (s3 : a.ws.length ≤ 20000) :
    Calls Try.prog 17 #[.agg #[.int .i64 a.e, .slice A1 n1 c1, .slice A2 n2 c2, .slice A3 n3 c3], .agg #[.int .i64 b.e, .slice B1 m1 d1, .slice B2 m2 d2, .slice B3 m3 d3]] w fun e w' => e = .returned (.bool r) ∧ Fr (fun _ => False) w w' := by
  subst hr
  exact same_calls a b A1 n1 c1 A2 n2 c2 A3 n3 c3 B1 m1 d1 B2 m2 d2 B3 m3 d3 _ _ w g.g g.r g.w_ k.g k.r k.w_ (by rw [← g.g.len]; exact s1) (by have := g.r.len; omega) (by have := g.w_.len; omega)

set_option maxRecDepth 100000 in
set_option maxHeartbeats 2000000 in
theorem runs_many (c : Conf) (H : Option Addr) (hn hcap : Nat) (A : Option Addr) (n cap : Nat) (p : List Ins) (A' : Option Addr) (n' cap' : Nat) (q : List Ins) (w : World) (h : ProgAt w (fun _ => True) A n cap p) (h' : ProgAt w (fun _ => True) A' n' cap' q) (hb : fewP p = false ∨ (fewP p = true ∧ fewP q = false) ∨ (fewP p = true ∧ fewP q = true ∧ 5000 < hn)) :
    Calls Try.prog 7 #[c.val, .slice H hn hcap, .slice A n cap, .slice A' n' cap'] w fun e w' => e = .returned (.bool true) ∧ Fr (fun _ => False) w w' := by
  have HF := Lib.hid (fun w' (hf : Fr (fun _ => False) w w') => few6_calls A n cap p _ w' (h.frame hf (fun _ _ x => x.elim)))
  have HQ := Lib.hid (fun w' (hf : Fr (fun _ => False) w w') => few6_calls A' n' cap' q _ w' (h'.frame hf (fun _ _ x => x.elim)))
  have HBX := Lib.hid (box_all w c)
  rcases hb with hb | ⟨hb, hb2⟩ | ⟨hb, hb2, hg⟩
  all_goals
    rw [hb] at HF
    try rw [hb2] at HQ
    clear h h' hb
    unfold Conf.val
    have hk := (Fr.refl (fun _ => False) w).alloc (.cells #[.int .i64 c.r, .int .i64 c.o, .int .i64 c.s, .int .i64 c.wd, .int .i64 c.th, .int .i64 c.sl, .int .i64 c.rg, .int .i64 c.lk, .int .i64 c.un, .int .i64 c.es, .int .i64 c.tk, .int .i64 c.po] 23)
    have hbk := Fr.refl (fun _ => False) (w.alloc (.cells #[.int .i64 c.r, .int .i64 c.o, .int .i64 c.s, .int .i64 c.wd, .int .i64 c.th, .int .i64 c.sl, .int .i64 c.rg, .int .i64 c.lk, .int .i64 c.un, .int .i64 c.es, .int .i64 c.tk, .int .i64 c.po] 23))
    go_enter Try.func7, Try.ntmps7
    go_wp2_with (first
      | (go_at_call 10
         (with_reducible refine (HF.out _ hk).mono ?_)
         rintro ex w2 ⟨rfl, hf⟩
         replace hk := hk.trans hf
         replace hbk := hbk.trans hf
         try (replace k1 := k1.trans hf)
         try (replace k2 := k2.trans hf)
         try (replace k3 := k3.trans hf)
         try (replace k4 := k4.trans hf)
         clear hf
         try (clear c0 c1 c2 c3 c4 c5 c6 c7 c8 c9 c10 c11)
         obtain ⟨c0, c1, c2, c3, c4, c5, c6, c7, c8, c9, c10, c11⟩ := HBX.out _ hbk
)
      | (go_at_call 10
         (with_reducible refine (HQ.out _ hk).mono ?_)
         rintro ex w2 ⟨rfl, hf⟩
         replace hk := hk.trans hf
         replace hbk := hbk.trans hf
         try (replace k1 := k1.trans hf)
         try (replace k2 := k2.trans hf)
         try (replace k3 := k3.trans hf)
         try (replace k4 := k4.trans hf)
         clear hf
         try (clear c0 c1 c2 c3 c4 c5 c6 c7 c8 c9 c10 c11)
         obtain ⟨c0, c1, c2, c3, c4, c5, c6, c7, c8, c9, c10, c11⟩ := HBX.out _ hbk
)
      | (go_at_call 9
         (with_reducible refine (first7_calls _).mono ?_)
         rintro ex w1 ⟨rfl, hf⟩
         replace hk := hk.trans hf
         replace hbk := hbk.trans hf
         try (replace k1 := k1.trans hf)
         try (replace k2 := k2.trans hf)
         try (replace k3 := k3.trans hf)
         try (replace k4 := k4.trans hf)
         clear hf
         try (clear c0 c1 c2 c3 c4 c5 c6 c7 c8 c9 c10 c11)
         obtain ⟨c0, c1, c2, c3, c4, c5, c6, c7, c8, c9, c10, c11⟩ := HBX.out _ hbk
))
    go_ret
    exact ⟨rfl, hk⟩

set_option maxRecDepth 100000 in
set_option maxHeartbeats 8000000 in
theorem runs_few (c : Conf) (H : Option Addr) (hn hcap : Nat) (heap : List Int) (A : Option Addr) (n cap : Nat) (p : List Ins) (A' : Option Addr) (n' cap' : Nat) (q : List Ins) (w : World) (hI : IntsW w H hn heap) (h : ProgAt w (fun _ => True) A n cap p) (h' : ProgAt w (fun _ => True) A' n' cap' q) (hb : fewP p = true) (hb2 : fewP q = true) (hs : hn ≤ 5000) :
    Calls Try.prog 7 #[c.val, .slice H hn hcap, .slice A n cap, .slice A' n' cap'] w fun e w' => e = .returned (.bool true) ∧ Fr (fun _ => False) w w' := by
  have HF := Lib.hid (fun w' (hf : Fr (fun _ => False) w w') => few6_calls A n cap p _ w' (h.frame hf (fun _ _ x => x.elim)))
  have HQ := Lib.hid (fun w' (hf : Fr (fun _ => False) w w') => few6_calls A' n' cap' q _ w' (h'.frame hf (fun _ _ x => x.elim)))
  rw [hb] at HF
  rw [hb2] at HQ
  have hlh := hI.flat.len
  obtain ⟨l1, l2, l3, l4⟩ := res_small c heap p (by omega)
  have hRUNP := fun w' (hf : Fr (fun _ => False) w w') => run_calls c H hn hcap heap A n cap p _ _ w' (h.frame hf (fun _ _ x => x.elim)) (fewP_short hb) (hI.flat.frame hf (fun _ _ x => x.elim)) hI.i64
  have hREFP := fun w' (hf : Fr (fun _ => False) w w') => refRun_calls c H hn hcap heap A n cap p _ _ w' (h.frame hf (fun _ _ x => x.elim)) (fewP_short hb) (hI.flat.frame hf (fun _ _ x => x.elim)) hI.i64
  have hRUNQ := fun w' (hf : Fr (fun _ => False) w w') => run_calls c H hn hcap heap A' n' cap' q _ _ w' (h'.frame hf (fun _ _ x => x.elim)) (fewP_short hb2) (hI.flat.frame hf (fun _ _ x => x.elim)) hI.i64
  have hREFQ := fun w' (hf : Fr (fun _ => False) w w') => refRun_calls c H hn hcap heap A' n' cap' q _ _ w' (h'.frame hf (fun _ _ x => x.elim)) (fewP_short hb2) (hI.flat.frame hf (fun _ _ x => x.elim)) hI.i64
  have HBX := Lib.hid (box_all w c)
  unfold Conf.val at *
  have HRUNP := Lib.hid hRUNP
  have HREFP := Lib.hid hREFP
  have HRUNQ := Lib.hid hRUNQ
  have HREFQ := Lib.hid hREFQ
  clear hRUNP hREFP hRUNQ hREFQ h h' hb hb2 hI hlh
  have T1 := Lib.hid trivial
  have T2 := Lib.hid trivial
  have T3 := Lib.hid trivial
  have T4 := Lib.hid trivial
  have T5 := Lib.hid trivial
  generalize resS c heap p = S at *
  generalize resH c heap p = R at *
  generalize resE c heap p = E at *
  generalize resS c heap q = Z at *
  generalize resH c heap q = RZ at *
  generalize resE c heap q = EZ at *
  obtain ⟨bb, hbb⟩ : ∃ bb, sameB S Z = bb := ⟨_, rfl⟩
  have HBB := Lib.hid hbb
  clear hbb
  have hk := (Fr.refl (fun _ => False) w).alloc (.cells #[.int .i64 c.r, .int .i64 c.o, .int .i64 c.s, .int .i64 c.wd, .int .i64 c.th, .int .i64 c.sl, .int .i64 c.rg, .int .i64 c.lk, .int .i64 c.un, .int .i64 c.es, .int .i64 c.tk, .int .i64 c.po] 23)
  have hbk := Fr.refl (fun _ => False) (w.alloc (.cells #[.int .i64 c.r, .int .i64 c.o, .int .i64 c.s, .int .i64 c.wd, .int .i64 c.th, .int .i64 c.sl, .int .i64 c.rg, .int .i64 c.lk, .int .i64 c.un, .int .i64 c.es, .int .i64 c.tk, .int .i64 c.po] 23))
  have hg : ¬ 5000 < hn := by omega
  go_enter Try.func7, Try.ntmps7
  go_wp2_with (first
      | (go_at_call 10
         (with_reducible refine (HF.out _ hk).mono ?_)
         rintro ex w2 ⟨rfl, hf⟩
         replace hk := hk.trans hf
         replace hbk := hbk.trans hf
         try (replace k1 := k1.trans hf)
         try (replace k2 := k2.trans hf)
         try (replace k3 := k3.trans hf)
         try (replace k4 := k4.trans hf)
         clear hf
         try (clear c0 c1 c2 c3 c4 c5 c6 c7 c8 c9 c10 c11)
         obtain ⟨c0, c1, c2, c3, c4, c5, c6, c7, c8, c9, c10, c11⟩ := HBX.out _ hbk
)
      | (go_at_call 10
         (with_reducible refine (HQ.out _ hk).mono ?_)
         rintro ex w2 ⟨rfl, hf⟩
         replace hk := hk.trans hf
         replace hbk := hbk.trans hf
         try (replace k1 := k1.trans hf)
         try (replace k2 := k2.trans hf)
         try (replace k3 := k3.trans hf)
         try (replace k4 := k4.trans hf)
         clear hf
         try (clear c0 c1 c2 c3 c4 c5 c6 c7 c8 c9 c10 c11)
         obtain ⟨c0, c1, c2, c3, c4, c5, c6, c7, c8, c9, c10, c11⟩ := HBX.out _ hbk
)
      | (go_at_call 11
         clear T1
         (with_reducible refine (HRUNP.out _ hk).mono ?_)
         rintro ex v1 ⟨A1, nA1, cA1, A2, nA2, cA2, A3, nA3, cA3, A4, nA4, cA4, rfl, ho, hf⟩
         have HR1 := Lib.hid (fun w' (hf : Fr (fun _ => False) (v1.alloc (.cells #[.int .i64 S.e, .slice A1 nA1 cA1, .slice A2 nA2 cA2, .slice A3 nA3 cA3] 30)) w') => (ho.frame ((Fr.refl (fun _ => False) v1).alloc (.cells #[.int .i64 S.e, .slice A1 nA1 cA1, .slice A2 nA2 cA2, .slice A3 nA3 cA3] 30)) (fun _ _ x => x.elim)).frame hf (fun _ _ x => x.elim))
         have HO1 := Lib.hid (fun w' (hf : Fr (fun _ => False) (v1.alloc (.cells #[.int .i64 S.e, .slice A1 nA1 cA1, .slice A2 nA2 cA2, .slice A3 nA3 cA3] 30)) w') => out_box (hf.heap (heap_alloc_new v1 _) (fun x => x)) rfl)
         replace hk := (hk.trans hf).alloc (.cells #[.int .i64 S.e, .slice A1 nA1 cA1, .slice A2 nA2 cA2, .slice A3 nA3 cA3] 30)
         replace hbk := (hbk.trans hf).alloc (.cells #[.int .i64 S.e, .slice A1 nA1 cA1, .slice A2 nA2 cA2, .slice A3 nA3 cA3] 30)
         try (replace k1 := (k1.trans hf).alloc (.cells #[.int .i64 S.e, .slice A1 nA1 cA1, .slice A2 nA2 cA2, .slice A3 nA3 cA3] 30))
         try (replace k2 := (k2.trans hf).alloc (.cells #[.int .i64 S.e, .slice A1 nA1 cA1, .slice A2 nA2 cA2, .slice A3 nA3 cA3] 30))
         try (replace k3 := (k3.trans hf).alloc (.cells #[.int .i64 S.e, .slice A1 nA1 cA1, .slice A2 nA2 cA2, .slice A3 nA3 cA3] 30))
         try (replace k4 := (k4.trans hf).alloc (.cells #[.int .i64 S.e, .slice A1 nA1 cA1, .slice A2 nA2 cA2, .slice A3 nA3 cA3] 30))
         have k1 := Fr.refl (fun _ => False) (v1.alloc (.cells #[.int .i64 S.e, .slice A1 nA1 cA1, .slice A2 nA2 cA2, .slice A3 nA3 cA3] 30))
         clear hf ho
         try (clear c0 c1 c2 c3 c4 c5 c6 c7 c8 c9 c10 c11)
         obtain ⟨c0, c1, c2, c3, c4, c5, c6, c7, c8, c9, c10, c11⟩ := HBX.out _ hbk
)
      | (go_at_call 15
         clear T2
         (with_reducible refine (HREFP.out _ hk).mono ?_)
         rintro ex v2 ⟨B1, nB1, cB1, B2, nB2, cB2, B3, nB3, cB3, B4, nB4, cB4, rfl, ho, hf⟩
         have HR2 := Lib.hid (fun w' (hf : Fr (fun _ => False) (v2.alloc (.cells #[.int .i64 S.e, .slice B1 nB1 cB1, .slice B2 nB2 cB2, .slice B3 nB3 cB3] 30)) w') => (ho.frame ((Fr.refl (fun _ => False) v2).alloc (.cells #[.int .i64 S.e, .slice B1 nB1 cB1, .slice B2 nB2 cB2, .slice B3 nB3 cB3] 30)) (fun _ _ x => x.elim)).frame hf (fun _ _ x => x.elim))
         have HO2 := Lib.hid (fun w' (hf : Fr (fun _ => False) (v2.alloc (.cells #[.int .i64 S.e, .slice B1 nB1 cB1, .slice B2 nB2 cB2, .slice B3 nB3 cB3] 30)) w') => out_box (hf.heap (heap_alloc_new v2 _) (fun x => x)) rfl)
         replace hk := (hk.trans hf).alloc (.cells #[.int .i64 S.e, .slice B1 nB1 cB1, .slice B2 nB2 cB2, .slice B3 nB3 cB3] 30)
         replace hbk := (hbk.trans hf).alloc (.cells #[.int .i64 S.e, .slice B1 nB1 cB1, .slice B2 nB2 cB2, .slice B3 nB3 cB3] 30)
         try (replace k1 := (k1.trans hf).alloc (.cells #[.int .i64 S.e, .slice B1 nB1 cB1, .slice B2 nB2 cB2, .slice B3 nB3 cB3] 30))
         try (replace k2 := (k2.trans hf).alloc (.cells #[.int .i64 S.e, .slice B1 nB1 cB1, .slice B2 nB2 cB2, .slice B3 nB3 cB3] 30))
         try (replace k3 := (k3.trans hf).alloc (.cells #[.int .i64 S.e, .slice B1 nB1 cB1, .slice B2 nB2 cB2, .slice B3 nB3 cB3] 30))
         try (replace k4 := (k4.trans hf).alloc (.cells #[.int .i64 S.e, .slice B1 nB1 cB1, .slice B2 nB2 cB2, .slice B3 nB3 cB3] 30))
         have k2 := Fr.refl (fun _ => False) (v2.alloc (.cells #[.int .i64 S.e, .slice B1 nB1 cB1, .slice B2 nB2 cB2, .slice B3 nB3 cB3] 30))
         clear hf ho
         try (clear c0 c1 c2 c3 c4 c5 c6 c7 c8 c9 c10 c11)
         obtain ⟨c0, c1, c2, c3, c4, c5, c6, c7, c8, c9, c10, c11⟩ := HBX.out _ hbk
)
      | (go_at_call 11
         clear T3
         (with_reducible refine (HRUNQ.out _ hk).mono ?_)
         rintro ex v3 ⟨D1, nD1, cD1, D2, nD2, cD2, D3, nD3, cD3, D4, nD4, cD4, rfl, ho, hf⟩
         have HR3 := Lib.hid (fun w' (hf : Fr (fun _ => False) (v3.alloc (.cells #[.int .i64 Z.e, .slice D1 nD1 cD1, .slice D2 nD2 cD2, .slice D3 nD3 cD3] 30)) w') => (ho.frame ((Fr.refl (fun _ => False) v3).alloc (.cells #[.int .i64 Z.e, .slice D1 nD1 cD1, .slice D2 nD2 cD2, .slice D3 nD3 cD3] 30)) (fun _ _ x => x.elim)).frame hf (fun _ _ x => x.elim))
         have HO3 := Lib.hid (fun w' (hf : Fr (fun _ => False) (v3.alloc (.cells #[.int .i64 Z.e, .slice D1 nD1 cD1, .slice D2 nD2 cD2, .slice D3 nD3 cD3] 30)) w') => out_box (hf.heap (heap_alloc_new v3 _) (fun x => x)) rfl)
         replace hk := (hk.trans hf).alloc (.cells #[.int .i64 Z.e, .slice D1 nD1 cD1, .slice D2 nD2 cD2, .slice D3 nD3 cD3] 30)
         replace hbk := (hbk.trans hf).alloc (.cells #[.int .i64 Z.e, .slice D1 nD1 cD1, .slice D2 nD2 cD2, .slice D3 nD3 cD3] 30)
         try (replace k1 := (k1.trans hf).alloc (.cells #[.int .i64 Z.e, .slice D1 nD1 cD1, .slice D2 nD2 cD2, .slice D3 nD3 cD3] 30))
         try (replace k2 := (k2.trans hf).alloc (.cells #[.int .i64 Z.e, .slice D1 nD1 cD1, .slice D2 nD2 cD2, .slice D3 nD3 cD3] 30))
         try (replace k3 := (k3.trans hf).alloc (.cells #[.int .i64 Z.e, .slice D1 nD1 cD1, .slice D2 nD2 cD2, .slice D3 nD3 cD3] 30))
         try (replace k4 := (k4.trans hf).alloc (.cells #[.int .i64 Z.e, .slice D1 nD1 cD1, .slice D2 nD2 cD2, .slice D3 nD3 cD3] 30))
         have k3 := Fr.refl (fun _ => False) (v3.alloc (.cells #[.int .i64 Z.e, .slice D1 nD1 cD1, .slice D2 nD2 cD2, .slice D3 nD3 cD3] 30))
         clear hf ho
         try (clear c0 c1 c2 c3 c4 c5 c6 c7 c8 c9 c10 c11)
         obtain ⟨c0, c1, c2, c3, c4, c5, c6, c7, c8, c9, c10, c11⟩ := HBX.out _ hbk
)
      | (go_at_call 15
         clear T4
         (with_reducible refine (HREFQ.out _ hk).mono ?_)
         rintro ex v4 ⟨E1, nE1, cE1, E2, nE2, cE2, E3, nE3, cE3, E4, nE4, cE4, rfl, ho, hf⟩
         have HR4 := Lib.hid (fun w' (hf : Fr (fun _ => False) (v4.alloc (.cells #[.int .i64 Z.e, .slice E1 nE1 cE1, .slice E2 nE2 cE2, .slice E3 nE3 cE3] 30)) w') => (ho.frame ((Fr.refl (fun _ => False) v4).alloc (.cells #[.int .i64 Z.e, .slice E1 nE1 cE1, .slice E2 nE2 cE2, .slice E3 nE3 cE3] 30)) (fun _ _ x => x.elim)).frame hf (fun _ _ x => x.elim))
         have HO4 := Lib.hid (fun w' (hf : Fr (fun _ => False) (v4.alloc (.cells #[.int .i64 Z.e, .slice E1 nE1 cE1, .slice E2 nE2 cE2, .slice E3 nE3 cE3] 30)) w') => out_box (hf.heap (heap_alloc_new v4 _) (fun x => x)) rfl)
         replace hk := (hk.trans hf).alloc (.cells #[.int .i64 Z.e, .slice E1 nE1 cE1, .slice E2 nE2 cE2, .slice E3 nE3 cE3] 30)
         replace hbk := (hbk.trans hf).alloc (.cells #[.int .i64 Z.e, .slice E1 nE1 cE1, .slice E2 nE2 cE2, .slice E3 nE3 cE3] 30)
         try (replace k1 := (k1.trans hf).alloc (.cells #[.int .i64 Z.e, .slice E1 nE1 cE1, .slice E2 nE2 cE2, .slice E3 nE3 cE3] 30))
         try (replace k2 := (k2.trans hf).alloc (.cells #[.int .i64 Z.e, .slice E1 nE1 cE1, .slice E2 nE2 cE2, .slice E3 nE3 cE3] 30))
         try (replace k3 := (k3.trans hf).alloc (.cells #[.int .i64 Z.e, .slice E1 nE1 cE1, .slice E2 nE2 cE2, .slice E3 nE3 cE3] 30))
         try (replace k4 := (k4.trans hf).alloc (.cells #[.int .i64 Z.e, .slice E1 nE1 cE1, .slice E2 nE2 cE2, .slice E3 nE3 cE3] 30))
         have k4 := Fr.refl (fun _ => False) (v4.alloc (.cells #[.int .i64 Z.e, .slice E1 nE1 cE1, .slice E2 nE2 cE2, .slice E3 nE3 cE3] 30))
         clear hf ho
         try (clear c0 c1 c2 c3 c4 c5 c6 c7 c8 c9 c10 c11)
         obtain ⟨c0, c1, c2, c3, c4, c5, c6, c7, c8, c9, c10, c11⟩ := HBX.out _ hbk
)
      | (go_at_call 9
         (with_reducible refine (first7_calls _).mono ?_)
         rintro ex w1 ⟨rfl, hf⟩
         replace hk := hk.trans hf
         replace hbk := hbk.trans hf
         try (replace k1 := k1.trans hf)
         try (replace k2 := k2.trans hf)
         try (replace k3 := k3.trans hf)
         try (replace k4 := k4.trans hf)
         clear hf
         try (clear c0 c1 c2 c3 c4 c5 c6 c7 c8 c9 c10 c11)
         obtain ⟨c0, c1, c2, c3, c4, c5, c6, c7, c8, c9, c10, c11⟩ := HBX.out _ hbk
))
  clear c0 c1 c2 c3 c4 c5 c6 c7 c8 c9 c10 c11 HF HQ HRUNP HREFP HRUNQ HREFQ hbk HBX
  have HK := Lib.hid hk
  have HR := Lib.hid (fun w' (hf : Fr (fun _ => False) (v4.alloc (.cells #[.int .i64 Z.e, .slice E1 nE1 cE1, .slice E2 nE2 cE2, .slice E3 nE3 cE3] 30)) w') => And.intro (HR1.out w' (k1.trans hf)) (And.intro (HR2.out w' (k2.trans hf)) (And.intro (HR3.out w' (k3.trans hf)) (HR4.out w' (k4.trans hf)))))
  have HFK := Lib.hid (fun w' (hf : Fr (fun _ => False) (v4.alloc (.cells #[.int .i64 Z.e, .slice E1 nE1 cE1, .slice E2 nE2 cE2, .slice E3 nE3 cE3] 30)) w') => show (w'.cell? ⟨v1.heap.size, 0, none⟩ = some (.int .i64 S.e) ∧ w'.cell? ⟨v1.heap.size, 1, none⟩ = some (.slice A1 nA1 cA1) ∧ w'.cell? ⟨v1.heap.size, 2, none⟩ = some (.slice A2 nA2 cA2) ∧ w'.cell? ⟨v1.heap.size, 3, none⟩ = some (.slice A3 nA3 cA3)) ∧ (w'.cell? ⟨v2.heap.size, 0, none⟩ = some (.int .i64 S.e) ∧ w'.cell? ⟨v2.heap.size, 1, none⟩ = some (.slice B1 nB1 cB1) ∧ w'.cell? ⟨v2.heap.size, 2, none⟩ = some (.slice B2 nB2 cB2) ∧ w'.cell? ⟨v2.heap.size, 3, none⟩ = some (.slice B3 nB3 cB3)) ∧ (w'.cell? ⟨v3.heap.size, 0, none⟩ = some (.int .i64 Z.e) ∧ w'.cell? ⟨v3.heap.size, 1, none⟩ = some (.slice D1 nD1 cD1) ∧ w'.cell? ⟨v3.heap.size, 2, none⟩ = some (.slice D2 nD2 cD2) ∧ w'.cell? ⟨v3.heap.size, 3, none⟩ = some (.slice D3 nD3 cD3)) ∧ (w'.cell? ⟨v4.heap.size, 0, none⟩ = some (.int .i64 Z.e) ∧ w'.cell? ⟨v4.heap.size, 1, none⟩ = some (.slice E1 nE1 cE1) ∧ w'.cell? ⟨v4.heap.size, 2, none⟩ = some (.slice E2 nE2 cE2) ∧ w'.cell? ⟨v4.heap.size, 3, none⟩ = some (.slice E3 nE3 cE3)) from And.intro (HO1.out w' (k1.trans hf)) (And.intro (HO2.out w' (k2.trans hf)) (And.intro (HO3.out w' (k3.trans hf)) (HO4.out w' (k4.trans hf)))))
  clear hk k1 k2 k3 k4 HO1 HO2 HO3 HO4 HR1 HR2 HR3 HR4
  generalize v4.alloc (.cells #[.int .i64 Z.e, .slice E1 nE1 cE1, .slice E2 nE2 cE2, .slice E3 nE3 cE3] 30) = W at *
  go_region_held3 (fun w' => (w'.cell? ⟨v1.heap.size, 0, none⟩ = some (.int .i64 S.e) ∧ w'.cell? ⟨v1.heap.size, 1, none⟩ = some (.slice A1 nA1 cA1) ∧ w'.cell? ⟨v1.heap.size, 2, none⟩ = some (.slice A2 nA2 cA2) ∧ w'.cell? ⟨v1.heap.size, 3, none⟩ = some (.slice A3 nA3 cA3)) ∧ (w'.cell? ⟨v2.heap.size, 0, none⟩ = some (.int .i64 S.e) ∧ w'.cell? ⟨v2.heap.size, 1, none⟩ = some (.slice B1 nB1 cB1) ∧ w'.cell? ⟨v2.heap.size, 2, none⟩ = some (.slice B2 nB2 cB2) ∧ w'.cell? ⟨v2.heap.size, 3, none⟩ = some (.slice B3 nB3 cB3)) ∧ (w'.cell? ⟨v3.heap.size, 0, none⟩ = some (.int .i64 Z.e) ∧ w'.cell? ⟨v3.heap.size, 1, none⟩ = some (.slice D1 nD1 cD1) ∧ w'.cell? ⟨v3.heap.size, 2, none⟩ = some (.slice D2 nD2 cD2) ∧ w'.cell? ⟨v3.heap.size, 3, none⟩ = some (.slice D3 nD3 cD3)) ∧ (w'.cell? ⟨v4.heap.size, 0, none⟩ = some (.int .i64 Z.e) ∧ w'.cell? ⟨v4.heap.size, 1, none⟩ = some (.slice E1 nE1 cE1) ∧ w'.cell? ⟨v4.heap.size, 2, none⟩ = some (.slice E2 nE2 cE2) ∧ w'.cell? ⟨v4.heap.size, 3, none⟩ = some (.slice E3 nE3 cE3)))
    (first | exact HFK.out _ g5 | exact HFK.out _ g4 | exact HFK.out _ g3 | exact HFK.out _ g2 | exact HFK.out _ g1 | exact HFK.out _ (Fr.refl _ _).drew) (first
    | (go_at_call 9
       (with_reducible refine (first7_calls _).mono ?_)
       rintro ex x1 ⟨rfl, hf⟩
       have g1 := (Fr.refl (fun _ => False) W).drew.trans hf
       clear hf)
    | (go_at_call 16
       clear T5
       (with_reducible refine (refOut_is S S _ _ _ _ _ _ _ _ _ _ _ _ _ _ _ _ _ _ _ _ _ _ _ _ _ _ true (sameB_refl S) _ (HR.out _ g1).1 (HR.out _ g1).2.1 l1 l2 l3).mono ?_)
       rintro ex x2 ⟨rfl, hf⟩
       have g2 := g1.trans hf
       clear hf)
    | (go_at_call 14
       (with_reducible refine (ints_eq _ _ _ _ _ _ _ _ _ _ (HR.out _ g2).1.h l4 (HR.out _ g2).2.1.h).mono ?_)
       rintro ex x3 ⟨rfl, hf⟩
       have g3 := g2.trans hf
       clear hf)
    | (go_at_call 17
       (with_reducible refine (plainSame_is S Z _ _ _ _ _ _ _ _ _ _ _ _ _ _ _ _ _ _ _ _ _ _ _ _ _ _ bb HBB.out _ (HR.out _ g3).1 (HR.out _ g3).2.2.1 l1 l2 l3).mono ?_)
       rintro ex x4 ⟨rfl, hf⟩
       have g4 := g3.trans hf
       clear hf)
    | (go_at_call 16
       (with_reducible refine (refOut_is S Z _ _ _ _ _ _ _ _ _ _ _ _ _ _ _ _ _ _ _ _ _ _ _ _ _ _ bb HBB.out _ (HR.out _ g4).2.1 (HR.out _ g4).2.2.2 l1 l2 l3).mono ?_)
       rintro ex x5 ⟨rfl, hf⟩
       have g5 := g4.trans hf
       clear hf))
  all_goals
    go_wp2
    go_ret
    exact ⟨by simp, HK.out.trans g5⟩

theorem runs_walk (cs : Array Value) (c : Conf) (H : Option Addr) (hn hcap : Nat) (heap : List Int) (A : Option Addr) (n cap : Nat) (p : List Ins) (A' : Option Addr) (n' cap' : Nat) (q : List Ins) (w : World) (hc : ConfIn cs c) (hI : IntsW w H hn heap) (h : ProgAt w (fun _ => True) A n cap p) (h' : ProgAt w (fun _ => True) A' n' cap' q) :
    Calls Try.prog 7 #[.agg cs, .slice H hn hcap, .slice A n cap, .slice A' n' cap'] w fun e w' => e = .returned (.bool true) ∧ Fr (fun _ => False) w w' := by
  rw [hc]
  cases hb : fewP p with
  | false => exact runs_many c H hn hcap A n cap p A' n' cap' q w h h' (.inl hb)
  | true =>
    cases hb2 : fewP q with
    | false => exact runs_many c H hn hcap A n cap p A' n' cap' q w h h' (.inr (.inl ⟨hb, hb2⟩))
    | true =>
      by_cases hs : hn ≤ 5000
      · exact runs_few c H hn hcap heap A n cap p A' n' cap' q w hI h h' hb hb2 hs
      · exact runs_many c H hn hcap A n cap p A' n' cap' q w h h' (.inr (.inr ⟨hb, hb2, by omega⟩))
end Go.Proofs.Ytfbdfboekgjbcaa
