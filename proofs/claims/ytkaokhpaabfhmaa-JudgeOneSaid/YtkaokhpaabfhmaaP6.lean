/- (*plain.Out).runs: Calc; any instruction. -/
import Derived.Test.YtkaokhpaabfhmaaP5
import Derived.Test.YtkaokhpaabfhmaaCalcAppend
namespace Go.Proofs.Ytkaokhpaabfhmaa
open Go.RowKit

theorem take_map_succ {f : Int → Int} {l : List Int} {j : Nat} (h : j < l.length) : (l.take (j + 1)).map f = (l.take j).map f ++ [f (l.getD j 0)] := by
  rw [List.take_add_one, List.getElem?_eq_getElem h, List.getD_eq_getElem?_getD, List.getElem?_eq_getElem h, List.map_append]; rfl
theorem Fr.freshP {w w' : World} (h : Fr (fun k => w.heap.size ≤ k) w w') : Fr (fun _ => False) w w' := ⟨h.os, h.tape, h.output, h.size, fun k hk _ => h.block k hk (by omega)⟩


set_option maxRecDepth 100000 in
set_option maxHeartbeats 4000000 in
theorem runs4 (c : Conf) (a : Nat) (b d : Int) (l : List Int) (A : Option Addr) (n cap : Nat) (B ob rb hb hc : Nat) (vr vw : Value) (s : PS) (at_ : Nat) (w : World) (M : MAt w B ob rb hb hc vr vw s) (hat : at_ ≤ 60) (ha : a < s.regs.length) (G : Nat → Prop) (hl : Flat w G A n l) (hn : n ≤ 20000) (hr : ∀ r ∈ l, 0 ≤ r ∧ r < s.regs.length) (hri : ∀ y ∈ s.regs, I64 y) :
    Calls Try.prog 42 #[.pointer (some ⟨ob, 0, none⟩), c.val, .slice (some ⟨hb, 0, none⟩) s.heap.length hc, .agg #[.int .i64 4, .int .i64 a, .int .i64 b, .int .i64 d, .slice A n cap], .int .i64 at_] w fun e w' =>
      e = .returned (.int .i64 (s.next ⟨4, a, b, d, l⟩ at_ : Nat)) ∧ (∃ vr' vw', MAt w' B ob rb hb hc vr' vw' (s.step c ⟨4, a, b, d, l⟩)) ∧ Fr (fun k => B ≤ k) w w' := by
  have HT := Lib.hid (two_boxes w c ⟨4, a, b, d, l⟩ (.slice A n cap))
  have HFA := Lib.hid (((Fr.refl (fun _ => False) w).alloc (.cells #[.int .i64 c.r, .int .i64 c.o, .int .i64 c.s, .int .i64 c.wd, .int .i64 c.th, .int .i64 c.sl, .int .i64 c.rg, .int .i64 c.lk, .int .i64 c.un, .int .i64 c.es, .int .i64 c.tk, .int .i64 c.po] 23)).alloc (.cells #[.int .i64 4, .int .i64 a, .int .i64 b, .int .i64 d, .slice A n cap] 67))
  have HM := Lib.hid (M.frame HFA.out (fun _ x => x.elim))
  have hsz : Hid (((w.alloc (.cells #[.int .i64 c.r, .int .i64 c.o, .int .i64 c.s, .int .i64 c.wd, .int .i64 c.th, .int .i64 c.sl, .int .i64 c.rg, .int .i64 c.lk, .int .i64 c.un, .int .i64 c.es, .int .i64 c.tk, .int .i64 c.po] 23)).alloc (.cells #[.int .i64 4, .int .i64 a, .int .i64 b, .int .i64 d, .slice A n cap] 67)).heap.size = w.heap.size + 2) := by show _ = _; simp
  dsimp only at HT
  have hbo := blk_lt M.ho
  have hbr := blk_lt M.hr
  have hob := M.b1
  have hrb := M.b2
  have hhb := M.b3
  have hdr := M.dr
  have hor : ob ≠ rb := ne_of_blk M.ho M.hr (by intro e; injection e with _ e2; exact absurd e2 (by decide))
  have hhl : hb < w.heap.size := (M.hh.lt hb rfl).2
  obtain ⟨nx, hnx⟩ : ∃ nx, nx = s.next ⟨4, a, b, d, l⟩ at_ := ⟨_, rfl⟩
  obtain ⟨sx, hsx⟩ : ∃ sx, sx = s.step c ⟨4, a, b, d, l⟩ := ⟨_, rfl⟩
  rw [← hnx, ← hsx]
  unfold PS.next at hnx
  unfold PS.step at hsx
  dsimp only at hnx hsx
  have HNX := Lib.hid hnx
  have HSX := Lib.hid hsx
  clear hnx hsx M
  unfold Conf.val at *
  have HL := Lib.hid (hl.frame HFA.out (fun _ _ x => x.elim))
  have HLEN := Lib.hid hl.len
  have HRR := Lib.hid hr
  have HRI := Lib.hid hri
  clear hl hr hri
  go_enter Try.func42, Try.ntmps42
  go_upto_region 1 with fail
  generalize (w.alloc (.cells #[.int .i64 c.r, .int .i64 c.o, .int .i64 c.s, .int .i64 c.wd, .int .i64 c.th, .int .i64 c.sl, .int .i64 c.rg, .int .i64 c.lk, .int .i64 c.un, .int .i64 c.es, .int .i64 c.tk, .int .i64 c.po] 23)).alloc (.cells #[.int .i64 4, .int .i64 a, .int .i64 b, .int .i64 d, .slice A n cap] 67) = W0 at *
  have HX := Lib.hid (fun w' (h : Fr (fun k => B ≤ k ∧ k < w.heap.size) W0 w') => box_ins (x := ⟨4, a, b, d, l⟩) (h.heap HT.out.2 (fun x => by omega)))
  dsimp only at HX
  obtain ⟨x0, x1, x2, x3, x4⟩ := HX.out W0 (Fr.refl _ _)
  have o0 : W0.cell? ⟨ob, 0, none⟩ = some (.int .i64 s.e) := by rw [blk_cell HM.out.ho]; rfl
  have o1 : W0.cell? ⟨ob, 1, none⟩ = some (.slice (some ⟨rb, 0, none⟩) s.regs.length s.regs.length) := by rw [blk_cell HM.out.ho]; rfl
  have hg64 : Hid (∀ k, I64 (s.regs.getD k 0)) := fun k => by
    rw [List.getD_eq_getElem?_getD]
    cases hx : s.regs[k]? with
    | none => exact ⟨by decide, by decide⟩
    | some y => exact HRI.out y (List.mem_of_getElem? hx)
  go_wp2
  go_loopw [13, 15, 104] (fun v13 _ v104 wr => ∃ j : Nat, j ≤ n ∧ v104 = .int .i64 j ∧ Own W0.heap.size wr v13 ((l.take j).map fun r => s.regs.getD r.toNat 0) ∧ Fr (fun k => W0.heap.size ≤ k) W0 wr) (fun _ _ v104 _ => n - (intOf v104).toNat)
  case atStart => exact ⟨0, Nat.zero_le _, rfl, Own.nil _ _, Fr.refl _ _⟩
  case round =>
    obtain ⟨j, hj, rfl, hown, hf⟩ := hrel
    have hwr := hf.size
    have hMr := HM.out.frame hf (fun k x => .inr x)
    have HMR := Lib.hid hMr
    have o1r : wr.cell? ⟨ob, 1, none⟩ = some (.slice (some ⟨rb, 0, none⟩) s.regs.length s.regs.length) := by rw [blk_cell hMr.ho]; rfl
    clear hMr
    by_cases hlt : j < n
    · obtain ⟨ad, rfl, _, hcell⟩ := HL.out.at_ (by omega)
      have q0 := hf.cell (hcell j hlt) (fun x => by have := World.block_lt_of_cell? _ _ (hcell j hlt); omega)
      obtain ⟨hr0, hr1⟩ := HRR.out (l.getD j 0) (mem_of_getD (by rw [HLEN.out]; exact hlt) rfl)
      have HTS := Lib.hid (take_map_succ (f := fun r => s.regs.getD r.toNat 0) (l := l) (j := j) (by rw [HLEN.out]; exact hlt))
      obtain ⟨k, hk⟩ := Int.eq_ofNat_of_zero_le hr0
      rw [hk] at q0 hr1 HTS
      have hkl : k < s.regs.length := by omega
      have y0 := HMR.out.regCell k hkl
      have hgk := hg64.out k
      rw [Int.toNat_natCast] at HTS
      generalize s.regs.getD k 0 = g at *
      have HOW := Lib.hid hown
      have HF := Lib.hid hf
      have HOA := Lib.hid (hown.frame ((Fr.refl (fun _ => False) wr).alloc (.cells #[.int .i64 g] 3)) (fun _ x => x.elim))
      have HSRC := Lib.hid (IntsC.built1 wr g (by intro x hx; rw [List.mem_singleton.1 hx]; exact hgk))
      have hyl : ((l.take j).map fun r => s.regs.getD r.toNat 0).length ≤ 20000 := by rw [List.length_map, List.length_take]; omega
      clear hcell hk hr0 hr1 hown hf hgk
      generalize (l.take j).map (fun r => s.regs.getD r.toNat 0) = ys at *
      go_wp2_with (at_builtin; refine append_ints _ rfl _ _ rfl W0.heap.size _ _ rfl HOA.out ⟨wr.heap.size, 0, none⟩ 1 1 [g] rfl HSRC.out (by omega) (by simp; omega) ?_)
      intro v' w2 ho2 hf2
      clear HOW HOA HSRC
      go_wp2
      go_roundw
      case rel => exact ⟨j + 1, by omega, by go_num, by rw [HTS.out]; exact ho2, (HF.out.alloc _).trans hf2⟩
      case measure => simp [intOf]; omega
    · obtain rfl : n = j := by omega
      rw [show l.take n = l by rw [← HLEN.out, List.take_length]] at hown
      have hx64 : ∀ x ∈ l.map (fun r => s.regs.getD r.toNat 0), I64 x := by
        intro x hx
        obtain ⟨r, _, rfl⟩ := List.mem_map.1 hx
        exact hg64.out _
      obtain ⟨A', cap', rfl, hic, _⟩ := hown.shape hx64
      generalize hxs : l.map (fun r => s.regs.getD r.toNat 0) = xs at *
      have HXS := Lib.hid hxs
      have HE := Lib.hid (evalC b A' xs.length cap' xs wr.drew (hic.frame ((Fr.refl (fun _ => False) wr).drew) (fun _ x => x.elim)))
      have HF := Lib.hid hf
      have HKO := Lib.hid (fun w' (h : Fr (fun k => k = rb) wr w') => And.intro (show w'.cell? ⟨ob, 1, none⟩ = some (.slice (some ⟨rb, 0, none⟩) s.regs.length s.regs.length) by rw [blk_cell (h.heap HMR.out.ho (fun x => hor x))]; rfl) (HX.out w' ((hf.freshP.mono (T := fun k => B ≤ k ∧ k < w.heap.size) (fun _ x => x.elim)).trans (h.mono (fun k x => by subst x; exact ⟨hrb, hbr⟩)))))
      have y0 : wr.drew.cell? ⟨rb, a, none⟩ = some (.int .i64 (s.regs.getD a 0)) := HMR.out.regCell a ha
      clear hxs hx64 hic hown hf
      go_wp2
      go_region_held3 (fun w' => w'.cell? ⟨ob, 1, none⟩ = some (.slice (some ⟨rb, 0, none⟩) s.regs.length s.regs.length) ∧ w'.cell? ⟨w.heap.size + 1, 0, none⟩ = some (.int .i64 4) ∧ w'.cell? ⟨w.heap.size + 1, 1, none⟩ = some (.int .i64 a) ∧ w'.cell? ⟨w.heap.size + 1, 2, none⟩ = some (.int .i64 b) ∧ w'.cell? ⟨w.heap.size + 1, 3, none⟩ = some (.int .i64 d) ∧ w'.cell? ⟨w.heap.size + 1, 4, none⟩ = some (.slice A n cap))
        (first | exact HKO.out _ hk1 | exact HKO.out _ hk2 | exact HKO.out _ (Fr.refl _ _).drew) (first
        | (go_at_call 59; (with_reducible refine HE.out.mono ?_); rintro ex w1 ⟨rfl, hf1⟩
           have hk1 : Fr (fun k => k = rb) wr w1 := ((Fr.refl (fun _ => False) wr).drew.trans hf1).mono (fun _ x => x.elim)
           have hM1 := HMR.out.frame ((Fr.refl (fun _ => False) wr).drew.trans hf1) (fun _ x => x.elim)
           have y1 : w1.cell? ⟨rb, a, none⟩ = some (.int .i64 (s.regs.getD a 0)) := hM1.regCell a ha
           have z1 : w1.frozen? ⟨rb, a, none⟩ = false := by rw [blk_free hM1.hr]
           have hk2 := hk1.setCell (p := ⟨rb, a, none⟩) (.inl rfl) (.int .i64 (evalV b xs))
           have HM1 := Lib.hid hM1
           clear hM1))
      go_wp2
      go_ret
      refine ⟨by rw [HNX.out]; simp, ⟨vr, vw, ?_⟩, (HFA.out.mono (fun _ x => x.elim)).trans ((HF.out.freshP.mono (fun _ x => x.elim)).trans (hk2.mono (fun k x => by subst x; exact hrb)))⟩
      rw [HSX.out]
      exact HM1.out.setReg a (evalV b xs)


theorem runs_calls (c : Conf) (x : Ins) (A : Option Addr) (n cap : Nat) (G : Nat → Prop) (B ob rb hb hc : Nat) (vr vw : Value) (s : PS) (at_ many : Nat) (w : World) (M : MAt w B ob rb hb hc vr vw s) (hB : B ≤ w.heap.size) (hat : at_ ≤ 60)
    (hm : mayB c x at_ many = true) (hl : Flat w G A n x.l) (hb64 : I64 x.b) (hri : ∀ y ∈ s.regs, I64 y) (hfn : c.Fine) (hrg : (s.regs.length : Int) = c.rg) (hwl : (s.heap.length : Int) = c.words) (hrl : s.rs.length ≤ 2000 ∧ s.rs.length % 2 = 0) (hwsl : s.ws.length ≤ 2000 ∧ s.ws.length % 2 = 0) :
    Calls Try.prog 42 #[.pointer (some ⟨ob, 0, none⟩), c.val, .slice (some ⟨hb, 0, none⟩) s.heap.length hc, .agg #[.int .i64 x.k, .int .i64 x.a, .int .i64 x.b, .int .i64 x.c, .slice A n cap], .int .i64 at_] w fun e w' =>
      e = .returned (.int .i64 (s.next x at_ : Nat)) ∧ (∃ vr' vw', MAt w' B ob rb hb hc vr' vw' (s.step c x)) ∧ Fr (fun k => B ≤ k) w w' := by
  obtain ⟨p1, p2, p3, p4, p5⟩ := mayB_parts hm
  have hk := mayB_kind hm
  have hrg8 : s.regs.length ≤ 8 := by
    obtain ⟨_, ⟨_, _, ⟨_, h8⟩, _⟩, _⟩ := hfn
    omega
  obtain ⟨k, a, b, d, l⟩ := x
  dsimp only at *
  have hk' : k = 1 ∨ k = 2 ∨ k = 3 ∨ k = 4 ∨ k = 5 ∨ k = 6 ∨ k = 7 := by omega
  rcases hk' with rfl | rfl | rfl | rfl | rfl | rfl | rfl
  · obtain ⟨h0, h1⟩ := p1 (by omega)
    obtain ⟨a, rfl⟩ := Int.eq_ofNat_of_zero_le h0
    exact runs1 c a b d l _ B ob rb hb hc vr vw s at_ w M hat (by omega) ((p2 (.inl rfl)).imp id (fun h => by omega)) hb64 (by omega) hfn hwl hrl hwsl hB
  · obtain ⟨h0, h1⟩ := p1 (by omega)
    obtain ⟨a, rfl⟩ := Int.eq_ofNat_of_zero_le h0
    exact runs2 c a b d l _ B ob rb hb hc vr vw s at_ w M hat (by omega) ((p2 (.inr rfl)).imp id (fun h => by omega)) hb64 (by omega) hfn hwl hrl hwsl hB
  · obtain ⟨h0, h1⟩ := p1 (by omega)
    obtain ⟨a, rfl⟩ := Int.eq_ofNat_of_zero_le h0
    exact runs3 c a b d l _ B ob rb hb hc vr vw s at_ w M hat (by omega)
  · obtain ⟨h0, h1⟩ := p1 (by omega)
    obtain ⟨a, rfl⟩ := Int.eq_ofNat_of_zero_le h0
    obtain ⟨q1, q2, q3, q4⟩ := p3 rfl
    exact runs4 c a b d l A n cap B ob rb hb hc vr vw s at_ w M hat (by omega) G hl (by have := hl.len; omega) (fun r hr => by have := q4 r hr; omega) hri
  · obtain ⟨h0, h1⟩ := p1 (by omega)
    obtain ⟨a, rfl⟩ := Int.eq_ofNat_of_zero_le h0
    have := p4 rfl
    exact runs5 c a b d l _ B ob rb hb hc vr vw s at_ w M hat (by omega) (by omega)
  · exact runs6 c a b d l _ B ob rb hb hc vr vw s at_ w M hat
  · exact runs7 c a b d l _ B ob rb hb hc vr vw s at_ w M hat

end Go.Proofs.Ytkaokhpaabfhmaa
