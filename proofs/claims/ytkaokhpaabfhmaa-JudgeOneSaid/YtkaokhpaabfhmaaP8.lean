/- plain.Run, where it runs. -/
import Derived.Test.YtkaokhpaabfhmaaP7
namespace Go.Proofs.Ytkaokhpaabfhmaa
open Go.RowKit

theorem made_ints' (n : Nat) : madeCells #[.int .i64 0] n = ints (List.replicate n 0) := by
  apply Array.ext'
  rw [toList_madeCells_one]
  simp [ints]
theorem own_nil0 (w : World) (B : Nat) (T : TypeId) (k : Nat) {n : Nat} {xs : List Value} (hn : n = 0) (hx : xs = []) : w.ownsRow B T k (.slice none 0 0) n xs := by
  subst hn; subst hx; exact World.ownsRow_nil _ _ _ _
theorem begP_good {c : Conf} {heap : List Int} (hr : 0 ≤ c.rg) (hi : ∀ y ∈ heap, I64 y) (hw : (heap.length : Int) = c.words) : Good c (begP c heap) 0 := by
  refine ⟨?_, hw, fun y hy => ?_, hi, rfl, rfl, Nat.le_refl _⟩
  · unfold begP
    dsimp only
    rw [List.length_replicate]
    omega
  · unfold begP at hy
    dsimp only at hy
    rw [List.eq_of_mem_replicate hy]
    exact ⟨by decide, by decide⟩
theorem two_blocks (w : World) (c : Conf) (o : Obj) : BoxConf ((w.alloc (.cells #[.int .i64 c.r, .int .i64 c.o, .int .i64 c.s, .int .i64 c.wd, .int .i64 c.th, .int .i64 c.sl, .int .i64 c.rg, .int .i64 c.lk, .int .i64 c.un, .int .i64 c.es, .int .i64 c.tk, .int .i64 c.po] 23)).alloc o) w.heap.size c ∧
    ∃ o', ((w.alloc (.cells #[.int .i64 c.r, .int .i64 c.o, .int .i64 c.s, .int .i64 c.wd, .int .i64 c.th, .int .i64 c.sl, .int .i64 c.rg, .int .i64 c.lk, .int .i64 c.un, .int .i64 c.es, .int .i64 c.tk, .int .i64 c.po] 23)).alloc o).heap[w.heap.size + 1]? = some o' ∧ o' = o := by
  refine ⟨alloc_conf' _ _ _ (BoxConf.mk w c) _, o, ?_, rfl⟩
  have h2 := heap_alloc_new (w.alloc (.cells #[.int .i64 c.r, .int .i64 c.o, .int .i64 c.s, .int .i64 c.wd, .int .i64 c.th, .int .i64 c.sl, .int .i64 c.rg, .int .i64 c.lk, .int .i64 c.un, .int .i64 c.es, .int .i64 c.tk, .int .i64 c.po] 23)) o
  rw [show (w.alloc (.cells #[.int .i64 c.r, .int .i64 c.o, .int .i64 c.s, .int .i64 c.wd, .int .i64 c.th, .int .i64 c.sl, .int .i64 c.rg, .int .i64 c.lk, .int .i64 c.un, .int .i64 c.es, .int .i64 c.tk, .int .i64 c.po] 23)).heap.size = w.heap.size + 1 by simp] at h2
  exact h2

set_option maxRecDepth 100000 in
set_option maxHeartbeats 2000000 in
theorem run_range (c : Conf) (H : Option Addr) (hn hcap : Nat) (A : Option Addr) (n cap : Nat) (p : List Ins) (F : Nat → Prop) (w : World) (h : ProgAt w F A n cap p) (hs : Short p) (hok : progOk c p = true) (hne : (hn : Int) ≠ c.words) :
    Calls Try.prog 25 #[c.val, .slice H hn hcap, .slice A n cap] w fun e w' => e = .returned (.tuple #[.agg #[.int .i64 0, .slice none 0 0, .slice none 0 0, .slice none 0 0], .slice none 0 0, .int .i64 1]) ∧ Fr (fun _ => False) w w' := by
  have hf := ((Fr.refl (fun _ => False) w).alloc (.cells #[.int .i64 c.r, .int .i64 c.o, .int .i64 c.s, .int .i64 c.wd, .int .i64 c.th, .int .i64 c.sl, .int .i64 c.rg, .int .i64 c.lk, .int .i64 c.un, .int .i64 c.es, .int .i64 c.tk, .int .i64 c.po] 23)).alloc (.cells #[.int .i64 0, .slice none 0 0, .slice none 0 0, .slice none 0 0] 46)
  have HC := Lib.hid (progCheck_calls c A n cap p F _ (h.frame hf (fun _ _ x => x.elim)) hs)
  have hcv : chkV c p = 0 := by unfold chkV; rw [hok]; rfl
  rw [hcv] at HC
  have HF := Lib.hid hf
  have HW := Lib.hid (words_calls c)
  obtain ⟨hbx, o', hbl, rfl⟩ := two_blocks w c (.cells #[.int .i64 0, .slice none 0 0, .slice none 0 0, .slice none 0 0] 46)
  have HBX := Lib.hid hbx
  have HBL := Lib.hid hbl
  have hd : ((hn : Int) != c.words) = true := by simpa using hne
  clear h hs hok hcv hf hbl hbx hne
  unfold Conf.val at *
  go_enter Try.func25, Try.ntmps25
  go_wp2_with (first
    | (go_at_call 41; (with_reducible refine HC.out.mono ?_); rintro ex w1 ⟨rfl, hf1⟩
       obtain ⟨c0, c1, c2, c3, c4, c5, c6, c7, c8, c9, c10, c11⟩ := (HBX.out.frame hf1 (fun x => x)).all)
    | (go_at_call 23; (with_reducible refine (HW.out _).mono ?_); rintro ex w2 ⟨rfl, hf2⟩
       clear c0 c1 c2 c3 c4 c5 c6 c7 c8 c9 c10 c11
       have hb1 := (hf1.trans hf2).heap HBL.out (fun x => x)
       have q0 : w2.cell? ⟨w.heap.size + 1, 0, none⟩ = some (.int .i64 0) := by rw [blk_cell hb1]; rfl
       have q1 : w2.cell? ⟨w.heap.size + 1, 1, none⟩ = some (.slice none 0 0) := by rw [blk_cell hb1]; rfl
       have q2 : w2.cell? ⟨w.heap.size + 1, 2, none⟩ = some (.slice none 0 0) := by rw [blk_cell hb1]; rfl
       have q3 : w2.cell? ⟨w.heap.size + 1, 3, none⟩ = some (.slice none 0 0) := by rw [blk_cell hb1]; rfl
       have z0 : w2.frozen? ⟨w.heap.size + 1, 0, none⟩ = false := by rw [blk_free hb1]
       have z1 : w2.frozen? ⟨w.heap.size + 1, 1, none⟩ = false := by rw [blk_free hb1]
       have z2 : w2.frozen? ⟨w.heap.size + 1, 2, none⟩ = false := by rw [blk_free hb1]
       have z3 : w2.frozen? ⟨w.heap.size + 1, 3, none⟩ = false := by rw [blk_free hb1]))
  have HB4 := Lib.hid (out_block hb1 0 (.slice none 0 0) (.slice none 0 0) (.slice none 0 0))
  have HF4 := Lib.hid (fr_out (w2) (w.heap.size + 1) (.int .i64 0) (.slice none 0 0) (.slice none 0 0) (.slice none 0 0))
  generalize ((((w2.setCell ⟨w.heap.size + 1, 0, none⟩ (.int .i64 0)).setCell ⟨w.heap.size + 1, 1, none⟩ (.slice none 0 0)).setCell ⟨w.heap.size + 1, 2, none⟩ (.slice none 0 0)).setCell ⟨w.heap.size + 1, 3, none⟩ (.slice none 0 0)) = w3 at *
  obtain ⟨r0, r1, r2, r3⟩ := HB4.out
  refine bodyPost_ret (by simp [results, Try.results25, go_sem, r0, r1, r2, r3]; try rfl) rfl ⟨rfl, (HF.out.trans (hf1.trans hf2)).trans' HF4.out (fun k x y => by omega)⟩

/-- What the machine's state answers. -/
theorem out_off {w w' : World} {B ob rb hb hc hn hc' w0 : Nat} {A2 A3 A4 : Option Addr} {k2 k3 : Nat} {s : PS} {heap : List Int} (h : MAt w B ob rb hb hc (.slice A2 (s.rs.length / 2) k2) (.slice A3 (s.ws.length / 2) k3) s) (hf : Fr (fun _ => False) w w') (hh : Flat w' (fun k => w.heap.size ≤ k) A4 hn heap) (hB : w0 ≤ B) (hw : B ≤ w.heap.size) (ha : s.after heap = heap) :
    OutAt w' w0 s heap (some ⟨rb, 0, none⟩) s.regs.length s.regs.length A2 (s.rs.length / 2) k2 A3 (s.ws.length / 2) k3 A4 hn hc' := by
  obtain ⟨A, c, e, hF⟩ := Flat.ofOwn h.hrs
  cases e
  obtain ⟨A, c, e, hG⟩ := Flat.ofOwn h.hws
  cases e
  have hb2 := h.b2
  refine ⟨(h.flat.mono (fun k _ x => by subst x; omega)).frame hf (fun _ _ x => x.elim), (hF.mono (fun k _ x => by omega)).frame hf (fun _ _ x => x.elim), (hG.mono (fun k _ x => by omega)).frame hf (fun _ _ x => x.elim), ?_⟩
  rw [ha]
  exact hh.mono (fun k _ x => by omega)
theorem out_of {w : World} {B ob rb hb hc hn w0 : Nat} {A2 A3 : Option Addr} {k2 k3 : Nat} {s : PS} {heap : List Int} (h : MAt w B ob rb hb hc (.slice A2 (s.rs.length / 2) k2) (.slice A3 (s.ws.length / 2) k3) s) (hl : s.heap.length = hn) (hB : w0 ≤ B) (ha : s.after heap = s.heap) :
    OutAt w w0 s heap (some ⟨rb, 0, none⟩) s.regs.length s.regs.length A2 (s.rs.length / 2) k2 A3 (s.ws.length / 2) k3 (some ⟨hb, 0, none⟩) hn hc := by
  obtain ⟨A, c, e, hF⟩ := Flat.ofOwn h.hrs
  cases e
  obtain ⟨A, c, e, hG⟩ := Flat.ofOwn h.hws
  cases e
  obtain ⟨A, c, e, hH⟩ := Flat.ofOwn h.hh
  cases e
  have hb2 := h.b2
  refine ⟨h.flat.mono (fun k _ x => by subst x; omega), hF.mono (fun k _ x => by omega), hG.mono (fun k _ x => by omega), ?_⟩
  rw [ha, ← hl]
  rw [Nat.mul_one] at hH
  exact hH.mono (fun k _ x => by omega)

set_option maxRecDepth 100000 in
set_option maxHeartbeats 4000000 in
theorem run_main (c : Conf) (H : Option Addr) (hn hcap : Nat) (heap : List Int) (A : Option Addr) (n cap : Nat) (p : List Ins) (F G : Nat → Prop) (w : World) (h : ProgAt w F A n cap p) (hs : Short p) (hok : progOk c p = true) (hh : Flat w G H hn heap) (hi : ∀ y ∈ heap, I64 y) (hne : (hn : Int) = c.words) :
    Calls Try.prog 25 #[c.val, .slice H hn hcap, .slice A n cap] w fun e w' => ∃ A1 n1 c1 A2 n2 c2 A3 n3 c3 A4 n4 c4, e = .returned (.tuple #[.agg #[.int .i64 (fullP c heap p).e, .slice A1 n1 c1, .slice A2 n2 c2, .slice A3 n3 c3], .slice A4 n4 c4, .int .i64 0]) ∧
      OutAt w' w.heap.size (fullP c heap p) heap A1 n1 c1 A2 n2 c2 A3 n3 c3 A4 n4 c4 ∧ Fr (fun _ => False) w w' := by
  obtain ⟨hfn, hn60, hmay⟩ := progOk_iff.1 hok
  have hwb := c.words_bounds
  have hwp := words_pos hfn
  have hrg := hfn.2.1.2.2.1
  have hrg8 : 1 ≤ c.rg ∧ c.rg ≤ 8 := by omega
  obtain ⟨had, rfl, _, hcells⟩ := hh.at_ (by omega)
  have hf := ((Fr.refl (fun _ => False) w).alloc (.cells #[.int .i64 c.r, .int .i64 c.o, .int .i64 c.s, .int .i64 c.wd, .int .i64 c.th, .int .i64 c.sl, .int .i64 c.rg, .int .i64 c.lk, .int .i64 c.un, .int .i64 c.es, .int .i64 c.tk, .int .i64 c.po] 23)).alloc (.cells #[.int .i64 0, .slice none 0 0, .slice none 0 0, .slice none 0 0] 46)
  have HC := Lib.hid (progCheck_calls c A n cap p F _ (h.frame hf (fun _ _ x => x.elim)) hs)
  have hcv : chkV c p = 0 := by unfold chkV; rw [hok]; rfl
  rw [hcv] at HC
  have HF := Lib.hid hf
  have HW := Lib.hid (words_calls c)
  obtain ⟨hbx, o', hbl, rfl⟩ := two_blocks w c (.cells #[.int .i64 0, .slice none 0 0, .slice none 0 0, .slice none 0 0] 46)
  have HBX := Lib.hid hbx
  have HBL := Lib.hid hbl
  have HH := Lib.hid hh
  have HP := Lib.hid h
  have HI := Lib.hid hi
  have HNE := Lib.hid hne
  have hd : ((hn : Int) != c.words) = false := by simp [hne]
  have hhn : 0 < hn ∧ hn ≤ 4096 := by omega
  obtain ⟨i0, hi0, hz, hsz, hbz⟩ := info_parts infoInt
  clear h hs hok hcv hf hbl hbx hne hh hi hcells
  unfold Conf.val at *
  clear hwb hwp hrg
  go_enter Try.func25, Try.ntmps25
  go_wp2_with (first
    | (go_at_call 41; (with_reducible refine HC.out.mono ?_); rintro ex w1 ⟨rfl, hf1⟩
       obtain ⟨c0, c1, c2, c3, c4, c5, c6, c7, c8, c9, c10, c11⟩ := (HBX.out.frame hf1 (fun x => x)).all)
    | (go_at_call 23; (with_reducible refine (HW.out _).mono ?_); rintro ex w2 ⟨rfl, hf2⟩
       clear c0 c1 c2 c3 c4 c5 c6 c7 c8 c9 c10 c11
       have hB2 := HBX.out.frame (hf1.trans hf2) (fun x => x)
       obtain ⟨c0, c1, c2, c3, c4, c5, c6, c7, c8, c9, c10, c11⟩ := hB2.all
       have hmk := run_make (P := Try.prog) w2 24 3 i0 (.int .i64 0) Try.underlying24 hi0 hz .i64 .i64 c.rg c.rg (by omega) (by omega) (by rw [hbz]; omega) (by omega)
       rw [hsz, Nat.mul_one, show (Value.int IntKind.i64 0).cells = #[.int .i64 0] from rfl, made_ints'] at hmk
       have hf3 : Fr (fun _ => False) w ((w2.alloc (.cells (ints (List.replicate c.rg.toNat 0)) 3)).alloc (.cells #[.int .i64 1, .slice (some ⟨w2.heap.size, 0, none⟩) c.rg.toNat c.rg.toNat, .slice none 0 0, .slice none 0 0] 46)) := ((HF.out.trans (hf1.trans hf2)).alloc _).alloc _
       have HCL := Lib.hid (cloneOwn_calls had hn hcap heap G ((w2.alloc (.cells (ints (List.replicate c.rg.toNat 0)) 3)).alloc (.cells #[.int .i64 1, .slice (some ⟨w2.heap.size, 0, none⟩) c.rg.toNat c.rg.toNat, .slice none 0 0, .slice none 0 0] 46)) (HH.out.frame hf3 (fun _ _ x => x.elim)) (by omega) hhn.1)
       have HB2 := Lib.hid hB2
       have HF3 := Lib.hid hf3
       clear hf3 hB2)
    | (go_at_call 24; (with_reducible refine HCL.out.mono ?_); rintro ex w4 ⟨hb, hc, rfl, ho4, hf4⟩
       clear c0 c1 c2 c3 c4 c5 c6 c7 c8 c9 c10 c11 hmk))
  have hlen : heap.length = hn := HH.out.len
  have hw12 : w.heap.size + 1 < w2.heap.size := blk_lt ((hf1.trans hf2).heap HBL.out (fun x => x))
  have hbig : hb ≥ w2.heap.size + 2 ∧ hb < w4.heap.size := by
    obtain ⟨h1, h2⟩ := ho4.lt hb rfl
    simp at h1
    exact ⟨by omega, h2⟩
  have HM0 := Lib.hid (show MAt w4 w2.heap.size (w2.heap.size + 1) w2.heap.size hb hc (.slice none 0 0) (.slice none 0 0) (begP c heap) from by
    refine ⟨?_, ?_, own_nil0 _ _ _ _ (by simp [begP]) (by simp [begP]), own_nil0 _ _ _ _ (by simp [begP]) (by simp [begP]), ?_, (fun g hg => by cases hg), by omega, by omega, by omega, by omega⟩
    · have := hf4.heap (heap_alloc2_new w2 (.cells (ints (List.replicate c.rg.toNat 0)) 3) (.cells #[.int .i64 1, .slice (some ⟨w2.heap.size, 0, none⟩) c.rg.toNat c.rg.toNat, .slice none 0 0, .slice none 0 0] 46)) (fun x => x)
      unfold begP
      dsimp only
      rw [List.length_replicate]
      exact this
    · exact hf4.heap (heap_alloc2_old w2 _ _) (fun x => x)
    · unfold begP
      dsimp only
      rw [hlen]
      exact ownsRow_base ho4 (by simp; omega))
  have HG0 := Lib.hid (begP_good (c := c) (by omega) HI.out (by rw [hlen]; exact HNE.out))
  have HB4 := Lib.hid (HB2.out.frame (((Fr.refl (fun _ => False) w2).alloc _).alloc _ |>.trans hf4) (fun x => x))
  have HF4 := Lib.hid (HF3.out.trans hf4)
  have HBL4 := Lib.hid ((((hf1.trans hf2).alloc _).alloc _ |>.trans hf4).heap HBL.out (fun x => x))
  have HLEN := Lib.hid HP.out.len
  have hnn : n ≤ 60 := by rw [← HLEN.out]; exact hn60
  clear hf1 hf2 hf4 ho4 HCL HB2 HC HW hd
  go_loopw [11] (fun v11 wr => ∃ (at_ f : Nat) (vr vw : Value) (st : PS), at_ ≤ n ∧ v11 = .int .i64 at_ ∧ n ≤ f + at_ ∧ runP c p f at_ st = fullP c heap p ∧ Good c st at_ ∧ MAt wr w2.heap.size (w2.heap.size + 1) w2.heap.size hb hc vr vw st ∧ BoxConf wr w.heap.size c ∧ Fr (fun k => w2.heap.size ≤ k) w4 wr) (fun v11 _ => n - (intOf v11).toNat)
  case atStart => exact ⟨0, n, _, _, begP c heap, Nat.zero_le _, rfl, Nat.le_refl _, by unfold fullP; rw [HLEN.out], HG0.out, HM0.out, HB4.out, Fr.refl _ _⟩
  case round =>
    obtain ⟨at_, f, vr, vw, st, hat, rfl, hfa, hrun, hgd, hMr, hbx, hf⟩ := hrel
    have hsl : st.heap.length = hn := by have := hgd.wd; have := HNE.out; omega
    have HRUN := Lib.hid hrun
    have HGD := Lib.hid hgd
    have HBR := Lib.hid hbx
    have HF4R := Lib.hid hf
    have hwr := hf.size
    have hw4s := HF4.out.size
    have hHM := Lib.hid hMr
    clear hrun hgd hbx hf
    by_cases he : st.e = 1
    · by_cases hlt : at_ < n
      · have he1 : (st.e == 1) = true := by simpa using he
        have o0 : wr.cell? ⟨w2.heap.size + 1, 0, none⟩ = some (.int .i64 st.e) := by rw [blk_cell hMr.ho]; rfl
        have hm := hmay at_ (by rw [HLEN.out]; exact hlt)
        obtain ⟨cs, hcs, hrow⟩ := HP.out.ex
        obtain ⟨ad, rfl, _, h1⟩ := hcs (by omega)
        obtain ⟨A1, n1, k1, hrw, _, hfl⟩ := hrow at_ hlt
        have hfw := HF4.out.trans' HF4R.out (fun k x y => by omega)
        have hx64 := HP.out.i64 (p.getD at_ default) (by rw [List.getD_eq_getElem?_getD, List.getElem?_eq_getElem (by rw [HLEN.out]; exact hlt)]; exact List.getElem_mem _)
        have hfl2 := hfl.frame hfw.drew (fun _ _ x => x.elim)
        have HSTEP := Lib.hid (HGD.out.step (p.getD at_ default) hx64)
        have HNB := Lib.hid (next_bounds (s := st) hm (by rw [HLEN.out]; exact hlt))
        have HRG := Lib.hid (fun m => runP_go (c := c) (p := p) (n := m) (show at_ < p.length by rw [HLEN.out]; exact hlt) he)
        rw [HLEN.out] at hm HNB
        have HCA := runs_calls c (p.getD at_ default) A1 n1 k1 _ w2.heap.size (w2.heap.size + 1) w2.heap.size hb hc vr vw st at_ n wr.drew (hMr.frame (Fr.refl (fun _ => False) wr).drew (fun _ x => x.elim)) (by show w2.heap.size ≤ wr.heap.size; omega) (by omega) hm hfl2 hx64 HGD.out.ri hfn HGD.out.rg HGD.out.wd ⟨by have := HGD.out.len; omega, HGD.out.re⟩ ⟨by have := HGD.out.len; omega, HGD.out.we⟩
        rw [hsl] at HCA
        have HK := Lib.hid (fun w' (h : Fr (fun k => w2.heap.size ≤ k) wr w') => And.intro (HBR.out.frame h (fun x => by omega)).all (ins_cells (fun t u ht => (hfw.cell (h1 t u ht) (fun x => x) |> fun z => h.cell z (fun x => by have := World.block_lt_of_cell? _ _ (h1 t u ht); omega) : w'.cell? _ = _)) hrw))
        generalize hxx : p.getD at_ default = x at *
        unfold Conf.val at HCA
        have HCAL := Lib.hid HCA
        clear HCA hm hcs hrow h1 hrw hfl hfl2 hx64 hxx hfw hMr he
        go_wp2
        go_region_held3 (fun w' => (w'.cell? ⟨w.heap.size, 0, none⟩ = some (.int .i64 c.r) ∧ w'.cell? ⟨w.heap.size, 1, none⟩ = some (.int .i64 c.o) ∧ w'.cell? ⟨w.heap.size, 2, none⟩ = some (.int .i64 c.s) ∧ w'.cell? ⟨w.heap.size, 3, none⟩ = some (.int .i64 c.wd) ∧ w'.cell? ⟨w.heap.size, 4, none⟩ = some (.int .i64 c.th) ∧ w'.cell? ⟨w.heap.size, 5, none⟩ = some (.int .i64 c.sl) ∧ w'.cell? ⟨w.heap.size, 6, none⟩ = some (.int .i64 c.rg) ∧ w'.cell? ⟨w.heap.size, 7, none⟩ = some (.int .i64 c.lk) ∧ w'.cell? ⟨w.heap.size, 8, none⟩ = some (.int .i64 c.un) ∧ w'.cell? ⟨w.heap.size, 9, none⟩ = some (.int .i64 c.es) ∧ w'.cell? ⟨w.heap.size, 10, none⟩ = some (.int .i64 c.tk) ∧ w'.cell? ⟨w.heap.size, 11, none⟩ = some (.int .i64 c.po)) ∧ w'.cell? (ad.add (at_ * 5)) = some (.int .i64 x.k) ∧ w'.cell? ⟨(ad.add (at_ * 5)).block, (ad.add (at_ * 5)).off + 1, none⟩ = some (.int .i64 x.a) ∧ w'.cell? ⟨(ad.add (at_ * 5)).block, (ad.add (at_ * 5)).off + 2, none⟩ = some (.int .i64 x.b) ∧ w'.cell? ⟨(ad.add (at_ * 5)).block, (ad.add (at_ * 5)).off + 3, none⟩ = some (.int .i64 x.c) ∧ w'.cell? ⟨(ad.add (at_ * 5)).block, (ad.add (at_ * 5)).off + 4, none⟩ = some (.slice A1 n1 k1))
          (first | exact HK.out _ hk1 | exact HK.out _ (Fr.refl _ _).drew) (first
          | (go_at_call 42; (with_reducible refine HCAL.out.mono ?_); rintro ex w5 ⟨rfl, ⟨vr', vw', hM5⟩, hf5⟩; have hk1 : Fr (fun k => w2.heap.size ≤ k) wr w5 := (Fr.refl (fun k => w2.heap.size ≤ k) wr).drew.trans hf5))
        have HMM := Lib.hid hM5
        clear hM5
        go_wp2
        go_roundw
        case rel =>
          obtain ⟨hb1, hb2⟩ := HNB.out
          obtain ⟨f', rfl⟩ : ∃ f', f = f' + 1 := ⟨f - 1, by omega⟩
          exact ⟨st.next x at_, f', vr', vw', st.step c x, hb2, rfl, by omega, by rw [← HRG.out f']; exact HRUN.out, HSTEP.out.more (by omega), HMM.out, HBR.out.frame hk1 (by omega), HF4R.out.trans hk1⟩
        case measure =>
          obtain ⟨hb1, hb2⟩ := HNB.out
          simp [intOf]; omega
      · have he1 : (st.e == 1) = true := by simpa using he
        have hfin : st = fullP c heap p := by rw [← HRUN.out, runP_stop (by rw [HLEN.out]; exact fun h => hlt h.1)]
        have HFIN := Lib.hid hfin
        have HE := Lib.hid he
        have he2 : (st.e != 1) = false := by simpa using he
        clear hfin he
        obtain ⟨A2, k2, rfl, _⟩ := row_shape hMr.hrs
        obtain ⟨A3, k3, rfl, _⟩ := row_shape hMr.hws
        have hb6 := HF4R.out.heap HBL4.out (fun x => by omega)
        have o0 : wr.cell? ⟨w2.heap.size + 1, 0, none⟩ = some (.int .i64 st.e) := by rw [blk_cell hMr.ho]; rfl
        have o1 : wr.cell? ⟨w2.heap.size + 1, 1, none⟩ = some (.slice (some ⟨w2.heap.size, 0, none⟩) st.regs.length st.regs.length) := by rw [blk_cell hMr.ho]; rfl
        have o2 : wr.cell? ⟨w2.heap.size + 1, 2, none⟩ = some (.slice A2 (st.rs.length / 2) k2) := by rw [blk_cell hMr.ho]; rfl
        have o3 : wr.cell? ⟨w2.heap.size + 1, 3, none⟩ = some (.slice A3 (st.ws.length / 2) k3) := by rw [blk_cell hMr.ho]; rfl
        have q0 : wr.cell? ⟨w.heap.size + 1, 0, none⟩ = some (.int .i64 0) := by rw [blk_cell hb6]; rfl
        have q1 : wr.cell? ⟨w.heap.size + 1, 1, none⟩ = some (.slice none 0 0) := by rw [blk_cell hb6]; rfl
        have q2 : wr.cell? ⟨w.heap.size + 1, 2, none⟩ = some (.slice none 0 0) := by rw [blk_cell hb6]; rfl
        have q3 : wr.cell? ⟨w.heap.size + 1, 3, none⟩ = some (.slice none 0 0) := by rw [blk_cell hb6]; rfl
        have z0 : wr.frozen? ⟨w.heap.size + 1, 0, none⟩ = false := by rw [blk_free hb6]
        have z1 : wr.frozen? ⟨w.heap.size + 1, 1, none⟩ = false := by rw [blk_free hb6]
        have z2 : wr.frozen? ⟨w.heap.size + 1, 2, none⟩ = false := by rw [blk_free hb6]
        have z3 : wr.frozen? ⟨w.heap.size + 1, 3, none⟩ = false := by rw [blk_free hb6]
        have HB6 := Lib.hid (out_block hb6 st.e (.slice (some ⟨w2.heap.size, 0, none⟩) st.regs.length st.regs.length) (.slice A2 (st.rs.length / 2) k2) (.slice A3 (st.ws.length / 2) k3))
        have HF6 := Lib.hid (fr_out wr (w.heap.size + 1) (.int .i64 st.e) (.slice (some ⟨w2.heap.size, 0, none⟩) st.regs.length st.regs.length) (.slice A2 (st.rs.length / 2) k2) (.slice A3 (st.ws.length / 2) k3))
        have HO := Lib.hid (show OutAt wr w2.heap.size st heap (some ⟨w2.heap.size, 0, none⟩) st.regs.length st.regs.length A2 (st.rs.length / 2) k2 A3 (st.ws.length / 2) k3 (some ⟨hb, 0, none⟩) hn hc from out_of hMr hsl (by omega) (by unfold PS.after; rw [if_pos HE.out]))
        clear hMr hb6
        go_wp2
        generalize ((((wr.setCell ⟨w.heap.size + 1, 0, none⟩ (.int .i64 st.e)).setCell ⟨w.heap.size + 1, 1, none⟩ (.slice (some ⟨w2.heap.size, 0, none⟩) st.regs.length st.regs.length)).setCell ⟨w.heap.size + 1, 2, none⟩ (.slice A2 (st.rs.length / 2) k2)).setCell ⟨w.heap.size + 1, 3, none⟩ (.slice A3 (st.ws.length / 2) k3)) = w7 at *
        obtain ⟨r0, r1, r2, r3⟩ := HB6.out
        refine bodyPost_ret (v := .tuple #[.agg #[.int .i64 st.e, .slice (some ⟨w2.heap.size, 0, none⟩) st.regs.length st.regs.length, .slice A2 (st.rs.length / 2) k2, .slice A3 (st.ws.length / 2) k3], .slice (some ⟨hb, 0, none⟩) hn hc, .int .i64 0]) (by simp [results, Try.results25, go_sem, r0, r1, r2, r3]; try rfl) rfl ⟨_, _, _, _, _, _, _, _, _, _, _, _, by rw [← HFIN.out], by rw [← HFIN.out]; exact (HO.out.frame HF6.out (fun k x y => by omega)).mono (by omega), (HF4.out.trans' HF4R.out (fun k x y => by omega)).trans' HF6.out (fun k x y => by omega)⟩
    · have hfin : st = fullP c heap p := by rw [← HRUN.out, runP_stop (by rw [HLEN.out]; exact fun h => he h.2)]
      have HFIN := Lib.hid hfin
      have HE := Lib.hid he
      have he1 : (st.e == 1) = false := by simpa using he
      have he2 : (st.e != 1) = true := by simpa using he
      clear hfin he
      obtain ⟨A2, k2, rfl, _⟩ := row_shape hMr.hrs
      obtain ⟨A3, k3, rfl, _⟩ := row_shape hMr.hws
      have HFW := Lib.hid (HF4.out.trans' (S := fun _ => False) HF4R.out (fun k x y => by omega))
      have HHR := Lib.hid (HH.out.frame HFW.out (fun _ _ x => x.elim))
      have o0 : wr.cell? ⟨w2.heap.size + 1, 0, none⟩ = some (.int .i64 st.e) := by rw [blk_cell hMr.ho]; rfl
      have HMR := Lib.hid hMr
      clear hMr
      by_cases hlt : at_ < n <;>
        (go_wp2_with (first
          | (go_at_call 24; (with_reducible refine (cloneInts_calls _ _ _ _ _ _ HHR.out (by omega)).mono ?_); rintro ex w10 ⟨A4, c4, rfl, hfl, hf10⟩
             have hb6 := hf10.heap (HF4R.out.heap HBL4.out (fun x => by omega)) (fun x => x)
             have ho6 := hf10.heap HMR.out.ho (fun x => x)
             have o0 : w10.cell? ⟨w2.heap.size + 1, 0, none⟩ = some (.int .i64 st.e) := by rw [blk_cell ho6]; rfl
             have o1 : w10.cell? ⟨w2.heap.size + 1, 1, none⟩ = some (.slice (some ⟨w2.heap.size, 0, none⟩) st.regs.length st.regs.length) := by rw [blk_cell ho6]; rfl
             have o2 : w10.cell? ⟨w2.heap.size + 1, 2, none⟩ = some (.slice A2 (st.rs.length / 2) k2) := by rw [blk_cell ho6]; rfl
             have o3 : w10.cell? ⟨w2.heap.size + 1, 3, none⟩ = some (.slice A3 (st.ws.length / 2) k3) := by rw [blk_cell ho6]; rfl
             have q0 : w10.cell? ⟨w.heap.size + 1, 0, none⟩ = some (.int .i64 0) := by rw [blk_cell hb6]; rfl
             have q1 : w10.cell? ⟨w.heap.size + 1, 1, none⟩ = some (.slice none 0 0) := by rw [blk_cell hb6]; rfl
             have q2 : w10.cell? ⟨w.heap.size + 1, 2, none⟩ = some (.slice none 0 0) := by rw [blk_cell hb6]; rfl
             have q3 : w10.cell? ⟨w.heap.size + 1, 3, none⟩ = some (.slice none 0 0) := by rw [blk_cell hb6]; rfl
             have z0 : w10.frozen? ⟨w.heap.size + 1, 0, none⟩ = false := by rw [blk_free hb6]
             have z1 : w10.frozen? ⟨w.heap.size + 1, 1, none⟩ = false := by rw [blk_free hb6]
             have z2 : w10.frozen? ⟨w.heap.size + 1, 2, none⟩ = false := by rw [blk_free hb6]
             have z3 : w10.frozen? ⟨w.heap.size + 1, 3, none⟩ = false := by rw [blk_free hb6]
             have HB6 := Lib.hid (out_block hb6 st.e (.slice (some ⟨w2.heap.size, 0, none⟩) st.regs.length st.regs.length) (.slice A2 (st.rs.length / 2) k2) (.slice A3 (st.ws.length / 2) k3))
             have HF6 := Lib.hid (fr_out w10 (w.heap.size + 1) (.int .i64 st.e) (.slice (some ⟨w2.heap.size, 0, none⟩) st.regs.length st.regs.length) (.slice A2 (st.rs.length / 2) k2) (.slice A3 (st.ws.length / 2) k3))
             have HO := Lib.hid (show OutAt w10 w2.heap.size st heap (some ⟨w2.heap.size, 0, none⟩) st.regs.length st.regs.length A2 (st.rs.length / 2) k2 A3 (st.ws.length / 2) k3 A4 hn c4 from out_off HMR.out hf10 hfl (by omega) (by omega) (by unfold PS.after; rw [if_neg HE.out]))
             have HF10 := Lib.hid hf10
             clear hb6 ho6 hfl hf10))
         generalize ((((w10.setCell ⟨w.heap.size + 1, 0, none⟩ (.int .i64 st.e)).setCell ⟨w.heap.size + 1, 1, none⟩ (.slice (some ⟨w2.heap.size, 0, none⟩) st.regs.length st.regs.length)).setCell ⟨w.heap.size + 1, 2, none⟩ (.slice A2 (st.rs.length / 2) k2)).setCell ⟨w.heap.size + 1, 3, none⟩ (.slice A3 (st.ws.length / 2) k3)) = w7 at *
         obtain ⟨r0, r1, r2, r3⟩ := HB6.out
         refine bodyPost_ret (v := .tuple #[.agg #[.int .i64 st.e, .slice (some ⟨w2.heap.size, 0, none⟩) st.regs.length st.regs.length, .slice A2 (st.rs.length / 2) k2, .slice A3 (st.ws.length / 2) k3], .slice A4 hn c4, .int .i64 0]) (by simp [results, Try.results25, go_sem, r0, r1, r2, r3]; try rfl) rfl ⟨_, _, _, _, _, _, _, _, _, _, _, _, by rw [← HFIN.out], by rw [← HFIN.out]; exact (HO.out.frame HF6.out (fun k x y => by have := HF10.out.size; omega)).mono (by omega), (HFW.out.trans HF10.out).trans' HF6.out (fun k x y => by have := HF10.out.size; omega)⟩)
end Go.Proofs.Ytkaokhpaabfhmaa
