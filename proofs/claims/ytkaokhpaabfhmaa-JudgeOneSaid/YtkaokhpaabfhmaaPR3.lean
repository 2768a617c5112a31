/- ltkref5.Run, where it runs. -/
import Derived.Test.YtkaokhpaabfhmaaPR2
import Derived.Test.YtkaokhpaabfhmaaP8
namespace Go.Proofs.Ytkaokhpaabfhmaa
open Go.RowKit

set_option maxRecDepth 100000 in
theorem copyOwnR_calls (ad : Addr) (n c : Nat) (xs : List Int) (F : Nat → Prop) (w : World) (hx : Flat w F (some ad) n xs) (hn : n ≤ 20000) (h0 : 0 < n) :
    Calls Try.prog 20 #[.slice (some ad) n c] w fun e w' => ∃ hb hc, e = .returned (.slice (some ⟨hb, 0, none⟩) n hc) ∧ w'.ownsRow w.heap.size 3 1 (.slice (some ⟨hb, 0, none⟩) n hc) n (xs.map (Value.int .i64)) ∧ Fr (fun _ => False) w w' := by
  have hc := Lib.hid (show ∀ j u, (xs.map (Value.int .i64))[j]? = some u → w.cell? (ad.add j) = some u by
    obtain ⟨ad', h1, _, h2⟩ := hx.at_ (by omega)
    cases h1
    exact cells_ints hx.len h2)
  obtain ⟨i0, hi, hz0, hz1, hz2⟩ := info_parts infoInt
  have hl := Lib.hid hx.len
  clear hx
  go_enter Try.func20, Try.ntmps20
  go_wp2_with (at_builtin; refine wpList_append_own _ rfl _ _ 24 rfl w.heap.size 3 i0 (.int .i64 0) 1 8 Try.underlying24 hi hz0 hz1 hz2 rfl (by decide) _ _ _ rfl (World.ownsRow_made w #[] 0 (Nat.le_refl _) (Nat.zero_le _) (by simp)) ad n c (xs.map (Value.int .i64)) rfl ?qc1 ?qc2 ?qc3 ?qc4 ?qc5 ?qc6 ?_)
  case qc1 => rw [List.length_map, hl.out, Nat.mul_one]
  case qc2 => exact fun j u hj => ((Fr.refl (fun _ => False) w).alloc _).cell (hc.out j u hj) (fun x => x)
  case qc3 => exact one_ints xs
  case qc4 => unfold maxLen; omega
  case qc5 => omega
  case qc6 => simp
  intro v' w1 hown hgrow hnil
  go_wp2
  go_ret
  have ho : w1.ownsRow w.heap.size 3 1 v' n (xs.map (Value.int .i64)) := by simpa using hown
  have hf : Fr (fun _ => False) w w1 := ((Fr.refl _ w).alloc _).grown hgrow (fun k hk => .inr (by simp [Value.ownBlock] at hk; omega))
  rcases id ho.2 with ⟨rfl, h00⟩ | ⟨g, cap, cur, rfl, _⟩
  · omega
  · exact ⟨g, cap, rfl, ho, hf⟩


/-- The loop's relation. -/
def RunRel (c : Conf) (heap : List Int) (p : List Ins) (n B ob rb hb hc b0 : Nat) (w5 : World) (v11 : Value) (wr : World) : Prop :=
  ∃ (at_ f : Nat) (vr vw : Value) (st : PS), at_ ≤ n ∧ v11 = .int .i64 at_ ∧ n ≤ f + at_ ∧ runP c p f at_ st = fullP c heap p ∧ Good c st at_ ∧ MAt wr B ob rb hb hc vr vw st ∧ st.e = 1 ∧ BoxConf wr b0 c ∧ Fr (fun k => B ≤ k) w5 wr
theorem step_e {s : PS} {c : Conf} {k a b d : Int} {l : List Int} (h6 : k ≠ 6) (h7 : k ≠ 7) (he : s.e = 1) : (s.step c ⟨k, a, b, d, l⟩).e = 1 := by
  unfold PS.step
  dsimp only
  repeat' split
  all_goals first | exact he | exact absurd (by assumption) h6 | exact absurd (by assumption) h7
theorem next_one {s : PS} {k a b d : Int} {l : List Int} {at_ : Nat} (h5 : k ≠ 5) : s.next ⟨k, a, b, d, l⟩ at_ = at_ + 1 := by
  unfold PS.next
  rw [if_neg (fun h => h5 h.1)]

set_option maxRecDepth 100000 in
set_option maxHeartbeats 16000000 in
theorem refRun_main (c : Conf) (H : Option Addr) (hn hcap : Nat) (heap : List Int) (A : Option Addr) (n cap : Nat) (p : List Ins) (F G : Nat → Prop) (w : World) (h : ProgAt w F A n cap p) (hs : Short p) (hok : progOk c p = true) (hh : Flat w G H hn heap) (hi : ∀ y ∈ heap, I64 y) (hne : (hn : Int) = c.words) :
    Calls Try.prog 21 #[c.val, .slice H hn hcap, .slice A n cap] w fun e w' => ∃ A1 n1 c1 A2 n2 c2 A3 n3 c3 A4 n4 c4, e = .returned (.tuple #[.agg #[.int .i64 (fullP c heap p).e, .slice A1 n1 c1, .slice A2 n2 c2, .slice A3 n3 c3], .slice A4 n4 c4, .int .i64 0]) ∧
      OutAt w' w.heap.size (fullP c heap p) heap A1 n1 c1 A2 n2 c2 A3 n3 c3 A4 n4 c4 ∧ Fr (fun _ => False) w w' := by
  obtain ⟨hfn, hn60, hmay⟩ := progOk_iff.1 hok
  have hwb := c.words_bounds
  have hwp := words_pos hfn
  have hrg := hfn.2.1.2.2.1
  have hrg8 : 1 ≤ c.rg ∧ c.rg ≤ 8 := by omega
  have hw64 : I64 c.words := by constructor <;> omega
  obtain ⟨had, rfl, _, hcells⟩ := hh.at_ (by omega)
  have hf := ((Fr.refl (fun _ => False) w).alloc (.cells #[.int .i64 c.r, .int .i64 c.o, .int .i64 c.s, .int .i64 c.wd, .int .i64 c.th, .int .i64 c.sl, .int .i64 c.rg, .int .i64 c.lk, .int .i64 c.un, .int .i64 c.es, .int .i64 c.tk, .int .i64 c.po] 23)).alloc (.cells #[.int .i64 0, .slice none 0 0, .slice none 0 0, .slice none 0 0] 46)
  have HC := Lib.hid (refCheck5_calls c A n cap p F _ (h.frame hf (fun _ _ x => x.elim)) hs)
  have hcv : chkV c p = 0 := by unfold chkV; rw [hok]; rfl
  rw [hcv] at HC
  have HF := Lib.hid hf
  have HW := Lib.hid (ref_words_calls c)
  obtain ⟨hbx, o', hbl, rfl⟩ := two_blocks w c (.cells #[.int .i64 0, .slice none 0 0, .slice none 0 0, .slice none 0 0] 46)
  have HBX := Lib.hid hbx
  have HBL := Lib.hid hbl
  have HH := Lib.hid hh
  have HP := Lib.hid h
  have HI := Lib.hid hi
  have HNE := Lib.hid hne
  have hd : ((hn : Int) != c.words) = false := by simp [hne]
  have hhn : 0 < hn ∧ hn ≤ 4096 := by omega
  obtain ⟨i0, hi0, hz, hsz, hbz⟩ := info_parts infoInt
  clear h hs hok hcv hf hbl hbx hne hh hi hcells
  unfold Conf.val at *
  clear hwb hwp hrg
  go_enter Try.func21, Try.ntmps21
  go_wp2_with (first
    | (go_at_call 18; (with_reducible refine HC.out.mono ?_); rintro ex w1 ⟨rfl, hf1⟩
       obtain ⟨c0, c1, c2, c3, c4, c5, c6, c7, c8, c9, c10, c11⟩ := (HBX.out.frame hf1 (fun x => x)).all)
    | (go_at_call 19; (with_reducible refine (HW.out _).mono ?_); rintro ex w2 ⟨rfl, hf2⟩
       clear c0 c1 c2 c3 c4 c5 c6 c7 c8 c9 c10 c11
       have hB2 := HBX.out.frame (hf1.trans hf2) (fun x => x)
       obtain ⟨c0, c1, c2, c3, c4, c5, c6, c7, c8, c9, c10, c11⟩ := hB2.all
       have HCL := Lib.hid (copyOwnR_calls had hn hcap heap G w2 (HH.out.frame (HF.out.trans (hf1.trans hf2)) (fun _ _ x => x.elim)) (by omega) hhn.1)
       have HB2 := Lib.hid hB2
       clear hB2)
    | (go_at_call 20; (with_reducible refine HCL.out.mono ?_); rintro ex w4 ⟨hb, hc, rfl, ho4, hf4⟩
       clear c0 c1 c2 c3 c4 c5 c6 c7 c8 c9 c10 c11
       obtain ⟨c0, c1, c2, c3, c4, c5, c6, c7, c8, c9, c10, c11⟩ := (HB2.out.frame hf4 (fun x => x)).all
       have hmk := run_make (P := Try.prog) w4 24 3 i0 (.int .i64 0) Try.underlying24 hi0 hz .i64 .i64 c.rg c.rg (by omega) (by omega) (by rw [hbz]; omega) (by omega)
       rw [hsz, Nat.mul_one, show (Value.int IntKind.i64 0).cells = #[.int .i64 0] from rfl, made_ints'] at hmk))
  clear c0 c1 c2 c3 c4 c5 c6 c7 c8 c9 c10 c11 hmk
  have hlen : heap.length = hn := HH.out.len
  have hw12 : w.heap.size + 1 < w2.heap.size := blk_lt ((hf1.trans hf2).heap HBL.out (fun x => x))
  have hbig : w2.heap.size ≤ hb ∧ hb < w4.heap.size := ho4.lt hb rfl
  have HM0 := Lib.hid (show MAt ((w4.alloc (.cells (ints (List.replicate c.rg.toNat 0)) 3)).alloc (.cells #[.int .i64 1, .slice (some ⟨w4.heap.size, 0, none⟩) c.rg.toNat c.rg.toNat, .slice none 0 0, .slice none 0 0] 46)) w2.heap.size (w4.heap.size + 1) w4.heap.size hb hc (.slice none 0 0) (.slice none 0 0) (begP c heap) from by
    refine ⟨?_, ?_, own_nil0 _ _ _ _ (by simp [begP]) (by simp [begP]), own_nil0 _ _ _ _ (by simp [begP]) (by simp [begP]), ?_, (fun g hg => by cases hg), by omega, by omega, by omega, by omega⟩
    · have := heap_alloc2_new w4 (.cells (ints (List.replicate c.rg.toNat 0)) 3) (.cells #[.int .i64 1, .slice (some ⟨w4.heap.size, 0, none⟩) c.rg.toNat c.rg.toNat, .slice none 0 0, .slice none 0 0] 46)
      unfold begP
      dsimp only
      rw [List.length_replicate]
      exact this
    · exact heap_alloc2_old w4 _ _
    · unfold begP
      dsimp only
      rw [hlen]
      exact ownsRow_frame ho4 (((Fr.refl (fun _ => False) w4).alloc _).alloc _) (fun _ _ x => x))
  have HG0 := Lib.hid (begP_good (c := c) (by omega) HI.out (by rw [hlen]; exact HNE.out))
  have HB4 := Lib.hid (HB2.out.frame ((hf4.alloc (.cells (ints (List.replicate c.rg.toNat 0)) 3)).alloc (.cells #[.int .i64 1, .slice (some ⟨w4.heap.size, 0, none⟩) c.rg.toNat c.rg.toNat, .slice none 0 0, .slice none 0 0] 46)) (fun x => x))
  have HF4 := Lib.hid (show Fr (fun _ => False) w ((w4.alloc (.cells (ints (List.replicate c.rg.toNat 0)) 3)).alloc (.cells #[.int .i64 1, .slice (some ⟨w4.heap.size, 0, none⟩) c.rg.toNat c.rg.toNat, .slice none 0 0, .slice none 0 0] 46)) from ((((HF.out.trans (hf1.trans hf2)).trans hf4).alloc (.cells (ints (List.replicate c.rg.toNat 0)) 3)).alloc (.cells #[.int .i64 1, .slice (some ⟨w4.heap.size, 0, none⟩) c.rg.toNat c.rg.toNat, .slice none 0 0, .slice none 0 0] 46)))
  have HBL4 := Lib.hid ((((hf1.trans hf2).trans hf4).alloc (.cells (ints (List.replicate c.rg.toNat 0)) 3) |>.alloc (.cells #[.int .i64 1, .slice (some ⟨w4.heap.size, 0, none⟩) c.rg.toNat c.rg.toNat, .slice none 0 0, .slice none 0 0] 46)).heap HBL.out (fun x => x))
  have hw45 : w2.heap.size ≤ ((w4.alloc (.cells (ints (List.replicate c.rg.toNat 0)) 3)).alloc (.cells #[.int .i64 1, .slice (some ⟨w4.heap.size, 0, none⟩) c.rg.toNat c.rg.toNat, .slice none 0 0, .slice none 0 0] 46)).heap.size := by have := hf4.size; simp; omega
  have HLEN := Lib.hid HP.out.len
  have hnn : n ≤ 60 := by rw [← HLEN.out]; exact hn60
  clear hf1 hf2 hf4 ho4 HCL HB2 HC HW hd
  go_loopw [11, 12, 13] (fun v11 _ _ wr => RunRel c heap p n w2.heap.size (w4.heap.size + 1) w4.heap.size hb hc w.heap.size ((w4.alloc (.cells (ints (List.replicate c.rg.toNat 0)) 3)).alloc (.cells #[.int .i64 1, .slice (some ⟨w4.heap.size, 0, none⟩) c.rg.toNat c.rg.toNat, .slice none 0 0, .slice none 0 0] 46)) v11 wr) (fun v11 _ _ _ => n - (intOf v11).toNat)
  case atStart => exact ⟨0, n, _, _, begP c heap, Nat.zero_le _, rfl, Nat.le_refl _, by unfold fullP; rw [HLEN.out], HG0.out, HM0.out, rfl, HB4.out, Fr.refl _ _⟩
  case round =>
    obtain ⟨at_, f, vr, vw, st, hat, rfl, hfa, hrun, hgd, hMr, he, hbx, hf⟩ := hrel
    have hsl : st.heap.length = hn := by have := hgd.wd; have := HNE.out; omega
    have HRUN := Lib.hid hrun
    have HGD := Lib.hid hgd
    have HBR := Lib.hid hbx
    have HF4R := Lib.hid hf
    have hwr := hf.size
    have hw4s := HF4.out.size
    have HMR := Lib.hid hMr
    clear hrun hgd hbx hf
    by_cases hlt : at_ < n
    · have hm := hmay at_ (by rw [HLEN.out]; exact hlt)
      obtain ⟨cs, hcs, hrow⟩ := HP.out.ex
      obtain ⟨ad, rfl, _, h1⟩ := hcs (by omega)
      obtain ⟨A1, n1, k1, hrw, hk1le, hfl⟩ := hrow at_ hlt
      have hfw := HF4.out.trans' HF4R.out (fun k x y => by omega)
      have hx64 := HP.out.i64 (p.getD at_ default) (by rw [List.getD_eq_getElem?_getD, List.getElem?_eq_getElem (by rw [HLEN.out]; exact hlt)]; exact List.getElem_mem _)
      have HSTEP := Lib.hid (HGD.out.step (p.getD at_ default) hx64)
      have HNB := Lib.hid (next_bounds (s := st) hm (by rw [HLEN.out]; exact hlt))
      have HRG := Lib.hid (fun m => runP_go (c := c) (p := p) (n := m) (show at_ < p.length by rw [HLEN.out]; exact hlt) he)
      rw [HLEN.out] at hm HNB
      obtain ⟨q0, q1, q2, q3, q4⟩ := ins_cells (fun t u ht => hfw.cell (h1 t u ht) (fun x => x)) hrw
      obtain ⟨p1, p2, p3, p4, p5⟩ := mayB_parts hm
      have hkk := mayB_kind hm
      have hr8 : st.regs.length ≤ 8 := by have := HGD.out.rg; omega
      have HREL := Lib.hid (fun (w' : World) (vr' vw' : Value) (v : Value) (hv : v = .int .i64 (st.next (p.getD at_ default) at_ : Nat)) (he2 : (st.step c (p.getD at_ default)).e = 1) (hM : MAt w' w2.heap.size (w4.heap.size + 1) w4.heap.size hb hc vr' vw' (st.step c (p.getD at_ default))) (hfr : Fr (fun k => w2.heap.size ≤ k) wr w') => show RunRel c heap p n w2.heap.size (w4.heap.size + 1) w4.heap.size hb hc w.heap.size ((w4.alloc (.cells (ints (List.replicate c.rg.toNat 0)) 3)).alloc (.cells #[.int .i64 1, .slice (some ⟨w4.heap.size, 0, none⟩) c.rg.toNat c.rg.toNat, .slice none 0 0, .slice none 0 0] 46)) v w' from by
        obtain ⟨hb1, hb2⟩ := HNB.out
        obtain ⟨f', rfl⟩ : ∃ f', f = f' + 1 := ⟨f - 1, by omega⟩
        exact ⟨_, f', vr', vw', _, hb2, hv, by omega, by rw [← HRG.out f']; exact HRUN.out, HSTEP.out.more (by omega), hM, he2, HBR.out.frame hfr (by omega), HF4R.out.trans hfr⟩)
      have HFIN := Lib.hid (fun (he2 : (st.step c (p.getD at_ default)).e ≠ 1) => show st.step c (p.getD at_ default) = fullP c heap p from by
        obtain ⟨f', rfl⟩ : ∃ f', f = f' + 1 := ⟨f - 1, by omega⟩
        rw [← HRUN.out, HRG.out f', runP_stop (fun h => he2 h.2)])
      have HADIN := Lib.hid (addrV_in hfn (p.getD at_ default) st.regs)
      have HFL := Lib.hid (hfl.frame hfw (fun _ _ x => x.elim))
      have HHW := Lib.hid (show Flat wr G (some had) hn heap from HH.out.frame hfw (fun _ _ x => x.elim))
      generalize hxx : p.getD at_ default = x at *
      clear hm hcs hrow h1 hrw hfl hfw hxx
      obtain ⟨k, a, b, d, l⟩ := x
      dsimp only at q0 q1 q2 q3 q4 hx64 p1 p2 p3 p4 p5 hkk HFL
      have hob := blk_lt hMr.ho
      have hrb := blk_lt hMr.hr
      have hdr := hMr.dr
      have hhl : hb < wr.heap.size := (hMr.hh.lt hb rfl).2
      have hor : (w4.heap.size + 1) ≠ w4.heap.size := by omega
      have hoh : (w4.heap.size + 1) ≠ hb := by omega
      have hrbB : w2.heap.size ≤ w4.heap.size := hMr.b2
      have hobB : w2.heap.size ≤ (w4.heap.size + 1) := hMr.b1
      have hhbB : w2.heap.size ≤ hb := hMr.b3
      clear hMr
      obtain ⟨hp0, hp1⟩ := HADIN.out
      obtain ⟨i, hi⟩ := Int.eq_ofNat_of_zero_le hp0
      have hil : i < st.heap.length := by have := HNE.out; omega
      have HM := Lib.hid (HMR.out.frame ((Fr.refl (fun _ => False) wr).alloc (.cells #[.int .i64 k, .int .i64 a, .int .i64 b, .int .i64 d, .slice A1 n1 k1] 67)) (fun _ x => x.elim))
      have HAD := ref_addr_calls c ⟨k, a, b, d, l⟩ (.slice A1 n1 k1) (some ⟨w4.heap.size, 0, none⟩) st.regs.length st.regs.length st.regs _ (wr.alloc (.cells #[.int .i64 k, .int .i64 a, .int .i64 b, .int .i64 d, .slice A1 n1 k1] 67)) (MAt.flat HM.out) (by omega) hw64 hx64 ⟨_, _, _, rfl⟩
      rw [hi] at HAD
      unfold Conf.val at HAD
      dsimp only at HAD
      have HADD := Lib.hid HAD
      have HI1 := Lib.hid hi
      have HKA := Lib.hid (fun w' (hw : Fr (fun k => w2.heap.size ≤ k ∧ k < wr.heap.size) (wr.alloc (.cells #[.int .i64 k, .int .i64 a, .int .i64 b, .int .i64 d, .slice A1 n1 k1] 67)) w') => And.intro ((alloc_conf' _ _ _ HBR.out (.cells #[.int .i64 k, .int .i64 a, .int .i64 b, .int .i64 d, .slice A1 n1 k1] 67)).frame hw (fun x => by omega)).all (And.intro (box_ins (x := ⟨k, a, b, d, l⟩) (v := .slice A1 n1 k1) (hw.heap (heap_alloc_new wr _) (fun x => by omega))) trivial))
      dsimp only at HKA
      obtain ⟨⟨c0, c1, c2, c3, c4, c5, c6, c7, c8, c9, c10, c11⟩, ⟨x0, x1, x2, x3, x4⟩, _⟩ := HKA.out _ (Fr.refl _ _)
      have o1 : (wr.alloc (.cells #[.int .i64 k, .int .i64 a, .int .i64 b, .int .i64 d, .slice A1 n1 k1] 67)).cell? ⟨w4.heap.size + 1, 1, none⟩ = some (.slice (some ⟨w4.heap.size, 0, none⟩) st.regs.length st.regs.length) := by rw [blk_cell HM.out.ho]; rfl
      clear HAD hp0 hp1 hi
      have hks : k = 1 ∨ k = 2 ∨ k = 3 ∨ k = 4 ∨ k = 5 ∨ k = 6 ∨ k = 7 := by omega
      clear hkk
      rcases hks with rfl | rfl | rfl | rfl | rfl | rfl | rfl
      · as_aux_lemma =>
          obtain ⟨h0, h1⟩ := p1 (by omega)
          obtain ⟨a, rfl⟩ := Int.eq_ofNat_of_zero_le h0
          have ha : a < st.regs.length := by have := HGD.out.rg; omega
          clear h0 h1 p1
          have hih : i < hn := by omega
          have hih2 : ¬ hn ≤ i := by omega
          go_wp2_with (go_at_call 37; (with_reducible refine HADD.out.mono ?_); rintro ex w1 ⟨rfl, hf1⟩
                       have H1 := Lib.hid (show Fr (fun _ => False) wr w1 from ((Fr.refl (fun _ => False) wr).alloc (.cells #[.int .i64 1, .int .i64 a, .int .i64 b, .int .i64 d, .slice A1 n1 k1] 67)).trans hf1)
                       have HK1 := Lib.hid (fun w' (hw : Fr (fun k => w2.heap.size ≤ k ∧ k < wr.heap.size) w1 w') => HKA.out w' ((hf1.mono (fun _ x => x.elim)).trans hw))
                       have HM1 := Lib.hid (HM.out.frame hf1 (fun _ x => x.elim))
                       clear c0 c1 c2 c3 c4 c5 c6 c7 c8 c9 c10 c11 x0 x1 x2 x3 x4 o1 q0 q1 q2 q3 q4 hf1
                       obtain ⟨_, ⟨x0, x1, x2, x3, x4⟩, _⟩ := HK1.out _ (Fr.refl _ _)
                       have o1 : w1.cell? ⟨w4.heap.size + 1, 1, none⟩ = some (.slice (some ⟨w4.heap.size, 0, none⟩) st.regs.length st.regs.length) := by rw [blk_cell HM1.out.ho]; rfl
          )
          have y0 : w1.drew.cell? ⟨w4.heap.size, a, none⟩ = some (.int .i64 (st.regs.getD a 0)) := HM1.out.regCell a ha
          have z0 : w1.drew.frozen? ⟨w4.heap.size, a, none⟩ = false := by show w1.frozen? _ = false; rw [blk_free HM1.out.hr]
          have HHC := Lib.hid (HM1.out.heapCell i hil)
          generalize hg : st.heap.getD i 0 = g at *
          have HG := Lib.hid hg
          clear hg
          have HK2 := Lib.hid (fun w' (h : Fr (fun k => k = w4.heap.size) w1 w') => And.intro (show w'.cell? ⟨w4.heap.size + 1, 1, none⟩ = some (.slice (some ⟨w4.heap.size, 0, none⟩) st.regs.length st.regs.length) by rw [blk_cell (h.heap HM1.out.ho (fun x => hor x))]; rfl) (And.intro (h.cell HHC.out (fun x => hdr x.symm)) (HK1.out w' (h.mono (fun k x => by subst x; exact ⟨hrbB, hrb⟩))).2.1.2.1))
          go_region_held3 (fun w' => w'.cell? ⟨w4.heap.size + 1, 1, none⟩ = some (.slice (some ⟨w4.heap.size, 0, none⟩) st.regs.length st.regs.length) ∧ w'.cell? ⟨hb, i, none⟩ = some (.int .i64 g) ∧ w'.cell? ⟨wr.heap.size, 1, none⟩ = some (.int .i64 a))
            (first | exact HK2.out _ (Fr.refl _ _).drew | exact HK2.out _ ((Fr.refl (fun k => k = w4.heap.size) w1).drew.setCell (p := ⟨w4.heap.size, a, none⟩) (.inl rfl) _)) (fail)
          have HM2 := Lib.hid ((HM1.out.setReg a g).frame ((Fr.refl (fun _ => False) (w1.setCell ⟨w4.heap.size, a, none⟩ (.int .i64 g))).drew) (fun _ x => x.elim))
          have H2 := Lib.hid (show Fr (fun k => w2.heap.size ≤ k) wr (w1.setCell ⟨w4.heap.size, a, none⟩ (.int .i64 g)).drew from (H1.out.mono (fun _ x => x.elim)).trans ((Fr.refl (fun k => w2.heap.size ≤ k) w1).setCell (p := ⟨w4.heap.size, a, none⟩) (.inl hrbB) _).drew)
          generalize (w1.setCell ⟨w4.heap.size, a, none⟩ (.int .i64 g)).drew = w9 at *
          clear y0 z0 HK2 HHC o1 x0 x1 x2 x3 x4
          have HH3 := HM2.out.heapCell i hil
          dsimp only at HH3
          rw [HG.out] at HH3
          have o2 : w9.cell? ⟨w4.heap.size + 1, 2, none⟩ = some vr := by rw [blk_cell HM2.out.ho]; rfl
          go_wp2
          have hfa := (Fr.refl (fun _ => False) w9).drew.alloc (.cells #[.int .i64 i, .int .i64 g] 54)
          have HM3 := Lib.hid (HM2.out.frame hfa (fun _ x => x.elim))
          have hw92 := H2.out.size
          have hnb := heap_alloc_new w9.drew (.cells #[.int .i64 i, .int .i64 g] 54)
          have HFA3 := Lib.hid hfa
          have HNBL := Lib.hid hnb
          have hlen3 : Hid (st.rs.length / 2 ≤ 100000) := by show _ ≤ _; have := HGD.out.len; omega
          have hB3 : Hid (w2.heap.size ≤ (w9.drew.alloc (.cells #[.int .i64 i, .int .i64 g] 54)).heap.size) := by show _ ≤ _; simp; omega
          have o2a : (w9.alloc (.cells #[.int .i64 i, .int .i64 g] 54)).cell? ⟨w4.heap.size + 1, 2, none⟩ = some vr := by rw [blk_cell (blk_alloc HM2.out.ho _)]; rfl
          clear hfa hnb
          go_region_law (refine step_append_acc _ (by rfl) (.tmp 67) (.tmp 74) (by rfl) w2.heap.size vr _ _ (by rfl) HM3.out.hrs w9.drew.heap.size i g (by rfl) HNBL.out hlen3.out hB3.out ?_
                         rintro v' w3 ho3 hf3 hb3 ⟨g3, c3, rfl⟩
                         have HM4 := Lib.hid (HM3.out.pushR i g hf3 ho3 (by simpa using hb3) HGD.out.re)
                         have ho4 := hf3.heap HM3.out.ho (fun x => by
                           obtain ⟨_, cur, h2⟩ := row_block HM3.out.hrs x
                           rw [HM3.out.ho] at h2
                           injection h2 with h3
                           injection h3 with _ h4
                           exact absurd h4 (by decide))
                         have q2 : w3.cell? ⟨w4.heap.size + 1, 2, none⟩ = some vr := by rw [blk_cell ho4]; rfl
                         have z2 : w3.frozen? ⟨w4.heap.size + 1, 2, none⟩ = false := by rw [blk_free ho4]
                         have HF3 := Lib.hid hf3
                         have hrow := fun gg hh => (row_block HM3.out.hrs (g := gg) hh).1
                         have HROW := Lib.hid hrow
                         clear ho3 hf3 hb3 ho4 hrow)
          all_goals
            go_wp2
            go_roundw
            case rel =>
              refine HREL.out _ (.slice (some ⟨g3, 0, none⟩) (st.rs.length / 2 + 1) c3) vw _ (by rw [next_one (by decide)]; go_num) (step_e (by decide) (by decide) he) (?_) (H2.out.trans ((HFA3.out.mono (fun _ x => x.elim)).trans ((HF3.out.mono (fun k x => HROW.out k x)).trans ((Fr.refl (fun k => w2.heap.size ≤ k) w3).setCell (p := ⟨w4.heap.size + 1, 2, none⟩) (.inl hobB) _))))
              unfold PS.step
              rw [if_pos rfl]
              rw [HI1.out, Int.toNat_natCast, Int.toNat_natCast, HG.out]
              exact HM4.out
            case measure => simp [intOf]; omega
      · as_aux_lemma =>
          obtain ⟨h0, h1⟩ := p1 (by omega)
          obtain ⟨a, rfl⟩ := Int.eq_ofNat_of_zero_le h0
          have ha : a < st.regs.length := by have := HGD.out.rg; omega
          clear h0 h1 p1
          have hg : ∃ g, st.regs.getD a 0 = g := ⟨_, rfl⟩
          obtain ⟨g, hg⟩ := hg
          have HG := Lib.hid hg
          clear hg
          have hih : i < hn := by omega
          have hih' : ¬ hn ≤ i := by omega
          go_wp2_with (go_at_call 37; (with_reducible refine HADD.out.mono ?_); rintro ex w1 ⟨rfl, hf1⟩
                       have H1 := Lib.hid (show Fr (fun _ => False) wr w1 from ((Fr.refl (fun _ => False) wr).alloc (.cells #[.int .i64 2, .int .i64 a, .int .i64 b, .int .i64 d, .slice A1 n1 k1] 67)).trans hf1)
                       have HK1 := Lib.hid (fun w' (hw : Fr (fun k => w2.heap.size ≤ k ∧ k < wr.heap.size) w1 w') => HKA.out w' ((hf1.mono (fun _ x => x.elim)).trans hw))
                       have HM1 := Lib.hid (HM.out.frame hf1 (fun _ x => x.elim))
                       clear c0 c1 c2 c3 c4 c5 c6 c7 c8 c9 c10 c11 x0 x1 x2 x3 x4 o1 q0 q1 q2 q3 q4 hf1
                       obtain ⟨_, ⟨x0, x1, x2, x3, x4⟩, _⟩ := HK1.out _ (Fr.refl _ _)
                       have o1 : w1.cell? ⟨w4.heap.size + 1, 1, none⟩ = some (.slice (some ⟨w4.heap.size, 0, none⟩) st.regs.length st.regs.length) := by rw [blk_cell HM1.out.ho]; rfl
                       have y0 : w1.cell? ⟨w4.heap.size, a, none⟩ = some (.int .i64 g) := by rw [← HG.out]; exact HM1.out.regCell a ha
                       have y1 : w1.cell? ⟨hb, i, none⟩ = some (.int .i64 (st.heap.getD i 0)) := HM1.out.heapCell i hil
                       have z1 : w1.frozen? ⟨hb, i, none⟩ = false := by
                         obtain ⟨_, cur, hcb⟩ := row_block HM1.out.hh rfl
                         rw [blk_free hcb])
          have HM2 := Lib.hid (HM1.out.setHeap i g)
          have H2 := Lib.hid (show Fr (fun k => w2.heap.size ≤ k) wr (w1.setCell ⟨hb, i, none⟩ (.int .i64 g)) from (H1.out.mono (fun _ x => x.elim)).trans ((Fr.refl (fun k => w2.heap.size ≤ k) w1).setCell (p := ⟨hb, i, none⟩) (.inl hhbB) _))
          generalize w1.setCell ⟨hb, i, none⟩ (.int .i64 g) = w9 at *
          clear y0 y1 z1 o1 x0 x1 x2 x3 x4
          have HH3 := HM2.out.heapCell i (by dsimp only; rw [List.length_set]; exact hil)
          dsimp only at HH3
          rw [List.getD_eq_getElem?_getD, List.getElem?_set_self hil] at HH3
          simp only [Option.getD_some] at HH3
          have o2 : w9.cell? ⟨w4.heap.size + 1, 3, none⟩ = some vw := by rw [blk_cell HM2.out.ho]; rfl
          go_wp2
          have hfa := (Fr.refl (fun _ => False) w9).drew.alloc (.cells #[.int .i64 i, .int .i64 g] 54)
          have HM3 := Lib.hid (HM2.out.frame hfa (fun _ x => x.elim))
          have hw92 := H2.out.size
          have hnb := heap_alloc_new w9.drew (.cells #[.int .i64 i, .int .i64 g] 54)
          have HFA3 := Lib.hid hfa
          have HNBL := Lib.hid hnb
          have hlen3 : Hid (st.ws.length / 2 ≤ 100000) := by show _ ≤ _; have := HGD.out.len; omega
          have hB3 : Hid (w2.heap.size ≤ (w9.drew.alloc (.cells #[.int .i64 i, .int .i64 g] 54)).heap.size) := by show _ ≤ _; simp; omega
          have o2a : (w9.alloc (.cells #[.int .i64 i, .int .i64 g] 54)).cell? ⟨w4.heap.size + 1, 3, none⟩ = some vw := by rw [blk_cell (blk_alloc HM2.out.ho _)]; rfl
          clear hfa hnb
          go_region_law (refine step_append_acc _ (by rfl) (.tmp 89) (.tmp 96) (by rfl) w2.heap.size vw _ _ (by rfl) HM3.out.hws w9.drew.heap.size i g (by rfl) HNBL.out hlen3.out hB3.out ?_
                         rintro v' w3 ho3 hf3 hb3 ⟨g3, c3, rfl⟩
                         have HM4 := Lib.hid (HM3.out.pushW i g hf3 ho3 (by simpa using hb3) HGD.out.we)
                         have ho4 := hf3.heap HM3.out.ho (fun x => by
                           obtain ⟨_, cur, h2⟩ := row_block HM3.out.hws x
                           rw [HM3.out.ho] at h2
                           injection h2 with h3
                           injection h3 with _ h4
                           exact absurd h4 (by decide))
                         have q2 : w3.cell? ⟨w4.heap.size + 1, 3, none⟩ = some vw := by rw [blk_cell ho4]; rfl
                         have z2 : w3.frozen? ⟨w4.heap.size + 1, 3, none⟩ = false := by rw [blk_free ho4]
                         have HF3 := Lib.hid hf3
                         have hrow := fun gg hh => (row_block HM3.out.hws (g := gg) hh).1
                         have HROW := Lib.hid hrow
                         clear ho3 hf3 hb3 ho4 hrow)
          all_goals
            go_wp2
            go_roundw
            case rel =>
              refine HREL.out _ vr (.slice (some ⟨g3, 0, none⟩) (st.ws.length / 2 + 1) c3) _ (by rw [next_one (by decide)]; go_num) (step_e (by decide) (by decide) he) (?_) (H2.out.trans ((HFA3.out.mono (fun _ x => x.elim)).trans ((HF3.out.mono (fun k x => HROW.out k x)).trans ((Fr.refl (fun k => w2.heap.size ≤ k) w3).setCell (p := ⟨w4.heap.size + 1, 3, none⟩) (.inl hobB) _))))
              unfold PS.step
              rw [if_neg (show ¬ (2 : Int) = 1 by decide), if_pos rfl]
              simp only [HI1.out, Int.toNat_natCast, HG.out]
              exact HM4.out
            case measure => simp [intOf]; omega
      · as_aux_lemma =>
          obtain ⟨h0, h1⟩ := p1 (by omega)
          obtain ⟨a, rfl⟩ := Int.eq_ofNat_of_zero_le h0
          have ha : a < st.regs.length := by have := HGD.out.rg; omega
          clear h0 h1 p1
          go_wp2_with (go_at_call 37; (with_reducible refine HADD.out.mono ?_); rintro ex w1 ⟨rfl, hf1⟩
                       have H1 := Lib.hid (show Fr (fun _ => False) wr w1 from ((Fr.refl (fun _ => False) wr).alloc (.cells #[.int .i64 3, .int .i64 a, .int .i64 b, .int .i64 d, .slice A1 n1 k1] 67)).trans hf1)
                       have HK1 := Lib.hid (fun w' (hw : Fr (fun k => w2.heap.size ≤ k ∧ k < wr.heap.size) w1 w') => HKA.out w' ((hf1.mono (fun _ x => x.elim)).trans hw))
                       have HM1 := Lib.hid (HM.out.frame hf1 (fun _ x => x.elim))
                       clear c0 c1 c2 c3 c4 c5 c6 c7 c8 c9 c10 c11 x0 x1 x2 x3 x4 o1 q0 q1 q2 q3 q4 hf1
                       obtain ⟨_, ⟨x0, x1, x2, x3, x4⟩, _⟩ := HK1.out _ (Fr.refl _ _)
                       have o1 : w1.cell? ⟨w4.heap.size + 1, 1, none⟩ = some (.slice (some ⟨w4.heap.size, 0, none⟩) st.regs.length st.regs.length) := by rw [blk_cell HM1.out.ho]; rfl
                       have y0 : w1.cell? ⟨w4.heap.size, a, none⟩ = some (.int .i64 (st.regs.getD a 0)) := HM1.out.regCell a ha
                       have z0 : w1.frozen? ⟨w4.heap.size, a, none⟩ = false := by rw [blk_free HM1.out.hr])
          go_roundw
          case rel => exact HREL.out _ _ _ _ (by rw [next_one (by decide)]; go_num) (step_e (by decide) (by decide) he) (HM1.out.setReg a b) ((H1.out.mono (fun _ x => x.elim)).trans ((Fr.refl (fun k => w2.heap.size ≤ k) w1).setCell (p := ⟨w4.heap.size, a, none⟩) (.inl hrbB) _))
          case measure => simp [intOf]; omega
      · as_aux_lemma =>
          obtain ⟨h0, h1⟩ := p1 (by omega)
          obtain ⟨a, rfl⟩ := Int.eq_ofNat_of_zero_le h0
          have ha : a < st.regs.length := by have := HGD.out.rg; omega
          clear h0 h1 p1
          obtain ⟨_, _, hl8, hlr⟩ := p3 rfl
          have hlr' : ∀ r ∈ l, 0 ≤ r ∧ r < st.regs.length := fun r hr => by have := hlr r hr; have := HGD.out.rg; omega
          have HLR := Lib.hid hlr'
          have hn1 : n1 ≤ 20000 := by have := HFL.out.len; omega
          clear hlr hlr' p3
          have HX64 := Lib.hid (show ∀ y ∈ argsOf ⟨4, a, b, d, l⟩ st.regs, I64 y from by
            intro y hy
            obtain ⟨r, _, rfl⟩ := List.mem_map.1 hy
            rw [List.getD_eq_getElem?_getD]
            cases hx : st.regs[r.toNat]? with
            | none => exact ⟨by decide, by decide⟩
            | some y => exact HGD.out.ri y (List.mem_of_getElem? hx))
          go_wp2_with (go_at_call 37; (with_reducible refine HADD.out.mono ?_); rintro ex w1 ⟨rfl, hf1⟩
                       have H1 := Lib.hid (show Fr (fun _ => False) wr w1 from ((Fr.refl (fun _ => False) wr).alloc (.cells #[.int .i64 4, .int .i64 a, .int .i64 b, .int .i64 d, .slice A1 n1 k1] 67)).trans hf1)
                       have HK1 := Lib.hid (fun w' (hw : Fr (fun k => w2.heap.size ≤ k ∧ k < wr.heap.size) w1 w') => HKA.out w' ((hf1.mono (fun _ x => x.elim)).trans hw))
                       have HM1 := Lib.hid (HM.out.frame hf1 (fun _ x => x.elim))
                       clear c0 c1 c2 c3 c4 c5 c6 c7 c8 c9 c10 c11 x0 x1 x2 x3 x4 o1 q0 q1 q2 q3 q4 hf1
                       obtain ⟨_, ⟨x0, x1, x2, x3, x4⟩, _⟩ := HK1.out _ (Fr.refl _ _)
                       have o1 : w1.cell? ⟨w4.heap.size + 1, 1, none⟩ = some (.slice (some ⟨w4.heap.size, 0, none⟩) st.regs.length st.regs.length) := by rw [blk_cell HM1.out.ho]; rfl
          )
          have HAR := Lib.hid (ref_args_calls ⟨4, a, b, d, l⟩ A1 n1 k1 (some ⟨w4.heap.size, 0, none⟩) st.regs.length st.regs.length st.regs _ _ w1.drew (HFL.out.frame (H1.out.trans (Fr.refl (fun _ => False) w1).drew) (fun _ _ x => x.elim)) (MAt.flat (HM1.out.frame (Fr.refl (fun _ => False) w1).drew (fun _ x => x.elim))) hn1 HGD.out.ri HLR.out)
          generalize hxs : argsOf ⟨4, a, b, d, l⟩ st.regs = xs at *
          have HXS := Lib.hid hxs
          clear hxs
          dsimp only at HAR
          have HK2 := Lib.hid (fun w' (h : Fr (fun k => k = w4.heap.size) w1 w') => And.intro (show w'.cell? ⟨w4.heap.size + 1, 1, none⟩ = some (.slice (some ⟨w4.heap.size, 0, none⟩) st.regs.length st.regs.length) by rw [blk_cell (h.heap HM1.out.ho (fun x => hor x))]; rfl) (HK1.out w' (h.mono (fun k x => by subst x; exact ⟨hrbB, hrb⟩))).2.1)
          have y0 : w1.drew.cell? ⟨w4.heap.size, a, none⟩ = some (.int .i64 (st.regs.getD a 0)) := HM1.out.regCell a ha
          go_region_held3 (fun w' => w'.cell? ⟨w4.heap.size + 1, 1, none⟩ = some (.slice (some ⟨w4.heap.size, 0, none⟩) st.regs.length st.regs.length) ∧ w'.cell? ⟨wr.heap.size, 0, none⟩ = some (.int .i64 4) ∧ w'.cell? ⟨wr.heap.size, 1, none⟩ = some (.int .i64 a) ∧ w'.cell? ⟨wr.heap.size, 2, none⟩ = some (.int .i64 b) ∧ w'.cell? ⟨wr.heap.size, 3, none⟩ = some (.int .i64 d) ∧ w'.cell? ⟨wr.heap.size, 4, none⟩ = some (.slice A1 n1 k1))
            (first | exact HK2.out _ hk3 | exact HK2.out _ hk2 | exact HK2.out _ hk1 | exact HK2.out _ (Fr.refl _ _).drew) (first
            | (go_at_call 39; (with_reducible refine HAR.out.mono ?_); rintro ex w6 ⟨v6, rfl, ho6, hf6⟩
               obtain ⟨A6, cap6, rfl, hic6, _⟩ := ho6.shape HX64.out
               have hk1 : Fr (fun k => k = w4.heap.size) w1 w6 := ((Fr.refl (fun _ => False) w1).drew.trans hf6).mono (fun _ x => x.elim)
               have HE := Lib.hid (refEvalC b A6 xs.length cap6 xs w6 hic6)
               clear ho6 hic6)
            | (go_at_call 38; (with_reducible refine HE.out.mono ?_); rintro ex w7 ⟨rfl, hf7⟩
               have hk2 : Fr (fun k => k = w4.heap.size) w1 w7 := hk1.trans (hf7.mono (fun _ x => x.elim))
               have hM7 := HM1.out.frame ((Fr.refl (fun _ => False) w1).drew.trans (hf6.trans hf7)) (fun _ x => x.elim)
               have y1 : w7.cell? ⟨w4.heap.size, a, none⟩ = some (.int .i64 (st.regs.getD a 0)) := hM7.regCell a ha
               have z1 : w7.frozen? ⟨w4.heap.size, a, none⟩ = false := by rw [blk_free hM7.hr]
               have hk3 := hk2.setCell (p := ⟨w4.heap.size, a, none⟩) (.inl rfl) (.int .i64 (evalV b xs))
               have HM7 := Lib.hid hM7
               clear hM7))
          all_goals
            go_wp2
            go_roundw
            case rel =>
              refine HREL.out _ vr vw _ (by rw [next_one (by decide)]; go_num) (step_e (by decide) (by decide) he) (?_) ((H1.out.mono (fun _ x => x.elim)).trans (hk3.mono (fun k x => by subst x; exact hrbB)))
              rw [show st.step c ⟨4, a, b, d, l⟩ = { st with regs := st.regs.set a (evalV b xs) } from by rw [← HXS.out]; rfl]
              exact HM7.out.setReg a (evalV b xs)
            case measure => simp [intOf]; omega
      · as_aux_lemma =>
          obtain ⟨h0, h1⟩ := p1 (by omega)
          obtain ⟨a, rfl⟩ := Int.eq_ofNat_of_zero_le h0
          have ha : a < st.regs.length := by have := HGD.out.rg; omega
          clear h0 h1 p1
          obtain ⟨hb1, hb2⟩ := p4 rfl
          obtain ⟨b, rfl⟩ := Int.eq_ofNat_of_zero_le (show 0 ≤ b by omega)
          obtain ⟨g, hg⟩ : ∃ g, st.regs.getD a 0 = g := ⟨_, rfl⟩
          have HG := Lib.hid hg
          clear hg
          have hcase : (g != 0) = true ∨ (g != 0) = false := by cases (g != 0) <;> simp
          rcases hcase with hd | hd
          · have HNX := Lib.hid (show st.next ⟨5, a, b, d, l⟩ at_ = b from by
              unfold PS.next
              rw [if_pos ⟨rfl, by rw [Int.toNat_natCast, HG.out]; simpa using hd⟩]
              rfl)
            go_wp2_with (go_at_call 37; (with_reducible refine HADD.out.mono ?_); rintro ex w1 ⟨rfl, hf1⟩
                         have H1 := Lib.hid (show Fr (fun _ => False) wr w1 from ((Fr.refl (fun _ => False) wr).alloc (.cells #[.int .i64 5, .int .i64 a, .int .i64 b, .int .i64 d, .slice A1 n1 k1] 67)).trans hf1)
                         have HK1 := Lib.hid (fun w' (hw : Fr (fun k => w2.heap.size ≤ k ∧ k < wr.heap.size) w1 w') => HKA.out w' ((hf1.mono (fun _ x => x.elim)).trans hw))
                         have HM1 := Lib.hid (HM.out.frame hf1 (fun _ x => x.elim))
                         clear c0 c1 c2 c3 c4 c5 c6 c7 c8 c9 c10 c11 x0 x1 x2 x3 x4 o1 q0 q1 q2 q3 q4 hf1
                         obtain ⟨_, ⟨x0, x1, x2, x3, x4⟩, _⟩ := HK1.out _ (Fr.refl _ _)
                         have o1 : w1.cell? ⟨w4.heap.size + 1, 1, none⟩ = some (.slice (some ⟨w4.heap.size, 0, none⟩) st.regs.length st.regs.length) := by rw [blk_cell HM1.out.ho]; rfl
                         have y0 : w1.cell? ⟨w4.heap.size, a, none⟩ = some (.int .i64 g) := by rw [← HG.out]; exact HM1.out.regCell a ha)
            go_roundw
            case rel => exact HREL.out _ _ _ _ (by rw [HNX.out]) (step_e (by decide) (by decide) he) HM1.out (H1.out.mono (fun _ x => x.elim))
            case measure => simp [intOf]; omega
          · have HNX := Lib.hid (show st.next ⟨5, a, b, d, l⟩ at_ = at_ + 1 from by
              unfold PS.next
              rw [if_neg (by rw [Int.toNat_natCast, HG.out]; exact fun h => by have h2 := h.2; simp at hd; exact h2 hd)])
            go_wp2_with (go_at_call 37; (with_reducible refine HADD.out.mono ?_); rintro ex w1 ⟨rfl, hf1⟩
                         have H1 := Lib.hid (show Fr (fun _ => False) wr w1 from ((Fr.refl (fun _ => False) wr).alloc (.cells #[.int .i64 5, .int .i64 a, .int .i64 b, .int .i64 d, .slice A1 n1 k1] 67)).trans hf1)
                         have HK1 := Lib.hid (fun w' (hw : Fr (fun k => w2.heap.size ≤ k ∧ k < wr.heap.size) w1 w') => HKA.out w' ((hf1.mono (fun _ x => x.elim)).trans hw))
                         have HM1 := Lib.hid (HM.out.frame hf1 (fun _ x => x.elim))
                         clear c0 c1 c2 c3 c4 c5 c6 c7 c8 c9 c10 c11 x0 x1 x2 x3 x4 o1 q0 q1 q2 q3 q4 hf1
                         obtain ⟨_, ⟨x0, x1, x2, x3, x4⟩, _⟩ := HK1.out _ (Fr.refl _ _)
                         have o1 : w1.cell? ⟨w4.heap.size + 1, 1, none⟩ = some (.slice (some ⟨w4.heap.size, 0, none⟩) st.regs.length st.regs.length) := by rw [blk_cell HM1.out.ho]; rfl
                         have y0 : w1.cell? ⟨w4.heap.size, a, none⟩ = some (.int .i64 g) := by rw [← HG.out]; exact HM1.out.regCell a ha)
            go_roundw
            case rel => exact HREL.out _ _ _ _ (by rw [HNX.out]; go_num) (step_e (by decide) (by decide) he) HM1.out (H1.out.mono (fun _ x => x.elim))
            case measure => simp [intOf]; omega
      · as_aux_lemma =>
          obtain ⟨A2, k2, rfl, _⟩ := row_shape HMR.out.hrs
          obtain ⟨A3, k3, rfl, _⟩ := row_shape HMR.out.hws
          go_wp2_with (go_at_call 37; (with_reducible refine HADD.out.mono ?_); rintro ex w1 ⟨rfl, hf1⟩
                       have H1 := Lib.hid (show Fr (fun _ => False) wr w1 from ((Fr.refl (fun _ => False) wr).alloc (.cells #[.int .i64 6, .int .i64 a, .int .i64 b, .int .i64 d, .slice A1 n1 k1] 67)).trans hf1)
                       have HK1 := Lib.hid (fun w' (hw : Fr (fun k => w2.heap.size ≤ k ∧ k < wr.heap.size) w1 w') => HKA.out w' ((hf1.mono (fun _ x => x.elim)).trans hw))
                       have HM1 := Lib.hid (HM.out.frame hf1 (fun _ x => x.elim))
                       clear c0 c1 c2 c3 c4 c5 c6 c7 c8 c9 c10 c11 x0 x1 x2 x3 x4 o1 q0 q1 q2 q3 q4 hf1
                       obtain ⟨_, ⟨x0, x1, x2, x3, x4⟩, _⟩ := HK1.out _ (Fr.refl _ _)
                       have o1 : w1.cell? ⟨w4.heap.size + 1, 1, none⟩ = some (.slice (some ⟨w4.heap.size, 0, none⟩) st.regs.length st.regs.length) := by rw [blk_cell HM1.out.ho]; rfl
                       have y0 : w1.cell? ⟨w4.heap.size + 1, 0, none⟩ = some (.int .i64 st.e) := by rw [blk_cell HM1.out.ho]; rfl
                       have z0 : w1.frozen? ⟨w4.heap.size + 1, 0, none⟩ = false := by rw [blk_free HM1.out.ho])
          have HM2 := Lib.hid (HM1.out.setE 2)
          have H2 := Lib.hid (show Fr (fun k => w2.heap.size ≤ k) wr (w1.setCell ⟨w4.heap.size + 1, 0, none⟩ (.int .i64 2)) from (H1.out.mono (fun _ x => x.elim)).trans ((Fr.refl (fun k => w2.heap.size ≤ k) w1).setCell (p := ⟨w4.heap.size + 1, 0, none⟩) (.inl hobB) _))
          generalize w1.setCell ⟨w4.heap.size + 1, 0, none⟩ (.int .i64 2) = w9 at *
          clear y0 z0 o1 x0 x1 x2 x3 x4
          have HFW9 := Lib.hid (show Fr (fun _ => False) w w9 from HF4.out.trans' (HF4R.out.trans H2.out) (fun k x y => by omega))
          have HCP := Lib.hid (copyOwnR_calls had hn hcap heap G w9.drew (HH.out.frame HFW9.out.drew (fun _ _ x => x.elim)) (by omega) hhn.1)
          have HBL9 := Lib.hid ((HF4R.out.trans H2.out).heap HBL4.out (fun x => by omega))
          have HS9 := Lib.hid (fun w' (h : Fr (fun k => k = w.heap.size + 1) w9 w') => show w'.cell? ⟨w4.heap.size + 1, 0, none⟩ = some (.int .i64 2) ∧ w'.cell? ⟨w4.heap.size + 1, 1, none⟩ = some (.slice (some ⟨w4.heap.size, 0, none⟩) st.regs.length st.regs.length) ∧ w'.cell? ⟨w4.heap.size + 1, 2, none⟩ = some (.slice A2 (st.rs.length / 2) k2) ∧ w'.cell? ⟨w4.heap.size + 1, 3, none⟩ = some (.slice A3 (st.ws.length / 2) k3) from by
            have hx := h.heap HM2.out.ho (fun x => by omega)
            exact ⟨by rw [blk_cell hx]; rfl, by rw [blk_cell hx]; rfl, by rw [blk_cell hx]; rfl, by rw [blk_cell hx]; rfl⟩)
          have hw9 := H2.out.size
          go_region_held3 (fun w' => w'.cell? ⟨w4.heap.size + 1, 0, none⟩ = some (.int .i64 2) ∧ w'.cell? ⟨w4.heap.size + 1, 1, none⟩ = some (.slice (some ⟨w4.heap.size, 0, none⟩) st.regs.length st.regs.length) ∧ w'.cell? ⟨w4.heap.size + 1, 2, none⟩ = some (.slice A2 (st.rs.length / 2) k2) ∧ w'.cell? ⟨w4.heap.size + 1, 3, none⟩ = some (.slice A3 (st.ws.length / 2) k3))
            (first | exact HS9.out _ hk9 | exact HS9.out _ hk8 | exact HS9.out _ (Fr.refl _ _).drew) (first
            | (go_at_call 20; (with_reducible refine HCP.out.mono ?_); rintro ex w10 ⟨g, cg, rfl, hog, hf10⟩
               have hk8 : Fr (fun k => k = w.heap.size + 1) w9 w10 := ((Fr.refl (fun _ => False) w9).drew.trans hf10).mono (fun _ x => x.elim)
               have hb6 := ((Fr.refl (fun _ => False) w9).drew.trans hf10).heap HBL9.out (fun x => x)
               have q0x : w10.cell? ⟨w.heap.size + 1, 0, none⟩ = some (.int .i64 0) := by rw [blk_cell hb6]; rfl
               have z0x : w10.frozen? ⟨w.heap.size + 1, 0, none⟩ = false := by rw [blk_free hb6]
               have q1x : w10.cell? ⟨w.heap.size + 1, 1, none⟩ = some (.slice none 0 0) := by rw [blk_cell hb6]; rfl
               have z1x : w10.frozen? ⟨w.heap.size + 1, 1, none⟩ = false := by rw [blk_free hb6]
               have q2x : w10.cell? ⟨w.heap.size + 1, 2, none⟩ = some (.slice none 0 0) := by rw [blk_cell hb6]; rfl
               have z2x : w10.frozen? ⟨w.heap.size + 1, 2, none⟩ = false := by rw [blk_free hb6]
               have q3x : w10.cell? ⟨w.heap.size + 1, 3, none⟩ = some (.slice none 0 0) := by rw [blk_cell hb6]; rfl
               have z3x : w10.frozen? ⟨w.heap.size + 1, 3, none⟩ = false := by rw [blk_free hb6]
               have HB6 := Lib.hid (out_block hb6 2 (.slice (some ⟨w4.heap.size, 0, none⟩) st.regs.length st.regs.length) (.slice A2 (st.rs.length / 2) k2) (.slice A3 (st.ws.length / 2) k3))
               have hf6 := fr_out w10 (w.heap.size + 1) (.int .i64 2) (.slice (some ⟨w4.heap.size, 0, none⟩) st.regs.length st.regs.length) (.slice A2 (st.rs.length / 2) k2) (.slice A3 (st.ws.length / 2) k3)
               have hk9 := hk8.trans hf6
               have HF6 := Lib.hid hf6
               have HO := Lib.hid (show OutAt w10 w2.heap.size { st with e := 2 } heap (some ⟨w4.heap.size, 0, none⟩) st.regs.length st.regs.length A2 (st.rs.length / 2) k2 A3 (st.ws.length / 2) k3 (some ⟨g, 0, none⟩) hn cg from by
                 obtain ⟨A', c', e', hfl⟩ := Flat.ofOwn hog
                 cases e'
                 rw [Nat.mul_one] at hfl
                 exact out_off HM2.out ((Fr.refl (fun _ => False) w9).drew.trans hf10) hfl (by omega) (by omega) (by unfold PS.after; rw [if_neg (show ¬ (2 : Int) = 1 by decide)]))
               have HF10 := Lib.hid (show Fr (fun _ => False) w9 w10 from (Fr.refl (fun _ => False) w9).drew.trans hf10)
               clear hf6 hb6 hog hf10))
          all_goals
            go_wp2
            generalize ((((w10.setCell ⟨w.heap.size + 1, 0, none⟩ (.int .i64 2)).setCell ⟨w.heap.size + 1, 1, none⟩ (.slice (some ⟨w4.heap.size, 0, none⟩) st.regs.length st.regs.length)).setCell ⟨w.heap.size + 1, 2, none⟩ (.slice A2 (st.rs.length / 2) k2)).setCell ⟨w.heap.size + 1, 3, none⟩ (.slice A3 (st.ws.length / 2) k3)) = w7 at *
            obtain ⟨r0, r1, r2, r3⟩ := HB6.out
            have hfull : ({ st with e := 2 } : PS) = fullP c heap p := HFIN.out (show (st.step c ⟨6, a, b, d, l⟩).e ≠ 1 from by show (2 : Int) ≠ 1; decide)
            refine bodyPost_ret (v := .tuple #[.agg #[.int .i64 2, .slice (some ⟨w4.heap.size, 0, none⟩) st.regs.length st.regs.length, .slice A2 (st.rs.length / 2) k2, .slice A3 (st.ws.length / 2) k3], .slice (some ⟨g, 0, none⟩) hn cg, .int .i64 0]) (by simp [results, Try.results21, go_sem, r0, r1, r2, r3]; try rfl) rfl ⟨_, _, _, _, _, _, _, _, _, _, _, _, by rw [← hfull], by rw [← hfull]; exact (HO.out.frame HF6.out (fun k x y => by omega)).mono (by omega), (HFW9.out.trans HF10.out).trans' HF6.out (fun k x y => by omega)⟩
      · as_aux_lemma =>
          obtain ⟨A2, k2, rfl, _⟩ := row_shape HMR.out.hrs
          obtain ⟨A3, k3, rfl, _⟩ := row_shape HMR.out.hws
          go_wp2_with (go_at_call 37; (with_reducible refine HADD.out.mono ?_); rintro ex w1 ⟨rfl, hf1⟩
                       have H1 := Lib.hid (show Fr (fun _ => False) wr w1 from ((Fr.refl (fun _ => False) wr).alloc (.cells #[.int .i64 7, .int .i64 a, .int .i64 b, .int .i64 d, .slice A1 n1 k1] 67)).trans hf1)
                       have HK1 := Lib.hid (fun w' (hw : Fr (fun k => w2.heap.size ≤ k ∧ k < wr.heap.size) w1 w') => HKA.out w' ((hf1.mono (fun _ x => x.elim)).trans hw))
                       have HM1 := Lib.hid (HM.out.frame hf1 (fun _ x => x.elim))
                       clear c0 c1 c2 c3 c4 c5 c6 c7 c8 c9 c10 c11 x0 x1 x2 x3 x4 o1 q0 q1 q2 q3 q4 hf1
                       obtain ⟨_, ⟨x0, x1, x2, x3, x4⟩, _⟩ := HK1.out _ (Fr.refl _ _)
                       have o1 : w1.cell? ⟨w4.heap.size + 1, 1, none⟩ = some (.slice (some ⟨w4.heap.size, 0, none⟩) st.regs.length st.regs.length) := by rw [blk_cell HM1.out.ho]; rfl
                       have y0 : w1.cell? ⟨w4.heap.size + 1, 0, none⟩ = some (.int .i64 st.e) := by rw [blk_cell HM1.out.ho]; rfl
                       have z0 : w1.frozen? ⟨w4.heap.size + 1, 0, none⟩ = false := by rw [blk_free HM1.out.ho])
          have HM2 := Lib.hid (HM1.out.setE 3)
          have H2 := Lib.hid (show Fr (fun k => w2.heap.size ≤ k) wr (w1.setCell ⟨w4.heap.size + 1, 0, none⟩ (.int .i64 3)) from (H1.out.mono (fun _ x => x.elim)).trans ((Fr.refl (fun k => w2.heap.size ≤ k) w1).setCell (p := ⟨w4.heap.size + 1, 0, none⟩) (.inl hobB) _))
          generalize w1.setCell ⟨w4.heap.size + 1, 0, none⟩ (.int .i64 3) = w9 at *
          clear y0 z0 o1 x0 x1 x2 x3 x4
          have HFW9 := Lib.hid (show Fr (fun _ => False) w w9 from HF4.out.trans' (HF4R.out.trans H2.out) (fun k x y => by omega))
          have HCP := Lib.hid (copyOwnR_calls had hn hcap heap G w9.drew (HH.out.frame HFW9.out.drew (fun _ _ x => x.elim)) (by omega) hhn.1)
          have HBL9 := Lib.hid ((HF4R.out.trans H2.out).heap HBL4.out (fun x => by omega))
          have HS9 := Lib.hid (fun w' (h : Fr (fun k => k = w.heap.size + 1) w9 w') => show w'.cell? ⟨w4.heap.size + 1, 0, none⟩ = some (.int .i64 3) ∧ w'.cell? ⟨w4.heap.size + 1, 1, none⟩ = some (.slice (some ⟨w4.heap.size, 0, none⟩) st.regs.length st.regs.length) ∧ w'.cell? ⟨w4.heap.size + 1, 2, none⟩ = some (.slice A2 (st.rs.length / 2) k2) ∧ w'.cell? ⟨w4.heap.size + 1, 3, none⟩ = some (.slice A3 (st.ws.length / 2) k3) from by
            have hx := h.heap HM2.out.ho (fun x => by omega)
            exact ⟨by rw [blk_cell hx]; rfl, by rw [blk_cell hx]; rfl, by rw [blk_cell hx]; rfl, by rw [blk_cell hx]; rfl⟩)
          have hw9 := H2.out.size
          go_region_held3 (fun w' => w'.cell? ⟨w4.heap.size + 1, 0, none⟩ = some (.int .i64 3) ∧ w'.cell? ⟨w4.heap.size + 1, 1, none⟩ = some (.slice (some ⟨w4.heap.size, 0, none⟩) st.regs.length st.regs.length) ∧ w'.cell? ⟨w4.heap.size + 1, 2, none⟩ = some (.slice A2 (st.rs.length / 2) k2) ∧ w'.cell? ⟨w4.heap.size + 1, 3, none⟩ = some (.slice A3 (st.ws.length / 2) k3))
            (first | exact HS9.out _ hk9 | exact HS9.out _ hk8 | exact HS9.out _ (Fr.refl _ _).drew) (first
            | (go_at_call 20; (with_reducible refine HCP.out.mono ?_); rintro ex w10 ⟨g, cg, rfl, hog, hf10⟩
               have hk8 : Fr (fun k => k = w.heap.size + 1) w9 w10 := ((Fr.refl (fun _ => False) w9).drew.trans hf10).mono (fun _ x => x.elim)
               have hb6 := ((Fr.refl (fun _ => False) w9).drew.trans hf10).heap HBL9.out (fun x => x)
               have q0x : w10.cell? ⟨w.heap.size + 1, 0, none⟩ = some (.int .i64 0) := by rw [blk_cell hb6]; rfl
               have z0x : w10.frozen? ⟨w.heap.size + 1, 0, none⟩ = false := by rw [blk_free hb6]
               have q1x : w10.cell? ⟨w.heap.size + 1, 1, none⟩ = some (.slice none 0 0) := by rw [blk_cell hb6]; rfl
               have z1x : w10.frozen? ⟨w.heap.size + 1, 1, none⟩ = false := by rw [blk_free hb6]
               have q2x : w10.cell? ⟨w.heap.size + 1, 2, none⟩ = some (.slice none 0 0) := by rw [blk_cell hb6]; rfl
               have z2x : w10.frozen? ⟨w.heap.size + 1, 2, none⟩ = false := by rw [blk_free hb6]
               have q3x : w10.cell? ⟨w.heap.size + 1, 3, none⟩ = some (.slice none 0 0) := by rw [blk_cell hb6]; rfl
               have z3x : w10.frozen? ⟨w.heap.size + 1, 3, none⟩ = false := by rw [blk_free hb6]
               have HB6 := Lib.hid (out_block hb6 3 (.slice (some ⟨w4.heap.size, 0, none⟩) st.regs.length st.regs.length) (.slice A2 (st.rs.length / 2) k2) (.slice A3 (st.ws.length / 2) k3))
               have hf6 := fr_out w10 (w.heap.size + 1) (.int .i64 3) (.slice (some ⟨w4.heap.size, 0, none⟩) st.regs.length st.regs.length) (.slice A2 (st.rs.length / 2) k2) (.slice A3 (st.ws.length / 2) k3)
               have hk9 := hk8.trans hf6
               have HF6 := Lib.hid hf6
               have HO := Lib.hid (show OutAt w10 w2.heap.size { st with e := 3 } heap (some ⟨w4.heap.size, 0, none⟩) st.regs.length st.regs.length A2 (st.rs.length / 2) k2 A3 (st.ws.length / 2) k3 (some ⟨g, 0, none⟩) hn cg from by
                 obtain ⟨A', c', e', hfl⟩ := Flat.ofOwn hog
                 cases e'
                 rw [Nat.mul_one] at hfl
                 exact out_off HM2.out ((Fr.refl (fun _ => False) w9).drew.trans hf10) hfl (by omega) (by omega) (by unfold PS.after; rw [if_neg (show ¬ (3 : Int) = 1 by decide)]))
               have HF10 := Lib.hid (show Fr (fun _ => False) w9 w10 from (Fr.refl (fun _ => False) w9).drew.trans hf10)
               clear hf6 hb6 hog hf10))
          all_goals
            go_wp2
            generalize ((((w10.setCell ⟨w.heap.size + 1, 0, none⟩ (.int .i64 3)).setCell ⟨w.heap.size + 1, 1, none⟩ (.slice (some ⟨w4.heap.size, 0, none⟩) st.regs.length st.regs.length)).setCell ⟨w.heap.size + 1, 2, none⟩ (.slice A2 (st.rs.length / 2) k2)).setCell ⟨w.heap.size + 1, 3, none⟩ (.slice A3 (st.ws.length / 2) k3)) = w7 at *
            obtain ⟨r0, r1, r2, r3⟩ := HB6.out
            have hfull : ({ st with e := 3 } : PS) = fullP c heap p := HFIN.out (show (st.step c ⟨7, a, b, d, l⟩).e ≠ 1 from by show (3 : Int) ≠ 1; decide)
            refine bodyPost_ret (v := .tuple #[.agg #[.int .i64 3, .slice (some ⟨w4.heap.size, 0, none⟩) st.regs.length st.regs.length, .slice A2 (st.rs.length / 2) k2, .slice A3 (st.ws.length / 2) k3], .slice (some ⟨g, 0, none⟩) hn cg, .int .i64 0]) (by simp [results, Try.results21, go_sem, r0, r1, r2, r3]; try rfl) rfl ⟨_, _, _, _, _, _, _, _, _, _, _, _, by rw [← hfull], by rw [← hfull]; exact (HO.out.frame HF6.out (fun k x y => by omega)).mono (by omega), (HFW9.out.trans HF10.out).trans' HF6.out (fun k x y => by omega)⟩
    · obtain rfl : at_ = n := by omega
      have hfin : st = fullP c heap p := by rw [← HRUN.out, runP_stop (by rw [HLEN.out]; exact fun h => hlt h.1)]
      have HFIN := Lib.hid hfin
      have HE := Lib.hid he
      clear hfin he
      obtain ⟨A2, k2, rfl, _⟩ := row_shape hMr.hrs
      obtain ⟨A3, k3, rfl, _⟩ := row_shape hMr.hws
      have hb6 := HF4R.out.heap HBL4.out (fun x => by omega)
      have o0 : wr.cell? ⟨w4.heap.size + 1, 0, none⟩ = some (.int .i64 st.e) := by rw [blk_cell hMr.ho]; rfl
      have o1 : wr.cell? ⟨w4.heap.size + 1, 1, none⟩ = some (.slice (some ⟨w4.heap.size, 0, none⟩) st.regs.length st.regs.length) := by rw [blk_cell hMr.ho]; rfl
      have o2 : wr.cell? ⟨w4.heap.size + 1, 2, none⟩ = some (.slice A2 (st.rs.length / 2) k2) := by rw [blk_cell hMr.ho]; rfl
      have o3 : wr.cell? ⟨w4.heap.size + 1, 3, none⟩ = some (.slice A3 (st.ws.length / 2) k3) := by rw [blk_cell hMr.ho]; rfl
      have q0 : wr.cell? ⟨w.heap.size + 1, 0, none⟩ = some (.int .i64 0) := by rw [blk_cell hb6]; rfl
      have z0 : wr.frozen? ⟨w.heap.size + 1, 0, none⟩ = false := by rw [blk_free hb6]
      have q1 : wr.cell? ⟨w.heap.size + 1, 1, none⟩ = some (.slice none 0 0) := by rw [blk_cell hb6]; rfl
      have z1 : wr.frozen? ⟨w.heap.size + 1, 1, none⟩ = false := by rw [blk_free hb6]
      have q2 : wr.cell? ⟨w.heap.size + 1, 2, none⟩ = some (.slice none 0 0) := by rw [blk_cell hb6]; rfl
      have z2 : wr.frozen? ⟨w.heap.size + 1, 2, none⟩ = false := by rw [blk_free hb6]
      have q3 : wr.cell? ⟨w.heap.size + 1, 3, none⟩ = some (.slice none 0 0) := by rw [blk_cell hb6]; rfl
      have z3 : wr.frozen? ⟨w.heap.size + 1, 3, none⟩ = false := by rw [blk_free hb6]
      have HB6 := Lib.hid (out_block hb6 st.e (.slice (some ⟨w4.heap.size, 0, none⟩) st.regs.length st.regs.length) (.slice A2 (st.rs.length / 2) k2) (.slice A3 (st.ws.length / 2) k3))
      have HF6 := Lib.hid (fr_out wr (w.heap.size + 1) (.int .i64 st.e) (.slice (some ⟨w4.heap.size, 0, none⟩) st.regs.length st.regs.length) (.slice A2 (st.rs.length / 2) k2) (.slice A3 (st.ws.length / 2) k3))
      have HO := Lib.hid (show OutAt wr w2.heap.size st heap (some ⟨w4.heap.size, 0, none⟩) st.regs.length st.regs.length A2 (st.rs.length / 2) k2 A3 (st.ws.length / 2) k3 (some ⟨hb, 0, none⟩) hn hc from out_of hMr hsl (by omega) (by unfold PS.after; rw [if_pos HE.out]))
      have HFW := Lib.hid (HF4.out.trans' (S := fun _ => False) HF4R.out (fun k x y => by omega))
      clear hMr hb6
      go_wp2
      generalize ((((wr.setCell ⟨w.heap.size + 1, 0, none⟩ (.int .i64 st.e)).setCell ⟨w.heap.size + 1, 1, none⟩ (.slice (some ⟨w4.heap.size, 0, none⟩) st.regs.length st.regs.length)).setCell ⟨w.heap.size + 1, 2, none⟩ (.slice A2 (st.rs.length / 2) k2)).setCell ⟨w.heap.size + 1, 3, none⟩ (.slice A3 (st.ws.length / 2) k3)) = w7 at *
      obtain ⟨r0, r1, r2, r3⟩ := HB6.out
      refine bodyPost_ret (v := .tuple #[.agg #[.int .i64 st.e, .slice (some ⟨w4.heap.size, 0, none⟩) st.regs.length st.regs.length, .slice A2 (st.rs.length / 2) k2, .slice A3 (st.ws.length / 2) k3], .slice (some ⟨hb, 0, none⟩) hn hc, .int .i64 0]) (by simp [results, Try.results21, go_sem, r0, r1, r2, r3]; try rfl) rfl ⟨_, _, _, _, _, _, _, _, _, _, _, _, by rw [← HFIN.out], by rw [← HFIN.out]; exact (HO.out.frame HF6.out (fun k x y => by omega)).mono (by omega), HFW.out.trans' HF6.out (fun k x y => by omega)⟩
end Go.Proofs.Ytkaokhpaabfhmaa
