/- ltklaw16.StoryKept: the walk. -/
import Derived.Test.YthlanmibfnaoiaaLT2
import Derived.Deep.Cut
namespace Go.Proofs.Ythlanmibfnaoiaa
open Go.RowKit

set_option maxRecDepth 100000 in
set_option maxHeartbeats 8000000 in
theorem kept_go (ad : Addr) (n c : Nat) (es : List Ev) (w : World) (h : EvsAt w (fun _ => True) (.slice (some ad) n c) es) (hb : fewB es = true) (h0 : 0 < n) :
    Calls Try.prog 5 #[.slice (some ad) n c] w fun e w' => e = .returned (.bool true) ∧ Fr (fun _ => False) w w' := by
  have HF := Lib.hid (fun w' (hf : Fr (fun _ => False) w w') => few16_calls _ es _ w' (h.frame hf (fun _ _ x => x.elim)))
  rw [hb] at HF
  have hsm := fewB_smalls hb
  have hlen : es.length ≤ 300 := (fewB_few hb).1
  have hnn : n = es.length := by obtain ⟨A', c', cs, e, _⟩ := h.ex; cases e; rfl
  have HSM := Lib.hid hsm
  have HL3 := Lib.hid hlen
  have HEV := Lib.hid (fun w' (hf : Fr (fun _ => False) w w') => (h.mono (G := fun k => k < w.heap.size) (fun k hk _ => hk)).frame hf (fun _ _ x => x.elim))
  obtain ⟨A0, c0, cs, e0, _, _, _, h5, h6⟩ := h.ex
  cases e0
  have H5 := Lib.hid (h5 h0)
  have H6 := Lib.hid h6
  have hk := Fr.refl (fun _ => False) w
  have T1 := Lib.hid trivial
  clear h hb hsm hlen h5 h6 hnn
  go_enter Try.func5, Try.ntmps5
  go_upto_region 9 with (first
    | (go_at_call 8
       (with_reducible refine (first16_calls _).mono ?_)
       rintro ex w1 ⟨rfl, hf⟩
       replace hk := hk.trans hf
       clear hf)
    | (go_at_call 9
       (with_reducible refine (HF.out _ hk).mono ?_)
       rintro ex w2 ⟨rfl, hf⟩
       replace hk := hk.trans hf
       clear hf)
    | (go_at_call 10
       clear T1
       (with_reducible refine (storyNew_calls _).mono ?_)
       rintro ex w3 ⟨rfl, hs3, hf, hz3⟩
       have hsz := hk.size
       replace hk := hk.trans hf
       have HS0 := Lib.hid hs3
       have HSZ := Lib.hid (And.intro hsz hz3)
       clear hf hs3 hz3 hsz)
    | (go_at_call 10
       (with_reducible refine (storyNew_calls _).mono ?_)
       rintro ex w4 ⟨rfl, hs4, hf, hz4⟩
       have hsz := hk.size
       replace hk := hk.trans hf
       have HS1 := Lib.hid (HS0.out.frame hf (fun x => x) (fun _ _ x => x.elim))
       have HT1 := Lib.hid hs4
       have HTZ := Lib.hid (And.intro hsz (And.intro hz4 hf.size))
       clear hf hs4 hz4 hsz HS0))
  have HK := Lib.hid hk
  clear hk HF
  go_wp2
  go_loopw [5, 6] (fun v5 v6 wr => ∃ (i : Nat) (Z : Option Addr) (d : Nat), i ≤ es.length ∧ v6 = .int .i64 i ∧ v5 = .slice Z i d ∧ EvM w4.heap.size wr (.slice Z i d) (es.take i) ∧ Fr (fun _ => False) w4 wr) (fun _ v6 _ => es.length - (intOf v6).toNat)
  case atStart => exact ⟨0, none, 0, Nat.zero_le _, rfl, rfl, EvM.nil _ _, by first | exact Fr.refl _ _ | exact (Fr.refl _ _).drew | exact (Fr.refl _ _).drewN _⟩
  case round =>
    obtain ⟨i, Z, d, hi, rfl, rfl, hm, hf⟩ := hrel
    have HF4 := Lib.hid hf
    have HM := Lib.hid hm
    have hl3 := HL3.out
    by_cases hin : i < es.length
    · obtain ⟨ad', ea, _, hcs⟩ := H5.out
      cases ea
      obtain ⟨X1, x1, e1, X2, x2, e2, X3, x3, e3, hrx, hlx⟩ := H6.out i hin
      obtain ⟨p0, p1, p2, p3, p4, p5, p6, p7, p8, p9⟩ := row_cells (fun t u ht => (HK.out.trans hf).cell (hcs t u ht) (fun x => x)) hrx
      have HTK := Lib.hid (show es.take (i + 1) = es.take i ++ [es.getD i default] by rw [List.take_add_one, List.getElem?_eq_getElem hin, List.getD_eq_getElem?_getD, List.getElem?_eq_getElem hin]; rfl)
      have hsx := HSM.out.at_ i hin
      generalize es.getD i default = x at *
      have HFR := Lib.hid (fresh_calls x X1 x1 e1 X2 x2 e2 X3 x3 e3 _ wr (hlx.frame (HK.out.trans hf) (fun _ _ x => x.elim)) hsx)
      have hlt : (es.take i).length = i := by rw [List.length_take]; omega
      have HLT := Lib.hid hlt
      obtain ⟨xs, hown, hrows⟩ := id hm
      rw [hlt] at hown
      have HOW := Lib.hid hown
      have HRW := Lib.hid hrows
      have hlq : i + 1 ≤ 1000000 := by have := HL3.out; omega
      have HLQ := Lib.hid hlq
      clear hcs hrx hlx hsx hm hown hrows hlt hlq hf
      go_wp2_with (first
        | (go_at_call 14
           (with_reducible refine HFR.out.mono ?_)
           rintro ex w5 ⟨B1, d1, B2, d2, B3, d3, rfl, q1, q2, q3, hf5⟩
           have HQ := Lib.hid (And.intro q1 (And.intro q2 q3))
           have HF5 := Lib.hid hf5
           have HOA := Lib.hid (ownsRow_frame HOW.out (hf5.alloc (.cells #[.int .i64 x.k, .int .i64 x.th, .int .i64 x.pr, .int .i64 x.tr, .int .i64 x.ti, .int .i64 x.st, .int .i64 x.ca, .slice B1 x1 d1, .slice B2 x2 d2, .slice B3 x3 d3] 33)) (fun _ _ x => x))
           clear q1 q2 q3 hf5)
        | (at_builtin
           refine append_evs _ rfl _ _ rfl w4.heap.size _ _ xs rfl HOA.out (some ⟨w5.heap.size, 0, none⟩) 1 1 (x.cells (.slice B1 x1 d1) (.slice B2 x2 d2) (.slice B3 x3 d3)) rfl rfl (fun h => by cases h) (Nat.le_refl _) ?qc ?qo HLQ.out ?qb ?_))
      case qc =>
        first
        | exact fun j u hj => by rw [← hj]; unfold Ev.cells; rfl
        | exact fun _ => ⟨_, rfl, fun j u hj => by
            have h1 : (Addr.mk w5.heap.size 0 none).add j = ⟨w5.heap.size, j, none⟩ := by unfold Addr.add; split <;> simp_all
            rw [h1, blk_cell (heap_alloc_new w5 _), ← hj]
            unfold Ev.cells
            simp⟩
      case qo =>
        intro u hu
        unfold Ev.cells at hu
        simp only [List.mem_cons, List.not_mem_nil, or_false] at hu
        rcases hu with rfl | rfl | rfl | rfl | rfl | rfl | rfl | rfl | rfl | rfl <;> rfl
      case qb => first | (have := HF4.out.size; have := HF5.out.size; omega) | (simp; have := HF4.out.size; have := HF5.out.size; omega)
      intro v7 w6 ho6 hf6
      rcases id ho6.2 with ⟨_, hz⟩ | ⟨g6, cap6, cur6, rfl, hb6, hg6, _⟩
      · omega
      · have HO6 := Lib.hid ho6
        have HF6 := Lib.hid hf6
        clear ho6 hf6 hb6 hg6
        go_wp2
        go_roundw
        case rel =>
          refine ⟨i + 1, some ⟨g6, 0, none⟩, cap6, by omega, by go_num, rfl, ?_, ?_⟩
          · rw [HTK.out]
            have hx := HF5.out.alloc (.cells #[.int .i64 x.k, .int .i64 x.th, .int .i64 x.pr, .int .i64 x.tr, .int .i64 x.ti, .int .i64 x.st, .int .i64 x.ca, .slice B1 x1 d1, .slice B2 x2 d2, .slice B3 x3 d3] 33)
            have h55 := (Fr.refl (fun _ => False) w5).alloc (.cells #[.int .i64 x.k, .int .i64 x.th, .int .i64 x.pr, .int .i64 x.tr, .int .i64 x.ti, .int .i64 x.st, .int .i64 x.ca, .slice B1 x1 d1, .slice B2 x2 d2, .slice B3 x3 d3] 33)
            refine EvM.snoc (es := es.take i) (cs := xs) (by rw [HLT.out]; exact HOA.out) (fun t ht => (HRW.out t ht).frame hx (fun _ _ _ x => x)) (e := x) (n1 := x1) (c1 := d1) (n2 := x2) (c2 := d2) (n3 := x3) (c3 := d3) ⟨(HQ.out.1.frameF h55).base HF4.out.size, (HQ.out.2.1.frameF h55).base HF4.out.size, (HQ.out.2.2.frameF h55).base HF4.out.size⟩ (by rw [HLT.out]; exact HO6.out) HF6.out
          · exact (HF4.out.trans (HF5.out.alloc _)).trans' HF6.out (fun k x y => by have := (World.ownsRow.lt HOW.out k x).1; omega)
        case measure => simp [intOf]; omega
    · obtain rfl : i = es.length := by omega
      rw [List.take_length] at hm
      obtain ⟨g, d', eg, hmut⟩ := hm.mut h0
      cases eg
      have hat := hm.at_
      have hsz4 := HTZ.out
      have hszA := HSZ.out
      have HMU := Lib.hid hmut
      -- the stories as they stand, and what is told to them
      have HA1 := Lib.hid (storyAdd_calls w2.heap.size _ _ [] es _ _ wr (HS1.out.frame hf (fun x => x) (fun _ _ x => x.elim)) hat (by simp) HSM.out)
      have T2 := Lib.hid trivial
      have hk := HK.out.trans hf
      have HWR := Lib.hid (And.intro hf.size hk.size)
      have HTW := Lib.hid (HT1.out.frame hf (fun x => x) (fun _ _ x => x.elim))
      clear hm hmut hat hf
      go_upto_region 15 with (first
        | (go_at_call 11
           clear T2
           (with_reducible refine HA1.out.mono ?_)
           rintro ex wA ⟨rfl, ⟨vs, hs5⟩, hfA⟩
           rw [List.nil_append] at hs5
           have HSA := Lib.hid (hs5.mono (G := fun k => wr.heap.size ≤ k) (fun k _ x => by rcases x with x | x; exact x.2.elim; exact x) (by have := HWR.out; omega))
           have HTA := Lib.hid (HTW.out.frame hfA (fun x => by omega) (fun _ x _ => x.elim))
           have HMA := Lib.hid (HMU.out.frame hfA (fun k h1 _ h3 => by omega))
           have HKA := Lib.hid (hk.trans' hfA (fun k x y => by omega))
           have HWA := Lib.hid hfA.size
           clear hs5 hfA)
        | (go_at_call 11
           (with_reducible refine (storyAdd_calls _ _ _ [] es _ _ _ HTA.out (HEV.out _ HKA.out) (by simp) HSM.out).mono ?_)
           rintro ex wB ⟨rfl, ⟨vt, ht5⟩, hfB⟩
           rw [List.nil_append] at ht5
           have HTB := Lib.hid (ht5.mono (G := fun k => wr.heap.size ≤ k) (fun k _ x => by rcases x with x | x; exact x.2.elim; exact Nat.le_trans HWA.out x) (by have := HWR.out; omega))
           have HSB := Lib.hid (HSA.out.frame hfB (fun x => by omega) (fun k x y => by have := HWR.out; omega))
           have HMB := Lib.hid (HMA.out.frame hfB (fun k h1 _ h3 => by omega))
           have HKB := Lib.hid (HKA.out.trans' hfB (fun k x y => by omega))
           clear ht5 hfB))
      have HKW := Lib.hid (show w.heap.size ≤ w4.heap.size from HK.out.size)
      have HSL := Lib.hid (show w2.heap.size < w4.heap.size ∧ w3.heap.size < w4.heap.size from by omega)
      have HLO := Lib.hid (show w4.heap.size ≤ wr.heap.size from HWR.out.1)
      clear HMA HTA HSA HKA HWA HA1 HMU HTW HWR HF4 HM hk hsz4 hszA
      generalize wr.heap.size = hA at *
      generalize w4.heap.size = lo at *
      generalize w2.heap.size = sa at *
      generalize w3.heap.size = sb at *
      go_wp2
      go_loopw [7] (fun v7 wx => ∃ i : Nat, i ≤ es.length ∧ v7 = .int .i64 i ∧ MutOK wx lo hA g es.length ∧ Fr (fun k => lo ≤ k ∧ k < hA) wB wx) (fun v7 _ => es.length - (intOf v7).toNat)
      case atStart => exact ⟨0, Nat.zero_le _, rfl, HMB.out, by first | exact Fr.refl _ _ | exact (Fr.refl _ _).drew | exact (Fr.refl _ _).drewN _⟩
      case round =>
        obtain ⟨i, hi, rfl, hm, hf⟩ := hrel
        rename World => wx
        have HFX := Lib.hid hf
        by_cases hin : i < es.length
        · obtain ⟨arr, h1, h2, h3, h4⟩ := id hm
          obtain ⟨⟨kk, hkk⟩, _, A3, n3, c3, hr9, hok⟩ := h4 i hin
          have q0 : wx.cell? ⟨g, i * 10, none⟩ = some (.int .i64 kk) := by rw [blk_cell h1, hkk]
          have z0 : wx.frozen? ⟨g, i * 10, none⟩ = false := blk_free h1 _
          have hm1 := hm.kind i (-9)
          have hs1 := (Fr.refl (fun k => lo ≤ k ∧ k < hA) wx).setCell (p := ⟨g, i * 10, none⟩) (.inl ⟨h2, h3⟩) (.int .i64 (-9))
          have h1' := blk_set h1 (i * 10) (.int .i64 (-9))
          have q9 : (wx.setCell ⟨g, i * 10, none⟩ (.int .i64 (-9))).cell? ⟨g, i * 10 + 9, none⟩ = some (.slice A3 n3 c3) := by
            rw [blk_cell h1', Array.getElem?_setIfInBounds_ne (by omega)]; exact hr9
          have hok' := hok.set g (i * 10) (-9)
          have HM1 := Lib.hid hm1
          have HS1' := Lib.hid hs1
          clear h1 h4 hm hok h1' hkk hr9 hm1 hs1 hf
          go_upto_region 19 with fail
          generalize wx.setCell ⟨g, i * 10, none⟩ (.int .i64 (-9)) = w1x at *
          clear q0 z0
          by_cases hn3 : 0 < n3
          · obtain ⟨g3, ar, y, rfl, k1, k2, k3, k4⟩ := hok' hn3
            have q3 : w1x.cell? ⟨g3, 0, none⟩ = some (.int .i64 y) := by rw [blk_cell k3, k4]
            have z3 : w1x.frozen? ⟨g3, 0, none⟩ = false := blk_free k3 _
            have HM2 := Lib.hid (HM1.out.num k3 (by decide) 0 (wrap64 (y + 1)))
            have HS2' := Lib.hid (HS1'.out.setCell (p := ⟨g3, 0, none⟩) (.inl ⟨k1, k2⟩) (.int .i64 (wrap64 (y + 1))))
            clear k3 k4 hok'
            go_wp2
            go_roundw
            case rel => exact ⟨i + 1, by omega, by go_num, HM2.out, HFX.out.trans HS2'.out⟩
            case measure => simp [intOf]; omega
          · have hn0 : n3 = 0 := by omega
            subst hn0
            go_wp2
            go_roundw
            case rel => exact ⟨i + 1, by omega, by go_num, HM1.out, HFX.out.trans HS1'.out⟩
            case measure => simp [intOf]; omega
        · obtain rfl : i = es.length := by omega
          have hkx := HKB.out.trans' hf (fun k x y => by have := HKW.out; omega)
          have HSX := Lib.hid ((HSB.out.frame hf (fun x => by have := HSL.out; omega) (fun k x y => by omega)).mono (G := fun k => hA ≤ k ∧ k < wx.heap.size) (fun k hk x => ⟨x, hk⟩) (fun x => by have := HSL.out; have := HLO.out; omega))
          have HTX := Lib.hid ((HTB.out.frame hf (fun x => by have := HSL.out; omega) (fun k x y => by omega)).mono (G := fun k => hA ≤ k ∧ k < wx.heap.size) (fun k hk x => ⟨x, hk⟩) (fun x => by have := HSL.out; have := HLO.out; omega))
          have HKX := Lib.hid hkx
          have HWX := Lib.hid (show lo ≤ wx.heap.size from by obtain ⟨ar0, a1, a2, _⟩ := hm; have := (Array.getElem?_eq_some_iff.1 a1).1; omega)
          clear hm hf hkx HMB HFX HSB HTB HKB
          go_upto_region 22 with (first
            | (go_at_call 15
               (with_reducible refine (storyAllN_calls _ _ _ _ _ HSX.out HSM.out).mono ?_)
               rintro ex wD ⟨v8, rfl, hn8, hfD⟩
               obtain ⟨ga, ca, rfl, hmD⟩ := hn8.mut h0
               have HMD := Lib.hid hmD
               have HSD := Lib.hid (HSX.out.frame hfD (fun x => x) (fun _ _ x => x.elim))
               have HTD := Lib.hid (HTX.out.frame hfD (fun x => x) (fun _ _ x => x.elim))
               have HKD := Lib.hid (HKX.out.trans hfD)
               clear hn8 hmD hfD))
          generalize wx.heap.size = l3 at *
          generalize hhi : wD.heap.size = h3' at *
          go_wp2
          go_loopw [9] (fun v9 wy => ∃ i : Nat, i ≤ es.length ∧ v9 = .int .i64 i ∧ MutOK wy l3 h3' ga es.length ∧ Fr (fun k => l3 ≤ k ∧ k < h3') wD wy) (fun v9 _ => es.length - (intOf v9).toNat)
          case atStart => exact ⟨0, Nat.zero_le _, rfl, HMD.out, by first | exact Fr.refl _ _ | exact (Fr.refl _ _).drew | exact (Fr.refl _ _).drewN _⟩
          case round =>
            obtain ⟨i, hi, rfl, hm, hf⟩ := hrel
            rename World => wy
            have HFY := Lib.hid hf
            by_cases hin : i < es.length
            · obtain ⟨arr, h1, h2, h3, h4⟩ := id hm
              obtain ⟨_, _, A3, n3, c3, hr9, hok⟩ := h4 i hin
              have q9 : wy.cell? ⟨ga, i * 10 + 9, none⟩ = some (.slice A3 n3 c3) := by rw [blk_cell h1]; exact hr9
              have HM0 := Lib.hid hm
              have HS0 := Lib.hid (Fr.refl (fun k => l3 ≤ k ∧ k < h3') wy)
              clear h1 h4 hm hr9 hf
              by_cases hn3 : 0 < n3
              · obtain ⟨g3, ar, y, rfl, k1, k2, k3, k4⟩ := hok hn3
                have q3 : wy.cell? ⟨g3, 0, none⟩ = some (.int .i64 y) := by rw [blk_cell k3, k4]
                have z3 : wy.frozen? ⟨g3, 0, none⟩ = false := blk_free k3 _
                have HM1 := Lib.hid (HM0.out.num k3 (by decide) 0 (wrap64 (y + 7)))
                have HS1' := Lib.hid (HS0.out.setCell (p := ⟨g3, 0, none⟩) (.inl ⟨k1, k2⟩) (.int .i64 (wrap64 (y + 7))))
                clear k3 k4 hok
                go_upto_region 27 with fail
                generalize wy.setCell ⟨g3, 0, none⟩ (.int .i64 (wrap64 (y + 7))) = w1y at *
                clear q9 q3 z3
                obtain ⟨arr7, r1, _, _, r4⟩ := HM1.out
                obtain ⟨_, ⟨A1, n1, c1, rr7, rok⟩, _⟩ := r4 i hin
                have q7 : w1y.cell? ⟨ga, i * 10 + 7, none⟩ = some (.slice A1 n1 c1) := by rw [blk_cell r1]; exact rr7
                clear r1 r4 rr7
                by_cases hn1 : 0 < n1
                · obtain ⟨g1, ar1, y1, rfl, k1', k2', k3', k4'⟩ := rok hn1
                  have q1 : w1y.cell? ⟨g1, 1, none⟩ = some (.int .i64 y1) := by rw [blk_cell k3', k4']
                  have z1 : w1y.frozen? ⟨g1, 1, none⟩ = false := blk_free k3' _
                  have HM9 := Lib.hid (HM1.out.num k3' (by decide) 1 (wrap64 (y1 + 7)))
                  have HS9 := Lib.hid (HS1'.out.setCell (p := ⟨g1, 1, none⟩) (.inl ⟨k1', k2'⟩) (.int .i64 (wrap64 (y1 + 7))))
                  clear k3' k4' rok
                  go_wp2
                  go_roundw
                  case rel => exact ⟨i + 1, by omega, by go_num, HM9.out, HFY.out.trans HS9.out⟩
                  case measure => simp [intOf]; omega
                · have hn10 : n1 = 0 := by omega
                  subst hn10
                  go_wp2
                  go_roundw
                  case rel => exact ⟨i + 1, by omega, by go_num, HM1.out, HFY.out.trans HS1'.out⟩
                  case measure => simp [intOf]; omega
              · have hn0 : n3 = 0 := by omega
                subst hn0
                go_upto_region 27 with fail
                clear q9
                obtain ⟨arr7, r1, _, _, r4⟩ := HM0.out
                obtain ⟨_, ⟨A1, n1, c1, rr7, rok⟩, _⟩ := r4 i hin
                have q7 : wy.cell? ⟨ga, i * 10 + 7, none⟩ = some (.slice A1 n1 c1) := by rw [blk_cell r1]; exact rr7
                clear r1 r4 rr7
                by_cases hn1 : 0 < n1
                · obtain ⟨g1, ar1, y1, rfl, k1', k2', k3', k4'⟩ := rok hn1
                  have q1 : wy.cell? ⟨g1, 1, none⟩ = some (.int .i64 y1) := by rw [blk_cell k3', k4']
                  have z1 : wy.frozen? ⟨g1, 1, none⟩ = false := blk_free k3' _
                  have HM9 := Lib.hid (HM0.out.num k3' (by decide) 1 (wrap64 (y1 + 7)))
                  have HS9 := Lib.hid (HS0.out.setCell (p := ⟨g1, 1, none⟩) (.inl ⟨k1', k2'⟩) (.int .i64 (wrap64 (y1 + 7))))
                  clear k3' k4' rok
                  go_wp2
                  go_roundw
                  case rel => exact ⟨i + 1, by omega, by go_num, HM9.out, HFY.out.trans HS9.out⟩
                  case measure => simp [intOf]; omega
                · have hn10 : n1 = 0 := by omega
                  subst hn10
                  go_wp2
                  go_roundw
                  case rel => exact ⟨i + 1, by omega, by go_num, HM0.out, HFY.out.trans HS0.out⟩
                  case measure => simp [intOf]; omega
            · obtain rfl : i = es.length := by omega
              have HSZ' := Lib.hid (fun w' (hf' : Fr (fun _ => False) wy w') => (HSD.out.frame hf (fun x => by have := HSL.out; have := HWX.out; omega) (fun k x y => by omega)).frame hf' (fun x => x) (fun _ _ x => x.elim))
              have HTZ' := Lib.hid (fun w' (hf' : Fr (fun _ => False) wy w') => (HTD.out.frame hf (fun x => by have := HSL.out; have := HWX.out; omega) (fun k x y => by omega)).frame hf' (fun x => x) (fun _ _ x => x.elim))
              have HKY := Lib.hid (HKD.out.trans' hf (fun k x y => by have := HKW.out; have := HWX.out; omega))
              have hky := Fr.refl (fun _ => False) wy
              have T3 := Lib.hid trivial
              have T4 := Lib.hid trivial
              clear hm hf
              go_wp2_with (first
                | (go_at_call 8
                   (with_reducible refine (first16_calls _).mono ?_)
                   rintro ex y1 ⟨rfl, hf⟩
                   replace hky := hky.trans hf
                   clear hf)
                | (go_at_call 15
                   clear T3
                   (with_reducible refine (storyAll_calls _ _ _ _ _ (HSZ'.out _ hky) HSM.out).mono ?_)
                   rintro ex y2 ⟨v2, rfl, ho, hf⟩
                   have HO1 := Lib.hid (ho.at_ (fun _ x => x))
                   obtain ⟨A5, c5, rfl⟩ := ho.shape
                   replace hky := hky.trans hf
                   have h2y := Fr.refl (fun _ => False) y2
                   clear hf ho)
                | (go_at_call 15
                   (with_reducible refine (storyAll_calls _ _ _ _ _ (HTZ'.out _ hky) HSM.out).mono ?_)
                   rintro ex y3 ⟨v3, rfl, ho, hf⟩
                   have HO2 := Lib.hid (ho.at_ (fun _ x => x))
                   obtain ⟨A6, c6, rfl⟩ := ho.shape
                   replace hky := hky.trans hf
                   replace h2y := h2y.trans hf
                   clear hf ho)
                | (go_at_call 13
                   clear T4
                   (with_reducible refine (sameEvents_eq _ _ es _ _ _ (HO1.out.frame h2y (fun _ _ x => x.elim)) HO2.out HSM.out).mono ?_)
                   rintro ex y4 ⟨rfl, hf⟩
                   replace hky := hky.trans hf
                   clear hf)
                | (go_at_call 15
                   (with_reducible refine (storyAll_calls _ _ _ _ _ (HSZ'.out _ hky) HSM.out).mono ?_)
                   rintro ex y5 ⟨v5, rfl, ho, hf⟩
                   have HO3 := Lib.hid (ho.at_ (fun _ x => x))
                   obtain ⟨A7, c7, rfl⟩ := ho.shape
                   replace hky := hky.trans hf
                   clear hf ho)
                | (go_at_call 13
                   (with_reducible refine (sameEvents_eq _ _ es _ _ _ HO3.out (HEV.out _ (HKY.out.trans hky)) HSM.out).mono ?_)
                   rintro ex y6 ⟨rfl, hf⟩
                   replace hky := hky.trans hf
                   clear hf))
              go_ret
              exact ⟨by simp, HKY.out.trans hky⟩
end Go.Proofs.Ythlanmibfnaoiaa
