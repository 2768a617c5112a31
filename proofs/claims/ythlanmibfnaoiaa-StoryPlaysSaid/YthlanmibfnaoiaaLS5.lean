/- ltklaw16.StoryPlays: the walk. -/
import Derived.Test.YthlanmibfnaoiaaLS4
namespace Go.Proofs.Ythlanmibfnaoiaa
open Go.RowKit

set_option maxRecDepth 100000 in
set_option maxHeartbeats 8000000 in
theorem plays_go (ad : Addr) (n c : Nat) (es : List Ev) (ct : Nat) (kind : Int) (T : Option Addr) (tn tc : Nat) (ls : List Int) (w : World) (h : EvsAt w (fun _ => True) (.slice (some ad) n c) es) (hT : IntsIn w T tn ls) (hb : fewB es = true) (hct : ct ≤ n) (htn : tn ≤ 100) :
    Calls Try.prog 7 #[.slice (some ad) n c, .int .i64 ct, .int .i64 kind, .slice T tn tc] w fun e w' => e = .returned (.bool true) ∧ Fr (fun _ => False) w w' := by
  have HF := Lib.hid (fun w' (hf : Fr (fun _ => False) w w') => few16_calls _ es _ w' (h.frame hf (fun _ _ x => x.elim)))
  rw [hb] at HF
  have hsm := fewB_smalls hb
  have hlen : es.length ≤ 300 := (fewB_few hb).1
  have hnc : n = es.length ∧ es.length ≤ c := by obtain ⟨A', c', cs, e, h2, _⟩ := h.ex; cases e; exact ⟨rfl, h2⟩
  obtain ⟨hn, hcc⟩ := hnc
  have hc1 : ct ≤ c := by omega
  have hc2 : n ≤ c := by omega
  have HN := Lib.hid hn
  have HL3 := Lib.hid hlen
  have HSM := Lib.hid hsm
  have HT := Lib.hid (Flat.ofInts hT)
  have HEV := Lib.hid (fun w' (hf : Fr (fun _ => False) w w') => (h.mono (G := fun k => k < w.heap.size) (fun k hk _ => hk)).frame hf (fun _ _ x => x.elim))
  have d1 : decide ((ct : Int) < 0) = false := by simp <;> omega
  have d2 : decide ((n : Int) < ct) = false := by simp; omega
  have d3 : decide ((100 : Int) < tn) = false := by simp; omega
  have hn3 : n ≤ 300 := by omega
  obtain ⟨A0, c0, cs, e0, _, _, _, h5, h6⟩ := h.ex
  cases e0
  rw [← hn] at *
  have H5 := Lib.hid h5
  have H6 := Lib.hid h6
  have hk := Fr.refl (fun _ => False) w
  have T1 := Lib.hid trivial
  have T2 := Lib.hid trivial
  have T3 := Lib.hid trivial
  have htn : tn ≤ 20000 := by omega
  clear h hT hb hsm hlen hcc h5 h6
  rcases Nat.lt_or_ge ct c with hce | hce
  · have hce2 : ¬ c ≤ ct := by omega
    go_enter Try.func7, Try.ntmps7
    go_upto_region 11 with (first
      | (go_at_call 8
         (with_reducible refine (first16_calls _).mono ?_)
         rintro ex w1 ⟨rfl, hf⟩
         replace hk := hk.trans hf
         clear hf)
      | (go_at_call 9
         (with_reducible refine (HF.out _ hk).mono ?_)
         rintro ex w2 ⟨rfl, hf⟩
         replace hk := hk.trans hf
         clear hf)
      | (go_at_call 10
         (with_reducible refine (storyNew_calls _).mono ?_)
         rintro ex w3 ⟨rfl, hs3, hf, hz3⟩
         have hsz := hk.size
         replace hk := hk.trans hf
         have HS0 := Lib.hid hs3
         have HSZ := Lib.hid hsz
         clear hf hs3 hz3 hsz)
      | (go_at_call 11
         clear T1
         (with_reducible refine (storyAdd_calls _ _ _ _ _ _ _ _ HS0.out ((HEV.out _ hk).take hct) (by simp) (HSM.out.take ct)).mono ?_)
         rintro ex w4 ⟨rfl, ⟨v4, hs4⟩, hf⟩
         replace hk := hk.trans' hf (fun k x y => by have := HSZ.out; omega)
         have hl4 : ([] ++ es.take ct).length ≤ 20000 := by have := HL3.out; simp only [List.nil_append, List.length_take]; omega
         have HA2 := Lib.hid (storyAdd_calls _ _ (.slice none 0 0) _ [] _ (fun _ => True) w4 hs4 (EvsAt.nil _ _) hl4 ⟨by simp, fun e he => by cases he⟩)
         clear hf hs4 hl4)
      | (go_at_call 11
         clear T2
         (with_reducible refine HA2.out.mono ?_)
         rintro ex w5 ⟨rfl, ⟨v5, hs5⟩, hf⟩
         replace hk := hk.trans' hf (fun k x y => by have := HSZ.out; omega)
         have HS2 := Lib.hid hs5
         clear hf hs5)
      | (go_at_call 11
         clear T3
         (with_reducible refine (storyAdd_calls _ _ _ _ _ _ _ _ HS2.out ((HEV.out _ hk).drop hct) (by have := HL3.out; simp only [List.append_nil, List.nil_append, List.length_take]; omega) (HSM.out.drop ct)).mono ?_)
         rintro ex w6 ⟨rfl, ⟨v6, hs6⟩, hf⟩
         replace hk := hk.trans' hf (fun k x y => by have := HSZ.out; omega)
         rw [List.append_nil, List.nil_append, List.take_append_drop] at hs6
         have HS3 := Lib.hid hs6
         clear hf hs6)
      | (go_at_call 11
         clear T3
         (with_reducible refine (storyAdd_calls _ _ _ _ _ _ _ _ HS2.out ((HEV.out _ hk).dropEnd (by omega)) (by have := HL3.out; simp only [List.append_nil, List.nil_append, List.length_take]; omega) (HSM.out.drop ct)).mono ?_)
         rintro ex w6 ⟨rfl, ⟨v6, hs6⟩, hf⟩
         replace hk := hk.trans' hf (fun k x y => by have := HSZ.out; omega)
         rw [List.append_nil, List.nil_append, List.take_append_drop] at hs6
         have HS3 := Lib.hid hs6
         clear hf hs6))
    have HK := Lib.hid hk
    have HTN := Lib.hid htn
    have HSMF := Lib.hid (HSM.out.filter (·.keeps kind ls))
    have HST := Lib.hid (fun w' (hf : Fr (fun _ => False) w6 w') => HS3.out.frame hf (fun x => x) (fun _ _ x => x.elim))
    have hsl : es.length ≤ 20000 := by have := HL3.out; omega
    have HSL := Lib.hid hsl
    clear hk HF d1 d2 d3 hsl htn
    go_wp2
    go_loopw [10] (fun v10 wr => ∃ i : Nat, 1 ≤ i ∧ v10 = .int .i64 i ∧ Fr (fun _ => False) w6 wr) (fun v10 _ => es.length - (intOf v10).toNat)
    case atStart => exact ⟨1, Nat.le_refl _, rfl, by first | exact Fr.refl _ _ | exact (Fr.refl _ _).drew | exact (Fr.refl _ _).drewN _⟩
    case round =>
      obtain ⟨i, hi1, rfl, hf⟩ := hrel
      have HFR := Lib.hid hf
      by_cases hin : i < es.length
      · obtain ⟨ad', ea, _, hcs⟩ := H5.out (by omega)
        cases ea
        obtain ⟨X1, x1, e1, X2, x2, e2, X3, x3, e3, hrx, hlx⟩ := H6.out i hin
        obtain ⟨Y1, y1, f1, Y2, y2, f2, Y3, y3, f3, hry, hly⟩ := H6.out (i - 1) (by omega)
        have hsx := HSM.out.at_ i hin
        have s1 : IntKind.i64.wrap ((i : Int) - 1) = ((i - 1 : Nat) : Int) := by have := HSL.out; rw [IntKind.wrap_i64]; omega
        have hi2 : i - 1 < es.length := by omega
        generalize es.getD i default = x at *
        generalize es.getD (i - 1) default = y at *
        have HALL := Lib.hid (fun w' (hf' : Fr (fun _ => False) wr w') => show (w'.cell? (ad.add (i * 10)) = some (.int .i64 x.k) ∧ w'.cell? ⟨(ad.add (i * 10)).block, (ad.add (i * 10)).off + 1, none⟩ = some (.int .i64 x.th) ∧ w'.cell? ⟨(ad.add (i * 10)).block, (ad.add (i * 10)).off + 2, none⟩ = some (.int .i64 x.pr) ∧ w'.cell? ⟨(ad.add (i * 10)).block, (ad.add (i * 10)).off + 3, none⟩ = some (.int .i64 x.tr) ∧ w'.cell? ⟨(ad.add (i * 10)).block, (ad.add (i * 10)).off + 4, none⟩ = some (.int .i64 x.ti) ∧ w'.cell? ⟨(ad.add (i * 10)).block, (ad.add (i * 10)).off + 5, none⟩ = some (.int .i64 x.st) ∧ w'.cell? ⟨(ad.add (i * 10)).block, (ad.add (i * 10)).off + 6, none⟩ = some (.int .i64 x.ca) ∧ w'.cell? ⟨(ad.add (i * 10)).block, (ad.add (i * 10)).off + 7, none⟩ = some (.slice X1 x1 e1) ∧ w'.cell? ⟨(ad.add (i * 10)).block, (ad.add (i * 10)).off + 8, none⟩ = some (.slice X2 x2 e2) ∧ w'.cell? ⟨(ad.add (i * 10)).block, (ad.add (i * 10)).off + 9, none⟩ = some (.slice X3 x3 e3) ∧ w'.cell? (ad.add ((i - 1) * 10)) = some (.int .i64 y.k) ∧ w'.cell? ⟨(ad.add ((i - 1) * 10)).block, (ad.add ((i - 1) * 10)).off + 1, none⟩ = some (.int .i64 y.th) ∧ w'.cell? ⟨(ad.add ((i - 1) * 10)).block, (ad.add ((i - 1) * 10)).off + 2, none⟩ = some (.int .i64 y.pr) ∧ w'.cell? ⟨(ad.add ((i - 1) * 10)).block, (ad.add ((i - 1) * 10)).off + 3, none⟩ = some (.int .i64 y.tr) ∧ w'.cell? ⟨(ad.add ((i - 1) * 10)).block, (ad.add ((i - 1) * 10)).off + 4, none⟩ = some (.int .i64 y.ti) ∧ w'.cell? ⟨(ad.add ((i - 1) * 10)).block, (ad.add ((i - 1) * 10)).off + 5, none⟩ = some (.int .i64 y.st) ∧ w'.cell? ⟨(ad.add ((i - 1) * 10)).block, (ad.add ((i - 1) * 10)).off + 6, none⟩ = some (.int .i64 y.ca) ∧ w'.cell? ⟨(ad.add ((i - 1) * 10)).block, (ad.add ((i - 1) * 10)).off + 7, none⟩ = some (.slice Y1 y1 f1) ∧ w'.cell? ⟨(ad.add ((i - 1) * 10)).block, (ad.add ((i - 1) * 10)).off + 8, none⟩ = some (.slice Y2 y2 f2) ∧ w'.cell? ⟨(ad.add ((i - 1) * 10)).block, (ad.add ((i - 1) * 10)).off + 9, none⟩ = some (.slice Y3 y3 f3)) from by
          obtain ⟨p0, p1, p2, p3, p4, p5, p6, p7, p8, p9⟩ := row_cells (fun t u ht => (HK.out.trans (hf.trans hf')).cell (hcs t u ht) (fun x => x)) hrx
          obtain ⟨q0, q1, q2, q3, q4, q5, q6, q7, q8, q9⟩ := row_cells (fun t u ht => (HK.out.trans (hf.trans hf')).cell (hcs t u ht) (fun x => x)) hry
          exact ⟨p0, p1, p2, p3, p4, p5, p6, p7, p8, p9, q0, q1, q2, q3, q4, q5, q6, q7, q8, q9⟩)
        have hsa := fun w' (hf' : Fr (fun _ => False) wr w') => storySame_any x y X1 X2 X3 Y1 Y2 Y3 x1 e1 x2 e2 x3 e3 y1 f1 y2 f2 y3 f3 _ _ w' (hlx.frame (HK.out.trans (hf.trans hf')) (fun _ _ x => x.elim)) (hly.frame (HK.out.trans (hf.trans hf')) (fun _ _ x => x.elim)) hsx
        have hse := fun w' (hf' : Fr (fun _ => False) wr w') => sameEvent_any x y X1 X2 X3 Y1 Y2 Y3 x1 e1 x2 e2 x3 e3 y1 f1 y2 f2 y3 f3 _ _ w' (hlx.frame (HK.out.trans (hf.trans hf')) (fun _ _ x => x.elim)) (hly.frame (HK.out.trans (hf.trans hf')) (fun _ _ x => x.elim)) hsx
        have hss := fun w' (hf' : Fr (fun _ => False) wr w') => (storySame_any x x X1 X2 X3 X1 X2 X3 x1 e1 x2 e2 x3 e3 x1 e1 x2 e2 x3 e3 _ _ w' (hlx.frame (HK.out.trans (hf.trans hf')) (fun _ _ x => x.elim)) (hlx.frame (HK.out.trans (hf.trans hf')) (fun _ _ x => x.elim)) hsx).mono (R' := fun e w'' => e = .returned (.bool true) ∧ Fr (fun _ => False) w' w'') (fun e w'' h => ⟨by rw [h.1, decide_eq_true rfl], h.2⟩)
        generalize decide (x = y) = bb at *
        unfold Ev.val at hsa hse hss
        have HSA := Lib.hid hsa
        have HSE := Lib.hid hse
        have HSS := Lib.hid hss
        have T4 := Lib.hid trivial
        have gW := Fr.refl (fun _ => False) wr
        clear hsa hse hss hrx hry hlx hly hcs hsx hf
        go_upto_region 14 with fail
        go_region_held3 (fun w' => w'.cell? (ad.add (i * 10)) = some (.int .i64 x.k) ∧ w'.cell? ⟨(ad.add (i * 10)).block, (ad.add (i * 10)).off + 1, none⟩ = some (.int .i64 x.th) ∧ w'.cell? ⟨(ad.add (i * 10)).block, (ad.add (i * 10)).off + 2, none⟩ = some (.int .i64 x.pr) ∧ w'.cell? ⟨(ad.add (i * 10)).block, (ad.add (i * 10)).off + 3, none⟩ = some (.int .i64 x.tr) ∧ w'.cell? ⟨(ad.add (i * 10)).block, (ad.add (i * 10)).off + 4, none⟩ = some (.int .i64 x.ti) ∧ w'.cell? ⟨(ad.add (i * 10)).block, (ad.add (i * 10)).off + 5, none⟩ = some (.int .i64 x.st) ∧ w'.cell? ⟨(ad.add (i * 10)).block, (ad.add (i * 10)).off + 6, none⟩ = some (.int .i64 x.ca) ∧ w'.cell? ⟨(ad.add (i * 10)).block, (ad.add (i * 10)).off + 7, none⟩ = some (.slice X1 x1 e1) ∧ w'.cell? ⟨(ad.add (i * 10)).block, (ad.add (i * 10)).off + 8, none⟩ = some (.slice X2 x2 e2) ∧ w'.cell? ⟨(ad.add (i * 10)).block, (ad.add (i * 10)).off + 9, none⟩ = some (.slice X3 x3 e3) ∧ w'.cell? (ad.add ((i - 1) * 10)) = some (.int .i64 y.k) ∧ w'.cell? ⟨(ad.add ((i - 1) * 10)).block, (ad.add ((i - 1) * 10)).off + 1, none⟩ = some (.int .i64 y.th) ∧ w'.cell? ⟨(ad.add ((i - 1) * 10)).block, (ad.add ((i - 1) * 10)).off + 2, none⟩ = some (.int .i64 y.pr) ∧ w'.cell? ⟨(ad.add ((i - 1) * 10)).block, (ad.add ((i - 1) * 10)).off + 3, none⟩ = some (.int .i64 y.tr) ∧ w'.cell? ⟨(ad.add ((i - 1) * 10)).block, (ad.add ((i - 1) * 10)).off + 4, none⟩ = some (.int .i64 y.ti) ∧ w'.cell? ⟨(ad.add ((i - 1) * 10)).block, (ad.add ((i - 1) * 10)).off + 5, none⟩ = some (.int .i64 y.st) ∧ w'.cell? ⟨(ad.add ((i - 1) * 10)).block, (ad.add ((i - 1) * 10)).off + 6, none⟩ = some (.int .i64 y.ca) ∧ w'.cell? ⟨(ad.add ((i - 1) * 10)).block, (ad.add ((i - 1) * 10)).off + 7, none⟩ = some (.slice Y1 y1 f1) ∧ w'.cell? ⟨(ad.add ((i - 1) * 10)).block, (ad.add ((i - 1) * 10)).off + 8, none⟩ = some (.slice Y2 y2 f2) ∧ w'.cell? ⟨(ad.add ((i - 1) * 10)).block, (ad.add ((i - 1) * 10)).off + 9, none⟩ = some (.slice Y3 y3 f3))
          ((refine HALL.out _ ?_; (focus ((repeat (first | with_reducible exact gW | with_reducible refine Fr.alloc ?_ _ | with_reducible refine Fr.drew ?_ | with_reducible exact Fr.refl _ _)); done))))
          (first
          | (go_at_call 17
             clear T4
             (with_reducible refine (HSA.out _ (show Fr (fun _ => False) wr _ from by (focus ((repeat (first | with_reducible exact gW | with_reducible refine Fr.alloc ?_ _ | with_reducible refine Fr.drew ?_ | with_reducible exact Fr.refl _ _)); done)))).mono ?_)
             rintro ex u1 ⟨rfl, hf1⟩
             replace gW : Fr (fun _ => False) wr u1 := Fr.trans (by (focus ((repeat (first | with_reducible exact gW | with_reducible refine Fr.alloc ?_ _ | with_reducible refine Fr.drew ?_ | with_reducible exact Fr.refl _ _)); done))) hf1
             clear hf1)
          | (go_at_call 18
             (with_reducible refine (HSE.out _ (show Fr (fun _ => False) wr _ from by (focus ((repeat (first | with_reducible exact gW | with_reducible refine Fr.alloc ?_ _ | with_reducible refine Fr.drew ?_ | with_reducible exact Fr.refl _ _)); done)))).mono ?_)
             rintro ex u2 ⟨rfl, hf2⟩
             replace gW : Fr (fun _ => False) wr u2 := Fr.trans (by (focus ((repeat (first | with_reducible exact gW | with_reducible refine Fr.alloc ?_ _ | with_reducible refine Fr.drew ?_ | with_reducible exact Fr.refl _ _)); done))) hf2
             clear hf2)
          | (go_at_call 17
             (with_reducible refine (HSS.out _ (show Fr (fun _ => False) wr _ from by (focus ((repeat (first | with_reducible exact gW | with_reducible refine Fr.alloc ?_ _ | with_reducible refine Fr.drew ?_ | with_reducible exact Fr.refl _ _)); done)))).mono ?_)
             rintro ex u3 ⟨rfl, hf3⟩
             replace gW : Fr (fun _ => False) wr u3 := Fr.trans (by (focus ((repeat (first | with_reducible exact gW | with_reducible refine Fr.alloc ?_ _ | with_reducible refine Fr.drew ?_ | with_reducible exact Fr.refl _ _)); done))) hf3
             clear hf3))
        all_goals
          go_wp2
          go_roundw
          case rel => exact ⟨i + 1, by omega, by go_num, HFR.out.trans gW⟩
          case measure => simp [intOf]; omega
      · have hk6 := hf
        have T5 := Lib.hid trivial
        clear hf
        go_wp2_with (first
          | (go_at_call 8
             (with_reducible refine (first16_calls _).mono ?_)
             rintro ex u1 ⟨rfl, hf⟩
             replace hk6 := hk6.trans hf
             clear hf)
          | (go_at_call 16
             (with_reducible refine (storyLen_calls _ _ _ _ _ (HST.out _ hk6)).mono ?_)
             rintro ex u2 ⟨rfl, hf⟩
             replace hk6 := hk6.trans hf
             clear hf)
          | (go_at_call 15
             (with_reducible refine (storyAll_calls _ _ _ _ _ (HST.out _ hk6) HSM.out).mono ?_)
             rintro ex u3 ⟨v3, rfl, ho, hf⟩
             have HO1 := Lib.hid (ho.at_ (fun _ x => x))
             obtain ⟨A5, c5, rfl⟩ := ho.shape
             replace hk6 := hk6.trans hf
             clear hf ho)
          | (go_at_call 13
             clear T5
             (with_reducible refine (sameEvents_eq _ _ es _ _ _ HO1.out (HEV.out _ (HK.out.trans hk6)) HSM.out).mono ?_)
             rintro ex u4 ⟨rfl, hf⟩
             replace hk6 := hk6.trans hf
             clear hf)
          | (go_at_call 12
             (with_reducible refine (storyOf_calls _ _ es _ _ kind T tn tc ls _ (HST.out _ hk6) HSM.out (HT.out.frame (HK.out.trans hk6) (fun _ _ x => x.elim)) HTN.out).mono ?_)
             rintro ex u5 ⟨v5, rfl, ho, hf⟩
             have HO2 := Lib.hid (ho.at_ (fun _ x => x))
             obtain ⟨A6, c6, rfl⟩ := ho.shape
             replace hk6 := hk6.trans hf
             have h5 := Fr.refl (fun _ => False) u5
             clear hf ho)
          | (go_at_call 19
             (with_reducible refine (refOfAny_calls kind T tn tc ls _ _ es _ _ (HEV.out _ (HK.out.trans hk6)) HSL.out (HT.out.frame (HK.out.trans hk6) (fun _ _ x => x.elim)) HTN.out).mono ?_)
             rintro ex u6 ⟨v6', rfl, ho, hf⟩
             have HO3 := Lib.hid ((ho.mono (G := fun _ => True) (fun _ _ _ => trivial)).at_ (fun _ _ => trivial))
             obtain ⟨A7, c7, rfl⟩ := ho.shape
             replace hk6 := hk6.trans hf
             replace h5 := h5.trans hf
             clear hf ho)
          | (go_at_call 13
             (with_reducible refine (sameEvents_eq _ _ (es.filter (·.keeps kind ls)) _ _ _ (HO2.out.frame h5 (fun _ _ x => x.elim)) HO3.out HSMF.out).mono ?_)
             rintro ex u7 ⟨rfl, hf⟩
             replace hk6 := hk6.trans hf
             clear hf))
        go_ret
        exact ⟨by simp, HK.out.trans hk6⟩
  · obtain rfl : ct = c := by omega
    go_enter Try.func7, Try.ntmps7
    go_upto_region 11 with (first
      | (go_at_call 8
         (with_reducible refine (first16_calls _).mono ?_)
         rintro ex w1 ⟨rfl, hf⟩
         replace hk := hk.trans hf
         clear hf)
      | (go_at_call 9
         (with_reducible refine (HF.out _ hk).mono ?_)
         rintro ex w2 ⟨rfl, hf⟩
         replace hk := hk.trans hf
         clear hf)
      | (go_at_call 10
         (with_reducible refine (storyNew_calls _).mono ?_)
         rintro ex w3 ⟨rfl, hs3, hf, hz3⟩
         have hsz := hk.size
         replace hk := hk.trans hf
         have HS0 := Lib.hid hs3
         have HSZ := Lib.hid hsz
         clear hf hs3 hz3 hsz)
      | (go_at_call 11
         clear T1
         (with_reducible refine (storyAdd_calls _ _ _ _ _ _ _ _ HS0.out ((HEV.out _ hk).take hct) (by simp) (HSM.out.take ct)).mono ?_)
         rintro ex w4 ⟨rfl, ⟨v4, hs4⟩, hf⟩
         replace hk := hk.trans' hf (fun k x y => by have := HSZ.out; omega)
         have hl4 : ([] ++ es.take ct).length ≤ 20000 := by have := HL3.out; simp only [List.nil_append, List.length_take]; omega
         have HA2 := Lib.hid (storyAdd_calls _ _ (.slice none 0 0) _ [] _ (fun _ => True) w4 hs4 (EvsAt.nil _ _) hl4 ⟨by simp, fun e he => by cases he⟩)
         clear hf hs4 hl4)
      | (go_at_call 11
         clear T2
         (with_reducible refine HA2.out.mono ?_)
         rintro ex w5 ⟨rfl, ⟨v5, hs5⟩, hf⟩
         replace hk := hk.trans' hf (fun k x y => by have := HSZ.out; omega)
         have HS2 := Lib.hid hs5
         clear hf hs5)
      | (go_at_call 11
         clear T3
         (with_reducible refine (storyAdd_calls _ _ _ _ _ _ _ _ HS2.out ((HEV.out _ hk).drop hct) (by have := HL3.out; simp only [List.append_nil, List.nil_append, List.length_take]; omega) (HSM.out.drop ct)).mono ?_)
         rintro ex w6 ⟨rfl, ⟨v6, hs6⟩, hf⟩
         replace hk := hk.trans' hf (fun k x y => by have := HSZ.out; omega)
         rw [List.append_nil, List.nil_append, List.take_append_drop] at hs6
         have HS3 := Lib.hid hs6
         clear hf hs6)
      | (go_at_call 11
         clear T3
         (with_reducible refine (storyAdd_calls _ _ _ _ _ _ _ _ HS2.out ((HEV.out _ hk).dropEnd (by omega)) (by have := HL3.out; simp only [List.append_nil, List.nil_append, List.length_take]; omega) (HSM.out.drop ct)).mono ?_)
         rintro ex w6 ⟨rfl, ⟨v6, hs6⟩, hf⟩
         replace hk := hk.trans' hf (fun k x y => by have := HSZ.out; omega)
         rw [List.append_nil, List.nil_append, List.take_append_drop] at hs6
         have HS3 := Lib.hid hs6
         clear hf hs6))
    have HK := Lib.hid hk
    have HTN := Lib.hid htn
    have HSMF := Lib.hid (HSM.out.filter (·.keeps kind ls))
    have HST := Lib.hid (fun w' (hf : Fr (fun _ => False) w6 w') => HS3.out.frame hf (fun x => x) (fun _ _ x => x.elim))
    have hsl : es.length ≤ 20000 := by have := HL3.out; omega
    have HSL := Lib.hid hsl
    clear hk HF d1 d2 d3 hsl htn
    go_wp2
    go_loopw [10] (fun v10 wr => ∃ i : Nat, 1 ≤ i ∧ v10 = .int .i64 i ∧ Fr (fun _ => False) w6 wr) (fun v10 _ => es.length - (intOf v10).toNat)
    case atStart => exact ⟨1, Nat.le_refl _, rfl, by first | exact Fr.refl _ _ | exact (Fr.refl _ _).drew | exact (Fr.refl _ _).drewN _⟩
    case round =>
      obtain ⟨i, hi1, rfl, hf⟩ := hrel
      have HFR := Lib.hid hf
      by_cases hin : i < es.length
      · obtain ⟨ad', ea, _, hcs⟩ := H5.out (by omega)
        cases ea
        obtain ⟨X1, x1, e1, X2, x2, e2, X3, x3, e3, hrx, hlx⟩ := H6.out i hin
        obtain ⟨Y1, y1, f1, Y2, y2, f2, Y3, y3, f3, hry, hly⟩ := H6.out (i - 1) (by omega)
        have hsx := HSM.out.at_ i hin
        have s1 : IntKind.i64.wrap ((i : Int) - 1) = ((i - 1 : Nat) : Int) := by have := HSL.out; rw [IntKind.wrap_i64]; omega
        have hi2 : i - 1 < es.length := by omega
        generalize es.getD i default = x at *
        generalize es.getD (i - 1) default = y at *
        have HALL := Lib.hid (fun w' (hf' : Fr (fun _ => False) wr w') => show (w'.cell? (ad.add (i * 10)) = some (.int .i64 x.k) ∧ w'.cell? ⟨(ad.add (i * 10)).block, (ad.add (i * 10)).off + 1, none⟩ = some (.int .i64 x.th) ∧ w'.cell? ⟨(ad.add (i * 10)).block, (ad.add (i * 10)).off + 2, none⟩ = some (.int .i64 x.pr) ∧ w'.cell? ⟨(ad.add (i * 10)).block, (ad.add (i * 10)).off + 3, none⟩ = some (.int .i64 x.tr) ∧ w'.cell? ⟨(ad.add (i * 10)).block, (ad.add (i * 10)).off + 4, none⟩ = some (.int .i64 x.ti) ∧ w'.cell? ⟨(ad.add (i * 10)).block, (ad.add (i * 10)).off + 5, none⟩ = some (.int .i64 x.st) ∧ w'.cell? ⟨(ad.add (i * 10)).block, (ad.add (i * 10)).off + 6, none⟩ = some (.int .i64 x.ca) ∧ w'.cell? ⟨(ad.add (i * 10)).block, (ad.add (i * 10)).off + 7, none⟩ = some (.slice X1 x1 e1) ∧ w'.cell? ⟨(ad.add (i * 10)).block, (ad.add (i * 10)).off + 8, none⟩ = some (.slice X2 x2 e2) ∧ w'.cell? ⟨(ad.add (i * 10)).block, (ad.add (i * 10)).off + 9, none⟩ = some (.slice X3 x3 e3) ∧ w'.cell? (ad.add ((i - 1) * 10)) = some (.int .i64 y.k) ∧ w'.cell? ⟨(ad.add ((i - 1) * 10)).block, (ad.add ((i - 1) * 10)).off + 1, none⟩ = some (.int .i64 y.th) ∧ w'.cell? ⟨(ad.add ((i - 1) * 10)).block, (ad.add ((i - 1) * 10)).off + 2, none⟩ = some (.int .i64 y.pr) ∧ w'.cell? ⟨(ad.add ((i - 1) * 10)).block, (ad.add ((i - 1) * 10)).off + 3, none⟩ = some (.int .i64 y.tr) ∧ w'.cell? ⟨(ad.add ((i - 1) * 10)).block, (ad.add ((i - 1) * 10)).off + 4, none⟩ = some (.int .i64 y.ti) ∧ w'.cell? ⟨(ad.add ((i - 1) * 10)).block, (ad.add ((i - 1) * 10)).off + 5, none⟩ = some (.int .i64 y.st) ∧ w'.cell? ⟨(ad.add ((i - 1) * 10)).block, (ad.add ((i - 1) * 10)).off + 6, none⟩ = some (.int .i64 y.ca) ∧ w'.cell? ⟨(ad.add ((i - 1) * 10)).block, (ad.add ((i - 1) * 10)).off + 7, none⟩ = some (.slice Y1 y1 f1) ∧ w'.cell? ⟨(ad.add ((i - 1) * 10)).block, (ad.add ((i - 1) * 10)).off + 8, none⟩ = some (.slice Y2 y2 f2) ∧ w'.cell? ⟨(ad.add ((i - 1) * 10)).block, (ad.add ((i - 1) * 10)).off + 9, none⟩ = some (.slice Y3 y3 f3)) from by
          obtain ⟨p0, p1, p2, p3, p4, p5, p6, p7, p8, p9⟩ := row_cells (fun t u ht => (HK.out.trans (hf.trans hf')).cell (hcs t u ht) (fun x => x)) hrx
          obtain ⟨q0, q1, q2, q3, q4, q5, q6, q7, q8, q9⟩ := row_cells (fun t u ht => (HK.out.trans (hf.trans hf')).cell (hcs t u ht) (fun x => x)) hry
          exact ⟨p0, p1, p2, p3, p4, p5, p6, p7, p8, p9, q0, q1, q2, q3, q4, q5, q6, q7, q8, q9⟩)
        have hsa := fun w' (hf' : Fr (fun _ => False) wr w') => storySame_any x y X1 X2 X3 Y1 Y2 Y3 x1 e1 x2 e2 x3 e3 y1 f1 y2 f2 y3 f3 _ _ w' (hlx.frame (HK.out.trans (hf.trans hf')) (fun _ _ x => x.elim)) (hly.frame (HK.out.trans (hf.trans hf')) (fun _ _ x => x.elim)) hsx
        have hse := fun w' (hf' : Fr (fun _ => False) wr w') => sameEvent_any x y X1 X2 X3 Y1 Y2 Y3 x1 e1 x2 e2 x3 e3 y1 f1 y2 f2 y3 f3 _ _ w' (hlx.frame (HK.out.trans (hf.trans hf')) (fun _ _ x => x.elim)) (hly.frame (HK.out.trans (hf.trans hf')) (fun _ _ x => x.elim)) hsx
        have hss := fun w' (hf' : Fr (fun _ => False) wr w') => (storySame_any x x X1 X2 X3 X1 X2 X3 x1 e1 x2 e2 x3 e3 x1 e1 x2 e2 x3 e3 _ _ w' (hlx.frame (HK.out.trans (hf.trans hf')) (fun _ _ x => x.elim)) (hlx.frame (HK.out.trans (hf.trans hf')) (fun _ _ x => x.elim)) hsx).mono (R' := fun e w'' => e = .returned (.bool true) ∧ Fr (fun _ => False) w' w'') (fun e w'' h => ⟨by rw [h.1, decide_eq_true rfl], h.2⟩)
        generalize decide (x = y) = bb at *
        unfold Ev.val at hsa hse hss
        have HSA := Lib.hid hsa
        have HSE := Lib.hid hse
        have HSS := Lib.hid hss
        have T4 := Lib.hid trivial
        have gW := Fr.refl (fun _ => False) wr
        clear hsa hse hss hrx hry hlx hly hcs hsx hf
        go_upto_region 14 with fail
        go_region_held3 (fun w' => w'.cell? (ad.add (i * 10)) = some (.int .i64 x.k) ∧ w'.cell? ⟨(ad.add (i * 10)).block, (ad.add (i * 10)).off + 1, none⟩ = some (.int .i64 x.th) ∧ w'.cell? ⟨(ad.add (i * 10)).block, (ad.add (i * 10)).off + 2, none⟩ = some (.int .i64 x.pr) ∧ w'.cell? ⟨(ad.add (i * 10)).block, (ad.add (i * 10)).off + 3, none⟩ = some (.int .i64 x.tr) ∧ w'.cell? ⟨(ad.add (i * 10)).block, (ad.add (i * 10)).off + 4, none⟩ = some (.int .i64 x.ti) ∧ w'.cell? ⟨(ad.add (i * 10)).block, (ad.add (i * 10)).off + 5, none⟩ = some (.int .i64 x.st) ∧ w'.cell? ⟨(ad.add (i * 10)).block, (ad.add (i * 10)).off + 6, none⟩ = some (.int .i64 x.ca) ∧ w'.cell? ⟨(ad.add (i * 10)).block, (ad.add (i * 10)).off + 7, none⟩ = some (.slice X1 x1 e1) ∧ w'.cell? ⟨(ad.add (i * 10)).block, (ad.add (i * 10)).off + 8, none⟩ = some (.slice X2 x2 e2) ∧ w'.cell? ⟨(ad.add (i * 10)).block, (ad.add (i * 10)).off + 9, none⟩ = some (.slice X3 x3 e3) ∧ w'.cell? (ad.add ((i - 1) * 10)) = some (.int .i64 y.k) ∧ w'.cell? ⟨(ad.add ((i - 1) * 10)).block, (ad.add ((i - 1) * 10)).off + 1, none⟩ = some (.int .i64 y.th) ∧ w'.cell? ⟨(ad.add ((i - 1) * 10)).block, (ad.add ((i - 1) * 10)).off + 2, none⟩ = some (.int .i64 y.pr) ∧ w'.cell? ⟨(ad.add ((i - 1) * 10)).block, (ad.add ((i - 1) * 10)).off + 3, none⟩ = some (.int .i64 y.tr) ∧ w'.cell? ⟨(ad.add ((i - 1) * 10)).block, (ad.add ((i - 1) * 10)).off + 4, none⟩ = some (.int .i64 y.ti) ∧ w'.cell? ⟨(ad.add ((i - 1) * 10)).block, (ad.add ((i - 1) * 10)).off + 5, none⟩ = some (.int .i64 y.st) ∧ w'.cell? ⟨(ad.add ((i - 1) * 10)).block, (ad.add ((i - 1) * 10)).off + 6, none⟩ = some (.int .i64 y.ca) ∧ w'.cell? ⟨(ad.add ((i - 1) * 10)).block, (ad.add ((i - 1) * 10)).off + 7, none⟩ = some (.slice Y1 y1 f1) ∧ w'.cell? ⟨(ad.add ((i - 1) * 10)).block, (ad.add ((i - 1) * 10)).off + 8, none⟩ = some (.slice Y2 y2 f2) ∧ w'.cell? ⟨(ad.add ((i - 1) * 10)).block, (ad.add ((i - 1) * 10)).off + 9, none⟩ = some (.slice Y3 y3 f3))
          ((refine HALL.out _ ?_; (focus ((repeat (first | with_reducible exact gW | with_reducible refine Fr.alloc ?_ _ | with_reducible refine Fr.drew ?_ | with_reducible exact Fr.refl _ _)); done))))
          (first
          | (go_at_call 17
             clear T4
             (with_reducible refine (HSA.out _ (show Fr (fun _ => False) wr _ from by (focus ((repeat (first | with_reducible exact gW | with_reducible refine Fr.alloc ?_ _ | with_reducible refine Fr.drew ?_ | with_reducible exact Fr.refl _ _)); done)))).mono ?_)
             rintro ex u1 ⟨rfl, hf1⟩
             replace gW : Fr (fun _ => False) wr u1 := Fr.trans (by (focus ((repeat (first | with_reducible exact gW | with_reducible refine Fr.alloc ?_ _ | with_reducible refine Fr.drew ?_ | with_reducible exact Fr.refl _ _)); done))) hf1
             clear hf1)
          | (go_at_call 18
             (with_reducible refine (HSE.out _ (show Fr (fun _ => False) wr _ from by (focus ((repeat (first | with_reducible exact gW | with_reducible refine Fr.alloc ?_ _ | with_reducible refine Fr.drew ?_ | with_reducible exact Fr.refl _ _)); done)))).mono ?_)
             rintro ex u2 ⟨rfl, hf2⟩
             replace gW : Fr (fun _ => False) wr u2 := Fr.trans (by (focus ((repeat (first | with_reducible exact gW | with_reducible refine Fr.alloc ?_ _ | with_reducible refine Fr.drew ?_ | with_reducible exact Fr.refl _ _)); done))) hf2
             clear hf2)
          | (go_at_call 17
             (with_reducible refine (HSS.out _ (show Fr (fun _ => False) wr _ from by (focus ((repeat (first | with_reducible exact gW | with_reducible refine Fr.alloc ?_ _ | with_reducible refine Fr.drew ?_ | with_reducible exact Fr.refl _ _)); done)))).mono ?_)
             rintro ex u3 ⟨rfl, hf3⟩
             replace gW : Fr (fun _ => False) wr u3 := Fr.trans (by (focus ((repeat (first | with_reducible exact gW | with_reducible refine Fr.alloc ?_ _ | with_reducible refine Fr.drew ?_ | with_reducible exact Fr.refl _ _)); done))) hf3
             clear hf3))
        all_goals
          go_wp2
          go_roundw
          case rel => exact ⟨i + 1, by omega, by go_num, HFR.out.trans gW⟩
          case measure => simp [intOf]; omega
      · have hk6 := hf
        have T5 := Lib.hid trivial
        clear hf
        go_wp2_with (first
          | (go_at_call 8
             (with_reducible refine (first16_calls _).mono ?_)
             rintro ex u1 ⟨rfl, hf⟩
             replace hk6 := hk6.trans hf
             clear hf)
          | (go_at_call 16
             (with_reducible refine (storyLen_calls _ _ _ _ _ (HST.out _ hk6)).mono ?_)
             rintro ex u2 ⟨rfl, hf⟩
             replace hk6 := hk6.trans hf
             clear hf)
          | (go_at_call 15
             (with_reducible refine (storyAll_calls _ _ _ _ _ (HST.out _ hk6) HSM.out).mono ?_)
             rintro ex u3 ⟨v3, rfl, ho, hf⟩
             have HO1 := Lib.hid (ho.at_ (fun _ x => x))
             obtain ⟨A5, c5, rfl⟩ := ho.shape
             replace hk6 := hk6.trans hf
             clear hf ho)
          | (go_at_call 13
             clear T5
             (with_reducible refine (sameEvents_eq _ _ es _ _ _ HO1.out (HEV.out _ (HK.out.trans hk6)) HSM.out).mono ?_)
             rintro ex u4 ⟨rfl, hf⟩
             replace hk6 := hk6.trans hf
             clear hf)
          | (go_at_call 12
             (with_reducible refine (storyOf_calls _ _ es _ _ kind T tn tc ls _ (HST.out _ hk6) HSM.out (HT.out.frame (HK.out.trans hk6) (fun _ _ x => x.elim)) HTN.out).mono ?_)
             rintro ex u5 ⟨v5, rfl, ho, hf⟩
             have HO2 := Lib.hid (ho.at_ (fun _ x => x))
             obtain ⟨A6, c6, rfl⟩ := ho.shape
             replace hk6 := hk6.trans hf
             have h5 := Fr.refl (fun _ => False) u5
             clear hf ho)
          | (go_at_call 19
             (with_reducible refine (refOfAny_calls kind T tn tc ls _ _ es _ _ (HEV.out _ (HK.out.trans hk6)) HSL.out (HT.out.frame (HK.out.trans hk6) (fun _ _ x => x.elim)) HTN.out).mono ?_)
             rintro ex u6 ⟨v6', rfl, ho, hf⟩
             have HO3 := Lib.hid ((ho.mono (G := fun _ => True) (fun _ _ _ => trivial)).at_ (fun _ _ => trivial))
             obtain ⟨A7, c7, rfl⟩ := ho.shape
             replace hk6 := hk6.trans hf
             replace h5 := h5.trans hf
             clear hf ho)
          | (go_at_call 13
             (with_reducible refine (sameEvents_eq _ _ (es.filter (·.keeps kind ls)) _ _ _ (HO2.out.frame h5 (fun _ _ x => x.elim)) HO3.out HSMF.out).mono ?_)
             rintro ex u7 ⟨rfl, hf⟩
             replace hk6 := hk6.trans hf
             clear hf))
        go_ret
        exact ⟨by simp, HK.out.trans hk6⟩
end Go.Proofs.Ythlanmibfnaoiaa
