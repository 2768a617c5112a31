/- ltklaw16.StoryParts answers true. -/
import Derived.Test.YthlanmibfnaoiaaEvC
namespace Go.Proofs.Ythlanmibfnaoiaa
open Go.RowKit

/-- A slice of one event, just made. -/
theorem evs_one {w : World} {F : Nat → Prop} {e : Ev} {A1 A2 A3 : Option Addr} {n1 c1 n2 c2 n3 c3 : Nat} (h : Lies w F e A1 n1 c1 A2 n2 c2 A3 n3 c3) :
    EvsAt (w.alloc (.cells #[.int .i64 e.k, .int .i64 e.th, .int .i64 e.pr, .int .i64 e.tr, .int .i64 e.ti, .int .i64 e.st, .int .i64 e.ca, .slice A1 n1 c1, .slice A2 n2 c2, .slice A3 n3 c3] 33)) (fun _ => True) (.slice (some ⟨w.heap.size, 0, none⟩) 1 1) [e] := by
  have hf := (Fr.refl (fun _ => False) w).alloc (.cells #[.int .i64 e.k, .int .i64 e.th, .int .i64 e.pr, .int .i64 e.tr, .int .i64 e.ti, .int .i64 e.st, .int .i64 e.ca, .slice A1 n1 c1, .slice A2 n2 c2, .slice A3 n3 c3] 33)
  refine ⟨some ⟨w.heap.size, 0, none⟩, 1, e.cells (.slice A1 n1 c1) (.slice A2 n2 c2) (.slice A3 n3 c3), rfl, Nat.le_refl _, (fun h => by cases h), rfl, fun _ => ⟨_, rfl, trivial, fun j u hj => ?_⟩, fun i hi => ?_⟩
  · have h1 : (Addr.mk w.heap.size 0 none).add j = ⟨w.heap.size, j, none⟩ := by unfold Addr.add; split <;> simp_all
    rw [h1, blk_cell (heap_alloc_new w _)]
    have : j < 10 := by have := (List.getElem?_eq_some_iff.1 hj).1; exact this
    have : j = 0 ∨ j = 1 ∨ j = 2 ∨ j = 3 ∨ j = 4 ∨ j = 5 ∨ j = 6 ∨ j = 7 ∨ j = 8 ∨ j = 9 := by omega
    rcases this with rfl | rfl | rfl | rfl | rfl | rfl | rfl | rfl | rfl | rfl <;> exact hj
  · obtain rfl : i = 0 := by simp at hi; exact hi
    exact ⟨A1, n1, c1, A2, n2, c2, A3, n3, c3, fun j hj => by rw [Nat.zero_mul, Nat.zero_add]; rfl, (h.frame hf (fun _ _ x => x.elim)).mono (fun _ _ _ => trivial)⟩
theorem take_snoc {es : List Ev} {i : Nat} (h : i < es.length) : es.take i ++ [es.getD i default] = es.take (i + 1) := by
  rw [List.take_add_one, List.getElem?_eq_getElem h, List.getD_eq_getElem?_getD, List.getElem?_eq_getElem h]; rfl
theorem Smalls.one {es : List Ev} (h : Smalls es) {i : Nat} (hi : i < es.length) : Smalls [es.getD i default] :=
  ⟨by simp, fun e he => by rw [List.mem_singleton.1 he]; exact h.at_ i hi⟩

set_option maxRecDepth 100000 in
theorem parts_many (A : Option Addr) (n c : Nat) (es : List Ev) (w : World) (h : EvsAt w (fun _ => True) (.slice A n c) es) (hb : fewB es = false) :
    Calls Try.prog 6 #[.slice A n c] w fun e w' => e = .returned (.bool true) ∧ Fr (fun _ => False) w w' := by
  have HF := Lib.hid (fun w' (hf : Fr (fun _ => False) w w') => few16_calls _ es _ w' (h.frame hf (fun _ _ x => x.elim)))
  rw [hb] at HF
  clear h hb
  go_enter Try.func6, Try.ntmps6
  go_wp2_with (first
    | (go_at_call 8
       (with_reducible refine (first16_calls w).mono ?_)
       rintro ex w1 ⟨rfl, hf1⟩)
    | (go_at_call 9
       (with_reducible refine (HF.out _ hf1).mono ?_)
       rintro ex w2 ⟨rfl, hf2⟩)
    | (go_at_call 8
       (with_reducible refine (first16_calls w2).mono ?_)
       rintro ex w3 ⟨rfl, hf3⟩))
  go_ret
  exact ⟨rfl, hf1.trans (hf2.trans hf3)⟩

set_option maxRecDepth 100000 in
set_option maxHeartbeats 4000000 in
theorem parts_few (A : Option Addr) (n c : Nat) (es : List Ev) (w : World) (h : EvsAt w (fun _ => True) (.slice A n c) es) (hb : fewB es = true) :
    Calls Try.prog 6 #[.slice A n c] w fun e w' => e = .returned (.bool true) ∧ Fr (fun _ => False) w w' := by
  have HF := Lib.hid (fun w' (hf : Fr (fun _ => False) w w') => few16_calls _ es _ w' (h.frame hf (fun _ _ x => x.elim)))
  rw [hb] at HF
  have HS := Lib.hid (fewB_smalls hb)
  have hlen : es.length ≤ 300 := (fewB_few hb).1
  obtain ⟨A0, c0, cs, e0, ha2, ha3, ha4, ha5, ha6⟩ := h.ex
  cases e0
  have H5 := Lib.hid ha5
  have H6 := Lib.hid ha6
  have HE := Lib.hid (h.mono (G := fun k => k < w.heap.size) (fun k hk _ => hk))
  clear h hb ha5 ha6 ha4 ha3
  go_enter Try.func6, Try.ntmps6
  go_wp2_with (first
    | (go_at_call 8
       (with_reducible refine (first16_calls w).mono ?_)
       rintro ex w1 ⟨rfl, hf1⟩)
    | (go_at_call 9
       (with_reducible refine (HF.out _ hf1).mono ?_)
       rintro ex w2 ⟨rfl, hf2⟩)
    | (go_at_call 10
       (with_reducible refine (storyNew_calls w2).mono ?_)
       rintro ex w3 ⟨rfl, hs3, hf3, hz3⟩)
    | (go_at_call 10
       (with_reducible refine (storyNew_calls w3).mono ?_)
       rintro ex w4 ⟨rfl, hs4, hf4, hz4⟩)
    | (go_at_call 10
       (with_reducible refine (storyNew_calls w4).mono ?_)
       rintro ex w5 ⟨rfl, hs5, hf5, hz5⟩
       have HSA := Lib.hid ((hs3.frame (hf4.trans hf5) (fun x => x) (fun _ _ x => x.elim)).mono (G := fun k => w5.heap.size ≤ k) (fun _ _ x => x.elim) (by omega))
       have HSB := Lib.hid (hs4.frame hf5 (fun x => x) (fun _ _ x => x.elim))
       have HSC := Lib.hid hs5
       have h05 := hf1.trans (hf2.trans (hf3.trans (hf4.trans hf5)))
       have H05 := Lib.hid h05
       have hsz2 := (hf1.trans hf2).size
       clear hs3 hs4 hs5 HF hf1 hf2 hf3 hf4 hf5 h05))
  generalize hga : w2.heap.size = sa at *
  generalize hgb : w3.heap.size = sb at *
  generalize hgc : w4.heap.size = sc at *
  clear hga hgb hgc
  generalize hln : es.length = n at *
  have HN := Lib.hid hln
  clear hln
  go_loopw [6] (fun v6 wr => ∃ i : Nat, ∃ va, i ≤ n ∧ v6 = .int .i64 i ∧ StoryAt wr sa (fun k => w5.heap.size ≤ k) va (es.take i) ∧ Fr (fun k => k = sa) w5 wr) (fun v6 _ => n - (intOf v6).toNat)
  case atStart => exact ⟨0, _, Nat.zero_le _, rfl, HSA.out, Fr.refl _ _⟩
  case round =>
    obtain ⟨i, va, hi, rfl, hsa, hf⟩ := hrel
    have hwr := hf.size
    by_cases hil : i < n
    · obtain ⟨ad, rfl, _, hcs⟩ := H5.out (by omega)
      obtain ⟨A1, n1, c1, A2, n2, c2, A3, n3, c3, hrow, hL⟩ := H6.out i hil
      have hf0 : Fr (fun _ => False) w wr := H05.out.trans' hf (fun k x y => by omega)
      obtain ⟨q0, q1, q2, q3, q4, q5, q6, q7, q8, q9⟩ := row_cells (fun t u ht => hf0.cell (hcs t u ht) (fun x => x)) hrow
      have hsm := HS.out.one (i := i) (by rw [HN.out]; exact hil)
      have htk := take_snoc (es := es) (i := i) (by rw [HN.out]; exact hil)
      have hev := evs_one (hL.frame hf0 (fun _ _ x => x.elim))
      have hsa' := hsa.frame ((Fr.refl (fun _ => False) wr).alloc (.cells #[.int .i64 (es.getD i default).k, .int .i64 (es.getD i default).th, .int .i64 (es.getD i default).pr, .int .i64 (es.getD i default).tr, .int .i64 (es.getD i default).ti, .int .i64 (es.getD i default).st, .int .i64 (es.getD i default).ca, .slice A1 n1 c1, .slice A2 n2 c2, .slice A3 n3 c3] 33)) (fun x => x) (fun _ _ x => x.elim)
      have HAD := Lib.hid (storyAdd_calls sa _ _ _ _ _ _ _ hsa' hev (by simp; omega) hsm)
      have HTK := Lib.hid htk
      have HF := Lib.hid hf
      have hl1 : (es.take (i + 1)).length = i + 1 := by rw [List.length_take, HN.out]; omega
      have HL1 := Lib.hid hl1
      clear hcs hrow hL hsm htk hev hsa hsa' hf hf0 hl1
      generalize es.getD i default = e at *
      go_wp2_with (first
        | (go_at_call 11
           (with_reducible refine HAD.out.mono ?_)
           rintro ex w6 ⟨rfl, ⟨v6, hs6⟩, hf6⟩
           rw [HTK.out] at hs6
           have hsn := hs6.mono (G := fun k => w5.heap.size ≤ k) (fun k _ x => by rcases x with x | x; exact x.2; simp at x; omega) (by omega)
           have HSN := Lib.hid (And.intro hsn (((HF.out.alloc _).trans hf6)))
           have HLN := Lib.hid (storyLen_calls sa _ _ _ w6 hsn)
           rw [HL1.out] at HLN
           clear hs6 hf6 hsn HAD)
        | (go_at_call 16
           (with_reducible refine HLN.out.mono ?_)
           rintro ex w7 ⟨rfl, hf7⟩))
      go_roundw
      case rel => exact ⟨i + 1, _, by omega, by go_num, HSN.out.1.frame hf7 (fun x => x) (fun _ _ x => x.elim), HSN.out.2.trans (hf7.mono (fun _ x => x.elim))⟩
      case measure => simp [intOf]; omega
    · obtain rfl : i = n := by omega
      have htl : es.take i = es := by rw [← HN.out, List.take_length]
      rw [htl] at hsa
      have HSA2 := Lib.hid hsa
      have hf0 : Fr (fun _ => False) w wr := H05.out.trans' hf (fun k x y => by omega)
      have HF0 := Lib.hid hf0
      have HSC2 := Lib.hid (HSC.out.frame hf (by omega) (fun _ x => x.elim))
      have HAB := Lib.hid (storyAdd_calls sb _ _ _ es _ _ wr (HSB.out.frame hf (by omega) (fun _ x => x.elim)) (HE.out.frame hf0 (fun _ _ x => x.elim)) (by simp) HS.out)
      clear hsa htl hf hf0
      go_wp2_with (first
        | (go_at_call 11
           (with_reducible refine HAB.out.mono ?_)
           rintro ex w6 ⟨rfl, ⟨v6, hs6⟩, hf6⟩
           rw [List.nil_append] at hs6
           have HF6 := Lib.hid hf6
           have HSB2 := Lib.hid hs6
           have HSA3 := Lib.hid (HSA2.out.frame hf6 (by omega) (fun k x y => by omega))
           have HSC3 := Lib.hid (HSC2.out.frame hf6 (by omega) (fun _ x => x.elim))
           clear hs6 hf6 HAB)
        | (go_at_call 8
           (with_reducible refine (first16_calls w6).mono ?_)
           rintro ex w7 ⟨rfl, hf7⟩
           have HF7 := Lib.hid hf7
           have HAL := Lib.hid (storyAll_calls sa _ es _ w7 (HSA3.out.frame hf7 (fun x => x) (fun _ _ x => x.elim)) HS.out)
           clear hf7)
        | (go_at_call 15
           (with_reducible refine HAL.out.mono ?_)
           rintro ex w8 ⟨v8, rfl, ho8, hf8⟩
           obtain ⟨A8, c8, m8, rfl⟩ := ho8.shape'
           have HX8 := Lib.hid (And.intro (ho8.at_ (fun k x => x)) hf8)
           have HBL := Lib.hid (storyAll_calls sb _ es _ w8 (HSB2.out.frame (HF7.out.trans hf8) (fun x => x) (fun _ _ x => x.elim)) HS.out)
           clear ho8 hf8 HAL)
        | (go_at_call 15
           (with_reducible refine HBL.out.mono ?_)
           rintro ex w9 ⟨v9, rfl, ho9, hf9⟩
           obtain ⟨A9, c9, m9, rfl⟩ := ho9.shape'
           have HX9 := Lib.hid hf9
           have HSE := Lib.hid (sameEvents_eq _ _ es _ _ w9 (HX8.out.1.frame hf9 (fun _ _ x => x.elim)) (ho9.at_ (fun k x => x)) HS.out)
           clear ho9 hf9 HBL)
        | (go_at_call 13
           (with_reducible refine HSE.out.mono ?_)
           rintro ex w10 ⟨rfl, hf10⟩
           have HX10 := Lib.hid (HF7.out.trans (HX8.out.2.trans (HX9.out.trans hf10)))
           have hsc := HSC3.out.frame HX10.out (fun x => x) (fun _ _ x => x.elim)
           have HLC := Lib.hid (storyLen_calls sc _ _ _ w10 hsc)
           have HSC4 := Lib.hid hsc
           clear hf10 hsc HSE
           rw [show (([] : List Ev).length : Int) = 0 from rfl] at HLC)
        | (go_at_call 16
           (with_reducible refine HLC.out.mono ?_)
           rintro ex w11 ⟨rfl, hf11⟩
           have HF11 := Lib.hid hf11
           have HCL := Lib.hid (storyAll_calls sc _ [] _ w11 (HSC4.out.frame hf11 (fun x => x) (fun _ _ x => x.elim)) ⟨by simp, fun e he => by cases he⟩)
           clear hf11 HLC)
        | (go_at_call 15
           (with_reducible refine HCL.out.mono ?_)
           rintro ex w12 ⟨v12, rfl, ho12, hf12⟩
           obtain ⟨A12, c12, rfl⟩ := ho12.shape
           simp only [List.length_nil]
           clear ho12))
      go_ret
      exact ⟨rfl, HF0.out.trans' (HF6.out.trans ((HX10.out.trans (HF11.out.trans hf12)).mono (fun _ x => x.elim))) (fun k x y => by omega)⟩

theorem parts_walk (A : Option Addr) (n c : Nat) (es : List Ev) (w : World) (h : EvsAt w (fun _ => True) (.slice A n c) es) :
    Calls Try.prog 6 #[.slice A n c] w fun e w' => e = .returned (.bool true) ∧ Fr (fun _ => False) w w' := by
  cases hb : fewB es with
  | false => exact parts_many A n c es w h hb
  | true => exact parts_few A n c es w h hb
end Go.Proofs.Ythlanmibfnaoiaa
