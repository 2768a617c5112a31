/- The document's likeness of events. -/
import Derived.Test.YthlanmibfnaoiaaEv6
import Derived.Deep.RegionHeld3
namespace Go.Proofs.Ythlanmibfnaoiaa
open Go.RowKit

/-- Two events in boxes, behind any calls: their last cells. -/
theorem box_two (w : World) (k th pr tr ti st ca k' th' pr' tr' ti' st' ca' : Int) (a b c a' b' c' : Value) (w' : World)
    (hf : Fr (fun _ => False) ((w.alloc (.cells #[.int .i64 k, .int .i64 th, .int .i64 pr, .int .i64 tr, .int .i64 ti, .int .i64 st, .int .i64 ca, a, b, c] 33)).alloc (.cells #[.int .i64 k', .int .i64 th', .int .i64 pr', .int .i64 tr', .int .i64 ti', .int .i64 st', .int .i64 ca', a', b', c'] 33)) w') :
    w'.cell? ⟨w.heap.size, 8, none⟩ = some b ∧ w'.cell? ⟨w.heap.size, 9, none⟩ = some c ∧ w'.cell? ⟨w.heap.size + 1, 8, none⟩ = some b' ∧ w'.cell? ⟨w.heap.size + 1, 9, none⟩ = some c' := by
  have h1 := hf.heap (blk_alloc (heap_alloc_new w (.cells #[.int .i64 k, .int .i64 th, .int .i64 pr, .int .i64 tr, .int .i64 ti, .int .i64 st, .int .i64 ca, a, b, c] 33)) _) (fun x => x)
  have h2 := hf.heap (heap_alloc_new _ _) (fun x => x)
  rw [show (w.alloc (.cells #[.int .i64 k, .int .i64 th, .int .i64 pr, .int .i64 tr, .int .i64 ti, .int .i64 st, .int .i64 ca, a, b, c] 33)).heap.size = w.heap.size + 1 by simp] at h2
  refine ⟨?_, ?_, ?_, ?_⟩
  · rw [blk_cell h1]; rfl
  · rw [blk_cell h1]; rfl
  · rw [blk_cell h2]; rfl
  · rw [blk_cell h2]; rfl

set_option maxRecDepth 100000 in
set_option maxHeartbeats 2000000 in
theorem sameEvent_eq (a : Ev) (A1 A2 A3 B1 B2 B3 : Option Addr) (n1 c1 n2 c2 n3 c3 m1 d1 m2 d2 m3 d3 : Nat) (F G : Nat → Prop) (w : World) (ha : Lies w F a A1 n1 c1 A2 n2 c2 A3 n3 c3) (hb : Lies w G a B1 m1 d1 B2 m2 d2 B3 m3 d3) (hs : a.small) :
    Calls Try.prog 18 #[a.val (.slice A1 n1 c1) (.slice A2 n2 c2) (.slice A3 n3 c3), a.val (.slice B1 m1 d1) (.slice B2 m2 d2) (.slice B3 m3 d3)] w fun e w' => e = .returned (.bool true) ∧ Fr (fun _ => False) w w' := by
  obtain ⟨k, th, pr, tr, ti, st, ca, rs, ws, gs⟩ := a
  have hfa := ((Fr.refl (fun _ => False) w).alloc (.cells #[.int .i64 k, .int .i64 th, .int .i64 pr, .int .i64 tr, .int .i64 ti, .int .i64 st, .int .i64 ca, .slice A1 n1 c1, .slice A2 n2 c2, .slice A3 n3 c3] 33)).alloc (.cells #[.int .i64 k, .int .i64 th, .int .i64 pr, .int .i64 tr, .int .i64 ti, .int .i64 st, .int .i64 ca, .slice B1 m1 d1, .slice B2 m2 d2, .slice B3 m3 d3] 33)
  have l1 : rs.length = n1 * 2 := ha.r.len
  have l2 : ws.length = n2 * 2 := ha.w_.len
  have l3 : gs.length = n3 := ha.g.len
  obtain ⟨s1, s2, s3⟩ : rs.length ≤ 20000 ∧ ws.length ≤ 20000 ∧ gs.length ≤ 20000 := hs
  have HA := Lib.hid (ha.frame hfa (fun _ _ x => x.elim))
  have HB := Lib.hid (hb.frame hfa (fun _ _ x => x.elim))
  have HFA := Lib.hid hfa
  have HBX := Lib.hid (box_two w k th pr tr ti st ca k th pr tr ti st ca (.slice A1 n1 c1) (.slice A2 n2 c2) (.slice A3 n3 c3) (.slice B1 m1 d1) (.slice B2 m2 d2) (.slice B3 m3 d3))
  have t1 : n1 ≤ 20000 := by omega
  have t2 : n2 ≤ 20000 := by omega
  have t3 : n3 ≤ 20000 := by omega
  clear ha hb hfa l1 l2 l3 s1 s2 s3
  unfold Ev.val
  dsimp only
  have HC1 := Lib.hid (access_calls A1 n1 c1 B1 m1 d1 rs rs F G _ HA.out.r t1 HB.out.r)
  have HC2 := Lib.hid (fun w' (hf : Fr (fun _ => False) _ w') => access_calls A2 n2 c2 B2 m2 d2 ws ws F G w' (HA.out.w_.frame hf (fun _ _ x => x.elim)) t2 (HB.out.w_.frame hf (fun _ _ x => x.elim)))
  have HC3 := Lib.hid (fun w' (hf : Fr (fun _ => False) _ w') => ints_calls A3 n3 c3 B3 m3 d3 gs gs F G w' (HA.out.g.frame hf (fun _ _ x => x.elim)) t3 (HB.out.g.frame hf (fun _ _ x => x.elim)))
  simp only [decide_true] at HC1 HC2 HC3
  go_enter Try.func18, Try.ntmps18
  go_wp2_with (first
    | (go_at_call 28
       (with_reducible refine HC1.out.mono ?_)
       rintro ex w1 ⟨rfl, hf1⟩
       obtain ⟨x1, x2, x3, x4⟩ := HBX.out _ hf1)
    | (go_at_call 28
       (with_reducible refine (HC2.out _ hf1).mono ?_)
       rintro ex w2 ⟨rfl, hf2⟩
       have hf3 := hf1.trans hf2
       obtain ⟨y1, y2, y3, y4⟩ := HBX.out _ hf3)
    | (go_at_call 29
       (with_reducible refine (HC3.out _ hf3).mono ?_)
       rintro ex w3 ⟨rfl, hf4⟩))
  go_ret
  exact ⟨rfl, HFA.out.trans (hf3.trans hf4)⟩

theorem evs_eq {xs ys : List Ev} (h : xs.length = ys.length) (hk : ∀ i, i < xs.length → xs.getD i default = ys.getD i default) : xs = ys := by
  apply List.ext_getElem h
  intro i h1 h2
  have := hk i h1
  rw [List.getD_eq_getElem?_getD, List.getD_eq_getElem?_getD, List.getElem?_eq_getElem h1, List.getElem?_eq_getElem h2] at this
  simpa using this

set_option maxRecDepth 100000 in
set_option maxHeartbeats 2000000 in
theorem sameEvents_eq (v u : Value) (es : List Ev) (F G : Nat → Prop) (w : World) (hx : EvsAt w F v es) (hy : EvsAt w G u es) (hs : Smalls es) :
    Calls Try.prog 13 #[v, u] w fun e w' => e = .returned (.bool true) ∧ Fr (fun _ => False) w w' := by
  have HS := Lib.hid hs
  have hl := hs.1
  obtain ⟨A, c, cs, rfl, ha2, ha3, ha4, ha5, ha6⟩ := hx.ex
  obtain ⟨B, d, ds, rfl, hb2, hb3, hb4, hb5, hb6⟩ := hy.ex
  have H5 := Lib.hid (And.intro ha5 hb5)
  have H6 := Lib.hid (And.intro ha6 hb6)
  clear hx hy hs ha5 hb5 ha6 hb6 ha4 hb4 ha3 hb3
  generalize hl1 : es.length = n at *
  have HN := Lib.hid hl1
  clear hl1
  go_enter Try.func13, Try.ntmps13
  go_wp2
  go_loopw [5] (fun v5 wr => ∃ j : Nat, j ≤ n ∧ v5 = .int .i64 j ∧ Fr (fun _ => False) w wr) (fun v5 _ => n - (intOf v5).toNat)
  case atStart => exact ⟨0, Nat.zero_le _, rfl, Fr.refl _ _⟩
  case round =>
    obtain ⟨j, hj, rfl, hf⟩ := hrel
    by_cases hlt : j < n
    · obtain ⟨ad, rfl, _, hcs⟩ := H5.out.1 (by omega)
      obtain ⟨bd, rfl, _, hds⟩ := H5.out.2 (by omega)
      obtain ⟨A1, n1, c1, A2, n2, c2, A3, n3, c3, hrow, hL⟩ := H6.out.1 j hlt
      obtain ⟨B1, m1, d1, B2, m2, d2, B3, m3, d3, krow, kL⟩ := H6.out.2 j hlt
      have hsm := HS.out.at_ j (by rw [HN.out]; exact hlt)
      have HCL := Lib.hid (fun w' (hf : Fr (fun _ => False) w w') => sameEvent_eq _ A1 A2 A3 B1 B2 B3 n1 c1 n2 c2 n3 c3 m1 d1 m2 d2 m3 d3 F G w' (hL.frame hf (fun _ _ x => x.elim)) (kL.frame hf (fun _ _ x => x.elim)) hsm)
      have HQ := Lib.hid (row_cells (fun t u ht => (hf.drew).cell (hcs t u ht) (fun x => x)) hrow)
      have HP := Lib.hid (row_cells (fun t u ht => (hf.drew).cell (hds t u ht) (fun x => x)) krow)
      have HQF := Lib.hid (fun (w' : World) (h : Fr (fun _ => False) wr.drew w') => row_cells (fun t u ht => (hf.drew.trans h).cell (hcs t u ht) (fun x => x)) hrow)
      have HPF := Lib.hid (fun (w' : World) (h : Fr (fun _ => False) wr.drew w') => row_cells (fun t u ht => (hf.drew.trans h).cell (hds t u ht) (fun x => x)) krow)
      have HF := Lib.hid hf
      clear hcs hds hrow krow hL kL hsm hf
      generalize hev : es.getD j default = e at *
      clear hev
      unfold Ev.val at HCL
      go_wp2
      go_region_held3 (fun w' => (w'.cell? (ad.add (j * 10)) = some (.int .i64 e.k) ∧ w'.cell? ⟨(ad.add (j * 10)).block, (ad.add (j * 10)).off + 1, none⟩ = some (.int .i64 e.th) ∧ w'.cell? ⟨(ad.add (j * 10)).block, (ad.add (j * 10)).off + 2, none⟩ = some (.int .i64 e.pr) ∧ w'.cell? ⟨(ad.add (j * 10)).block, (ad.add (j * 10)).off + 3, none⟩ = some (.int .i64 e.tr) ∧ w'.cell? ⟨(ad.add (j * 10)).block, (ad.add (j * 10)).off + 4, none⟩ = some (.int .i64 e.ti) ∧ w'.cell? ⟨(ad.add (j * 10)).block, (ad.add (j * 10)).off + 5, none⟩ = some (.int .i64 e.st) ∧ w'.cell? ⟨(ad.add (j * 10)).block, (ad.add (j * 10)).off + 6, none⟩ = some (.int .i64 e.ca) ∧ w'.cell? ⟨(ad.add (j * 10)).block, (ad.add (j * 10)).off + 7, none⟩ = some (.slice A1 n1 c1) ∧ w'.cell? ⟨(ad.add (j * 10)).block, (ad.add (j * 10)).off + 8, none⟩ = some (.slice A2 n2 c2) ∧ w'.cell? ⟨(ad.add (j * 10)).block, (ad.add (j * 10)).off + 9, none⟩ = some (.slice A3 n3 c3)) ∧ (w'.cell? (bd.add (j * 10)) = some (.int .i64 e.k) ∧ w'.cell? ⟨(bd.add (j * 10)).block, (bd.add (j * 10)).off + 1, none⟩ = some (.int .i64 e.th) ∧ w'.cell? ⟨(bd.add (j * 10)).block, (bd.add (j * 10)).off + 2, none⟩ = some (.int .i64 e.pr) ∧ w'.cell? ⟨(bd.add (j * 10)).block, (bd.add (j * 10)).off + 3, none⟩ = some (.int .i64 e.tr) ∧ w'.cell? ⟨(bd.add (j * 10)).block, (bd.add (j * 10)).off + 4, none⟩ = some (.int .i64 e.ti) ∧ w'.cell? ⟨(bd.add (j * 10)).block, (bd.add (j * 10)).off + 5, none⟩ = some (.int .i64 e.st) ∧ w'.cell? ⟨(bd.add (j * 10)).block, (bd.add (j * 10)).off + 6, none⟩ = some (.int .i64 e.ca) ∧ w'.cell? ⟨(bd.add (j * 10)).block, (bd.add (j * 10)).off + 7, none⟩ = some (.slice B1 m1 d1) ∧ w'.cell? ⟨(bd.add (j * 10)).block, (bd.add (j * 10)).off + 8, none⟩ = some (.slice B2 m2 d2) ∧ w'.cell? ⟨(bd.add (j * 10)).block, (bd.add (j * 10)).off + 9, none⟩ = some (.slice B3 m3 d3))) (first | exact ⟨HQ.out, HP.out⟩ | exact HK) (first
        | (go_at_call 18
           (with_reducible refine (HCL.out _ HF.out.drew).mono ?_)
           rintro ex w1 ⟨rfl, hf1⟩
           have HK := And.intro (HQF.out _ hf1) (HPF.out _ hf1)))
      all_goals
        go_wp2
        go_roundw
        case rel => exact ⟨j + 1, by omega, by go_num, HF.out.drew.trans hf1⟩
        case measure => simp [intOf]; omega
    · obtain rfl : j = n := by omega
      go_wp2
      go_ret
      exact ⟨rfl, hf⟩
end Go.Proofs.Ythlanmibfnaoiaa
