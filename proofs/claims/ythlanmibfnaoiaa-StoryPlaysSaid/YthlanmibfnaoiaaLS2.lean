/- story.Same: whether two events are alike. -/
import Derived.Test.YthlanmibfnaoiaaEvC
import Derived.Test.YthlanmibfnaoiaaAp
import Derived.Test.YthlanmibfnaoiaaLS3
import Derived.Deep.RegionHeld3
import Derived.Deep.Cut
import Derived.Deep.CutRange
namespace Go.Proofs.Ythlanmibfnaoiaa
open Go.RowKit

theorem seven_cells {w : World} {b : Nat} {T : TypeId} {v0 v1 v2 v3 v4 v5 v6 : Value} (h : w.heap[b]? = some (.cells #[v0, v1, v2, v3, v4, v5, v6] T (0, 0))) : w.cell? ⟨b, 0, none⟩ = some v0 ∧ w.cell? ⟨b, 1, none⟩ = some v1 ∧ w.cell? ⟨b, 2, none⟩ = some v2 ∧ w.cell? ⟨b, 3, none⟩ = some v3 ∧ w.cell? ⟨b, 4, none⟩ = some v4 ∧ w.cell? ⟨b, 5, none⟩ = some v5 ∧ w.cell? ⟨b, 6, none⟩ = some v6 := by
  refine ⟨?_, ?_, ?_, ?_, ?_, ?_, ?_⟩ <;> (rw [blk_cell h]; rfl)
theorem eqGuard_seven (x y : Operand) (xs ys : Array Value) (w : World) : (eqGuard .eql 52 x y (.agg xs) (.agg ys)).run Try.prog w = .ok () w := run_eqGuard_agg w .eql _ x y xs ys (by kernel_rfl)
set_option maxRecDepth 100000 in
set_option maxHeartbeats 8000000 in
theorem storySame_any (a b : Ev) (A1 A2 A3 B1 B2 B3 : Option Addr) (n1 c1 n2 c2 n3 c3 m1 d1 m2 d2 m3 d3 : Nat) (F G : Nat → Prop) (w : World) (ha : Lies w F a A1 n1 c1 A2 n2 c2 A3 n3 c3) (hb : Lies w G b B1 m1 d1 B2 m2 d2 B3 m3 d3) (hs : a.small) :
    Calls Try.prog 17 #[a.val (.slice A1 n1 c1) (.slice A2 n2 c2) (.slice A3 n3 c3), b.val (.slice B1 m1 d1) (.slice B2 m2 d2) (.slice B3 m3 d3)] w fun e w' => e = .returned (.bool (decide (a = b))) ∧ Fr (fun _ => False) w w' := by
  obtain ⟨r, hr⟩ : ∃ r, r = decide (a = b) := ⟨_, rfl⟩
  rw [← hr]
  obtain ⟨k, th, pr, tr, ti, st, ca, rs, ws, gs⟩ := a
  obtain ⟨k', th', pr', tr', ti', st', ca', rs', ws', gs'⟩ := b
  have hfa := ((Fr.refl (fun _ => False) w).alloc (.cells #[.int .i64 k, .int .i64 th, .int .i64 pr, .int .i64 tr, .int .i64 ti, .int .i64 st, .int .i64 ca, .slice A1 n1 c1, .slice A2 n2 c2, .slice A3 n3 c3] 33)).alloc (.cells #[.int .i64 k', .int .i64 th', .int .i64 pr', .int .i64 tr', .int .i64 ti', .int .i64 st', .int .i64 ca', .slice B1 m1 d1, .slice B2 m2 d2, .slice B3 m3 d3] 33)
  have hA := heap_alloc2_old w (.cells #[.int .i64 k, .int .i64 th, .int .i64 pr, .int .i64 tr, .int .i64 ti, .int .i64 st, .int .i64 ca, .slice A1 n1 c1, .slice A2 n2 c2, .slice A3 n3 c3] 33) (.cells #[.int .i64 k', .int .i64 th', .int .i64 pr', .int .i64 tr', .int .i64 ti', .int .i64 st', .int .i64 ca', .slice B1 m1 d1, .slice B2 m2 d2, .slice B3 m3 d3] 33)
  have hB := heap_alloc2_new w (.cells #[.int .i64 k, .int .i64 th, .int .i64 pr, .int .i64 tr, .int .i64 ti, .int .i64 st, .int .i64 ca, .slice A1 n1 c1, .slice A2 n2 c2, .slice A3 n3 c3] 33) (.cells #[.int .i64 k', .int .i64 th', .int .i64 pr', .int .i64 tr', .int .i64 ti', .int .i64 st', .int .i64 ca', .slice B1 m1 d1, .slice B2 m2 d2, .slice B3 m3 d3] 33)
  have HR := Lib.hid hr
  have HA := Lib.hid (ha.frame hfa (fun _ _ x => x.elim))
  have HB := Lib.hid (hb.frame hfa (fun _ _ x => x.elim))
  have HFA := Lib.hid hfa
  clear ha hb hfa hr
  unfold Ev.val
  dsimp only
  go_enter Try.func17, Try.ntmps17
  go_upto_region 1 with fail
  generalize (w.alloc (.cells #[.int .i64 k, .int .i64 th, .int .i64 pr, .int .i64 tr, .int .i64 ti, .int .i64 st, .int .i64 ca, .slice A1 n1 c1, .slice A2 n2 c2, .slice A3 n3 c3] 33)).alloc (.cells #[.int .i64 k', .int .i64 th', .int .i64 pr', .int .i64 tr', .int .i64 ti', .int .i64 st', .int .i64 ca', .slice B1 m1 d1, .slice B2 m2 d2, .slice B3 m3 d3] 33) = W at *
  have HBA := Lib.hid (fun w' (hf : Fr (fun _ => False) W w') => box10 (w := w') (e := ⟨k, th, pr, tr, ti, st, ca, [], [], []⟩) (x := .slice A1 n1 c1) (y := .slice A2 n2 c2) (z := .slice A3 n3 c3) (hf.heap hA (fun x => x)))
  have HBB := Lib.hid (fun w' (hf : Fr (fun _ => False) W w') => box10 (w := w') (e := ⟨k', th', pr', tr', ti', st', ca', [], [], []⟩) (x := .slice B1 m1 d1) (y := .slice B2 m2 d2) (z := .slice B3 m3 d3) (hf.heap hB (fun x => x)))
  dsimp only at HBA HBB
  have HS := Lib.hid (fun w' (hf : Fr (fun _ => False) W w') => show (w'.cell? ⟨w.heap.size, 0, none⟩ = some (.int .i64 k) ∧ w'.cell? ⟨w.heap.size, 1, none⟩ = some (.int .i64 th) ∧ w'.cell? ⟨w.heap.size, 2, none⟩ = some (.int .i64 pr) ∧ w'.cell? ⟨w.heap.size, 3, none⟩ = some (.int .i64 tr) ∧ w'.cell? ⟨w.heap.size, 4, none⟩ = some (.int .i64 ti) ∧ w'.cell? ⟨w.heap.size, 5, none⟩ = some (.int .i64 st) ∧ w'.cell? ⟨w.heap.size, 6, none⟩ = some (.int .i64 ca) ∧ w'.cell? ⟨w.heap.size + 1, 0, none⟩ = some (.int .i64 k') ∧ w'.cell? ⟨w.heap.size + 1, 1, none⟩ = some (.int .i64 th') ∧ w'.cell? ⟨w.heap.size + 1, 2, none⟩ = some (.int .i64 pr') ∧ w'.cell? ⟨w.heap.size + 1, 3, none⟩ = some (.int .i64 tr') ∧ w'.cell? ⟨w.heap.size + 1, 4, none⟩ = some (.int .i64 ti') ∧ w'.cell? ⟨w.heap.size + 1, 5, none⟩ = some (.int .i64 st') ∧ w'.cell? ⟨w.heap.size + 1, 6, none⟩ = some (.int .i64 ca')) from by
    obtain ⟨x0, x1, x2, x3, x4, x5, x6, _⟩ := HBA.out _ hf
    obtain ⟨y0, y1, y2, y3, y4, y5, y6, _⟩ := HBB.out _ hf
    exact ⟨x0, x1, x2, x3, x4, x5, x6, y0, y1, y2, y3, y4, y5, y6⟩)
  clear hA hB
  have gW := Fr.refl (fun _ => False) W
  go_cut [5, 6] from 7 to 36 (fun v5 v6 wx => ∃ b5 b6, v5 = .pointer (some ⟨b5, 0, none⟩) ∧ v6 = .pointer (some ⟨b6, 0, none⟩) ∧ wx.heap[b5]? = some (.cells #[.int .i64 k, .int .i64 th, .int .i64 pr, .int .i64 tr, .int .i64 ti, .int .i64 st, .int .i64 ca] 52 (0, 0)) ∧ wx.heap[b6]? = some (.cells #[.int .i64 k', .int .i64 th', .int .i64 pr', .int .i64 tr', .int .i64 ti', .int .i64 st', .int .i64 ca'] 52 (0, 0)) ∧ Fr (fun _ => False) W wx)
  case first =>
    go_region_held3 (fun w' => w'.cell? ⟨w.heap.size, 0, none⟩ = some (.int .i64 k) ∧ w'.cell? ⟨w.heap.size, 1, none⟩ = some (.int .i64 th) ∧ w'.cell? ⟨w.heap.size, 2, none⟩ = some (.int .i64 pr) ∧ w'.cell? ⟨w.heap.size, 3, none⟩ = some (.int .i64 tr) ∧ w'.cell? ⟨w.heap.size, 4, none⟩ = some (.int .i64 ti) ∧ w'.cell? ⟨w.heap.size, 5, none⟩ = some (.int .i64 st) ∧ w'.cell? ⟨w.heap.size, 6, none⟩ = some (.int .i64 ca) ∧ w'.cell? ⟨w.heap.size + 1, 0, none⟩ = some (.int .i64 k') ∧ w'.cell? ⟨w.heap.size + 1, 1, none⟩ = some (.int .i64 th') ∧ w'.cell? ⟨w.heap.size + 1, 2, none⟩ = some (.int .i64 pr') ∧ w'.cell? ⟨w.heap.size + 1, 3, none⟩ = some (.int .i64 tr') ∧ w'.cell? ⟨w.heap.size + 1, 4, none⟩ = some (.int .i64 ti') ∧ w'.cell? ⟨w.heap.size + 1, 5, none⟩ = some (.int .i64 st') ∧ w'.cell? ⟨w.heap.size + 1, 6, none⟩ = some (.int .i64 ca'))
      ((refine HS.out _ ?_; (focus ((repeat (first | with_reducible exact gW | with_reducible refine Fr.alloc ?_ _ | with_reducible refine Fr.drew ?_ | with_reducible exact Fr.refl _ _)); done))))
      (fail)
    all_goals
      go_wp2
      go_meet
      case rel =>
        first
        | exact ⟨_, _, rfl, rfl, heap_alloc2_old W _ _, heap_alloc2_new W _ _, by (focus ((repeat (first | with_reducible exact gW | with_reducible refine Fr.alloc ?_ _ | with_reducible refine Fr.drew ?_ | with_reducible exact Fr.refl _ _)); done))⟩
        | exact ⟨_, _, rfl, rfl, heap_alloc2_new W _ _, heap_alloc2_old W _ _, by (focus ((repeat (first | with_reducible exact gW | with_reducible refine Fr.alloc ?_ _ | with_reducible refine Fr.drew ?_ | with_reducible exact Fr.refl _ _)); done))⟩
  case rest =>
    obtain ⟨b5, b6, hv5, hv6, h5, h6, hfx⟩ := hcut
    subst hv5
    subst hv6
    rename World => wx
    obtain ⟨x0, x1, x2, x3, x4, x5, x6, x7, x8, x9⟩ := HBA.out _ hfx
    obtain ⟨y0, y1, y2, y3, y4, y5, y6, y7, y8, y9⟩ := HBB.out _ hfx
    obtain ⟨u0, u1, u2, u3, u4, u5, u6⟩ := seven_cells h5
    obtain ⟨v0, v1, v2, v3, v4, v5, v6⟩ := seven_cells h6
    clear x0 x1 x2 x3 x4 x5 x6 y0 y1 y2 y3 y4 y5 y6 h5 h6
    have hq := fun w' => eq_seven w' k th pr tr ti st ca k' th' pr' tr' ti' st' ca'
    have hg := eqGuard_seven
    have l1 : rs.length = n1 * 2 := HA.out.r.len
    have l2 : ws.length = n2 * 2 := HA.out.w_.len
    have l3 : gs.length = n3 := HA.out.g.len
    obtain ⟨s1, s2, s3⟩ : rs.length ≤ 20000 ∧ ws.length ≤ 20000 ∧ gs.length ≤ 20000 := hs
    have t1 : n1 ≤ 20000 := by omega
    have t2 : n2 ≤ 20000 := by omega
    have t3 : n3 ≤ 20000 := by omega
    have HC1 := Lib.hid (fun w' (hf : Fr (fun _ => False) W w') => equalAcc_calls A1 n1 c1 B1 m1 d1 rs rs' F G w' (HA.out.r.frame hf (fun _ _ x => x.elim)) t1 (HB.out.r.frame hf (fun _ _ x => x.elim)))
    have HC2 := Lib.hid (fun w' (hf : Fr (fun _ => False) W w') => equalAcc_calls A2 n2 c2 B2 m2 d2 ws ws' F G w' (HA.out.w_.frame hf (fun _ _ x => x.elim)) t2 (HB.out.w_.frame hf (fun _ _ x => x.elim)))
    have HC3 := Lib.hid (fun w' (hf : Fr (fun _ => False) W w') => equalInts_calls A3 n3 c3 B3 m3 d3 gs gs' F G w' (HA.out.g.frame hf (fun _ _ x => x.elim)) t3 (HB.out.g.frame hf (fun _ _ x => x.elim)))
    have hk := hfx
    clear l1 l2 l3 s1 s2 s3 t1 t2 t3
    have hrr : r = ((k == k' && (th == th' && (pr == pr' && (tr == tr' && (ti == ti' && (st == st' && ca == ca')))))) && (decide (rs = rs') && (decide (ws = ws') && decide (gs = gs')))) := by
      rw [HR.out]
      simp only [Ev.mk.injEq]
      apply Bool.eq_iff_iff.2
      simp [and_assoc]
    have HRR := Lib.hid hrr
    clear hrr HR
    generalize (k == k' && (th == th' && (pr == pr' && (tr == tr' && (ti == ti' && (st == st' && ca == ca')))))) = b0 at *
    generalize decide (rs = rs') = b1 at *
    generalize decide (ws = ws') = b2 at *
    generalize decide (gs = gs') = b3 at *
    have T1 := Lib.hid trivial
    cases b0 <;> cases b1 <;> cases b2
    all_goals
      go_wp2_with (first
        | (go_at_call 26
           clear T1
           (with_reducible refine (HC1.out _ hk).mono ?_)
           rintro ex w1 ⟨rfl, hf⟩
           replace hk := hk.trans hf
           clear x7 x8 x9 y7 y8 y9
           obtain ⟨_, _, _, _, _, _, _, x7, x8, x9⟩ := HBA.out _ hk
           obtain ⟨_, _, _, _, _, _, _, y7, y8, y9⟩ := HBB.out _ hk
           clear hf)
        | (go_at_call 26
           (with_reducible refine (HC2.out _ hk).mono ?_)
           rintro ex w2 ⟨rfl, hf⟩
           replace hk := hk.trans hf
           clear x7 x8 x9 y7 y8 y9
           obtain ⟨_, _, _, _, _, _, _, x7, x8, x9⟩ := HBA.out _ hk
           obtain ⟨_, _, _, _, _, _, _, y7, y8, y9⟩ := HBB.out _ hk
           clear hf)
        | (go_at_call 27
           (with_reducible refine (HC3.out _ hk).mono ?_)
           rintro ex w3 ⟨rfl, hf⟩
           replace hk := hk.trans hf
           clear hf))
      go_ret
      exact ⟨by rw [HRR.out]; simp, HFA.out.trans hk⟩
end Go.Proofs.Ythlanmibfnaoiaa
