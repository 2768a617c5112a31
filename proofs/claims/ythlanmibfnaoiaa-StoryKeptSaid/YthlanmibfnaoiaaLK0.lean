/- ltklaw16.fresh: an event with lists of its own. -/
import Derived.Test.YthlanmibfnaoiaaAp
import Derived.Test.YthlanmibfnaoiaaEvC
import Derived.Deep.RegionHeld3
import Derived.Deep.Cut
namespace Go.Proofs.Ythlanmibfnaoiaa
open Go.RowKit

/-- What lies at a place. -/
def cv (w : World) (p : Addr) : Value := (w.cell? p).getD undef
theorem cv_blk {w : World} {b : Nat} {T : TypeId} {arr : Array Value} (h : w.heap[b]? = some (.cells arr T (0, 0))) (j : Nat) (hj : j < arr.size) : w.cell? ⟨b, j, none⟩ = some (cv w ⟨b, j, none⟩) := by
  unfold cv
  rw [blk_cell h, Array.getElem?_eq_getElem hj]; rfl
set_option maxRecDepth 100000 in
set_option maxHeartbeats 8000000 in
theorem fresh_calls (e : Ev) (A1 : Option Addr) (n1 c1 : Nat) (A2 : Option Addr) (n2 c2 : Nat) (A3 : Option Addr) (n3 c3 : Nat) (F : Nat → Prop) (w : World) (hl : Lies w F e A1 n1 c1 A2 n2 c2 A3 n3 c3) (hs : e.small) :
    Calls Try.prog 14 #[.agg #[.int .i64 e.k, .int .i64 e.th, .int .i64 e.pr, .int .i64 e.tr, .int .i64 e.ti, .int .i64 e.st, .int .i64 e.ca, .slice A1 n1 c1, .slice A2 n2 c2, .slice A3 n3 c3]] w fun r w' =>
      ∃ B1 d1 B2 d2 B3 d3, r = .returned (.agg #[.int .i64 e.k, .int .i64 e.th, .int .i64 e.pr, .int .i64 e.tr, .int .i64 e.ti, .int .i64 e.st, .int .i64 e.ca, .slice B1 n1 d1, .slice B2 n2 d2, .slice B3 n3 d3]) ∧ NewL w' w.heap.size 40 B1 (n1 * 2) e.rs ∧ NewL w' w.heap.size 40 B2 (n2 * 2) e.ws ∧ NewL w' w.heap.size 3 B3 n3 e.gs ∧ Fr (fun _ => False) w w' := by
  have hr := hl.r.len
  have hw := hl.w_.len
  have hg := hl.g.len
  obtain ⟨s1, s2, s3⟩ := hs
  have m1 : n1 ≤ 20000 := by omega
  have m2 : n2 ≤ 20000 := by omega
  have m3 : n3 ≤ 20000 := by omega
  have HL1 := Lib.hid (fun w' (hf : Fr (fun _ => False) w w') => hl.r.frame hf (fun _ _ x => x.elim))
  have HL2 := Lib.hid (fun w' (hf : Fr (fun _ => False) w w') => hl.w_.frame hf (fun _ _ x => x.elim))
  have HL3 := Lib.hid (fun w' (hf : Fr (fun _ => False) w w') => show Flat w' F A3 (n3 * 1) e.gs from by rw [Nat.mul_one]; exact hl.g.frame hf (fun _ _ x => x.elim))
  clear hl hr hw hg s1 s2 s3
  obtain ⟨k, th, pr, tr, ti, st, ca, rs, ws, gs⟩ := e
  dsimp only at *
  have hk0 := ((Fr.refl (fun _ => False) w).alloc (.cells #[.int .i64 k, .int .i64 th, .int .i64 pr, .int .i64 tr, .int .i64 ti, .int .i64 st, .int .i64 ca, .slice A1 n1 c1, .slice A2 n2 c2, .slice A3 n3 c3] 33)).alloc (.cells #[.int .i64 0, .int .i64 0, .int .i64 0, .int .i64 0, .int .i64 0, .int .i64 0, .int .i64 0, .slice none 0 0, .slice none 0 0, .slice none 0 0] 33)
  have hbo := heap_alloc2_old w (.cells #[.int .i64 k, .int .i64 th, .int .i64 pr, .int .i64 tr, .int .i64 ti, .int .i64 st, .int .i64 ca, .slice A1 n1 c1, .slice A2 n2 c2, .slice A3 n3 c3] 33) (.cells #[.int .i64 0, .int .i64 0, .int .i64 0, .int .i64 0, .int .i64 0, .int .i64 0, .int .i64 0, .slice none 0 0, .slice none 0 0, .slice none 0 0] 33)
  have hbn := heap_alloc2_new w (.cells #[.int .i64 k, .int .i64 th, .int .i64 pr, .int .i64 tr, .int .i64 ti, .int .i64 st, .int .i64 ca, .slice A1 n1 c1, .slice A2 n2 c2, .slice A3 n3 c3] 33) (.cells #[.int .i64 0, .int .i64 0, .int .i64 0, .int .i64 0, .int .i64 0, .int .i64 0, .int .i64 0, .slice none 0 0, .slice none 0 0, .slice none 0 0] 33)
  go_enter Try.func14, Try.ntmps14
  go_upto_region 1 with fail
  generalize (w.alloc (.cells #[.int .i64 k, .int .i64 th, .int .i64 pr, .int .i64 tr, .int .i64 ti, .int .i64 st, .int .i64 ca, .slice A1 n1 c1, .slice A2 n2 c2, .slice A3 n3 c3] 33)).alloc (.cells #[.int .i64 0, .int .i64 0, .int .i64 0, .int .i64 0, .int .i64 0, .int .i64 0, .int .i64 0, .slice none 0 0, .slice none 0 0, .slice none 0 0] 33) = W at *
  have HK0 := Lib.hid hk0
  have HSZ := Lib.hid (show w.heap.size + 1 < W.heap.size from (Array.getElem?_eq_some_iff.1 hbn).1)
  have HBN := Lib.hid (fun w' (hf : Fr (fun _ => False) W w') => hf.heap hbn (fun x => x))
  have HBX := Lib.hid (fun w' (hf : Fr (fun _ => False) W w') => box10 (w := w') (e := ⟨k, th, pr, tr, ti, st, ca, [], [], []⟩) (x := .slice A1 n1 c1) (y := .slice A2 n2 c2) (z := .slice A3 n3 c3) (hf.heap hbo (fun x => x)))
  dsimp only at HBX
  have HST0 := Lib.hid (fun w' arr (hb : w'.heap[w.heap.size + 1]? = some (.cells arr 33 (0, 0))) (hs : arr.size = 10) (hx : w'.cell? ⟨w.heap.size, 0, none⟩ = some (.int .i64 k) ∧ w'.cell? ⟨w.heap.size, 1, none⟩ = some (.int .i64 th) ∧ w'.cell? ⟨w.heap.size, 2, none⟩ = some (.int .i64 pr) ∧ w'.cell? ⟨w.heap.size, 3, none⟩ = some (.int .i64 tr) ∧ w'.cell? ⟨w.heap.size, 4, none⟩ = some (.int .i64 ti) ∧ w'.cell? ⟨w.heap.size, 5, none⟩ = some (.int .i64 st) ∧ w'.cell? ⟨w.heap.size, 6, none⟩ = some (.int .i64 ca) ∧ w'.cell? ⟨w.heap.size, 7, none⟩ = some (.slice A1 n1 c1) ∧ w'.cell? ⟨w.heap.size, 8, none⟩ = some (.slice A2 n2 c2) ∧ w'.cell? ⟨w.heap.size, 9, none⟩ = some (.slice A3 n3 c3)) => show (w'.cell? ⟨w.heap.size, 0, none⟩ = some (.int .i64 k) ∧ w'.cell? ⟨w.heap.size, 1, none⟩ = some (.int .i64 th) ∧ w'.cell? ⟨w.heap.size, 2, none⟩ = some (.int .i64 pr) ∧ w'.cell? ⟨w.heap.size, 3, none⟩ = some (.int .i64 tr) ∧ w'.cell? ⟨w.heap.size, 4, none⟩ = some (.int .i64 ti) ∧ w'.cell? ⟨w.heap.size, 5, none⟩ = some (.int .i64 st) ∧ w'.cell? ⟨w.heap.size, 6, none⟩ = some (.int .i64 ca) ∧ w'.cell? ⟨w.heap.size, 7, none⟩ = some (.slice A1 n1 c1) ∧ w'.cell? ⟨w.heap.size, 8, none⟩ = some (.slice A2 n2 c2) ∧ w'.cell? ⟨w.heap.size, 9, none⟩ = some (.slice A3 n3 c3) ∧ w'.cell? ⟨w.heap.size + 1, 0, none⟩ = some (cv w' ⟨w.heap.size + 1, 0, none⟩) ∧ w'.cell? ⟨w.heap.size + 1, 1, none⟩ = some (cv w' ⟨w.heap.size + 1, 1, none⟩) ∧ w'.cell? ⟨w.heap.size + 1, 2, none⟩ = some (cv w' ⟨w.heap.size + 1, 2, none⟩) ∧ w'.cell? ⟨w.heap.size + 1, 3, none⟩ = some (cv w' ⟨w.heap.size + 1, 3, none⟩) ∧ w'.cell? ⟨w.heap.size + 1, 4, none⟩ = some (cv w' ⟨w.heap.size + 1, 4, none⟩) ∧ w'.cell? ⟨w.heap.size + 1, 5, none⟩ = some (cv w' ⟨w.heap.size + 1, 5, none⟩) ∧ w'.cell? ⟨w.heap.size + 1, 6, none⟩ = some (cv w' ⟨w.heap.size + 1, 6, none⟩) ∧ w'.cell? ⟨w.heap.size + 1, 7, none⟩ = some (cv w' ⟨w.heap.size + 1, 7, none⟩) ∧ w'.cell? ⟨w.heap.size + 1, 8, none⟩ = some (cv w' ⟨w.heap.size + 1, 8, none⟩) ∧ w'.cell? ⟨w.heap.size + 1, 9, none⟩ = some (cv w' ⟨w.heap.size + 1, 9, none⟩) ∧ w'.frozen? ⟨w.heap.size + 1, 0, none⟩ = false ∧ w'.frozen? ⟨w.heap.size + 1, 1, none⟩ = false ∧ w'.frozen? ⟨w.heap.size + 1, 2, none⟩ = false ∧ w'.frozen? ⟨w.heap.size + 1, 3, none⟩ = false ∧ w'.frozen? ⟨w.heap.size + 1, 4, none⟩ = false ∧ w'.frozen? ⟨w.heap.size + 1, 5, none⟩ = false ∧ w'.frozen? ⟨w.heap.size + 1, 6, none⟩ = false ∧ w'.frozen? ⟨w.heap.size + 1, 7, none⟩ = false ∧ w'.frozen? ⟨w.heap.size + 1, 8, none⟩ = false ∧ w'.frozen? ⟨w.heap.size + 1, 9, none⟩ = false) from by
    obtain ⟨c0, c1, c2, c3, c4, c5, c6, c7, c8, c9⟩ := hx
    exact ⟨c0, c1, c2, c3, c4, c5, c6, c7, c8, c9, cv_blk hb 0 (by omega), cv_blk hb 1 (by omega), cv_blk hb 2 (by omega), cv_blk hb 3 (by omega), cv_blk hb 4 (by omega), cv_blk hb 5 (by omega), cv_blk hb 6 (by omega), cv_blk hb 7 (by omega), cv_blk hb 8 (by omega), cv_blk hb 9 (by omega), blk_free hb _, blk_free hb _, blk_free hb _, blk_free hb _, blk_free hb _, blk_free hb _, blk_free hb _, blk_free hb _, blk_free hb _, blk_free hb _⟩)
  have HBS := Lib.hid (fun w' (hf : Fr (fun _ => False) W w') => HST0.out w' _ (HBN.out w' hf) rfl (HBX.out w' hf))
  have HST := Lib.hid (fun X (hf : Fr (fun _ => False) W X) v0 v1 v2 v3 v4 v5 v6 v7 v8 v9 => HST0.out _ _ (tenSet (HBN.out X hf) v0 v1 v2 v3 v4 v5 v6 v7 v8 v9).1 rfl (by
    have h2 := (tenSet (HBN.out X hf) v0 v1 v2 v3 v4 v5 v6 v7 v8 v9).2
    obtain ⟨c0, c1, c2, c3, c4, c5, c6, c7, c8, c9⟩ := HBX.out X hf
    exact ⟨h2.cell c0 (by simp), h2.cell c1 (by simp), h2.cell c2 (by simp), h2.cell c3 (by simp), h2.cell c4 (by simp), h2.cell c5 (by simp), h2.cell c6 (by simp), h2.cell c7 (by simp), h2.cell c8 (by simp), h2.cell c9 (by simp)⟩))
  have HFI := Lib.hid (fun X (hf : Fr (fun _ => False) W X) v0 v1 v2 v3 v4 v5 v6 v7 v8 v9 => show ∃ Z, ((((((((((X.setCell ⟨w.heap.size + 1, 0, none⟩ v0).setCell ⟨w.heap.size + 1, 1, none⟩ v1).setCell ⟨w.heap.size + 1, 2, none⟩ v2).setCell ⟨w.heap.size + 1, 3, none⟩ v3).setCell ⟨w.heap.size + 1, 4, none⟩ v4).setCell ⟨w.heap.size + 1, 5, none⟩ v5).setCell ⟨w.heap.size + 1, 6, none⟩ v6).setCell ⟨w.heap.size + 1, 7, none⟩ v7).setCell ⟨w.heap.size + 1, 8, none⟩ v8).setCell ⟨w.heap.size + 1, 9, none⟩ v9) = Z ∧ (Z.cell? ⟨w.heap.size + 1, 0, none⟩ = some v0 ∧ Z.cell? ⟨w.heap.size + 1, 1, none⟩ = some v1 ∧ Z.cell? ⟨w.heap.size + 1, 2, none⟩ = some v2 ∧ Z.cell? ⟨w.heap.size + 1, 3, none⟩ = some v3 ∧ Z.cell? ⟨w.heap.size + 1, 4, none⟩ = some v4 ∧ Z.cell? ⟨w.heap.size + 1, 5, none⟩ = some v5 ∧ Z.cell? ⟨w.heap.size + 1, 6, none⟩ = some v6 ∧ Z.cell? ⟨w.heap.size + 1, 7, none⟩ = some v7 ∧ Z.cell? ⟨w.heap.size + 1, 8, none⟩ = some v8 ∧ Z.cell? ⟨w.heap.size + 1, 9, none⟩ = some v9) ∧ Fr (fun k => k = w.heap.size + 1) X Z ∧ Fr (fun _ => False) w Z from by
    obtain ⟨h1, h2⟩ := tenSet (HBN.out X hf) v0 v1 v2 v3 v4 v5 v6 v7 v8 v9
    exact ⟨_, rfl, ⟨by rw [blk_cell h1]; rfl, by rw [blk_cell h1]; rfl, by rw [blk_cell h1]; rfl, by rw [blk_cell h1]; rfl, by rw [blk_cell h1]; rfl, by rw [blk_cell h1]; rfl, by rw [blk_cell h1]; rfl, by rw [blk_cell h1]; rfl, by rw [blk_cell h1]; rfl, by rw [blk_cell h1]; rfl⟩, h2, (HK0.out.trans hf).trans' h2 (fun k x y => by omega)⟩)
  have gW := Fr.refl (fun _ => False) W
  clear hk0 hbo hbn
  go_region_held3 (fun w' => w'.cell? ⟨w.heap.size, 0, none⟩ = some (.int .i64 k) ∧ w'.cell? ⟨w.heap.size, 1, none⟩ = some (.int .i64 th) ∧ w'.cell? ⟨w.heap.size, 2, none⟩ = some (.int .i64 pr) ∧ w'.cell? ⟨w.heap.size, 3, none⟩ = some (.int .i64 tr) ∧ w'.cell? ⟨w.heap.size, 4, none⟩ = some (.int .i64 ti) ∧ w'.cell? ⟨w.heap.size, 5, none⟩ = some (.int .i64 st) ∧ w'.cell? ⟨w.heap.size, 6, none⟩ = some (.int .i64 ca) ∧ w'.cell? ⟨w.heap.size, 7, none⟩ = some (.slice A1 n1 c1) ∧ w'.cell? ⟨w.heap.size, 8, none⟩ = some (.slice A2 n2 c2) ∧ w'.cell? ⟨w.heap.size, 9, none⟩ = some (.slice A3 n3 c3) ∧ w'.cell? ⟨w.heap.size + 1, 0, none⟩ = some (cv w' ⟨w.heap.size + 1, 0, none⟩) ∧ w'.cell? ⟨w.heap.size + 1, 1, none⟩ = some (cv w' ⟨w.heap.size + 1, 1, none⟩) ∧ w'.cell? ⟨w.heap.size + 1, 2, none⟩ = some (cv w' ⟨w.heap.size + 1, 2, none⟩) ∧ w'.cell? ⟨w.heap.size + 1, 3, none⟩ = some (cv w' ⟨w.heap.size + 1, 3, none⟩) ∧ w'.cell? ⟨w.heap.size + 1, 4, none⟩ = some (cv w' ⟨w.heap.size + 1, 4, none⟩) ∧ w'.cell? ⟨w.heap.size + 1, 5, none⟩ = some (cv w' ⟨w.heap.size + 1, 5, none⟩) ∧ w'.cell? ⟨w.heap.size + 1, 6, none⟩ = some (cv w' ⟨w.heap.size + 1, 6, none⟩) ∧ w'.cell? ⟨w.heap.size + 1, 7, none⟩ = some (cv w' ⟨w.heap.size + 1, 7, none⟩) ∧ w'.cell? ⟨w.heap.size + 1, 8, none⟩ = some (cv w' ⟨w.heap.size + 1, 8, none⟩) ∧ w'.cell? ⟨w.heap.size + 1, 9, none⟩ = some (cv w' ⟨w.heap.size + 1, 9, none⟩) ∧ w'.frozen? ⟨w.heap.size + 1, 0, none⟩ = false ∧ w'.frozen? ⟨w.heap.size + 1, 1, none⟩ = false ∧ w'.frozen? ⟨w.heap.size + 1, 2, none⟩ = false ∧ w'.frozen? ⟨w.heap.size + 1, 3, none⟩ = false ∧ w'.frozen? ⟨w.heap.size + 1, 4, none⟩ = false ∧ w'.frozen? ⟨w.heap.size + 1, 5, none⟩ = false ∧ w'.frozen? ⟨w.heap.size + 1, 6, none⟩ = false ∧ w'.frozen? ⟨w.heap.size + 1, 7, none⟩ = false ∧ w'.frozen? ⟨w.heap.size + 1, 8, none⟩ = false ∧ w'.frozen? ⟨w.heap.size + 1, 9, none⟩ = false)
    (first | (refine HBS.out _ ?_; (focus ((repeat (first | with_reducible exact gW | with_reducible refine Fr.alloc ?_ _ | with_reducible refine Fr.drew ?_ | with_reducible exact Fr.refl _ _)); done))) | (refine HST.out _ ?_ _ _ _ _ _ _ _ _ _ _; (focus ((repeat (first | with_reducible exact gW | with_reducible refine Fr.alloc ?_ _ | with_reducible refine Fr.drew ?_ | with_reducible exact Fr.refl _ _)); done))))
    (first
    | (refine step_fresh_acc _ (by rfl) (.tmp 17) (.tmp 19) (by rfl) _ (by rfl) _ _ _ rs _ (by rfl) (HL1.out _ (HK0.out.trans (by (focus ((repeat (first | with_reducible exact gW | with_reducible refine Fr.alloc ?_ _ | with_reducible refine Fr.drew ?_ | with_reducible exact Fr.refl _ _)); done))))) m1 ?_
       rintro B1 d1 w1 hf1 hf
       have HB1 := Lib.hid (hf1.base (Fr.size (S := fun _ => False) (w := W) (by (focus ((repeat (first | with_reducible exact gW | with_reducible refine Fr.alloc ?_ _ | with_reducible refine Fr.drew ?_ | with_reducible exact Fr.refl _ _)); done)))))
       replace gW : Fr (fun _ => False) W w1 := Fr.trans (by (focus ((repeat (first | with_reducible exact gW | with_reducible refine Fr.alloc ?_ _ | with_reducible refine Fr.drew ?_ | with_reducible exact Fr.refl _ _)); done))) hf
       try (replace g2 : Fr (fun _ => False) w2 w1 := Fr.trans (by (focus ((repeat (first | with_reducible exact g2 | with_reducible refine Fr.alloc ?_ _ | with_reducible refine Fr.drew ?_ | with_reducible exact Fr.refl _ _)); done))) hf)
       try (replace g3 : Fr (fun _ => False) w3 w1 := Fr.trans (by (focus ((repeat (first | with_reducible exact g3 | with_reducible refine Fr.alloc ?_ _ | with_reducible refine Fr.drew ?_ | with_reducible exact Fr.refl _ _)); done))) hf)
       have g1 := Fr.refl (fun _ => False) w1
       clear hf hf1)
    | (refine step_fresh_acc _ (by rfl) (.tmp 21) (.tmp 23) (by rfl) _ (by rfl) _ _ _ ws _ (by rfl) (HL2.out _ (HK0.out.trans (by (focus ((repeat (first | with_reducible exact gW | with_reducible refine Fr.alloc ?_ _ | with_reducible refine Fr.drew ?_ | with_reducible exact Fr.refl _ _)); done))))) m2 ?_
       rintro B2 d2 w2 hf2 hf
       have HB2 := Lib.hid (hf2.base (Fr.size (S := fun _ => False) (w := W) (by (focus ((repeat (first | with_reducible exact gW | with_reducible refine Fr.alloc ?_ _ | with_reducible refine Fr.drew ?_ | with_reducible exact Fr.refl _ _)); done)))))
       replace gW : Fr (fun _ => False) W w2 := Fr.trans (by (focus ((repeat (first | with_reducible exact gW | with_reducible refine Fr.alloc ?_ _ | with_reducible refine Fr.drew ?_ | with_reducible exact Fr.refl _ _)); done))) hf
       try (replace g1 : Fr (fun _ => False) w1 w2 := Fr.trans (by (focus ((repeat (first | with_reducible exact g1 | with_reducible refine Fr.alloc ?_ _ | with_reducible refine Fr.drew ?_ | with_reducible exact Fr.refl _ _)); done))) hf)
       try (replace g3 : Fr (fun _ => False) w3 w2 := Fr.trans (by (focus ((repeat (first | with_reducible exact g3 | with_reducible refine Fr.alloc ?_ _ | with_reducible refine Fr.drew ?_ | with_reducible exact Fr.refl _ _)); done))) hf)
       have g2 := Fr.refl (fun _ => False) w2
       clear hf hf2)
    | (refine step_fresh_int _ (by rfl) (.tmp 25) (.tmp 27) (by rfl) _ (by rfl) _ _ _ gs _ (by rfl) (HL3.out _ (HK0.out.trans (by (focus ((repeat (first | with_reducible exact gW | with_reducible refine Fr.alloc ?_ _ | with_reducible refine Fr.drew ?_ | with_reducible exact Fr.refl _ _)); done))))) m3 ?_
       rintro B3 d3 w3 hf3 hf
       have HB3 := Lib.hid (hf3.base (Fr.size (S := fun _ => False) (w := W) (by (focus ((repeat (first | with_reducible exact gW | with_reducible refine Fr.alloc ?_ _ | with_reducible refine Fr.drew ?_ | with_reducible exact Fr.refl _ _)); done)))))
       replace gW : Fr (fun _ => False) W w3 := Fr.trans (by (focus ((repeat (first | with_reducible exact gW | with_reducible refine Fr.alloc ?_ _ | with_reducible refine Fr.drew ?_ | with_reducible exact Fr.refl _ _)); done))) hf
       try (replace g1 : Fr (fun _ => False) w1 w3 := Fr.trans (by (focus ((repeat (first | with_reducible exact g1 | with_reducible refine Fr.alloc ?_ _ | with_reducible refine Fr.drew ?_ | with_reducible exact Fr.refl _ _)); done))) hf)
       try (replace g2 : Fr (fun _ => False) w2 w3 := Fr.trans (by (focus ((repeat (first | with_reducible exact g2 | with_reducible refine Fr.alloc ?_ _ | with_reducible refine Fr.drew ?_ | with_reducible exact Fr.refl _ _)); done))) hf)
       have g3 := Fr.refl (fun _ => False) w3
       clear hf hf3))
  all_goals
    obtain ⟨Z, hZ, ⟨r0, r1, r2, r3, r4, r5, r6, r7, r8, r9⟩, hz, hfin⟩ := HFI.out _ gW (.int .i64 k) (.int .i64 th) (.int .i64 pr) (.int .i64 tr) (.int .i64 ti) (.int .i64 st) (.int .i64 ca) (.slice B1 n1 d1) (.slice B2 n2 d2) (.slice B3 n3 d3)
    rw [hZ]
    have q1 := ((HB1.out.frameF g1).frame hz (fun j h1 _ h3 => by have := HSZ.out; omega)).base HK0.out.size
    have q2 := ((HB2.out.frameF g2).frame hz (fun j h1 _ h3 => by have := HSZ.out; omega)).base HK0.out.size
    have q3 := ((HB3.out.frameF g3).frame hz (fun j h1 _ h3 => by have := HSZ.out; omega)).base HK0.out.size
    rw [Nat.mul_one] at q3
    clear hZ hz HB1 HB2 HB3 g1 g2 g3 gW HFI HST HBS HST0 HBX HBN HL1 HL2 HL3 HK0 HSZ
    go_wp2
    refine bodyPost_ret (by simp [results, Try.results14, go_sem, r0, r1, r2, r3, r4, r5, r6, r7, r8, r9]; try rfl) rfl ⟨B1, d1, B2, d2, B3, d3, rfl, q1, q2, q3, hfin⟩
end Go.Proofs.Ythlanmibfnaoiaa
