/- ltklaw14.UndoPlays answers true. -/
import Derived.Test.YtoickikfojpgaaaUN
import Derived.Deep.CutBlock
import Derived.Deep.CutRange
import Derived.Deep.RegionHeld3
import Derived.Deep.DeepCutAuto
namespace Go.Proofs.Ytoickikfojpgaaa
open Go.RowKit

theorem ops_at3 {w : World} {A : Option Addr} {n : Nat} {xs : List (List Int)} (h : NumsIn 3 w A n xs) (h0 : 0 < n) : ∃ ad, A = some ad ∧ ∀ i, i < n → ∃ kd, 
    w.cell? (ad.add (i * 3)) = some (.int .i64 kd) ∧
    w.cell? ⟨(ad.add (i * 3)).block, (ad.add (i * 3)).off + 1, none⟩ = some (.int .i64 ((opAccs xs).getD i acc0).1.1) ∧
    w.cell? ⟨(ad.add (i * 3)).block, (ad.add (i * 3)).off + 2, none⟩ = some (.int .i64 ((opAccs xs).getD i acc0).1.2) := by
  obtain ⟨ad, ha, hc⟩ := h.at_ h0
  obtain ⟨ad2, e, hc2⟩ := ops_at h h0
  rw [ha] at e
  cases e
  exact ⟨ad, ha, fun i hi => ⟨_, (hc i hi).2 0 (by omega), hc2 i hi⟩⟩

set_option maxRecDepth 100000 in
set_option maxHeartbeats 8000000 in
theorem plays_calls14 (most : Int) (A : Option Addr) (n cap : Nat) (xs : List (List Int)) (w : World) (h : NumsIn 3 w A n xs) (hn : n ≤ 500) (h1 : 1 ≤ most) (h2 : most ≤ 1000) :
    Calls Try.prog 5 #[.int .i64 most, .slice A n cap] w fun e w' => e = .returned (.bool true) ∧ Fr (fun _ => False) w w' := by
  have T1 : True := trivial
  go_enter Try.func5, Try.ntmps5
  go_wp2_with (first
    | (go_at_call 7; have _t := T1; refine (first1_calls w).mono ?_; rintro e w1 ⟨rfl, hf1⟩; clear T1)
    | (go_at_call 8; refine (new_in most h1 h2 w w1 hf1).mono ?_; rintro e w2 ⟨la, rfl, ha2, hf2⟩)
    | (go_at_call 13; refine (rnew_calls most w2 h1 h2).mono ?_; rintro e w3 ⟨rfl, hb3, hf3⟩))
  have hT : Two w w3 la (.slice none 0 0) [] w2.heap.size (.slice none 0 0) [] most := ⟨ha2.frame hf3, hb3, (hf1.trans hf2).size, fun g hg => (by cases hg), fun g hg => (by cases hg)⟩
  obtain ⟨lb, hlb⟩ : ∃ lb, lb = w2.heap.size := ⟨_, rfl⟩
  rw [← hlb] at hT ⊢
  clear ha2 hb3 hf3 hf2 hlb
  go_loopw [9, 12, 14] (fun v9 _ _ wr => ∃ i va xa vb, v9 = .int .i64 (i : Nat) ∧ i ≤ n ∧ Two w wr la va xa lb vb xa most) (fun v9 _ _ _ => n - (intOf v9).toNat)
  case atStart => exact ⟨0, _, _, _, rfl, by omega, hT⟩
  case round =>
    clear hT
    obtain ⟨i, va, xa, vb, rfl, hi, hT⟩ := hrel
    by_cases hlt0 : i < n
    · obtain ⟨ad, rfl, hops⟩ := ops_at3 h (by omega)
      obtain ⟨kd, hk0, hk1, hk2⟩ := hops i hlt0
      generalize (opAccs xs).getD i acc0 = x at hk1 hk2
      have q0 := hT.a.fr.cell hk0 (fun x => x)
      have q1 := hT.a.fr.cell hk1 (fun x => x)
      have q2 := hT.a.fr.cell hk2 (fun x => x)
      clear hops hk0 hk1 hk2
      go_upto_block 2 with fail
      have hT0 := hT.frameF ((Fr.refl _ wr).alloc (.cells #[.int .i64 kd, .int .i64 x.1.1, .int .i64 x.1.2] 30))
      clear hT q0 q1 q2
      go_cut [12, 14] (fun _ _ wc => ∃ va' xa' vb', Two w wc la va' xa' lb vb' xa' most)
      case first =>
        by_cases k0 : (kd == 0) = true
        · by_cases hlt : (xa.length : Int) < most
          · as_aux_lemma =>
            have HPA := Lib.hid ((hT0.frameF ((Fr.refl _ _).drew)).pushA hlt x)
            have HB0 := Lib.hid (heap_alloc_new wr (.cells #[.int .i64 kd, .int .i64 x.1.1, .int .i64 x.1.2] 30))
            go_wp2
            go_region_held3 (fun w' => w'.cell? ⟨wr.heap.size, 1, none⟩ = some (.int .i64 x.1.1) ∧ w'.cell? ⟨wr.heap.size, 2, none⟩ = some (.int .i64 x.1.2))
              (first | exact ⟨o1, o2⟩ | exact ⟨p1, p2⟩ | go_keep)
              (first
                | (go_at_call 9; (with_reducible refine HPA.out.mono ?_); rintro e w4 ⟨rfl, ⟨va4, hT4⟩, hf4⟩; have hb4 := hf4.heap (a := (wr.alloc (.cells #[.int .i64 kd, .int .i64 x.1.1, .int .i64 x.1.2] 30)).drew) HB0.out (hT0.a.at_.offA HB0.out (by decide) (by decide)); have o1 := blk_cell hb4 1; have o2 := blk_cell hb4 2; simp only [List.getElem?_toArray, List.getElem?_cons_zero, List.getElem?_cons_succ] at o1 o2)
                | (go_at_call 14; (with_reducible refine (hT4.pushB hlt x).mono ?_); rintro e w5 ⟨rfl, ⟨vb5, hT5⟩, hf5⟩; have hb5 := hf5.heap hb4 (hT4.b.offB hb4 (by decide) (by decide)); have p1 := blk_cell hb5 1; have p2 := blk_cell hb5 2; simp only [List.getElem?_toArray, List.getElem?_cons_zero, List.getElem?_cons_succ] at p1 p2))
            go_wp2
            go_meet
            case rel => exact ⟨_, _, _, hT5⟩
          · have hfu : (xa.length : Int) = most := by have := hT0.a.at_.le; omega
            as_aux_lemma =>
            have HPA := Lib.hid ((hT0.frameF ((Fr.refl _ _).drew)).fullA hfu x)
            have HB0 := Lib.hid (heap_alloc_new wr (.cells #[.int .i64 kd, .int .i64 x.1.1, .int .i64 x.1.2] 30))
            go_wp2
            go_region_held3 (fun w' => w'.cell? ⟨wr.heap.size, 1, none⟩ = some (.int .i64 x.1.1) ∧ w'.cell? ⟨wr.heap.size, 2, none⟩ = some (.int .i64 x.1.2))
              (first | exact ⟨o1, o2⟩ | exact ⟨p1, p2⟩ | go_keep)
              (first
                | (go_at_call 9; (with_reducible refine HPA.out.mono ?_); rintro e w4 ⟨rfl, ⟨va4, hT4⟩, hf4⟩; have hb4 := hf4.heap (a := (wr.alloc (.cells #[.int .i64 kd, .int .i64 x.1.1, .int .i64 x.1.2] 30)).drew) HB0.out (hT0.a.at_.offA HB0.out (by decide) (by decide)); have o1 := blk_cell hb4 1; have o2 := blk_cell hb4 2; simp only [List.getElem?_toArray, List.getElem?_cons_zero, List.getElem?_cons_succ] at o1 o2)
                | (go_at_call 14; (with_reducible refine (hT4.fullB hfu x).mono ?_); rintro e w5 ⟨rfl, ⟨vb5, hT5⟩, hf5⟩; have hb5 := hf5.heap hb4 (hT4.b.offB hb4 (by decide) (by decide)); have p1 := blk_cell hb5 1; have p2 := blk_cell hb5 2; simp only [List.getElem?_toArray, List.getElem?_cons_zero, List.getElem?_cons_succ] at p1 p2))
            go_wp2
            go_meet
            case rel => exact ⟨_, _, _, hT5⟩
        · replace k0 : (kd == 0) = false := by simpa using k0
          by_cases k1 : (kd == 1) = true
          · rcases xa.eq_nil_or_concat with hx | ⟨ys, y, hx⟩
            · subst hx
              as_aux_lemma =>
                have HPA := Lib.hid hT0.noneA
                have NQ := neq_acc 0 0 0 0
                simp only [beq_self_eq_true, Bool.and_self, Bool.not_true] at NQ
                have EG := guard_acc
                go_wp2_with (first
                  | (go_at_call 12; (with_reducible refine HPA.out.mono ?_); rintro e w4 ⟨rfl, ⟨va4, hT4⟩, hf4⟩; have hoff := hT4.offNew; replace hT4 := hT4.frameF ((Fr.refl _ w4).alloc (.cells #[.int .i64 0, .int .i64 0] 34)))
                  | (go_at_call 15; (with_reducible refine (hT4.noneB).mono ?_); rintro e w5 ⟨rfl, ⟨vb5, hT5⟩, hf5⟩; have hbx := hf5.heap (heap_alloc_new w4 _) hoff; have hbx2 := ((Fr.refl (fun _ => False) w5).alloc (.cells #[.int .i64 0, .int .i64 0] 34)).heap hbx (fun x => x); have x0 := blk_cell hbx2 0; have x1 := blk_cell hbx2 1; simp only [List.getElem?_toArray, List.getElem?_cons_zero, List.getElem?_cons_succ] at x0 x1; replace hT5 := hT5.frameF ((Fr.refl _ w5).alloc (.cells #[.int .i64 0, .int .i64 0] 34))))
                go_meet
                case rel => exact ⟨_, _, _, hT5⟩
            · rw [List.concat_eq_append] at hx
              subst hx
              as_aux_lemma =>
                have HPA := Lib.hid hT0.popA
                have NQ := neq_acc y.1.1 y.1.2 y.1.1 y.1.2
                simp only [beq_self_eq_true, Bool.and_self, Bool.not_true] at NQ
                have EG := guard_acc
                go_wp2_with (first
                  | (go_at_call 12; (with_reducible refine HPA.out.mono ?_); rintro e w4 ⟨rfl, ⟨va4, hT4⟩, hf4⟩; have hoff := hT4.offNew; replace hT4 := hT4.frameF ((Fr.refl _ w4).alloc (.cells #[.int .i64 y.1.1, .int .i64 y.1.2] 34)))
                  | (go_at_call 15; (with_reducible refine (hT4.popB).mono ?_); rintro e w5 ⟨rfl, ⟨vb5, hT5⟩, hf5⟩; have hbx := hf5.heap (heap_alloc_new w4 _) hoff; have hbx2 := ((Fr.refl (fun _ => False) w5).alloc (.cells #[.int .i64 y.1.1, .int .i64 y.1.2] 34)).heap hbx (fun x => x); have x0 := blk_cell hbx2 0; have x1 := blk_cell hbx2 1; simp only [List.getElem?_toArray, List.getElem?_cons_zero, List.getElem?_cons_succ] at x0 x1; replace hT5 := hT5.frameF ((Fr.refl _ w5).alloc (.cells #[.int .i64 y.1.1, .int .i64 y.1.2] 34))))
                go_meet
                case rel => exact ⟨_, _, _, hT5⟩
          · replace k1 : (kd == 1) = false := by simpa using k1
            obtain ⟨B2, cb2, rfl, _⟩ := hT0.b.row.shape
            have HPA := Lib.hid hT0.clearA
            go_wp2_with (go_at_call 16; (with_reducible refine HPA.out.mono ?_); rintro e w4 ⟨rfl, hT4, hf4⟩; have hb4 := hT4.b.blk; have z4 := blk_free hb4 1; have c4 := blk_cell hb4 1; simp only [List.getElem?_toArray, List.getElem?_cons_zero, List.getElem?_cons_succ] at c4)
            go_meet
            case rel => exact ⟨_, _, _, hT4.clearB⟩
      case rest =>
        clear hT0
        obtain ⟨va2, xa2, vb2, hT2⟩ := hcut
        obtain ⟨B2, cb2, rfl, _⟩ := hT2.b.row.shape
        have hle := hT2.a.at_.le
        have e1 : ((xa2.length : Int) != xa2.length) = false := by simp
        have s1 : IntKind.i64.wrap (most - xa2.length) = most - xa2.length := by rw [IntKind.wrap_i64]; omega
        have e2 : ((most - xa2.length : Int) != most - xa2.length) = false := by simp
        have HALL := Lib.hid (fun w' (hf : Fr (fun _ => False) wc w') => show w'.cell? ⟨lb, 1, none⟩ = some (.slice B2 xa2.length cb2) from by rw [blk_cell (hT2.frameF hf).b.blk]; rfl)
        have HLE := Lib.hid (fun w' (hf : Fr (fun _ => False) wc w') => (len_in (hT2.frameF hf).a))
        have HRO := Lib.hid (fun w' (hf : Fr (fun _ => False) wc w') => (room_in (hT2.frameF hf).a))
        have HFA := Lib.hid (fun w' (hf : Fr (fun _ => False) wc w') => (hT2.frameF hf).firstA)
        have HFB := Lib.hid (fun w' (hf : Fr (fun _ => False) wc w') => (hT2.frameF hf).firstB rfl)
        have H2 := Lib.hid hT2
        clear hT2
        go_upto_region 24 with fail
        have gW := Fr.refl (fun _ => False) wc
        go_region_held3 (fun w' => w'.cell? ⟨lb, 1, none⟩ = some (.slice B2 xa2.length cb2))
          ((refine HALL.out _ ?_; (first | with_reducible exact gW | with_reducible exact Fr.refl _ _ | ((first | with_reducible refine Fr.alloc ?_ _ | with_reducible refine Fr.drew ?_); (first | with_reducible exact gW | with_reducible exact Fr.refl _ _ | ((first | with_reducible refine Fr.alloc ?_ _ | with_reducible refine Fr.drew ?_); (first | with_reducible exact gW | with_reducible exact Fr.refl _ _ | ((first | with_reducible refine Fr.alloc ?_ _ | with_reducible refine Fr.drew ?_); (first | with_reducible exact gW | with_reducible exact Fr.refl _ _ | ((first | with_reducible refine Fr.alloc ?_ _ | with_reducible refine Fr.drew ?_); (first | with_reducible exact gW | with_reducible exact Fr.refl _ _ | ((first | with_reducible refine Fr.alloc ?_ _ | with_reducible refine Fr.drew ?_); (first | with_reducible exact gW | with_reducible exact Fr.refl _ _ | ((first | with_reducible refine Fr.alloc ?_ _ | with_reducible refine Fr.drew ?_); (first | with_reducible exact gW | with_reducible exact Fr.refl _ _)))))))))))))))
          (first
            | (go_at_call 11
               (with_reducible refine (HLE.out _ (show Fr (fun _ => False) wc _ from by (first | with_reducible exact gW | with_reducible exact Fr.refl _ _ | ((first | with_reducible refine Fr.alloc ?_ _ | with_reducible refine Fr.drew ?_); (first | with_reducible exact gW | with_reducible exact Fr.refl _ _ | ((first | with_reducible refine Fr.alloc ?_ _ | with_reducible refine Fr.drew ?_); (first | with_reducible exact gW | with_reducible exact Fr.refl _ _ | ((first | with_reducible refine Fr.alloc ?_ _ | with_reducible refine Fr.drew ?_); (first | with_reducible exact gW | with_reducible exact Fr.refl _ _ | ((first | with_reducible refine Fr.alloc ?_ _ | with_reducible refine Fr.drew ?_); (first | with_reducible exact gW | with_reducible exact Fr.refl _ _ | ((first | with_reducible refine Fr.alloc ?_ _ | with_reducible refine Fr.drew ?_); (first | with_reducible exact gW | with_reducible exact Fr.refl _ _ | ((first | with_reducible refine Fr.alloc ?_ _ | with_reducible refine Fr.drew ?_); (first | with_reducible exact gW | with_reducible exact Fr.refl _ _))))))))))))))).mono ?_)
               rintro e u0 ⟨rfl, rfl⟩)
            | (go_at_call 17
               (with_reducible refine (HRO.out _ (show Fr (fun _ => False) wc _ from by (first | with_reducible exact gW | with_reducible exact Fr.refl _ _ | ((first | with_reducible refine Fr.alloc ?_ _ | with_reducible refine Fr.drew ?_); (first | with_reducible exact gW | with_reducible exact Fr.refl _ _ | ((first | with_reducible refine Fr.alloc ?_ _ | with_reducible refine Fr.drew ?_); (first | with_reducible exact gW | with_reducible exact Fr.refl _ _ | ((first | with_reducible refine Fr.alloc ?_ _ | with_reducible refine Fr.drew ?_); (first | with_reducible exact gW | with_reducible exact Fr.refl _ _ | ((first | with_reducible refine Fr.alloc ?_ _ | with_reducible refine Fr.drew ?_); (first | with_reducible exact gW | with_reducible exact Fr.refl _ _ | ((first | with_reducible refine Fr.alloc ?_ _ | with_reducible refine Fr.drew ?_); (first | with_reducible exact gW | with_reducible exact Fr.refl _ _ | ((first | with_reducible refine Fr.alloc ?_ _ | with_reducible refine Fr.drew ?_); (first | with_reducible exact gW | with_reducible exact Fr.refl _ _))))))))))))))).mono ?_)
               rintro e u1 ⟨rfl, _, hf1⟩
               replace gW : Fr (fun _ => False) wc u1 := Fr.trans (by (first | with_reducible exact gW | with_reducible exact Fr.refl _ _ | ((first | with_reducible refine Fr.alloc ?_ _ | with_reducible refine Fr.drew ?_); (first | with_reducible exact gW | with_reducible exact Fr.refl _ _ | ((first | with_reducible refine Fr.alloc ?_ _ | with_reducible refine Fr.drew ?_); (first | with_reducible exact gW | with_reducible exact Fr.refl _ _ | ((first | with_reducible refine Fr.alloc ?_ _ | with_reducible refine Fr.drew ?_); (first | with_reducible exact gW | with_reducible exact Fr.refl _ _ | ((first | with_reducible refine Fr.alloc ?_ _ | with_reducible refine Fr.drew ?_); (first | with_reducible exact gW | with_reducible exact Fr.refl _ _ | ((first | with_reducible refine Fr.alloc ?_ _ | with_reducible refine Fr.drew ?_); (first | with_reducible exact gW | with_reducible exact Fr.refl _ _ | ((first | with_reducible refine Fr.alloc ?_ _ | with_reducible refine Fr.drew ?_); (first | with_reducible exact gW | with_reducible exact Fr.refl _ _)))))))))))))) hf1
               clear hf1)
            | (go_at_call 10
               (with_reducible refine (HFA.out _ (show Fr (fun _ => False) wc _ from by (first | with_reducible exact gW | with_reducible exact Fr.refl _ _ | ((first | with_reducible refine Fr.alloc ?_ _ | with_reducible refine Fr.drew ?_); (first | with_reducible exact gW | with_reducible exact Fr.refl _ _ | ((first | with_reducible refine Fr.alloc ?_ _ | with_reducible refine Fr.drew ?_); (first | with_reducible exact gW | with_reducible exact Fr.refl _ _ | ((first | with_reducible refine Fr.alloc ?_ _ | with_reducible refine Fr.drew ?_); (first | with_reducible exact gW | with_reducible exact Fr.refl _ _ | ((first | with_reducible refine Fr.alloc ?_ _ | with_reducible refine Fr.drew ?_); (first | with_reducible exact gW | with_reducible exact Fr.refl _ _ | ((first | with_reducible refine Fr.alloc ?_ _ | with_reducible refine Fr.drew ?_); (first | with_reducible exact gW | with_reducible exact Fr.refl _ _ | ((first | with_reducible refine Fr.alloc ?_ _ | with_reducible refine Fr.drew ?_); (first | with_reducible exact gW | with_reducible exact Fr.refl _ _))))))))))))))).mono ?_)
               rintro e u2 ⟨A1, out1, c1, rfl, ho1, hl1, hf1⟩
               replace gW : Fr (fun _ => False) wc u2 := Fr.trans (by (first | with_reducible exact gW | with_reducible exact Fr.refl _ _ | ((first | with_reducible refine Fr.alloc ?_ _ | with_reducible refine Fr.drew ?_); (first | with_reducible exact gW | with_reducible exact Fr.refl _ _ | ((first | with_reducible refine Fr.alloc ?_ _ | with_reducible refine Fr.drew ?_); (first | with_reducible exact gW | with_reducible exact Fr.refl _ _ | ((first | with_reducible refine Fr.alloc ?_ _ | with_reducible refine Fr.drew ?_); (first | with_reducible exact gW | with_reducible exact Fr.refl _ _ | ((first | with_reducible refine Fr.alloc ?_ _ | with_reducible refine Fr.drew ?_); (first | with_reducible exact gW | with_reducible exact Fr.refl _ _ | ((first | with_reducible refine Fr.alloc ?_ _ | with_reducible refine Fr.drew ?_); (first | with_reducible exact gW | with_reducible exact Fr.refl _ _ | ((first | with_reducible refine Fr.alloc ?_ _ | with_reducible refine Fr.drew ?_); (first | with_reducible exact gW | with_reducible exact Fr.refl _ _)))))))))))))) hf1
               have HO1 := Lib.hid ho1
               have HL1 := Lib.hid hl1
               have g1 := Fr.refl (fun _ => False) u2
               try (replace g2 : Fr (fun _ => False) u3 u2 := Fr.trans (by (first | with_reducible exact g2 | with_reducible exact Fr.refl _ _ | ((first | with_reducible refine Fr.alloc ?_ _ | with_reducible refine Fr.drew ?_); (first | with_reducible exact g2 | with_reducible exact Fr.refl _ _ | ((first | with_reducible refine Fr.alloc ?_ _ | with_reducible refine Fr.drew ?_); (first | with_reducible exact g2 | with_reducible exact Fr.refl _ _ | ((first | with_reducible refine Fr.alloc ?_ _ | with_reducible refine Fr.drew ?_); (first | with_reducible exact g2 | with_reducible exact Fr.refl _ _ | ((first | with_reducible refine Fr.alloc ?_ _ | with_reducible refine Fr.drew ?_); (first | with_reducible exact g2 | with_reducible exact Fr.refl _ _ | ((first | with_reducible refine Fr.alloc ?_ _ | with_reducible refine Fr.drew ?_); (first | with_reducible exact g2 | with_reducible exact Fr.refl _ _ | ((first | with_reducible refine Fr.alloc ?_ _ | with_reducible refine Fr.drew ?_); (first | with_reducible exact g2 | with_reducible exact Fr.refl _ _)))))))))))))) hf1)
               clear hf1 ho1 hl1)
            | (go_at_call 19
               (with_reducible refine (HFB.out _ (show Fr (fun _ => False) wc _ from by (first | with_reducible exact gW | with_reducible exact Fr.refl _ _ | ((first | with_reducible refine Fr.alloc ?_ _ | with_reducible refine Fr.drew ?_); (first | with_reducible exact gW | with_reducible exact Fr.refl _ _ | ((first | with_reducible refine Fr.alloc ?_ _ | with_reducible refine Fr.drew ?_); (first | with_reducible exact gW | with_reducible exact Fr.refl _ _ | ((first | with_reducible refine Fr.alloc ?_ _ | with_reducible refine Fr.drew ?_); (first | with_reducible exact gW | with_reducible exact Fr.refl _ _ | ((first | with_reducible refine Fr.alloc ?_ _ | with_reducible refine Fr.drew ?_); (first | with_reducible exact gW | with_reducible exact Fr.refl _ _ | ((first | with_reducible refine Fr.alloc ?_ _ | with_reducible refine Fr.drew ?_); (first | with_reducible exact gW | with_reducible exact Fr.refl _ _ | ((first | with_reducible refine Fr.alloc ?_ _ | with_reducible refine Fr.drew ?_); (first | with_reducible exact gW | with_reducible exact Fr.refl _ _))))))))))))))).mono ?_)
               rintro e u3 ⟨A2, out2, c2, rfl, ho2, hl2, hf1⟩
               replace gW : Fr (fun _ => False) wc u3 := Fr.trans (by (first | with_reducible exact gW | with_reducible exact Fr.refl _ _ | ((first | with_reducible refine Fr.alloc ?_ _ | with_reducible refine Fr.drew ?_); (first | with_reducible exact gW | with_reducible exact Fr.refl _ _ | ((first | with_reducible refine Fr.alloc ?_ _ | with_reducible refine Fr.drew ?_); (first | with_reducible exact gW | with_reducible exact Fr.refl _ _ | ((first | with_reducible refine Fr.alloc ?_ _ | with_reducible refine Fr.drew ?_); (first | with_reducible exact gW | with_reducible exact Fr.refl _ _ | ((first | with_reducible refine Fr.alloc ?_ _ | with_reducible refine Fr.drew ?_); (first | with_reducible exact gW | with_reducible exact Fr.refl _ _ | ((first | with_reducible refine Fr.alloc ?_ _ | with_reducible refine Fr.drew ?_); (first | with_reducible exact gW | with_reducible exact Fr.refl _ _ | ((first | with_reducible refine Fr.alloc ?_ _ | with_reducible refine Fr.drew ?_); (first | with_reducible exact gW | with_reducible exact Fr.refl _ _)))))))))))))) hf1
               have HO2 := Lib.hid ho2
               have HL2 := Lib.hid hl2
               have g2 := Fr.refl (fun _ => False) u3
               try (replace g1 : Fr (fun _ => False) u2 u3 := Fr.trans (by (first | with_reducible exact g1 | with_reducible exact Fr.refl _ _ | ((first | with_reducible refine Fr.alloc ?_ _ | with_reducible refine Fr.drew ?_); (first | with_reducible exact g1 | with_reducible exact Fr.refl _ _ | ((first | with_reducible refine Fr.alloc ?_ _ | with_reducible refine Fr.drew ?_); (first | with_reducible exact g1 | with_reducible exact Fr.refl _ _ | ((first | with_reducible refine Fr.alloc ?_ _ | with_reducible refine Fr.drew ?_); (first | with_reducible exact g1 | with_reducible exact Fr.refl _ _ | ((first | with_reducible refine Fr.alloc ?_ _ | with_reducible refine Fr.drew ?_); (first | with_reducible exact g1 | with_reducible exact Fr.refl _ _ | ((first | with_reducible refine Fr.alloc ?_ _ | with_reducible refine Fr.drew ?_); (first | with_reducible exact g1 | with_reducible exact Fr.refl _ _ | ((first | with_reducible refine Fr.alloc ?_ _ | with_reducible refine Fr.drew ?_); (first | with_reducible exact g1 | with_reducible exact Fr.refl _ _)))))))))))))) hf1)
               clear hf1 ho2 hl2)
            | (go_at_call 18
               have hoo := firsts_unique HO1.out HO2.out
               have hol := firsts_len HO1.out
               have hom := H2.out.a.at_.len
               (with_reducible refine (access_calls _ _ _ _ _ _ (accInts out1) (accInts out2) _ _ _ (HL1.out.frame (S := fun _ => False) (show Fr (fun _ => False) u2 _ from by (first | with_reducible exact g1 | with_reducible exact Fr.refl _ _ | ((first | with_reducible refine Fr.alloc ?_ _ | with_reducible refine Fr.drew ?_); (first | with_reducible exact g1 | with_reducible exact Fr.refl _ _ | ((first | with_reducible refine Fr.alloc ?_ _ | with_reducible refine Fr.drew ?_); (first | with_reducible exact g1 | with_reducible exact Fr.refl _ _ | ((first | with_reducible refine Fr.alloc ?_ _ | with_reducible refine Fr.drew ?_); (first | with_reducible exact g1 | with_reducible exact Fr.refl _ _ | ((first | with_reducible refine Fr.alloc ?_ _ | with_reducible refine Fr.drew ?_); (first | with_reducible exact g1 | with_reducible exact Fr.refl _ _ | ((first | with_reducible refine Fr.alloc ?_ _ | with_reducible refine Fr.drew ?_); (first | with_reducible exact g1 | with_reducible exact Fr.refl _ _ | ((first | with_reducible refine Fr.alloc ?_ _ | with_reducible refine Fr.drew ?_); (first | with_reducible exact g1 | with_reducible exact Fr.refl _ _)))))))))))))) (fun _ _ x => x.elim)) (by omega) (HL2.out.frame (S := fun _ => False) (show Fr (fun _ => False) u3 _ from by (first | with_reducible exact g2 | with_reducible exact Fr.refl _ _ | ((first | with_reducible refine Fr.alloc ?_ _ | with_reducible refine Fr.drew ?_); (first | with_reducible exact g2 | with_reducible exact Fr.refl _ _ | ((first | with_reducible refine Fr.alloc ?_ _ | with_reducible refine Fr.drew ?_); (first | with_reducible exact g2 | with_reducible exact Fr.refl _ _ | ((first | with_reducible refine Fr.alloc ?_ _ | with_reducible refine Fr.drew ?_); (first | with_reducible exact g2 | with_reducible exact Fr.refl _ _ | ((first | with_reducible refine Fr.alloc ?_ _ | with_reducible refine Fr.drew ?_); (first | with_reducible exact g2 | with_reducible exact Fr.refl _ _ | ((first | with_reducible refine Fr.alloc ?_ _ | with_reducible refine Fr.drew ?_); (first | with_reducible exact g2 | with_reducible exact Fr.refl _ _ | ((first | with_reducible refine Fr.alloc ?_ _ | with_reducible refine Fr.drew ?_); (first | with_reducible exact g2 | with_reducible exact Fr.refl _ _)))))))))))))) (fun _ _ x => x.elim))).mono ?_)
               rintro e u4 ⟨rfl, hf1⟩
               rw [hoo, decide_eq_true rfl]
               replace gW : Fr (fun _ => False) wc u4 := Fr.trans (by (first | with_reducible exact gW | with_reducible exact Fr.refl _ _ | ((first | with_reducible refine Fr.alloc ?_ _ | with_reducible refine Fr.drew ?_); (first | with_reducible exact gW | with_reducible exact Fr.refl _ _ | ((first | with_reducible refine Fr.alloc ?_ _ | with_reducible refine Fr.drew ?_); (first | with_reducible exact gW | with_reducible exact Fr.refl _ _ | ((first | with_reducible refine Fr.alloc ?_ _ | with_reducible refine Fr.drew ?_); (first | with_reducible exact gW | with_reducible exact Fr.refl _ _ | ((first | with_reducible refine Fr.alloc ?_ _ | with_reducible refine Fr.drew ?_); (first | with_reducible exact gW | with_reducible exact Fr.refl _ _ | ((first | with_reducible refine Fr.alloc ?_ _ | with_reducible refine Fr.drew ?_); (first | with_reducible exact gW | with_reducible exact Fr.refl _ _ | ((first | with_reducible refine Fr.alloc ?_ _ | with_reducible refine Fr.drew ?_); (first | with_reducible exact gW | with_reducible exact Fr.refl _ _)))))))))))))) hf1
               clear hf1))
        all_goals
          go_wp2
          go_roundw
          case rel => exact ⟨i + 1, _, _, _, by go_num, by omega, H2.out.frameF gW⟩
          case measure => simp [intOf]; omega
    · obtain rfl : i = n := by omega
      go_wp2_with (go_at_call 7; refine (first1_calls _).mono ?_; rintro e w5 ⟨rfl, hf5⟩)
      go_ret
      exact ⟨rfl, hT.a.fr.trans hf5⟩
set_option maxRecDepth 100000 in
theorem plays_bad14 (most : Int) (A : Option Addr) (n cap : Nat) (w : World) (hn : n ≤ 500) (hm : most < 1 ∨ 1000 < most) :
    Calls Try.prog 5 #[.int .i64 most, .slice A n cap] w fun e w' => e = .returned (.bool true) ∧ Fr (fun _ => False) w w' := by
  have T1 : True := trivial
  have HM := Lib.hid hm
  clear hm
  have HN := Lib.hid (show ∀ u, Calls Try.prog 8 #[.int .i64 most] u fun e w' => e = .returned (.tuple #[.pointer none, .int .i64 1]) ∧ w' = u from fun u => (new_calls most u).mono (by
    rintro e w' (⟨_, h1, h2⟩ | ⟨h1, _⟩)
    · exact ⟨h1, h2⟩
    · have := HM.out; omega))
  go_enter Try.func5, Try.ntmps5
  go_wp2_with (first
    | (go_at_call 7; have _t := T1; refine (first1_calls w).mono ?_; rintro e w1 ⟨rfl, hf1⟩; clear T1)
    | (go_at_call 8; refine (HN.out _).mono ?_; rintro e w2 ⟨rfl, rfl⟩)
    | (go_at_call 13; refine (rbad_calls most _ HM.out).mono ?_; rintro e w3 ⟨rfl, rfl⟩))
  refine wp_loop_rounds 1 ?_
  rw [rounds_succ]
  go_wp2_with (go_at_call 7; refine (first1_calls _).mono ?_; rintro e w5 ⟨rfl, hf5⟩)
  go_ret
  exact ⟨rfl, hf1.trans hf5⟩
set_option maxRecDepth 100000 in
theorem plays_far14 (most : Int) (A : Option Addr) (n cap : Nat) (w : World) (hn : ¬ n ≤ 500) :
    Calls Try.prog 5 #[.int .i64 most, .slice A n cap] w fun e w' => e = .returned (.bool true) ∧ Fr (fun _ => False) w w' := by
  have T1 : True := trivial
  have hg : (500 : Int) < n := by omega
  clear hn
  go_enter Try.func5, Try.ntmps5
  go_wp2_with (first
    | (go_at_call 7; have _t := T1; refine (first1_calls w).mono ?_; rintro e w1 ⟨rfl, hf1⟩; clear T1)
    | (go_at_call 7; refine (first1_calls w1).mono ?_; rintro e w2 ⟨rfl, hf2⟩))
  go_ret
  exact ⟨rfl, hf1.trans hf2⟩
theorem plays_walk14 (most : Int) (A : Option Addr) (n cap : Nat) (xs : List (List Int)) (w : World) (_ : (Lit.int .i64 most).wf = true) (h : NumsIn 3 w A n xs) :
    Calls Try.prog 5 #[.int .i64 most, .slice A n cap] w fun e w' => e = .returned (.bool true) ∧ Fr (fun _ => False) w w' := by
  by_cases hn : n ≤ 500
  · by_cases hm : 1 ≤ most ∧ most ≤ 1000
    · exact plays_calls14 most A n cap xs w h hn hm.1 hm.2
    · exact plays_bad14 most A n cap w hn (by omega)
  · exact plays_far14 most A n cap w hn
end Go.Proofs.Ytoickikfojpgaaa
