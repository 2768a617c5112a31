/- ltklaw20.JudgeWrong: the walk where the program ends well. -/
import Derived.Test.YtkaokhpaabfhmaaJW
namespace Go.Proofs.Ytkaokhpaabfhmaa
open Go.RowKit

/-! The event's block, laid anywhere among the others. -/
abbrev EvZ (w : World) (b : Nat) : Prop := w.heap[b]? = some (.cells #[.int .i64 0, .int .i64 0, .int .i64 0, .int .i64 0, .int .i64 0, .int .i64 0, .int .i64 0, .slice none 0 0, .slice none 0 0, .slice none 0 0] 50 (0, 0))
theorem Fr.fresh0 {a w : World} {k : Nat} (h : Fr (fun _ => False) a w) : Fr (fun j => k ≤ j) a w := h.mono (fun _ x => x.elim)
theorem undrew {S : Nat → Prop} {X w : World} (h : Fr S X.drew w) : Fr S X w := (Fr.refl _ X).drew.trans h
theorem ev1 {Y w : World} (h : Fr (fun _ => False) (Y.alloc (.cells #[.int .i64 0, .int .i64 0, .int .i64 0, .int .i64 0, .int .i64 0, .int .i64 0, .int .i64 0, .slice none 0 0, .slice none 0 0, .slice none 0 0] 50)) w) : EvZ w Y.heap.size := h.heap (heap_alloc_new Y _) (fun x => x)
theorem ev2 {Y w : World} {o : Obj} (h : Fr (fun _ => False) ((Y.alloc (.cells #[.int .i64 0, .int .i64 0, .int .i64 0, .int .i64 0, .int .i64 0, .int .i64 0, .int .i64 0, .slice none 0 0, .slice none 0 0, .slice none 0 0] 50)).alloc o) w) : EvZ w Y.heap.size := ev1 (((Fr.refl _ _).alloc o).trans h)
theorem ev3 {Y w : World} {o o' : Obj} (h : Fr (fun _ => False) (((Y.alloc (.cells #[.int .i64 0, .int .i64 0, .int .i64 0, .int .i64 0, .int .i64 0, .int .i64 0, .int .i64 0, .slice none 0 0, .slice none 0 0, .slice none 0 0] 50)).alloc o).alloc o') w) : EvZ w Y.heap.size := ev2 (((Fr.refl _ _).alloc o').trans h)
theorem ev1b {W Y w : World} (_ : Fr (fun _ => False) (Y.alloc (.cells #[.int .i64 0, .int .i64 0, .int .i64 0, .int .i64 0, .int .i64 0, .int .i64 0, .int .i64 0, .slice none 0 0, .slice none 0 0, .slice none 0 0] 50)) w) (h : Fr (fun _ => False) W Y) : W.heap.size ≤ Y.heap.size := h.size
theorem ev2b {W Y w : World} {o : Obj} (_ : Fr (fun _ => False) ((Y.alloc (.cells #[.int .i64 0, .int .i64 0, .int .i64 0, .int .i64 0, .int .i64 0, .int .i64 0, .int .i64 0, .slice none 0 0, .slice none 0 0, .slice none 0 0] 50)).alloc o) w) (h : Fr (fun _ => False) W Y) : W.heap.size ≤ Y.heap.size := h.size
theorem ev3b {W Y w : World} {o o' : Obj} (_ : Fr (fun _ => False) (((Y.alloc (.cells #[.int .i64 0, .int .i64 0, .int .i64 0, .int .i64 0, .int .i64 0, .int .i64 0, .int .i64 0, .slice none 0 0, .slice none 0 0, .slice none 0 0] 50)).alloc o).alloc o') w) (h : Fr (fun _ => False) W Y) : W.heap.size ≤ Y.heap.size := h.size
theorem ten_cells {w : World} {b : Nat} {T : TypeId} {v0 v1 v2 v3 v4 v5 v6 v7 v8 v9 : Value} (h : w.heap[b]? = some (.cells #[v0, v1, v2, v3, v4, v5, v6, v7, v8, v9] T (0, 0))) : (w.cell? ⟨b, 0, none⟩ = some v0 ∧ w.cell? ⟨b, 1, none⟩ = some v1 ∧ w.cell? ⟨b, 2, none⟩ = some v2 ∧ w.cell? ⟨b, 3, none⟩ = some v3 ∧ w.cell? ⟨b, 4, none⟩ = some v4 ∧ w.cell? ⟨b, 5, none⟩ = some v5 ∧ w.cell? ⟨b, 6, none⟩ = some v6 ∧ w.cell? ⟨b, 7, none⟩ = some v7 ∧ w.cell? ⟨b, 8, none⟩ = some v8 ∧ w.cell? ⟨b, 9, none⟩ = some v9) ∧ (w.frozen? ⟨b, 0, none⟩ = false ∧ w.frozen? ⟨b, 1, none⟩ = false ∧ w.frozen? ⟨b, 2, none⟩ = false ∧ w.frozen? ⟨b, 3, none⟩ = false ∧ w.frozen? ⟨b, 4, none⟩ = false ∧ w.frozen? ⟨b, 5, none⟩ = false ∧ w.frozen? ⟨b, 6, none⟩ = false ∧ w.frozen? ⟨b, 7, none⟩ = false ∧ w.frozen? ⟨b, 8, none⟩ = false ∧ w.frozen? ⟨b, 9, none⟩ = false) := by
  refine ⟨?_, ?_⟩
  · refine ⟨?_, ?_, ?_, ?_, ?_, ?_, ?_, ?_, ?_, ?_⟩ <;> (rw [blk_cell h]; rfl)
  · refine ⟨?_, ?_, ?_, ?_, ?_, ?_, ?_, ?_, ?_, ?_⟩ <;> exact blk_free h _
theorem ne_typ {w : World} {a b : Nat} {x y : Array Value} {T T' : TypeId} (h1 : w.heap[a]? = some (.cells x T (0, 0))) (h2 : w.heap[b]? = some (.cells y T' (0, 0))) (hT : T ≠ T') : a ≠ b := by
  intro e
  subst e
  rw [h1] at h2
  injection h2 with h2
  injection h2 with _ h2
  exact hT h2
theorem thr_one {w : World} {A : Option Addr} {n cap b1 b2 : Nat} {p : List Ins} {T1 T2 : TypeId} (h1 : w.heap[b1]? = some (.cells #[.slice A n cap] T1 (0, 0))) (h2 : w.heap[b2]? = some (.cells #[.slice (some ⟨b1, 0, none⟩) 1 1] T2 (0, 0))) (h : ProgAt w (fun _ => True) A n cap p) :
    ThrAt w (fun _ => True) (some ⟨b2, 0, none⟩) 1 [[p]] := by
  refine ⟨rfl, fun _ => ⟨_, rfl, trivial, fun i hi => ?_⟩⟩
  obtain rfl : i = 0 := by omega
  refine ⟨some ⟨b1, 0, none⟩, 1, 1, ?_, rfl, fun _ => ⟨⟨b1, 0, none⟩, rfl, trivial, fun j hj => ?_⟩⟩
  · have e : (Addr.mk b2 0 none).add 0 = ⟨b2, 0, none⟩ := by unfold Addr.add; simp
    rw [e, blk_cell h2]; rfl
  · obtain rfl : j = 0 := by omega
    refine ⟨A, n, cap, ?_, h⟩
    have e : (Addr.mk b1 0 none).add 0 = ⟨b1, 0, none⟩ := by unfold Addr.add; simp
    rw [e, blk_cell h1]; rfl
theorem evz_cells {w : World} {b : Nat} (h : EvZ w b) : (w.cell? ⟨b, 0, none⟩ = some (.int .i64 0) ∧ w.cell? ⟨b, 1, none⟩ = some (.int .i64 0) ∧ w.cell? ⟨b, 2, none⟩ = some (.int .i64 0) ∧ w.cell? ⟨b, 3, none⟩ = some (.int .i64 0) ∧ w.cell? ⟨b, 4, none⟩ = some (.int .i64 0) ∧ w.cell? ⟨b, 5, none⟩ = some (.int .i64 0) ∧ w.cell? ⟨b, 6, none⟩ = some (.int .i64 0) ∧ w.cell? ⟨b, 7, none⟩ = some (.slice none 0 0) ∧ w.cell? ⟨b, 8, none⟩ = some (.slice none 0 0) ∧ w.cell? ⟨b, 9, none⟩ = some (.slice none 0 0)) ∧ (w.frozen? ⟨b, 0, none⟩ = false ∧ w.frozen? ⟨b, 1, none⟩ = false ∧ w.frozen? ⟨b, 2, none⟩ = false ∧ w.frozen? ⟨b, 3, none⟩ = false ∧ w.frozen? ⟨b, 4, none⟩ = false ∧ w.frozen? ⟨b, 5, none⟩ = false ∧ w.frozen? ⟨b, 6, none⟩ = false ∧ w.frozen? ⟨b, 7, none⟩ = false ∧ w.frozen? ⟨b, 8, none⟩ = false ∧ w.frozen? ⟨b, 9, none⟩ = false) := by
  refine ⟨?_, ?_⟩
  · refine ⟨?_, ?_, ?_, ?_, ?_, ?_, ?_, ?_, ?_, ?_⟩ <;> (rw [blk_cell h]; rfl)
  · refine ⟨?_, ?_, ?_, ?_, ?_, ?_, ?_, ?_, ?_, ?_⟩ <;> exact blk_free h _

set_option maxRecDepth 100000 in
set_option maxHeartbeats 8000000 in
theorem wrong_go (c : Conf) (H : Option Addr) (hn hcap : Nat) (heap : List Int) (A : Option Addr) (n cap : Nat) (p : List Ins) (how : Int) (w : World) (hI : IntsZ w H hn hcap heap) (h : ProgAt w (fun _ => True) A n cap p) (hb : n ≤ 60) (hb2 : progOk c p = true) (hb3 : (hn : Int) = c.words) (hE : (resS c heap p).e = 1) :
    Calls Try.prog 5 #[c.val, .slice H hn hcap, .slice A n cap, .int .i64 how] w fun e w' => e = .returned (.bool true) ∧ Fr (fun _ => False) w w' := by
  have HCK := Lib.hid (fun w' (hf : Fr (fun _ => False) w w') => refCheck5_any c A n cap p _ w' (h.frame hf (fun _ _ x => x.elim)))
  have HW := Lib.hid (ref_words_calls c)
  have HBX := Lib.hid (box_all w c)
  have HRUN0 := fun w' (hf : Fr (fun _ => False) w w') => refRun_calls c H hn hcap heap A n cap p _ _ w' (h.frame hf (fun _ _ x => x.elim)) (progOk_short hb2) (hI.flat.frame hf (fun _ _ x => x.elim)) hI.i64
  have hd : decide ((60 : Int) < n) = false := by simp; omega
  have hd2 : ((hn : Int) != c.words) = false := by simpa using hb3
  have hv : chkV c p = 0 := by unfold chkV; rw [hb2]; rfl
  have hfl0 := hI.flat.len
  obtain ⟨l1, l2, l3, l4⟩ := res_smallJ c heap p (by have := c.words_bounds; rw [hfl0]; omega)
  have hE0 := (runs_full hb2 (by rw [hI.flat.len]; exact hb3)).2.2
  rw [hv] at HCK
  rw [hE0] at HRUN0
  have HRUN := Lib.hid HRUN0
  have HPW := Lib.hid (fun w' (hf : Fr (fun _ => False) w w') => h.frame hf (fun _ _ x => x.elim))
  have HIW := Lib.hid hI
  have HW3 := Lib.hid hb3
  have HPO := Lib.hid hb2
  have HRL := Lib.hid (show (resH c heap p).length = hn from by rw [res_heap_len hb2 (by rw [hfl0]; exact hb3), hfl0])
  have HSHT := Lib.hid (show ShortT [[p]] from fun i j => by
    have h0 : Short ([] : List Ins) := fun x hx => by cases hx
    match i, j with
    | 0, 0 => exact progOk_short hb2
    | 0, j + 1 => exact h0
    | i + 1, j => cases j <;> exact h0)
  clear h hb hb2 hv hI hb3 HRUN0 hE0
  unfold Conf.val at *
  generalize hSS : resS c heap p = S at *
  have HSR := Lib.hid hSS
  clear hSS
  generalize resH c heap p = R at *
  have hd3 : (S.e != 1) = false := by simpa using hE
  have HE := Lib.hid hE
  clear hE
  have hk := (Fr.refl (fun _ => False) w).alloc (.cells #[.int .i64 c.r, .int .i64 c.o, .int .i64 c.s, .int .i64 c.wd, .int .i64 c.th, .int .i64 c.sl, .int .i64 c.rg, .int .i64 c.lk, .int .i64 c.un, .int .i64 c.es, .int .i64 c.tk, .int .i64 c.po] 23)
  have hbk := Fr.refl (fun _ => False) (w.alloc (.cells #[.int .i64 c.r, .int .i64 c.o, .int .i64 c.s, .int .i64 c.wd, .int .i64 c.th, .int .i64 c.sl, .int .i64 c.rg, .int .i64 c.lk, .int .i64 c.un, .int .i64 c.es, .int .i64 c.tk, .int .i64 c.po] 23))
  go_enter Try.func5, Try.ntmps5
  go_wp2_with (first
    | (go_at_call 7
       (with_reducible refine (first20_calls _).mono ?_)
       rintro ex w3 ⟨rfl, hf⟩
       replace hk := hk.trans hf
       replace hbk := hbk.trans hf
       clear hf
       try (clear c0 c1 c2 c3 c4 c5 c6 c7 c8 c9 c10 c11)
       obtain ⟨c0, c1, c2, c3, c4, c5, c6, c7, c8, c9, c10, c11⟩ := HBX.out _ hbk)
    | (go_at_call 18
       (with_reducible refine (HCK.out _ hk).mono ?_)
       rintro ex w3 ⟨rfl, hf⟩
       replace hk := hk.trans hf
       replace hbk := hbk.trans hf
       clear hf
       try (clear c0 c1 c2 c3 c4 c5 c6 c7 c8 c9 c10 c11)
       obtain ⟨c0, c1, c2, c3, c4, c5, c6, c7, c8, c9, c10, c11⟩ := HBX.out _ hbk)
    | (go_at_call 19
       (with_reducible refine (HW.out _).mono ?_)
       rintro ex w3 ⟨rfl, hf⟩
       replace hk := hk.trans hf
       replace hbk := hbk.trans hf
       clear hf
       try (clear c0 c1 c2 c3 c4 c5 c6 c7 c8 c9 c10 c11)
       obtain ⟨c0, c1, c2, c3, c4, c5, c6, c7, c8, c9, c10, c11⟩ := HBX.out _ hbk)
    | (go_at_call 21
       (with_reducible refine (HRUN.out _ hk).mono ?_)
       rintro ex v1 ⟨A1, n1, k1, A2, n2, k2, A3, n3, k3, A4, n4, k4, rfl, ho, hf⟩
       have m1 : n1 ≤ 20000 := by have := ho.g.len; omega
       have m2 : n2 ≤ 20000 := by have := ho.r.len; omega
       have m3 : n3 ≤ 20000 := by have := ho.w_.len; omega
       have hk0 := Nat.le_trans hk.size hf.size
       have HO := Lib.hid (fun w' (hf : Fr (fun _ => False) v1 w') => ho.frame hf (fun _ _ x => x.elim))
       have HOB := Lib.hid (heap_alloc_new v1 (.cells #[.int .i64 S.e, .slice A1 n1 k1, .slice A2 n2 k2, .slice A3 n3 k3] 46))
       obtain ⟨o0, o1, o2, o3⟩ := out_box (heap_alloc_new v1 (.cells #[.int .i64 S.e, .slice A1 n1 k1, .slice A2 n2 k2, .slice A3 n3 k3] 46)) rfl
       replace hk := (hk.trans hf).alloc (.cells #[.int .i64 S.e, .slice A1 n1 k1, .slice A2 n2 k2, .slice A3 n3 k3] 46)
       replace hbk := (hbk.trans hf).alloc (.cells #[.int .i64 S.e, .slice A1 n1 k1, .slice A2 n2 k2, .slice A3 n3 k3] 46)
       have hvk := (Fr.refl (fun _ => False) v1).alloc (.cells #[.int .i64 S.e, .slice A1 n1 k1, .slice A2 n2 k2, .slice A3 n3 k3] 46)
       clear hf ho
       try (clear c0 c1 c2 c3 c4 c5 c6 c7 c8 c9 c10 c11)
       obtain ⟨c0, c1, c2, c3, c4, c5, c6, c7, c8, c9, c10, c11⟩ := HBX.out _ hbk))
  clear hd hd2 hd3 HCK HW HRUN
  have HBXA := Lib.hid (fun w' (hf : Fr (fun _ => False) (v1.alloc (.cells #[.int .i64 S.e, .slice A1 n1 k1, .slice A2 n2 k2, .slice A3 n3 k3] 46)) w') => HBX.out w' (hbk.trans hf))
  have HK := Lib.hid (fun w' (hf : Fr (fun _ => False) (v1.alloc (.cells #[.int .i64 S.e, .slice A1 n1 k1, .slice A2 n2 k2, .slice A3 n3 k3] 46)) w') => hk.trans hf)
  have HOA := Lib.hid (fun w' (hf : Fr (fun _ => False) (v1.alloc (.cells #[.int .i64 S.e, .slice A1 n1 k1, .slice A2 n2 k2, .slice A3 n3 k3] 46)) w') => HO.out w' (hvk.trans hf))
  have HOX := Lib.hid (fun w' (hf : Fr (fun _ => False) (v1.alloc (.cells #[.int .i64 S.e, .slice A1 n1 k1, .slice A2 n2 k2, .slice A3 n3 k3] 46)) w') => out_box (hf.heap HOB.out (fun x => x)) rfl)
  have HOY := Lib.hid (fun X w' b (hf : Fr (fun _ => False) (v1.alloc (.cells #[.int .i64 S.e, .slice A1 n1 k1, .slice A2 n2 k2, .slice A3 n3 k3] 46)) X) (hev : EvZ X b) (hf2 : Fr (fun k => k = b) X w') => out_box (hf2.heap (hf.heap HOB.out (fun x => x)) (fun e => by
    have h1 := hf.heap HOB.out (fun x => x)
    rw [e, hev] at h1
    injection h1 with h1
    injection h1 with _ h1
    cases h1)) rfl)
  have HVW := Lib.hid (show w.heap.size ≤ v1.heap.size from hk0)
  generalize v1.alloc (.cells #[.int .i64 S.e, .slice A1 n1 k1, .slice A2 n2 k2, .slice A3 n3 k3] 46) = W at *
  clear hk hbk hvk c0 c1 c2 c3 c4 c5 c6 c7 c8 c9 c10 c11 HO HOB HBX
  have gW := Fr.refl (fun _ => False) W
  go_cut [12] from 56 to 66 (fun v wx => ∃ bx B2 d2 B3 d3, v = .pointer (some ⟨bx, 0, none⟩) ∧ wx.heap[bx]? = some (.cells #[.int .i64 2, .int .i64 0, .int .i64 0, .int .i64 0, .int .i64 0, .int .i64 0, .int .i64 0, .slice B2 n2 d2, .slice B3 n3 d3, .slice A1 n1 k1] 50 (0, 0)) ∧ W.heap.size ≤ bx ∧ NewL wx W.heap.size 54 B2 (n2 * 2) S.rs ∧ NewL wx W.heap.size 54 B3 (n3 * 2) S.ws ∧ Fr (fun _ => False) W wx)
  case first =>
    go_region_held3 (fun w' => w'.cell? ⟨v1.heap.size, 0, none⟩ = some (.int .i64 S.e) ∧ w'.cell? ⟨v1.heap.size, 1, none⟩ = some (.slice A1 n1 k1) ∧ w'.cell? ⟨v1.heap.size, 2, none⟩ = some (.slice A2 n2 k2) ∧ w'.cell? ⟨v1.heap.size, 3, none⟩ = some (.slice A3 n3 k3))
      (first | (refine HOX.out _ ?_; (first | with_reducible exact gW | with_reducible exact Fr.refl _ _ | ((first | with_reducible refine Fr.alloc ?_ _ | with_reducible refine Fr.drew ?_); (first | with_reducible exact gW | with_reducible exact Fr.refl _ _ | ((first | with_reducible refine Fr.alloc ?_ _ | with_reducible refine Fr.drew ?_); (first | with_reducible exact gW | with_reducible exact Fr.refl _ _ | ((first | with_reducible refine Fr.alloc ?_ _ | with_reducible refine Fr.drew ?_); (first | with_reducible exact gW | with_reducible exact Fr.refl _ _ | ((first | with_reducible refine Fr.alloc ?_ _ | with_reducible refine Fr.drew ?_); (first | with_reducible exact gW | with_reducible exact Fr.refl _ _ | ((first | with_reducible refine Fr.alloc ?_ _ | with_reducible refine Fr.drew ?_); (first | with_reducible exact gW | with_reducible exact Fr.refl _ _ | ((first | with_reducible refine Fr.alloc ?_ _ | with_reducible refine Fr.drew ?_); with_reducible exact gW))))))))))))) | (with_reducible exact HOY.out _ _ _ gW hev (tenSet hev _ _ _ _ _ _ _ _ _ _).2))
      (first
      | (refine step_fresh_acc _ (by rfl) (.tmp 58) (.tmp 60) (by rfl) _ (by rfl) _ _ _ S.rs _ (by rfl) (HOA.out _ (by (first | with_reducible exact gW | with_reducible exact Fr.refl _ _ | ((first | with_reducible refine Fr.alloc ?_ _ | with_reducible refine Fr.drew ?_); (first | with_reducible exact gW | with_reducible exact Fr.refl _ _ | ((first | with_reducible refine Fr.alloc ?_ _ | with_reducible refine Fr.drew ?_); (first | with_reducible exact gW | with_reducible exact Fr.refl _ _ | ((first | with_reducible refine Fr.alloc ?_ _ | with_reducible refine Fr.drew ?_); (first | with_reducible exact gW | with_reducible exact Fr.refl _ _ | ((first | with_reducible refine Fr.alloc ?_ _ | with_reducible refine Fr.drew ?_); (first | with_reducible exact gW | with_reducible exact Fr.refl _ _ | ((first | with_reducible refine Fr.alloc ?_ _ | with_reducible refine Fr.drew ?_); (first | with_reducible exact gW | with_reducible exact Fr.refl _ _ | ((first | with_reducible refine Fr.alloc ?_ _ | with_reducible refine Fr.drew ?_); with_reducible exact gW)))))))))))))).r m2 ?_
         rintro B2 d2 w2 hf2 hf
         have HB2 := Lib.hid (hf2.base (Fr.size (S := fun _ => False) (w := W) (by (first | with_reducible exact gW | with_reducible exact Fr.refl _ _ | ((first | with_reducible refine Fr.alloc ?_ _ | with_reducible refine Fr.drew ?_); (first | with_reducible exact gW | with_reducible exact Fr.refl _ _ | ((first | with_reducible refine Fr.alloc ?_ _ | with_reducible refine Fr.drew ?_); (first | with_reducible exact gW | with_reducible exact Fr.refl _ _ | ((first | with_reducible refine Fr.alloc ?_ _ | with_reducible refine Fr.drew ?_); (first | with_reducible exact gW | with_reducible exact Fr.refl _ _ | ((first | with_reducible refine Fr.alloc ?_ _ | with_reducible refine Fr.drew ?_); (first | with_reducible exact gW | with_reducible exact Fr.refl _ _ | ((first | with_reducible refine Fr.alloc ?_ _ | with_reducible refine Fr.drew ?_); (first | with_reducible exact gW | with_reducible exact Fr.refl _ _ | ((first | with_reducible refine Fr.alloc ?_ _ | with_reducible refine Fr.drew ?_); with_reducible exact gW)))))))))))))))
         have gW0 := gW
         replace gW : Fr (fun _ => False) W w2 := Fr.trans (by (first | with_reducible exact gW | with_reducible exact Fr.refl _ _ | ((first | with_reducible refine Fr.alloc ?_ _ | with_reducible refine Fr.drew ?_); (first | with_reducible exact gW | with_reducible exact Fr.refl _ _ | ((first | with_reducible refine Fr.alloc ?_ _ | with_reducible refine Fr.drew ?_); (first | with_reducible exact gW | with_reducible exact Fr.refl _ _ | ((first | with_reducible refine Fr.alloc ?_ _ | with_reducible refine Fr.drew ?_); (first | with_reducible exact gW | with_reducible exact Fr.refl _ _ | ((first | with_reducible refine Fr.alloc ?_ _ | with_reducible refine Fr.drew ?_); (first | with_reducible exact gW | with_reducible exact Fr.refl _ _ | ((first | with_reducible refine Fr.alloc ?_ _ | with_reducible refine Fr.drew ?_); (first | with_reducible exact gW | with_reducible exact Fr.refl _ _ | ((first | with_reducible refine Fr.alloc ?_ _ | with_reducible refine Fr.drew ?_); with_reducible exact gW))))))))))))) hf
         try (replace g3 : Fr (fun _ => False) w3 w2 := Fr.trans (by (first | with_reducible exact g3 | with_reducible exact Fr.refl _ _ | ((first | with_reducible refine Fr.alloc ?_ _ | with_reducible refine Fr.drew ?_); (first | with_reducible exact g3 | with_reducible exact Fr.refl _ _ | ((first | with_reducible refine Fr.alloc ?_ _ | with_reducible refine Fr.drew ?_); (first | with_reducible exact g3 | with_reducible exact Fr.refl _ _ | ((first | with_reducible refine Fr.alloc ?_ _ | with_reducible refine Fr.drew ?_); (first | with_reducible exact g3 | with_reducible exact Fr.refl _ _ | ((first | with_reducible refine Fr.alloc ?_ _ | with_reducible refine Fr.drew ?_); (first | with_reducible exact g3 | with_reducible exact Fr.refl _ _ | ((first | with_reducible refine Fr.alloc ?_ _ | with_reducible refine Fr.drew ?_); (first | with_reducible exact g3 | with_reducible exact Fr.refl _ _ | ((first | with_reducible refine Fr.alloc ?_ _ | with_reducible refine Fr.drew ?_); with_reducible exact g3))))))))))))) hf)
         have hf0 := hf
         try (with_reducible replace hf0 := undrew hf0)
         try (clear e0 e1 e2 e3 e4 e5 e6 e7 e8 e9 f0 f1 f2 f3 f4 f5 f6 f7 f8 f9)
         first
         | (replace hev := g3.heap hev (fun x => x); (try rw [World.size_alloc] at hev); (try rw [World.size_alloc] at hev); obtain ⟨⟨e0, e1, e2, e3, e4, e5, e6, e7, e8, e9⟩, f0, f1, f2, f3, f4, f5, f6, f7, f8, f9⟩ := evz_cells hev; have hbe := (Array.getElem?_eq_some_iff.1 hev).1)
         | (with_reducible have hev := ev1 hf0; have hbW := ev1b (W := W) hf0 (by (first | with_reducible exact gW0 | with_reducible exact Fr.refl _ _ | ((first | with_reducible refine Fr.alloc ?_ _ | with_reducible refine Fr.drew ?_); (first | with_reducible exact gW0 | with_reducible exact Fr.refl _ _ | ((first | with_reducible refine Fr.alloc ?_ _ | with_reducible refine Fr.drew ?_); (first | with_reducible exact gW0 | with_reducible exact Fr.refl _ _ | ((first | with_reducible refine Fr.alloc ?_ _ | with_reducible refine Fr.drew ?_); (first | with_reducible exact gW0 | with_reducible exact Fr.refl _ _ | ((first | with_reducible refine Fr.alloc ?_ _ | with_reducible refine Fr.drew ?_); (first | with_reducible exact gW0 | with_reducible exact Fr.refl _ _ | ((first | with_reducible refine Fr.alloc ?_ _ | with_reducible refine Fr.drew ?_); (first | with_reducible exact gW0 | with_reducible exact Fr.refl _ _ | ((first | with_reducible refine Fr.alloc ?_ _ | with_reducible refine Fr.drew ?_); with_reducible exact gW0))))))))))))); (try rw [World.size_alloc] at hev hbW); (try rw [World.size_alloc] at hev hbW); obtain ⟨⟨e0, e1, e2, e3, e4, e5, e6, e7, e8, e9⟩, f0, f1, f2, f3, f4, f5, f6, f7, f8, f9⟩ := evz_cells hev; have hbe := (Array.getElem?_eq_some_iff.1 hev).1)
         | (with_reducible have hev := ev2 hf0; have hbW := ev2b (W := W) hf0 (by (first | with_reducible exact gW0 | with_reducible exact Fr.refl _ _ | ((first | with_reducible refine Fr.alloc ?_ _ | with_reducible refine Fr.drew ?_); (first | with_reducible exact gW0 | with_reducible exact Fr.refl _ _ | ((first | with_reducible refine Fr.alloc ?_ _ | with_reducible refine Fr.drew ?_); (first | with_reducible exact gW0 | with_reducible exact Fr.refl _ _ | ((first | with_reducible refine Fr.alloc ?_ _ | with_reducible refine Fr.drew ?_); (first | with_reducible exact gW0 | with_reducible exact Fr.refl _ _ | ((first | with_reducible refine Fr.alloc ?_ _ | with_reducible refine Fr.drew ?_); (first | with_reducible exact gW0 | with_reducible exact Fr.refl _ _ | ((first | with_reducible refine Fr.alloc ?_ _ | with_reducible refine Fr.drew ?_); (first | with_reducible exact gW0 | with_reducible exact Fr.refl _ _ | ((first | with_reducible refine Fr.alloc ?_ _ | with_reducible refine Fr.drew ?_); with_reducible exact gW0))))))))))))); (try rw [World.size_alloc] at hev hbW); (try rw [World.size_alloc] at hev hbW); obtain ⟨⟨e0, e1, e2, e3, e4, e5, e6, e7, e8, e9⟩, f0, f1, f2, f3, f4, f5, f6, f7, f8, f9⟩ := evz_cells hev; have hbe := (Array.getElem?_eq_some_iff.1 hev).1)
         | (with_reducible have hev := ev3 hf0; have hbW := ev3b (W := W) hf0 (by (first | with_reducible exact gW0 | with_reducible exact Fr.refl _ _ | ((first | with_reducible refine Fr.alloc ?_ _ | with_reducible refine Fr.drew ?_); (first | with_reducible exact gW0 | with_reducible exact Fr.refl _ _ | ((first | with_reducible refine Fr.alloc ?_ _ | with_reducible refine Fr.drew ?_); (first | with_reducible exact gW0 | with_reducible exact Fr.refl _ _ | ((first | with_reducible refine Fr.alloc ?_ _ | with_reducible refine Fr.drew ?_); (first | with_reducible exact gW0 | with_reducible exact Fr.refl _ _ | ((first | with_reducible refine Fr.alloc ?_ _ | with_reducible refine Fr.drew ?_); (first | with_reducible exact gW0 | with_reducible exact Fr.refl _ _ | ((first | with_reducible refine Fr.alloc ?_ _ | with_reducible refine Fr.drew ?_); (first | with_reducible exact gW0 | with_reducible exact Fr.refl _ _ | ((first | with_reducible refine Fr.alloc ?_ _ | with_reducible refine Fr.drew ?_); with_reducible exact gW0))))))))))))); (try rw [World.size_alloc] at hev hbW); (try rw [World.size_alloc] at hev hbW); obtain ⟨⟨e0, e1, e2, e3, e4, e5, e6, e7, e8, e9⟩, f0, f1, f2, f3, f4, f5, f6, f7, f8, f9⟩ := evz_cells hev; have hbe := (Array.getElem?_eq_some_iff.1 hev).1)
         | skip
         have g2 := Fr.refl (fun _ => False) w2
         clear hf hf2 hf0 gW0)
      | (refine step_fresh_acc _ (by rfl) (.tmp 62) (.tmp 64) (by rfl) _ (by rfl) _ _ _ S.ws _ (by rfl) (HOA.out _ (by (first | with_reducible exact gW | with_reducible exact Fr.refl _ _ | ((first | with_reducible refine Fr.alloc ?_ _ | with_reducible refine Fr.drew ?_); (first | with_reducible exact gW | with_reducible exact Fr.refl _ _ | ((first | with_reducible refine Fr.alloc ?_ _ | with_reducible refine Fr.drew ?_); (first | with_reducible exact gW | with_reducible exact Fr.refl _ _ | ((first | with_reducible refine Fr.alloc ?_ _ | with_reducible refine Fr.drew ?_); (first | with_reducible exact gW | with_reducible exact Fr.refl _ _ | ((first | with_reducible refine Fr.alloc ?_ _ | with_reducible refine Fr.drew ?_); (first | with_reducible exact gW | with_reducible exact Fr.refl _ _ | ((first | with_reducible refine Fr.alloc ?_ _ | with_reducible refine Fr.drew ?_); (first | with_reducible exact gW | with_reducible exact Fr.refl _ _ | ((first | with_reducible refine Fr.alloc ?_ _ | with_reducible refine Fr.drew ?_); with_reducible exact gW)))))))))))))).w_ m3 ?_
         rintro B3 d3 w3 hf3 hf
         have HB3 := Lib.hid (hf3.base (Fr.size (S := fun _ => False) (w := W) (by (first | with_reducible exact gW | with_reducible exact Fr.refl _ _ | ((first | with_reducible refine Fr.alloc ?_ _ | with_reducible refine Fr.drew ?_); (first | with_reducible exact gW | with_reducible exact Fr.refl _ _ | ((first | with_reducible refine Fr.alloc ?_ _ | with_reducible refine Fr.drew ?_); (first | with_reducible exact gW | with_reducible exact Fr.refl _ _ | ((first | with_reducible refine Fr.alloc ?_ _ | with_reducible refine Fr.drew ?_); (first | with_reducible exact gW | with_reducible exact Fr.refl _ _ | ((first | with_reducible refine Fr.alloc ?_ _ | with_reducible refine Fr.drew ?_); (first | with_reducible exact gW | with_reducible exact Fr.refl _ _ | ((first | with_reducible refine Fr.alloc ?_ _ | with_reducible refine Fr.drew ?_); (first | with_reducible exact gW | with_reducible exact Fr.refl _ _ | ((first | with_reducible refine Fr.alloc ?_ _ | with_reducible refine Fr.drew ?_); with_reducible exact gW)))))))))))))))
         have gW0 := gW
         replace gW : Fr (fun _ => False) W w3 := Fr.trans (by (first | with_reducible exact gW | with_reducible exact Fr.refl _ _ | ((first | with_reducible refine Fr.alloc ?_ _ | with_reducible refine Fr.drew ?_); (first | with_reducible exact gW | with_reducible exact Fr.refl _ _ | ((first | with_reducible refine Fr.alloc ?_ _ | with_reducible refine Fr.drew ?_); (first | with_reducible exact gW | with_reducible exact Fr.refl _ _ | ((first | with_reducible refine Fr.alloc ?_ _ | with_reducible refine Fr.drew ?_); (first | with_reducible exact gW | with_reducible exact Fr.refl _ _ | ((first | with_reducible refine Fr.alloc ?_ _ | with_reducible refine Fr.drew ?_); (first | with_reducible exact gW | with_reducible exact Fr.refl _ _ | ((first | with_reducible refine Fr.alloc ?_ _ | with_reducible refine Fr.drew ?_); (first | with_reducible exact gW | with_reducible exact Fr.refl _ _ | ((first | with_reducible refine Fr.alloc ?_ _ | with_reducible refine Fr.drew ?_); with_reducible exact gW))))))))))))) hf
         try (replace g2 : Fr (fun _ => False) w2 w3 := Fr.trans (by (first | with_reducible exact g2 | with_reducible exact Fr.refl _ _ | ((first | with_reducible refine Fr.alloc ?_ _ | with_reducible refine Fr.drew ?_); (first | with_reducible exact g2 | with_reducible exact Fr.refl _ _ | ((first | with_reducible refine Fr.alloc ?_ _ | with_reducible refine Fr.drew ?_); (first | with_reducible exact g2 | with_reducible exact Fr.refl _ _ | ((first | with_reducible refine Fr.alloc ?_ _ | with_reducible refine Fr.drew ?_); (first | with_reducible exact g2 | with_reducible exact Fr.refl _ _ | ((first | with_reducible refine Fr.alloc ?_ _ | with_reducible refine Fr.drew ?_); (first | with_reducible exact g2 | with_reducible exact Fr.refl _ _ | ((first | with_reducible refine Fr.alloc ?_ _ | with_reducible refine Fr.drew ?_); (first | with_reducible exact g2 | with_reducible exact Fr.refl _ _ | ((first | with_reducible refine Fr.alloc ?_ _ | with_reducible refine Fr.drew ?_); with_reducible exact g2))))))))))))) hf)
         have hf0 := hf
         try (with_reducible replace hf0 := undrew hf0)
         try (clear e0 e1 e2 e3 e4 e5 e6 e7 e8 e9 f0 f1 f2 f3 f4 f5 f6 f7 f8 f9)
         first
         | (replace hev := g2.heap hev (fun x => x); (try rw [World.size_alloc] at hev); (try rw [World.size_alloc] at hev); obtain ⟨⟨e0, e1, e2, e3, e4, e5, e6, e7, e8, e9⟩, f0, f1, f2, f3, f4, f5, f6, f7, f8, f9⟩ := evz_cells hev; have hbe := (Array.getElem?_eq_some_iff.1 hev).1)
         | (with_reducible have hev := ev1 hf0; have hbW := ev1b (W := W) hf0 (by (first | with_reducible exact gW0 | with_reducible exact Fr.refl _ _ | ((first | with_reducible refine Fr.alloc ?_ _ | with_reducible refine Fr.drew ?_); (first | with_reducible exact gW0 | with_reducible exact Fr.refl _ _ | ((first | with_reducible refine Fr.alloc ?_ _ | with_reducible refine Fr.drew ?_); (first | with_reducible exact gW0 | with_reducible exact Fr.refl _ _ | ((first | with_reducible refine Fr.alloc ?_ _ | with_reducible refine Fr.drew ?_); (first | with_reducible exact gW0 | with_reducible exact Fr.refl _ _ | ((first | with_reducible refine Fr.alloc ?_ _ | with_reducible refine Fr.drew ?_); (first | with_reducible exact gW0 | with_reducible exact Fr.refl _ _ | ((first | with_reducible refine Fr.alloc ?_ _ | with_reducible refine Fr.drew ?_); (first | with_reducible exact gW0 | with_reducible exact Fr.refl _ _ | ((first | with_reducible refine Fr.alloc ?_ _ | with_reducible refine Fr.drew ?_); with_reducible exact gW0))))))))))))); (try rw [World.size_alloc] at hev hbW); (try rw [World.size_alloc] at hev hbW); obtain ⟨⟨e0, e1, e2, e3, e4, e5, e6, e7, e8, e9⟩, f0, f1, f2, f3, f4, f5, f6, f7, f8, f9⟩ := evz_cells hev; have hbe := (Array.getElem?_eq_some_iff.1 hev).1)
         | (with_reducible have hev := ev2 hf0; have hbW := ev2b (W := W) hf0 (by (first | with_reducible exact gW0 | with_reducible exact Fr.refl _ _ | ((first | with_reducible refine Fr.alloc ?_ _ | with_reducible refine Fr.drew ?_); (first | with_reducible exact gW0 | with_reducible exact Fr.refl _ _ | ((first | with_reducible refine Fr.alloc ?_ _ | with_reducible refine Fr.drew ?_); (first | with_reducible exact gW0 | with_reducible exact Fr.refl _ _ | ((first | with_reducible refine Fr.alloc ?_ _ | with_reducible refine Fr.drew ?_); (first | with_reducible exact gW0 | with_reducible exact Fr.refl _ _ | ((first | with_reducible refine Fr.alloc ?_ _ | with_reducible refine Fr.drew ?_); (first | with_reducible exact gW0 | with_reducible exact Fr.refl _ _ | ((first | with_reducible refine Fr.alloc ?_ _ | with_reducible refine Fr.drew ?_); (first | with_reducible exact gW0 | with_reducible exact Fr.refl _ _ | ((first | with_reducible refine Fr.alloc ?_ _ | with_reducible refine Fr.drew ?_); with_reducible exact gW0))))))))))))); (try rw [World.size_alloc] at hev hbW); (try rw [World.size_alloc] at hev hbW); obtain ⟨⟨e0, e1, e2, e3, e4, e5, e6, e7, e8, e9⟩, f0, f1, f2, f3, f4, f5, f6, f7, f8, f9⟩ := evz_cells hev; have hbe := (Array.getElem?_eq_some_iff.1 hev).1)
         | (with_reducible have hev := ev3 hf0; have hbW := ev3b (W := W) hf0 (by (first | with_reducible exact gW0 | with_reducible exact Fr.refl _ _ | ((first | with_reducible refine Fr.alloc ?_ _ | with_reducible refine Fr.drew ?_); (first | with_reducible exact gW0 | with_reducible exact Fr.refl _ _ | ((first | with_reducible refine Fr.alloc ?_ _ | with_reducible refine Fr.drew ?_); (first | with_reducible exact gW0 | with_reducible exact Fr.refl _ _ | ((first | with_reducible refine Fr.alloc ?_ _ | with_reducible refine Fr.drew ?_); (first | with_reducible exact gW0 | with_reducible exact Fr.refl _ _ | ((first | with_reducible refine Fr.alloc ?_ _ | with_reducible refine Fr.drew ?_); (first | with_reducible exact gW0 | with_reducible exact Fr.refl _ _ | ((first | with_reducible refine Fr.alloc ?_ _ | with_reducible refine Fr.drew ?_); (first | with_reducible exact gW0 | with_reducible exact Fr.refl _ _ | ((first | with_reducible refine Fr.alloc ?_ _ | with_reducible refine Fr.drew ?_); with_reducible exact gW0))))))))))))); (try rw [World.size_alloc] at hev hbW); (try rw [World.size_alloc] at hev hbW); obtain ⟨⟨e0, e1, e2, e3, e4, e5, e6, e7, e8, e9⟩, f0, f1, f2, f3, f4, f5, f6, f7, f8, f9⟩ := evz_cells hev; have hbe := (Array.getElem?_eq_some_iff.1 hev).1)
         | skip
         have g3 := Fr.refl (fun _ => False) w3
         clear hf hf3 hf0 gW0))
    all_goals
      first
      | (obtain ⟨Z, hZ, t1, t2⟩ := tenEx hev (.int .i64 2) (.int .i64 0) (.int .i64 0) (.int .i64 0) (.int .i64 0) (.int .i64 0) (.int .i64 0) (.slice B2 n2 d2) (.slice B3 n3 d3) (.slice A1 n1 k1)
         rw [hZ]
         have q2 := (HB2.out.frameF g2).frameT hev (by decide) t2
         have q3 := (HB3.out.frameF g3).frameT hev (by decide) t2
         have q4 := gW.trans' t2 (fun k x y => by omega)
         clear hZ e0 e1 e2 e3 e4 e5 e6 e7 e8 e9 f0 f1 f2 f3 f4 f5 f6 f7 f8 f9 hev t2
         go_wp2
         go_meet
         case rel => exact ⟨_, B2, d2, B3, d3, rfl, t1, hbW, q2, q3, q4⟩)
      | (go_wp2
         go_meet
         case rel => exact ⟨_, B2, d2, B3, d3, rfl, heap_alloc_new _ _, gW.size, HB2.out.frameF (by (first | with_reducible exact g2 | with_reducible exact Fr.refl _ _ | ((first | with_reducible refine Fr.alloc ?_ _ | with_reducible refine Fr.drew ?_); (first | with_reducible exact g2 | with_reducible exact Fr.refl _ _ | ((first | with_reducible refine Fr.alloc ?_ _ | with_reducible refine Fr.drew ?_); (first | with_reducible exact g2 | with_reducible exact Fr.refl _ _ | ((first | with_reducible refine Fr.alloc ?_ _ | with_reducible refine Fr.drew ?_); (first | with_reducible exact g2 | with_reducible exact Fr.refl _ _ | ((first | with_reducible refine Fr.alloc ?_ _ | with_reducible refine Fr.drew ?_); (first | with_reducible exact g2 | with_reducible exact Fr.refl _ _ | ((first | with_reducible refine Fr.alloc ?_ _ | with_reducible refine Fr.drew ?_); (first | with_reducible exact g2 | with_reducible exact Fr.refl _ _ | ((first | with_reducible refine Fr.alloc ?_ _ | with_reducible refine Fr.drew ?_); with_reducible exact g2))))))))))))), HB3.out.frameF (by (first | with_reducible exact g3 | with_reducible exact Fr.refl _ _ | ((first | with_reducible refine Fr.alloc ?_ _ | with_reducible refine Fr.drew ?_); (first | with_reducible exact g3 | with_reducible exact Fr.refl _ _ | ((first | with_reducible refine Fr.alloc ?_ _ | with_reducible refine Fr.drew ?_); (first | with_reducible exact g3 | with_reducible exact Fr.refl _ _ | ((first | with_reducible refine Fr.alloc ?_ _ | with_reducible refine Fr.drew ?_); (first | with_reducible exact g3 | with_reducible exact Fr.refl _ _ | ((first | with_reducible refine Fr.alloc ?_ _ | with_reducible refine Fr.drew ?_); (first | with_reducible exact g3 | with_reducible exact Fr.refl _ _ | ((first | with_reducible refine Fr.alloc ?_ _ | with_reducible refine Fr.drew ?_); (first | with_reducible exact g3 | with_reducible exact Fr.refl _ _ | ((first | with_reducible refine Fr.alloc ?_ _ | with_reducible refine Fr.drew ?_); with_reducible exact g3))))))))))))), by (first | with_reducible exact gW | with_reducible exact Fr.refl _ _ | ((first | with_reducible refine Fr.alloc ?_ _ | with_reducible refine Fr.drew ?_); (first | with_reducible exact gW | with_reducible exact Fr.refl _ _ | ((first | with_reducible refine Fr.alloc ?_ _ | with_reducible refine Fr.drew ?_); (first | with_reducible exact gW | with_reducible exact Fr.refl _ _ | ((first | with_reducible refine Fr.alloc ?_ _ | with_reducible refine Fr.drew ?_); (first | with_reducible exact gW | with_reducible exact Fr.refl _ _ | ((first | with_reducible refine Fr.alloc ?_ _ | with_reducible refine Fr.drew ?_); (first | with_reducible exact gW | with_reducible exact Fr.refl _ _ | ((first | with_reducible refine Fr.alloc ?_ _ | with_reducible refine Fr.drew ?_); (first | with_reducible exact gW | with_reducible exact Fr.refl _ _ | ((first | with_reducible refine Fr.alloc ?_ _ | with_reducible refine Fr.drew ?_); with_reducible exact gW))))))))))))⟩)
  case rest =>
    obtain ⟨bx, B2, d2, B3, d3, rfl, hxb, hbx, hn2, hn3, hfx⟩ := hcut
    rename World => wx
    go_upto_region 10 with fail
    have hl1 := heap_alloc2_old wx (.cells #[.slice A n cap] 40) (.cells #[.slice (some ⟨wx.heap.size, 0, none⟩) 1 1] 51)
    have hl2 := heap_alloc2_new wx (.cells #[.slice A n cap] 40) (.cells #[.slice (some ⟨wx.heap.size, 0, none⟩) 1 1] 51)
    have h99 := ((Fr.refl (fun _ => False) wx).alloc (.cells #[.slice A n cap] 40)).alloc (.cells #[.slice (some ⟨wx.heap.size, 0, none⟩) 1 1] 51)
    have hb9 := h99.heap hxb (fun x => x)
    have q2 := hn2.frameF h99
    have q3 := hn3.frameF h99
    have h9 := hfx.trans h99
    generalize (wx.alloc (.cells #[.slice A n cap] 40)).alloc (.cells #[.slice (some ⟨wx.heap.size, 0, none⟩) 1 1] 51) = W9 at *
    generalize htb : wx.heap.size + 1 = tb at *
    generalize hsb : wx.heap.size = sb at *
    have HL1 := Lib.hid hl1
    have HL2 := Lib.hid hl2
    clear htb hsb hl1 hl2 hxb hn2 hn3 h99 hfx
    have H9 := Lib.hid h9
    have HQ2 := Lib.hid q2
    have HQ3 := Lib.hid q3
    have HB9 := Lib.hid hb9
    clear q2 q3 h9
    go_upto_region 11 with fail
    obtain ⟨⟨x0, x1, x2, x3, x4, x5, x6, x7, x8, x9⟩, y0, y1, y2, y3, y4, y5, y6, y7, y8, y9⟩ := ten_cells hb9
    clear hb9
    have hq := and3 how
    go_cut [71] from 70 to 70 (fun v wz => v = .int .i64 (bits .and .i64 how 3) ∧ wz = W9)
    case first =>
      go_wp2
      go_meet
      case rel => exact ⟨rfl, rfl⟩
    case rest =>
    obtain ⟨hv, hw⟩ := hcut
    subst hv
    subst hw
    rename World => W9
    generalize bits .and .i64 how 3 = q at *
    apply_assumption
    go_cut [14] from 72 to 111 (fun v wz => ∃ th pr rs' ws' want, v = .int .i64 want ∧ wz.heap[bx]? = some (.cells #[.int .i64 2, .int .i64 th, .int .i64 pr, .int .i64 0, .int .i64 0, .int .i64 0, .int .i64 0, .slice B2 n2 d2, .slice B3 n3 d3, .slice A1 n1 k1] 50 (0, 0)) ∧ Flat wz (fun _ => True) B2 (n2 * 2) rs' ∧ Flat wz (fun _ => True) B3 (n3 * 2) ws' ∧ ((want = 4 ∧ (pr = 1 ∨ th = -1)) ∨ (want = 2 ∧ th = 0 ∧ pr = 0 ∧ (rs' ≠ S.rs ∨ ws' ≠ S.ws))) ∧ wz.heap[sb]? = some (.cells #[.slice A n cap] 40 (0, 0)) ∧ wz.heap[tb]? = some (.cells #[.slice (some ⟨sb, 0, none⟩) 1 1] 51 (0, 0)) ∧ Fr (fun k => W.heap.size ≤ k) W9 wz)
    case first =>
      rcases hq with rfl | rfl | rfl | rfl
      · go_wp2
        go_meet
        case rel => exact ⟨0, 1, S.rs, S.ws, 4, rfl, by rw [blk_set HB9.out]; rfl, ((HQ2.out.frameT HB9.out (by decide) ((Fr.refl (fun k => k = bx) W9).setCell (p := ⟨bx, 2, none⟩) (.inl rfl) (.int .i64 1))).flat).mono (fun _ _ _ => trivial), ((HQ3.out.frameT HB9.out (by decide) ((Fr.refl (fun k => k = bx) W9).setCell (p := ⟨bx, 2, none⟩) (.inl rfl) (.int .i64 1))).flat).mono (fun _ _ _ => trivial), .inl ⟨rfl, .inl rfl⟩, ((Fr.refl (fun k => k = bx) W9).setCell (p := ⟨bx, 2, none⟩) (.inl rfl) (.int .i64 1)).heap HL1.out (fun e => ne_typ HB9.out HL1.out (by decide) e.symm), ((Fr.refl (fun k => k = bx) W9).setCell (p := ⟨bx, 2, none⟩) (.inl rfl) (.int .i64 1)).heap HL2.out (fun e => ne_typ HB9.out HL2.out (by decide) e.symm), (Fr.refl (fun k => W.heap.size ≤ k) W9).setCell (.inl hbx) _⟩
      · go_wp2
        go_meet
        case rel => exact ⟨-1, 0, S.rs, S.ws, 4, rfl, by rw [blk_set HB9.out]; rfl, ((HQ2.out.frameT HB9.out (by decide) ((Fr.refl (fun k => k = bx) W9).setCell (p := ⟨bx, 1, none⟩) (.inl rfl) (.int .i64 (-1)))).flat).mono (fun _ _ _ => trivial), ((HQ3.out.frameT HB9.out (by decide) ((Fr.refl (fun k => k = bx) W9).setCell (p := ⟨bx, 1, none⟩) (.inl rfl) (.int .i64 (-1)))).flat).mono (fun _ _ _ => trivial), .inl ⟨rfl, .inr rfl⟩, ((Fr.refl (fun k => k = bx) W9).setCell (p := ⟨bx, 1, none⟩) (.inl rfl) (.int .i64 (-1))).heap HL1.out (fun e => ne_typ HB9.out HL1.out (by decide) e.symm), ((Fr.refl (fun k => k = bx) W9).setCell (p := ⟨bx, 1, none⟩) (.inl rfl) (.int .i64 (-1))).heap HL2.out (fun e => ne_typ HB9.out HL2.out (by decide) e.symm), (Fr.refl (fun k => W.heap.size ≤ k) W9).setCell (.inl hbx) _⟩
      · by_cases h0 : 0 < n2
        · obtain ⟨g, arr, rfl, hbg, hg, hcell⟩ := HQ2.out.at_ (by omega)
          obtain ⟨y, hy⟩ : ∃ y, y = S.rs.getD 1 0 := ⟨_, rfl⟩
          have p1 : W9.cell? ⟨g, 1, none⟩ = some (.int .i64 y) := by rw [blk_cell hg, hcell 1 (by omega), hy]
          have HY := Lib.hid hy
          clear hy
          have z1 : W9.frozen? ⟨g, 1, none⟩ = false := by rw [blk_free hg]
          have hne : ¬ n2 = 0 := by omega
          have HNE := Lib.hid (ne_typ hg HB9.out (by decide))
          have HNE1 := Lib.hid (ne_typ hg HL1.out (by decide))
          have HNE2 := Lib.hid (ne_typ hg HL2.out (by decide))
          clear hg hcell
          go_wp2
          go_meet
          case rel =>
            obtain ⟨ws', hws⟩ := (HQ3.out.flat.mono (G := fun _ => True) (fun _ _ _ => trivial)).any ⟨g, 1, none⟩ (wrap64 (y + 1))
            exact ⟨0, 0, _, ws', 2, rfl, ((Fr.refl (fun k => k = g) W9).setCell (p := ⟨g, 1, none⟩) (.inl rfl) _).heap HB9.out (fun e => HNE.out e.symm), ((HQ2.out.set (i := 1) (by omega) _).flat).mono (fun _ _ _ => trivial), hws, .inr ⟨rfl, rfl, rfl, .inl (set_ne' (i := 1) (by have := HQ2.out.len; omega) HY.out (.inl rfl))⟩, ((Fr.refl (fun k => k = g) W9).setCell (p := ⟨g, 1, none⟩) (.inl rfl) _).heap HL1.out (fun e => HNE1.out e.symm), ((Fr.refl (fun k => k = g) W9).setCell (p := ⟨g, 1, none⟩) (.inl rfl) _).heap HL2.out (fun e => HNE2.out e.symm), (Fr.refl (fun k => W.heap.size ≤ k) W9).setCell (.inl hbg) _⟩
        · obtain rfl : n2 = 0 := by omega
          go_wp2_with (first
           | (go_at_call 7
              (with_reducible refine (first20_calls _).mono ?_)
              rintro ex w4 ⟨rfl, hff⟩))
          go_ret
          exact ⟨rfl, HK.out _ (H9.out.trans hff)⟩
      · by_cases h0 : 0 < n3
        · obtain ⟨g, arr, rfl, hbg, hg, hcell⟩ := HQ3.out.at_ (by omega)
          obtain ⟨y, hy⟩ : ∃ y, y = S.ws.getD ((n3 - 1) * 2) 0 := ⟨_, rfl⟩
          have p1 : W9.cell? ⟨g, (n3 - 1) * 2, none⟩ = some (.int .i64 y) := by rw [blk_cell hg, hcell _ (by omega), hy]
          have HY := Lib.hid hy
          clear hy
          have z1 : W9.frozen? ⟨g, (n3 - 1) * 2, none⟩ = false := by rw [blk_free hg]
          have hne : ¬ n3 = 0 := by omega
          have s1 : IntKind.i64.wrap ((n3 : Int) - 1) = ((n3 - 1 : Nat) : Int) := by rw [IntKind.wrap_i64]; omega
          have s2 : n3 - 1 < n3 := by omega
          have HNE := Lib.hid (ne_typ hg HB9.out (by decide))
          have HNE1 := Lib.hid (ne_typ hg HL1.out (by decide))
          have HNE2 := Lib.hid (ne_typ hg HL2.out (by decide))
          clear hg hcell
          go_wp2
          go_meet
          case rel =>
            obtain ⟨rs', hrs⟩ := (HQ2.out.flat.mono (G := fun _ => True) (fun _ _ _ => trivial)).any ⟨g, (n3 - 1) * 2, none⟩ (wrap64 (y - 1))
            exact ⟨0, 0, rs', _, 2, rfl, ((Fr.refl (fun k => k = g) W9).setCell (p := ⟨g, (n3 - 1) * 2, none⟩) (.inl rfl) _).heap HB9.out (fun e => HNE.out e.symm), hrs, ((HQ3.out.set (i := (n3 - 1) * 2) (by omega) _).flat).mono (fun _ _ _ => trivial), .inr ⟨rfl, rfl, rfl, .inr (set_ne' (i := (n3 - 1) * 2) (d := -1) (by have := HQ3.out.len; omega) HY.out (.inr rfl))⟩, ((Fr.refl (fun k => k = g) W9).setCell (p := ⟨g, (n3 - 1) * 2, none⟩) (.inl rfl) _).heap HL1.out (fun e => HNE1.out e.symm), ((Fr.refl (fun k => k = g) W9).setCell (p := ⟨g, (n3 - 1) * 2, none⟩) (.inl rfl) _).heap HL2.out (fun e => HNE2.out e.symm), (Fr.refl (fun k => W.heap.size ≤ k) W9).setCell (.inl hbg) _⟩
        · obtain rfl : n3 = 0 := by omega
          go_wp2_with (first
           | (go_at_call 7
              (with_reducible refine (first20_calls _).mono ?_)
              rintro ex w4 ⟨rfl, hff⟩))
          go_ret
          exact ⟨rfl, HK.out _ (H9.out.trans hff)⟩
    case rest =>
      obtain ⟨th, pr, rs', ws', want, hv14, hz, hrz, hwz, hwant, hz1, hz2, hfz⟩ := hcut
      subst hv14
      rename World => wz
      have hkz : Fr (fun _ => False) W wz := H9.out.trans' hfz (fun k x y => by omega)
      have hre := ((HOA.out _ hkz).g).mono (G := fun _ => True) (fun _ _ _ => trivial)
      have hq2 := hrz.len
      have hq3 := hwz.len
      have hn2l := HQ2.out.len
      have hn3l := HQ3.out.len
      have hhn : hn ≤ 20000 := by have := HW3.out; have := c.words_bounds; omega
      have hn4 : n4 = hn := by have := (HOA.out _ hkz).h.len; have := HRL.out; omega
      have hwt : (serJ c [[p]] heap ([(⟨2, th, pr, 0, 0, 0, 0, rs', ws', S.regs⟩ : Ev)].filter (·.keeps 2 []))).2 = want := by
        rcases hwant with ⟨h4, ht⟩ | ⟨h2, h3, h5, h6⟩
        · rw [ser_none rfl (by rcases ht with ht | ht; exact .inl ht; exact .inr ht), h4]
        · rw [ser_bad rfl h3 h5 (by
            rw [HSR.out]
            rcases h6 with h6 | h6
            · exact same_rs h6
            · exact same_ws h6), h2]
      have ha := (Fr.refl (fun _ => False) wz).alloc (.cells #[.int .i64 2, .int .i64 th, .int .i64 pr, .int .i64 0, .int .i64 0, .int .i64 0, .int .i64 0, .slice B2 n2 d2, .slice B3 n3 d3, .slice A1 n1 k1] 50)
      have HS1 := Lib.hid ((serial_one (hcap := hcap) ⟨2, th, pr, 0, 0, 0, 0, rs', ws', S.regs⟩ (HIW.out.flat.frame (HK.out _ (hkz.trans ha)) (fun _ _ x => x.elim)) HIW.out.i64 hhn HW3.out (thr_one (ha.heap hz1 (fun x => x)) (ha.heap hz2 (fun x => x)) (HPW.out _ (HK.out _ (hkz.trans ha)))) HSHT.out (heap_alloc_new wz _) (Lies.frame ⟨hrz, hwz, hre⟩ ha (fun _ _ x => x.elim)) (by omega) (by omega) m1).mono (R' := fun ex w' => ∃ A' n' c', ex = .returned (.tuple #[.slice A' n' c', .int .i64 want]) ∧ Fr (fun _ => False) (wz.alloc (.cells #[.int .i64 2, .int .i64 th, .int .i64 pr, .int .i64 0, .int .i64 0, .int .i64 0, .int .i64 0, .slice B2 n2 d2, .slice B3 n3 d3, .slice A1 n1 k1] 50)) w') fun ex w' ⟨A', n', c', h1, _, h3⟩ => ⟨A', n', c', by rw [h1, hwt], h3⟩)
      have HS2 := Lib.hid (fun w1 (hf1 : Fr (fun _ => False) wz w1) => by
        have hfs : Fr (fun k => k = bx) w1 (w1.setCell ⟨bx, 0, none⟩ (.int .i64 3)) := (Fr.refl (fun k => k = bx) w1).setCell (p := ⟨bx, 0, none⟩) (.inl rfl) _
        have hb1 := hf1.heap hz (fun x => x)
        have hkb : Fr (fun _ => False) W (w1.setCell ⟨bx, 0, none⟩ (.int .i64 3)) := (hkz.trans hf1).setCell (.inr hbx) _
        have hc := (Fr.refl (fun _ => False) (w1.setCell ⟨bx, 0, none⟩ (.int .i64 3))).alloc (.cells #[.int .i64 3, .int .i64 th, .int .i64 pr, .int .i64 0, .int .i64 0, .int .i64 0, .int .i64 0, .slice B2 n2 d2, .slice B3 n3 d3, .slice A1 n1 k1] 50)
        obtain ⟨rs3, hr3⟩ := (hrz.frame hf1 (fun _ _ x => x.elim)).any ⟨bx, 0, none⟩ 3
        obtain ⟨ws3, hw3⟩ := (hwz.frame hf1 (fun _ _ x => x.elim)).any ⟨bx, 0, none⟩ 3
        obtain ⟨gs3, hg3⟩ := (hre.frame hf1 (fun _ _ x => x.elim)).any ⟨bx, 0, none⟩ 3
        have t1 := hc.heap (hfs.heap (hf1.heap hz1 (fun x => x)) (fun e => ne_typ hb1 (hf1.heap hz1 (fun x => x)) (by decide) e.symm)) (fun x => x)
        have t2 := hc.heap (hfs.heap (hf1.heap hz2 (fun x => x)) (fun e => ne_typ hb1 (hf1.heap hz2 (fun x => x)) (by decide) e.symm)) (fun x => x)
        have := serial_one (hcap := hcap) ⟨3, th, pr, 0, 0, 0, 0, rs3, ws3, gs3⟩ (HIW.out.flat.frame (HK.out _ (hkb.trans hc)) (fun _ _ x => x.elim)) HIW.out.i64 hhn HW3.out (thr_one t1 t2 (HPW.out _ (HK.out _ (hkb.trans hc)))) HSHT.out (heap_alloc_new (w1.setCell ⟨bx, 0, none⟩ (.int .i64 3)) _) (Lies.frame ⟨hr3, hw3, hg3⟩ hc (fun _ _ x => x.elim)) (by omega) (by omega) m1
        rw [ser_abort rfl, show (w1.setCell ⟨bx, 0, none⟩ (.int .i64 3)).heap.size = w1.heap.size from by simp] at this
        exact this)
      have HS3 := Lib.hid (fun w1 (hf1 : Fr (fun _ => False) wz w1) => show Fr (fun _ => False) W (w1.setCell ⟨bx, 0, none⟩ (.int .i64 3)) from (hkz.trans hf1).setCell (.inr hbx) _)
      have HS4 := Lib.hid (fun w1 (hf1 : Fr (fun _ => False) wz w1) => (ten_cells (hf1.heap hz (fun x => x))))
      have HS5 := Lib.hid (fun w1 (hf1 : Fr (fun _ => False) wz w1) => (ten_cells (show (w1.setCell ⟨bx, 0, none⟩ (.int .i64 3)).heap[bx]? = some (.cells #[.int .i64 3, .int .i64 th, .int .i64 pr, .int .i64 0, .int .i64 0, .int .i64 0, .int .i64 0, .slice B2 n2 d2, .slice B3 n3 d3, .slice A1 n1 k1] 50 (0, 0)) from by rw [blk_set (hf1.heap hz (fun x => x))]; rfl)))
      obtain ⟨⟨x0, x1, x2, x3, x4, x5, x6, x7, x8, x9⟩, y0, y1, y2, y3, y4, y5, y6, y7, y8, y9⟩ := ten_cells hz
      obtain ⟨c0, c1, c2, c3, c4, c5, c6, c7, c8, c9, c10, c11⟩ := HBXA.out _ hkz
      have HKZ := Lib.hid hkz
      have HN0 := Lib.hid (show 0 < hn from by have := HW3.out; have := words_pos (progOk_iff.1 HPO.out).1; omega)
      have HRNG := Lib.hid (fun A' c' w' => serialRange_calls c A' (hn + 1) c' (some ⟨tb, 0, none⟩) 1 1 none 0 0 w' (by have := HW3.out; omega))
      subst hn4
      unfold Conf.val at *
      clear hre hq2 hq3 hn2l hn3l hwt hz hrz hwz hwant hz1 hz2 hfz ha hkz
      have T1 := Lib.hid trivial
      go_wp2_with (first
        | (go_at_call 10
           clear T1
           (with_reducible refine HS1.out.mono ?_)
           rintro ex w1 ⟨E1, r1, f1, rfl, hf⟩
           have hf1 := ((Fr.refl (fun _ => False) wz).alloc (.cells #[.int .i64 2, .int .i64 th, .int .i64 pr, .int .i64 0, .int .i64 0, .int .i64 0, .int .i64 0, .slice B2 n2 d2, .slice B3 n3 d3, .slice A1 n1 k1] 50)).trans hf
           try (clear c0 c1 c2 c3 c4 c5 c6 c7 c8 c9 c10 c11 x0 x1 x2 x3 x4 x5 x6 x7 x8 x9 y0 y1 y2 y3 y4 y5 y6 y7 y8 y9)
           obtain ⟨c0, c1, c2, c3, c4, c5, c6, c7, c8, c9, c10, c11⟩ := HBXA.out _ (HS3.out w1 hf1)
           obtain ⟨⟨x0, x1, x2, x3, x4, x5, x6, x7, x8, x9⟩, y0, y1, y2, y3, y4, y5, y6, y7, y8, y9⟩ := HS4.out w1 hf1
           obtain ⟨⟨t0, t1, t2, t3, t4, t5, t6, t7, t8, t9⟩, _⟩ := HS5.out w1 hf1
           have HF1 := Lib.hid hf1
           clear hf hf1)
        | (go_at_call 10
           (with_reducible refine (HS2.out _ HF1.out).mono ?_)
           rintro ex w2 ⟨E2, r2, f2, rfl, hfl2, hf⟩
           have HK2 := Lib.hid (((HS3.out w1 HF1.out).alloc (.cells #[.int .i64 3, .int .i64 th, .int .i64 pr, .int .i64 0, .int .i64 0, .int .i64 0, .int .i64 0, .slice B2 n2 d2, .slice B3 n3 d3, .slice A1 n1 k1] 50)).trans hf)
           have HFL2 := Lib.hid hfl2
           try (clear c0 c1 c2 c3 c4 c5 c6 c7 c8 c9 c10 c11 x0 x1 x2 x3 x4 x5 x6 x7 x8 x9 y0 y1 y2 y3 y4 y5 y6 y7 y8 y9)
           clear t0 t1 t2 t3 t4 t5 t6 t7 t8 t9
           obtain ⟨c0, c1, c2, c3, c4, c5, c6, c7, c8, c9, c10, c11⟩ := HBXA.out _ HK2.out
           clear hf hfl2))
      clear c0 c1 c2 c3 c4 c5 c6 c7 c8 c9 c10 c11
      have HBX2 := Lib.hid (fun w' (hf : Fr (fun _ => False) w2 w') => HBXA.out _ (HK2.out.trans hf))
      obtain ⟨had, rfl, _, _⟩ := HIW.out.flat.at_ HN0.out
      have HCP := Lib.hid (fun w' (hf : Fr (fun _ => False) w2 w') => copyOwnR_calls had _ hcap heap _ w' (HIW.out.flat.frame (HK.out _ (HK2.out.trans hf)) (fun _ _ x => x.elim)) hhn HN0.out)
      have gW := Fr.refl (fun _ => False) w2
      go_region_held3 (fun w' => w'.cell? ⟨w.heap.size, 0, none⟩ = some (.int .i64 c.r) ∧ w'.cell? ⟨w.heap.size, 1, none⟩ = some (.int .i64 c.o) ∧ w'.cell? ⟨w.heap.size, 2, none⟩ = some (.int .i64 c.s) ∧ w'.cell? ⟨w.heap.size, 3, none⟩ = some (.int .i64 c.wd) ∧ w'.cell? ⟨w.heap.size, 4, none⟩ = some (.int .i64 c.th) ∧ w'.cell? ⟨w.heap.size, 5, none⟩ = some (.int .i64 c.sl) ∧ w'.cell? ⟨w.heap.size, 6, none⟩ = some (.int .i64 c.rg) ∧ w'.cell? ⟨w.heap.size, 7, none⟩ = some (.int .i64 c.lk) ∧ w'.cell? ⟨w.heap.size, 8, none⟩ = some (.int .i64 c.un) ∧ w'.cell? ⟨w.heap.size, 9, none⟩ = some (.int .i64 c.es) ∧ w'.cell? ⟨w.heap.size, 10, none⟩ = some (.int .i64 c.tk) ∧ w'.cell? ⟨w.heap.size, 11, none⟩ = some (.int .i64 c.po))
        ((refine HBX2.out _ ?_; (first | with_reducible exact gW | with_reducible exact Fr.refl _ _ | ((first | with_reducible refine Fr.alloc ?_ _ | with_reducible refine Fr.drew ?_); (first | with_reducible exact gW | with_reducible exact Fr.refl _ _ | ((first | with_reducible refine Fr.alloc ?_ _ | with_reducible refine Fr.drew ?_); (first | with_reducible exact gW | with_reducible exact Fr.refl _ _ | ((first | with_reducible refine Fr.alloc ?_ _ | with_reducible refine Fr.drew ?_); (first | with_reducible exact gW | with_reducible exact Fr.refl _ _ | ((first | with_reducible refine Fr.alloc ?_ _ | with_reducible refine Fr.drew ?_); (first | with_reducible exact gW | with_reducible exact Fr.refl _ _ | ((first | with_reducible refine Fr.alloc ?_ _ | with_reducible refine Fr.drew ?_); (first | with_reducible exact gW | with_reducible exact Fr.refl _ _ | ((first | with_reducible refine Fr.alloc ?_ _ | with_reducible refine Fr.drew ?_); with_reducible exact gW))))))))))))))
        (first
        | (go_at_call 20
           (with_reducible refine (HCP.out _ (by (first | with_reducible exact gW | with_reducible exact Fr.refl _ _ | ((first | with_reducible refine Fr.alloc ?_ _ | with_reducible refine Fr.drew ?_); (first | with_reducible exact gW | with_reducible exact Fr.refl _ _ | ((first | with_reducible refine Fr.alloc ?_ _ | with_reducible refine Fr.drew ?_); (first | with_reducible exact gW | with_reducible exact Fr.refl _ _ | ((first | with_reducible refine Fr.alloc ?_ _ | with_reducible refine Fr.drew ?_); (first | with_reducible exact gW | with_reducible exact Fr.refl _ _ | ((first | with_reducible refine Fr.alloc ?_ _ | with_reducible refine Fr.drew ?_); (first | with_reducible exact gW | with_reducible exact Fr.refl _ _ | ((first | with_reducible refine Fr.alloc ?_ _ | with_reducible refine Fr.drew ?_); (first | with_reducible exact gW | with_reducible exact Fr.refl _ _ | ((first | with_reducible refine Fr.alloc ?_ _ | with_reducible refine Fr.drew ?_); with_reducible exact gW)))))))))))))).mono ?_)
           rintro ex u1 ⟨hb, hcc, rfl, ho, hf⟩
           have HOU := Lib.hid (And.intro (show Own w2.heap.size u1 (.slice (some ⟨hb, 0, none⟩) n4 hcc) heap from by have := HIW.out.flat.len; unfold Own; rw [this]; exact ownsRow_base ho (Fr.size (S := fun _ => False) (by (first | with_reducible exact gW | with_reducible exact Fr.refl _ _ | ((first | with_reducible refine Fr.alloc ?_ _ | with_reducible refine Fr.drew ?_); (first | with_reducible exact gW | with_reducible exact Fr.refl _ _ | ((first | with_reducible refine Fr.alloc ?_ _ | with_reducible refine Fr.drew ?_); (first | with_reducible exact gW | with_reducible exact Fr.refl _ _ | ((first | with_reducible refine Fr.alloc ?_ _ | with_reducible refine Fr.drew ?_); (first | with_reducible exact gW | with_reducible exact Fr.refl _ _ | ((first | with_reducible refine Fr.alloc ?_ _ | with_reducible refine Fr.drew ?_); (first | with_reducible exact gW | with_reducible exact Fr.refl _ _ | ((first | with_reducible refine Fr.alloc ?_ _ | with_reducible refine Fr.drew ?_); (first | with_reducible exact gW | with_reducible exact Fr.refl _ _ | ((first | with_reducible refine Fr.alloc ?_ _ | with_reducible refine Fr.drew ?_); with_reducible exact gW))))))))))))))) hf)
           replace gW : Fr (fun _ => False) w2 u1 := Fr.trans (by (first | with_reducible exact gW | with_reducible exact Fr.refl _ _ | ((first | with_reducible refine Fr.alloc ?_ _ | with_reducible refine Fr.drew ?_); (first | with_reducible exact gW | with_reducible exact Fr.refl _ _ | ((first | with_reducible refine Fr.alloc ?_ _ | with_reducible refine Fr.drew ?_); (first | with_reducible exact gW | with_reducible exact Fr.refl _ _ | ((first | with_reducible refine Fr.alloc ?_ _ | with_reducible refine Fr.drew ?_); (first | with_reducible exact gW | with_reducible exact Fr.refl _ _ | ((first | with_reducible refine Fr.alloc ?_ _ | with_reducible refine Fr.drew ?_); (first | with_reducible exact gW | with_reducible exact Fr.refl _ _ | ((first | with_reducible refine Fr.alloc ?_ _ | with_reducible refine Fr.drew ?_); (first | with_reducible exact gW | with_reducible exact Fr.refl _ _ | ((first | with_reducible refine Fr.alloc ?_ _ | with_reducible refine Fr.drew ?_); with_reducible exact gW))))))))))))) hf
           have gU := Fr.refl (fun _ => False) u1
           clear hf ho)
        | (refine step_append_ints _ (by rfl) (.tmp 134) (.tmp 135) (by rfl) w2.heap.size _ heap (by rfl) (HOU.out.1.frame (show Fr (fun _ => False) u1 _ from by (first | with_reducible exact gU | with_reducible exact Fr.refl _ _ | ((first | with_reducible refine Fr.alloc ?_ _ | with_reducible refine Fr.drew ?_); (first | with_reducible exact gU | with_reducible exact Fr.refl _ _ | ((first | with_reducible refine Fr.alloc ?_ _ | with_reducible refine Fr.drew ?_); (first | with_reducible exact gU | with_reducible exact Fr.refl _ _ | ((first | with_reducible refine Fr.alloc ?_ _ | with_reducible refine Fr.drew ?_); (first | with_reducible exact gU | with_reducible exact Fr.refl _ _ | ((first | with_reducible refine Fr.alloc ?_ _ | with_reducible refine Fr.drew ?_); (first | with_reducible exact gU | with_reducible exact Fr.refl _ _ | ((first | with_reducible refine Fr.alloc ?_ _ | with_reducible refine Fr.drew ?_); (first | with_reducible exact gU | with_reducible exact Fr.refl _ _ | ((first | with_reducible refine Fr.alloc ?_ _ | with_reducible refine Fr.drew ?_); with_reducible exact gU))))))))))))) (fun k x => x.elim)) _ 1 1 [1] (by rfl) (by first | exact one_intsC (heap_alloc_new _ _) | exact one_intsC (HOU.out.2.heap (heap_alloc_new w2 _) (fun x => x))) (fun h => by cases h) (by rw [HIW.out.flat.len]; omega) (Fr.size (S := fun _ => False) (by (first | with_reducible exact gW | with_reducible exact Fr.refl _ _ | ((first | with_reducible refine Fr.alloc ?_ _ | with_reducible refine Fr.drew ?_); (first | with_reducible exact gW | with_reducible exact Fr.refl _ _ | ((first | with_reducible refine Fr.alloc ?_ _ | with_reducible refine Fr.drew ?_); (first | with_reducible exact gW | with_reducible exact Fr.refl _ _ | ((first | with_reducible refine Fr.alloc ?_ _ | with_reducible refine Fr.drew ?_); (first | with_reducible exact gW | with_reducible exact Fr.refl _ _ | ((first | with_reducible refine Fr.alloc ?_ _ | with_reducible refine Fr.drew ?_); (first | with_reducible exact gW | with_reducible exact Fr.refl _ _ | ((first | with_reducible refine Fr.alloc ?_ _ | with_reducible refine Fr.drew ?_); (first | with_reducible exact gW | with_reducible exact Fr.refl _ _ | ((first | with_reducible refine Fr.alloc ?_ _ | with_reducible refine Fr.drew ?_); with_reducible exact gW)))))))))))))) ?_
           rintro v5 u2 ho5 hf5
           obtain ⟨A5, c5, rfl, _⟩ := ho5.shape (fun x hx => by rcases List.mem_append.1 hx with h | h; exact HIW.out.i64 x h; rw [List.mem_singleton.1 h]; exact ⟨by decide, by decide⟩)
           replace gW : Fr (fun _ => False) w2 u2 := Fr.trans' (show Fr (fun _ => False) w2 _ from by (first | with_reducible exact gW | with_reducible exact Fr.refl _ _ | ((first | with_reducible refine Fr.alloc ?_ _ | with_reducible refine Fr.drew ?_); (first | with_reducible exact gW | with_reducible exact Fr.refl _ _ | ((first | with_reducible refine Fr.alloc ?_ _ | with_reducible refine Fr.drew ?_); (first | with_reducible exact gW | with_reducible exact Fr.refl _ _ | ((first | with_reducible refine Fr.alloc ?_ _ | with_reducible refine Fr.drew ?_); (first | with_reducible exact gW | with_reducible exact Fr.refl _ _ | ((first | with_reducible refine Fr.alloc ?_ _ | with_reducible refine Fr.drew ?_); (first | with_reducible exact gW | with_reducible exact Fr.refl _ _ | ((first | with_reducible refine Fr.alloc ?_ _ | with_reducible refine Fr.drew ?_); (first | with_reducible exact gW | with_reducible exact Fr.refl _ _ | ((first | with_reducible refine Fr.alloc ?_ _ | with_reducible refine Fr.drew ?_); with_reducible exact gW))))))))))))) hf5 (fun k x y => by omega)
           rw [List.length_append, HIW.out.flat.len]
           clear ho5 hf5)
        | (go_at_call 10
           (with_reducible refine (HRNG.out _ _ _).mono ?_)
           rintro ex u3 ⟨rfl, hf⟩
           replace gW : Fr (fun _ => False) w2 u3 := Fr.trans (by (first | with_reducible exact gW | with_reducible exact Fr.refl _ _ | ((first | with_reducible refine Fr.alloc ?_ _ | with_reducible refine Fr.drew ?_); (first | with_reducible exact gW | with_reducible exact Fr.refl _ _ | ((first | with_reducible refine Fr.alloc ?_ _ | with_reducible refine Fr.drew ?_); (first | with_reducible exact gW | with_reducible exact Fr.refl _ _ | ((first | with_reducible refine Fr.alloc ?_ _ | with_reducible refine Fr.drew ?_); (first | with_reducible exact gW | with_reducible exact Fr.refl _ _ | ((first | with_reducible refine Fr.alloc ?_ _ | with_reducible refine Fr.drew ?_); (first | with_reducible exact gW | with_reducible exact Fr.refl _ _ | ((first | with_reducible refine Fr.alloc ?_ _ | with_reducible refine Fr.drew ?_); (first | with_reducible exact gW | with_reducible exact Fr.refl _ _ | ((first | with_reducible refine Fr.alloc ?_ _ | with_reducible refine Fr.drew ?_); with_reducible exact gW))))))))))))) hf
           clear hf))
      all_goals
        go_wp2_with (first
          | (go_at_call 7
             (with_reducible refine (first20_calls _).mono ?_)
             rintro ex u4 ⟨rfl, hf⟩
             replace gW : Fr (fun _ => False) w2 u4 := Fr.trans (by (first | with_reducible exact gW | with_reducible exact Fr.refl _ _ | ((first | with_reducible refine Fr.alloc ?_ _ | with_reducible refine Fr.drew ?_); (first | with_reducible exact gW | with_reducible exact Fr.refl _ _ | ((first | with_reducible refine Fr.alloc ?_ _ | with_reducible refine Fr.drew ?_); (first | with_reducible exact gW | with_reducible exact Fr.refl _ _ | ((first | with_reducible refine Fr.alloc ?_ _ | with_reducible refine Fr.drew ?_); (first | with_reducible exact gW | with_reducible exact Fr.refl _ _ | ((first | with_reducible refine Fr.alloc ?_ _ | with_reducible refine Fr.drew ?_); (first | with_reducible exact gW | with_reducible exact Fr.refl _ _ | ((first | with_reducible refine Fr.alloc ?_ _ | with_reducible refine Fr.drew ?_); (first | with_reducible exact gW | with_reducible exact Fr.refl _ _ | ((first | with_reducible refine Fr.alloc ?_ _ | with_reducible refine Fr.drew ?_); with_reducible exact gW))))))))))))) hf
             clear hf)
          | (go_at_call 12
             (with_reducible refine (intsW_eq _ _ _ _ _ _ heap _ _ _ (HFL2.out.frame (show Fr (fun _ => False) w2 _ from by (first | with_reducible exact gW | with_reducible exact Fr.refl _ _ | ((first | with_reducible refine Fr.alloc ?_ _ | with_reducible refine Fr.drew ?_); (first | with_reducible exact gW | with_reducible exact Fr.refl _ _ | ((first | with_reducible refine Fr.alloc ?_ _ | with_reducible refine Fr.drew ?_); (first | with_reducible exact gW | with_reducible exact Fr.refl _ _ | ((first | with_reducible refine Fr.alloc ?_ _ | with_reducible refine Fr.drew ?_); (first | with_reducible exact gW | with_reducible exact Fr.refl _ _ | ((first | with_reducible refine Fr.alloc ?_ _ | with_reducible refine Fr.drew ?_); (first | with_reducible exact gW | with_reducible exact Fr.refl _ _ | ((first | with_reducible refine Fr.alloc ?_ _ | with_reducible refine Fr.drew ?_); (first | with_reducible exact gW | with_reducible exact Fr.refl _ _ | ((first | with_reducible refine Fr.alloc ?_ _ | with_reducible refine Fr.drew ?_); with_reducible exact gW))))))))))))) (fun _ _ x => x.elim)) (by rw [HIW.out.flat.len]; exact hhn) (HIW.out.flat.frame (HK.out _ (HK2.out.trans (show Fr (fun _ => False) w2 _ from by (first | with_reducible exact gW | with_reducible exact Fr.refl _ _ | ((first | with_reducible refine Fr.alloc ?_ _ | with_reducible refine Fr.drew ?_); (first | with_reducible exact gW | with_reducible exact Fr.refl _ _ | ((first | with_reducible refine Fr.alloc ?_ _ | with_reducible refine Fr.drew ?_); (first | with_reducible exact gW | with_reducible exact Fr.refl _ _ | ((first | with_reducible refine Fr.alloc ?_ _ | with_reducible refine Fr.drew ?_); (first | with_reducible exact gW | with_reducible exact Fr.refl _ _ | ((first | with_reducible refine Fr.alloc ?_ _ | with_reducible refine Fr.drew ?_); (first | with_reducible exact gW | with_reducible exact Fr.refl _ _ | ((first | with_reducible refine Fr.alloc ?_ _ | with_reducible refine Fr.drew ?_); (first | with_reducible exact gW | with_reducible exact Fr.refl _ _ | ((first | with_reducible refine Fr.alloc ?_ _ | with_reducible refine Fr.drew ?_); with_reducible exact gW))))))))))))))) (fun _ _ x => x.elim))).mono ?_)
             rintro ex u5 ⟨rfl, hf⟩
             replace gW : Fr (fun _ => False) w2 u5 := Fr.trans (by (first | with_reducible exact gW | with_reducible exact Fr.refl _ _ | ((first | with_reducible refine Fr.alloc ?_ _ | with_reducible refine Fr.drew ?_); (first | with_reducible exact gW | with_reducible exact Fr.refl _ _ | ((first | with_reducible refine Fr.alloc ?_ _ | with_reducible refine Fr.drew ?_); (first | with_reducible exact gW | with_reducible exact Fr.refl _ _ | ((first | with_reducible refine Fr.alloc ?_ _ | with_reducible refine Fr.drew ?_); (first | with_reducible exact gW | with_reducible exact Fr.refl _ _ | ((first | with_reducible refine Fr.alloc ?_ _ | with_reducible refine Fr.drew ?_); (first | with_reducible exact gW | with_reducible exact Fr.refl _ _ | ((first | with_reducible refine Fr.alloc ?_ _ | with_reducible refine Fr.drew ?_); (first | with_reducible exact gW | with_reducible exact Fr.refl _ _ | ((first | with_reducible refine Fr.alloc ?_ _ | with_reducible refine Fr.drew ?_); with_reducible exact gW))))))))))))) hf
             clear hf))
        go_ret
        exact ⟨by simp, HK.out _ (HK2.out.trans (by (first | with_reducible exact gW | with_reducible exact Fr.refl _ _ | ((first | with_reducible refine Fr.alloc ?_ _ | with_reducible refine Fr.drew ?_); (first | with_reducible exact gW | with_reducible exact Fr.refl _ _ | ((first | with_reducible refine Fr.alloc ?_ _ | with_reducible refine Fr.drew ?_); (first | with_reducible exact gW | with_reducible exact Fr.refl _ _ | ((first | with_reducible refine Fr.alloc ?_ _ | with_reducible refine Fr.drew ?_); (first | with_reducible exact gW | with_reducible exact Fr.refl _ _ | ((first | with_reducible refine Fr.alloc ?_ _ | with_reducible refine Fr.drew ?_); (first | with_reducible exact gW | with_reducible exact Fr.refl _ _ | ((first | with_reducible refine Fr.alloc ?_ _ | with_reducible refine Fr.drew ?_); (first | with_reducible exact gW | with_reducible exact Fr.refl _ _ | ((first | with_reducible refine Fr.alloc ?_ _ | with_reducible refine Fr.drew ?_); with_reducible exact gW))))))))))))))⟩

theorem wrong_walk (cs : Array Value) (c : Conf) (H : Option Addr) (hn hcap : Nat) (heap : List Int) (A : Option Addr) (n cap : Nat) (p : List Ins) (how : Int) (w : World) (hc : ConfIn cs c) (hI : IntsZ w H hn hcap heap) (h : ProgAt w (fun _ => True) A n cap p) (_hw : (Lit.int .i64 how).wf = true) :
    Calls Try.prog 5 #[.agg cs, .slice H hn hcap, .slice A n cap, .int .i64 how] w fun e w' => e = .returned (.bool true) ∧ Fr (fun _ => False) w w' := by
  rw [hc]
  by_cases h1 : 60 < n
  · exact wrong_many c H hn hcap A n cap p how w h (.inl h1)
  · cases h2 : progOk c p with
    | false => exact wrong_many c H hn hcap A n cap p how w h (.inr (.inl ⟨by omega, h2⟩))
    | true =>
      by_cases h3 : (hn : Int) = c.words
      · by_cases h4 : (resS c heap p).e = 1
        · exact wrong_go c H hn hcap heap A n cap p how w hI h (by omega) h2 h3 h4
        · exact wrong_end c H hn hcap heap A n cap p how w hI h (by omega) h2 h3 h4
      · exact wrong_many c H hn hcap A n cap p how w h (.inr (.inr ⟨by omega, h2, h3⟩))
end Go.Proofs.Ytkaokhpaabfhmaa
