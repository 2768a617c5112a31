/- ltkref5.Run whole. -/
import Derived.Test.YtkaokhpaabfhmaaPR3
import Derived.Test.YtkaokhpaabfhmaaP9
namespace Go.Proofs.Ytkaokhpaabfhmaa
open Go.RowKit

set_option maxRecDepth 100000 in
set_option maxHeartbeats 2000000 in
theorem refRun_form (c : Conf) (H : Option Addr) (hn hcap : Nat) (A : Option Addr) (n cap : Nat) (p : List Ins) (F : Nat → Prop) (w : World) (h : ProgAt w F A n cap p) (hs : Short p) (hok : progOk c p = false) :
    Calls Try.prog 21 #[c.val, .slice H hn hcap, .slice A n cap] w fun e w' => e = .returned (.tuple #[.agg #[.int .i64 0, .slice none 0 0, .slice none 0 0, .slice none 0 0], .slice none 0 0, .int .i64 2]) ∧ Fr (fun _ => False) w w' := by
  have hf := ((Fr.refl (fun _ => False) w).alloc (.cells #[.int .i64 c.r, .int .i64 c.o, .int .i64 c.s, .int .i64 c.wd, .int .i64 c.th, .int .i64 c.sl, .int .i64 c.rg, .int .i64 c.lk, .int .i64 c.un, .int .i64 c.es, .int .i64 c.tk, .int .i64 c.po] 23)).alloc (.cells #[.int .i64 0, .slice none 0 0, .slice none 0 0, .slice none 0 0] 46)
  have HC := Lib.hid (refCheck5_calls c A n cap p F _ (h.frame hf (fun _ _ x => x.elim)) hs)
  have hcv : chkV c p = 2 := by unfold chkV; rw [hok]; rfl
  rw [hcv] at HC
  have HF := Lib.hid hf
  have hbl := heap_alloc_new (w.alloc (.cells #[.int .i64 c.r, .int .i64 c.o, .int .i64 c.s, .int .i64 c.wd, .int .i64 c.th, .int .i64 c.sl, .int .i64 c.rg, .int .i64 c.lk, .int .i64 c.un, .int .i64 c.es, .int .i64 c.tk, .int .i64 c.po] 23)) (.cells #[.int .i64 0, .slice none 0 0, .slice none 0 0, .slice none 0 0] 46)
  rw [show (w.alloc (.cells #[.int .i64 c.r, .int .i64 c.o, .int .i64 c.s, .int .i64 c.wd, .int .i64 c.th, .int .i64 c.sl, .int .i64 c.rg, .int .i64 c.lk, .int .i64 c.un, .int .i64 c.es, .int .i64 c.tk, .int .i64 c.po] 23)).heap.size = w.heap.size + 1 by simp] at hbl
  have HBL := Lib.hid hbl
  clear h hs hok hcv hf hbl
  unfold Conf.val at *
  go_enter Try.func21, Try.ntmps21
  go_wp2_with (go_at_call 18; (with_reducible refine HC.out.mono ?_); rintro ex w1 ⟨rfl, hf1⟩
               have hb1 := hf1.heap HBL.out (fun x => x)
               have q0 : w1.cell? ⟨w.heap.size + 1, 0, none⟩ = some (.int .i64 0) := by rw [blk_cell hb1]; rfl
               have q1 : w1.cell? ⟨w.heap.size + 1, 1, none⟩ = some (.slice none 0 0) := by rw [blk_cell hb1]; rfl
               have q2 : w1.cell? ⟨w.heap.size + 1, 2, none⟩ = some (.slice none 0 0) := by rw [blk_cell hb1]; rfl
               have q3 : w1.cell? ⟨w.heap.size + 1, 3, none⟩ = some (.slice none 0 0) := by rw [blk_cell hb1]; rfl
               have z0 : w1.frozen? ⟨w.heap.size + 1, 0, none⟩ = false := by rw [blk_free hb1]
               have z1 : w1.frozen? ⟨w.heap.size + 1, 1, none⟩ = false := by rw [blk_free hb1]
               have z2 : w1.frozen? ⟨w.heap.size + 1, 2, none⟩ = false := by rw [blk_free hb1]
               have z3 : w1.frozen? ⟨w.heap.size + 1, 3, none⟩ = false := by rw [blk_free hb1])
  have HB4 := Lib.hid (out_block hb1 0 (.slice none 0 0) (.slice none 0 0) (.slice none 0 0))
  have HF4 := Lib.hid (fr_out (w1) (w.heap.size + 1) (.int .i64 0) (.slice none 0 0) (.slice none 0 0) (.slice none 0 0))
  generalize ((((w1.setCell ⟨w.heap.size + 1, 0, none⟩ (.int .i64 0)).setCell ⟨w.heap.size + 1, 1, none⟩ (.slice none 0 0)).setCell ⟨w.heap.size + 1, 2, none⟩ (.slice none 0 0)).setCell ⟨w.heap.size + 1, 3, none⟩ (.slice none 0 0)) = w2 at *
  obtain ⟨r0, r1, r2, r3⟩ := HB4.out
  refine bodyPost_ret (by simp [results, Try.results21, go_sem, r0, r1, r2, r3]; try rfl) rfl ⟨rfl, (HF.out.trans hf1).trans' HF4.out (fun k x y => by omega)⟩
set_option maxRecDepth 100000 in
set_option maxHeartbeats 2000000 in
theorem refRun_range (c : Conf) (H : Option Addr) (hn hcap : Nat) (A : Option Addr) (n cap : Nat) (p : List Ins) (F : Nat → Prop) (w : World) (h : ProgAt w F A n cap p) (hs : Short p) (hok : progOk c p = true) (hne : (hn : Int) ≠ c.words) :
    Calls Try.prog 21 #[c.val, .slice H hn hcap, .slice A n cap] w fun e w' => e = .returned (.tuple #[.agg #[.int .i64 0, .slice none 0 0, .slice none 0 0, .slice none 0 0], .slice none 0 0, .int .i64 1]) ∧ Fr (fun _ => False) w w' := by
  have hf := ((Fr.refl (fun _ => False) w).alloc (.cells #[.int .i64 c.r, .int .i64 c.o, .int .i64 c.s, .int .i64 c.wd, .int .i64 c.th, .int .i64 c.sl, .int .i64 c.rg, .int .i64 c.lk, .int .i64 c.un, .int .i64 c.es, .int .i64 c.tk, .int .i64 c.po] 23)).alloc (.cells #[.int .i64 0, .slice none 0 0, .slice none 0 0, .slice none 0 0] 46)
  have HC := Lib.hid (refCheck5_calls c A n cap p F _ (h.frame hf (fun _ _ x => x.elim)) hs)
  have hcv : chkV c p = 0 := by unfold chkV; rw [hok]; rfl
  rw [hcv] at HC
  have HF := Lib.hid hf
  have HW := Lib.hid (ref_words_calls c)
  obtain ⟨hbx, o', hbl, rfl⟩ := two_blocks w c (.cells #[.int .i64 0, .slice none 0 0, .slice none 0 0, .slice none 0 0] 46)
  have HBX := Lib.hid hbx
  have HBL := Lib.hid hbl
  have hd : ((hn : Int) != c.words) = true := by simpa using hne
  clear h hs hok hcv hf hbl hbx hne
  unfold Conf.val at *
  go_enter Try.func21, Try.ntmps21
  go_wp2_with (first
    | (go_at_call 18; (with_reducible refine HC.out.mono ?_); rintro ex w1 ⟨rfl, hf1⟩
       obtain ⟨c0, c1, c2, c3, c4, c5, c6, c7, c8, c9, c10, c11⟩ := (HBX.out.frame hf1 (fun x => x)).all)
    | (go_at_call 19; (with_reducible refine (HW.out _).mono ?_); rintro ex w2 ⟨rfl, hf2⟩
       clear c0 c1 c2 c3 c4 c5 c6 c7 c8 c9 c10 c11
       have hb1 := (hf1.trans hf2).heap HBL.out (fun x => x)
       have q0 : w2.cell? ⟨w.heap.size + 1, 0, none⟩ = some (.int .i64 0) := by rw [blk_cell hb1]; rfl
       have q1 : w2.cell? ⟨w.heap.size + 1, 1, none⟩ = some (.slice none 0 0) := by rw [blk_cell hb1]; rfl
       have q2 : w2.cell? ⟨w.heap.size + 1, 2, none⟩ = some (.slice none 0 0) := by rw [blk_cell hb1]; rfl
       have q3 : w2.cell? ⟨w.heap.size + 1, 3, none⟩ = some (.slice none 0 0) := by rw [blk_cell hb1]; rfl
       have z0 : w2.frozen? ⟨w.heap.size + 1, 0, none⟩ = false := by rw [blk_free hb1]
       have z1 : w2.frozen? ⟨w.heap.size + 1, 1, none⟩ = false := by rw [blk_free hb1]
       have z2 : w2.frozen? ⟨w.heap.size + 1, 2, none⟩ = false := by rw [blk_free hb1]
       have z3 : w2.frozen? ⟨w.heap.size + 1, 3, none⟩ = false := by rw [blk_free hb1]))
  have HB4 := Lib.hid (out_block hb1 0 (.slice none 0 0) (.slice none 0 0) (.slice none 0 0))
  have HF4 := Lib.hid (fr_out (w2) (w.heap.size + 1) (.int .i64 0) (.slice none 0 0) (.slice none 0 0) (.slice none 0 0))
  generalize ((((w2.setCell ⟨w.heap.size + 1, 0, none⟩ (.int .i64 0)).setCell ⟨w.heap.size + 1, 1, none⟩ (.slice none 0 0)).setCell ⟨w.heap.size + 1, 2, none⟩ (.slice none 0 0)).setCell ⟨w.heap.size + 1, 3, none⟩ (.slice none 0 0)) = w3 at *
  obtain ⟨r0, r1, r2, r3⟩ := HB4.out
  refine bodyPost_ret (by simp [results, Try.results21, go_sem, r0, r1, r2, r3]; try rfl) rfl ⟨rfl, (HF.out.trans (hf1.trans hf2)).trans' HF4.out (fun k x y => by omega)⟩
theorem refRun_calls (c : Conf) (H : Option Addr) (hn hcap : Nat) (heap : List Int) (A : Option Addr) (n cap : Nat) (p : List Ins) (F G : Nat → Prop) (w : World) (h : ProgAt w F A n cap p) (hs : Short p) (hh : Flat w G H hn heap) (hi : ∀ y ∈ heap, I64 y) :
    Calls Try.prog 21 #[c.val, .slice H hn hcap, .slice A n cap] w fun e w' => ∃ A1 n1 c1 A2 n2 c2 A3 n3 c3 A4 n4 c4, e = .returned (.tuple #[.agg #[.int .i64 (resS c heap p).e, .slice A1 n1 c1, .slice A2 n2 c2, .slice A3 n3 c3], .slice A4 n4 c4, .int .i64 (resE c heap p)]) ∧
      RunIs w' w.heap.size (resS c heap p) (resH c heap p) A1 n1 A2 n2 A3 n3 A4 n4 ∧ Fr (fun _ => False) w w' := by
  have hl := hh.len
  by_cases hok : progOk c p = true
  · by_cases hne : (hn : Int) = c.words
    · obtain ⟨e1, e2, e3⟩ := runs_full hok (by rw [hl]; exact hne)
      rw [e1, e2, e3]
      refine (refRun_main c H hn hcap heap A n cap p F G w h hs hok hh hi hne).mono ?_
      rintro e w' ⟨A1, n1, c1, A2, n2, c2, A3, n3, c3, A4, n4, c4, he, ho, hf⟩
      exact ⟨A1, n1, c1, A2, n2, c2, A3, n3, c3, A4, n4, c4, he, ⟨ho.g, ho.r, ho.w_, ho.h⟩, hf⟩
    · obtain ⟨e1, e2, e3⟩ := runs_not (c := c) (heap := heap) (p := p) (fun x => hne (by rw [← hl]; exact x.2))
      rw [e1, e2, e3, if_pos hok]
      refine (refRun_range c H hn hcap A n cap p F w h hs hok hne).mono ?_
      rintro e w' ⟨he, hf⟩
      exact ⟨none, 0, 0, none, 0, 0, none, 0, 0, none, 0, 0, he, ⟨Flat.nil _ _ _, Flat.nil _ _ _, Flat.nil _ _ _, Flat.nil _ _ _⟩, hf⟩
  · obtain ⟨e1, e2, e3⟩ := runs_not (c := c) (heap := heap) (p := p) (fun x => hok x.1)
    rw [e1, e2, e3, if_neg hok]
    refine (refRun_form c H hn hcap A n cap p F w h hs (by simpa using hok)).mono ?_
    rintro e w' ⟨he, hf⟩
    exact ⟨none, 0, 0, none, 0, 0, none, 0, 0, none, 0, 0, he, ⟨Flat.nil _ _ _, Flat.nil _ _ _, Flat.nil _ _ _, Flat.nil _ _ _⟩, hf⟩
end Go.Proofs.Ytkaokhpaabfhmaa
