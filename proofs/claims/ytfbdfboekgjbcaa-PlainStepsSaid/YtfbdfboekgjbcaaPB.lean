/- ltklaw7.first. -/
import Derived.Test.YtfbdfboekgjbcaaPA
namespace Go.Proofs.Ytfbdfboekgjbcaa
open Go.RowKit

/-! first. -/
def conf7 : Conf := ⟨1, 1, 1, 2, 1, 0, 1, 9, 9, 0, 9, 0⟩
theorem run7_calls (H : Option Addr) (G : Nat → Prop) (w : World) (hh : Flat w G H 2 [4, 5]) : Calls Try.prog 11 #[.agg #[.int .i64 1, .int .i64 1, .int .i64 1, .int .i64 2, .int .i64 1, .int .i64 0, .int .i64 1, .int .i64 9, .int .i64 9, .int .i64 0, .int .i64 9, .int .i64 0], .slice H 2 2, .slice none 0 0] w fun e w' => ∃ A1 c1 A2 n2 c2 A3 n3 c3 A4 c4, e = .returned (.tuple #[.agg #[.int .i64 1, .slice A1 1 c1, .slice A2 n2 c2, .slice A3 n3 c3], .slice A4 2 c4, .int .i64 0]) ∧
      Flat w' (fun k => w.heap.size ≤ k) A4 2 [4, 5] ∧ Fr (fun _ => False) w w' := by
  refine (run_calls conf7 H 2 2 [4, 5] none 0 0 [] (fun _ => True) G w (ProgAt.nil _ _ _) (fun x hx => by cases hx) hh (fun y hy => ?_)).mono ?_
  · simp only [List.mem_cons, List.not_mem_nil, or_false] at hy
    rcases hy with rfl | rfl <;> exact ⟨by decide, by decide⟩
  · rintro e w' ⟨A1, n1, c1, A2, n2, c2, A3, n3, c3, A4, n4, c4, he, ho, hf⟩
    have h1 : (resS conf7 [4, 5] []).e = 1 := by decide +kernel
    have h2 : resE conf7 [4, 5] [] = 0 := by decide +kernel
    have h3 : (resS conf7 [4, 5] []).regs.length = 1 := by decide +kernel
    have h4 : resH conf7 [4, 5] [] = [4, 5] := by decide +kernel
    obtain rfl : n1 = 1 := ho.g.len.symm.trans h3
    have h5 := ho.h.len
    rw [h4] at h5
    obtain rfl : n4 = 2 := h5.symm
    have h6 := ho.h
    rw [h4] at h6
    rw [h1, h2] at he
    exact ⟨A1, c1, A2, n2, c2, A3, n3, c3, A4, c4, he, h6, hf⟩
theorem flat_new (w : World) (xs : List Int) {arr : Array Value} (T : TypeId) (h : arr = ints xs) {n : Nat} (hn : xs.length = n) {b : Nat} (hb : w.heap.size = b := by simp) : Flat (w.alloc (.cells arr T (0, 0))) (fun k => k = b) (some ⟨b, 0, none⟩) n xs := by
  subst h; subst hn; subst hb
  exact ⟨rfl, fun _ => ⟨_, rfl, rfl, fun i hi => by
    have h1 : (Addr.mk w.heap.size 0 none).add i = ⟨w.heap.size, i, none⟩ := by unfold Addr.add; split <;> simp_all
    rw [h1, blk_cell (heap_alloc_new w _), ints_get _ _ hi]⟩⟩
set_option maxRecDepth 100000 in
set_option maxHeartbeats 1000000 in
theorem first7_calls (w : World) : Calls Try.prog 9 #[] w fun e w' => e = .returned (.bool true) ∧ Fr (fun _ => False) w w' := by
  have HF0 := Lib.hid (((Fr.refl (fun _ => False) w).alloc (.cells #[.int .i64 1, .int .i64 1, .int .i64 1, .int .i64 2, .int .i64 1, .int .i64 0, .int .i64 1, .int .i64 9, .int .i64 9, .int .i64 0, .int .i64 9, .int .i64 0] 23)).alloc (.cells #[.int .i64 4, .int .i64 5] 3))
  have HF1 := Lib.hid (flat_new (w.alloc (.cells #[.int .i64 1, .int .i64 1, .int .i64 1, .int .i64 2, .int .i64 1, .int .i64 0, .int .i64 1, .int .i64 9, .int .i64 9, .int .i64 0, .int .i64 9, .int .i64 0] 23)) [4, 5] (arr := #[.int .i64 4, .int .i64 5]) 3 rfl (n := 2) rfl (b := w.heap.size + 1))
  go_enter Try.func9, Try.ntmps9
  go_wp2_with (first
    | (go_at_call 11; (with_reducible refine (run7_calls _ _ _ HF1.out).mono ?_); rintro ex w1 ⟨A1, c1, A2, n2, c2, A3, n3, c3, A4, c4, rfl, hfl, hf1⟩
       have HFL := Lib.hid hfl
       clear hfl
       have HC := Lib.hid (fun w' (hf : Fr (fun _ => False) w1 w') (hb : w'.heap.size = w1.heap.size + 1) => ints_calls A4 2 c4 _ 2 2 [4, 5] [4, 5] _ _ _ (HFL.out.frame ((hf.alloc (.cells #[.int .i64 4, .int .i64 5] 3))) (fun _ _ x => x.elim)) (by omega) (flat_new w' [4, 5] (arr := #[.int .i64 4, .int .i64 5]) 3 rfl (n := 2) rfl hb))
       have ho := heap_alloc_new w1 (.cells #[.int .i64 1, .slice A1 1 c1, .slice A2 n2 c2, .slice A3 n3 c3] 30)
       have HFO := Lib.hid (((Fr.refl (fun _ => False) w1).alloc (.cells #[.int .i64 1, .slice A1 1 c1, .slice A2 n2 c2, .slice A3 n3 c3] 30))))
    | (go_at_call 14; (with_reducible refine (HC.out _ HFO.out (by simp)).mono ?_); rintro ex w2 ⟨rfl, hf2⟩
       obtain ⟨q0, q1, q2, q3⟩ := out_box ((((Fr.refl (fun _ => False) _).alloc (.cells #[.int .i64 4, .int .i64 5] 3)).trans hf2).heap ho (fun x => x)) rfl
       have hk := HFO.out.trans (((Fr.refl (fun _ => False) _).alloc (.cells #[.int .i64 4, .int .i64 5] 3)).trans hf2)))
  go_ret
  exact ⟨rfl, HF0.out.trans (hf1.trans hk)⟩
end Go.Proofs.Ytfbdfboekgjbcaa
