/- ltklaw3.first answers true; configurations as they come in. -/
import Derived.Test.YtbfhkhklhghigaaShape
import Derived.Test.YtbfhkhklhghigaaOpen
import Derived.Deep.RegionHeld3
namespace Go.Proofs.Ytbfhkhklhghigaa
open Go.RowKit

theorem ret_bool {a b : Bool} (h : a = b) : Ending.returned (.bool a) = Ending.returned (.bool b) := by rw [h]
def conf1 : Conf := ⟨1, 1, 1, 1, 1, 0, 1, 1, 1, 0, 1, 0⟩
theorem conf1_check (w : World) : Calls Try.prog 9 #[.agg #[.int .i64 1, .int .i64 1, .int .i64 1, .int .i64 1, .int .i64 1, .int .i64 0, .int .i64 1, .int .i64 1, .int .i64 1, .int .i64 0, .int .i64 1, .int .i64 0]] w fun e w' => e = .returned (.int .i64 0) ∧ Fr (fun _ => False) w w' := by
  have h := check_calls conf1 w
  rwa [show conf1.chk = 0 from by decide +kernel] at h
theorem conf1_nodes (w : World) : Calls Try.prog 11 #[.agg #[.int .i64 1, .int .i64 1, .int .i64 1, .int .i64 1, .int .i64 1, .int .i64 0, .int .i64 1, .int .i64 1, .int .i64 1, .int .i64 0, .int .i64 1, .int .i64 0]] w fun e w' => e = .returned (.int .i64 3) ∧ Fr (fun _ => False) w w' := by
  have h := nodes_calls conf1 w
  rwa [show conf1.nodes = 3 from by decide +kernel] at h
theorem conf1_cells (w : World) : Calls Try.prog 12 #[.agg #[.int .i64 1, .int .i64 1, .int .i64 1, .int .i64 1, .int .i64 1, .int .i64 0, .int .i64 1, .int .i64 1, .int .i64 1, .int .i64 0, .int .i64 1, .int .i64 0]] w fun e w' => e = .returned (.int .i64 9) ∧ Fr (fun _ => False) w w' := by
  have h := cells_calls conf1 w
  rwa [show conf1.cells = 9 from by decide +kernel] at h
theorem conf1_words (w : World) : Calls Try.prog 10 #[.agg #[.int .i64 1, .int .i64 1, .int .i64 1, .int .i64 1, .int .i64 1, .int .i64 0, .int .i64 1, .int .i64 1, .int .i64 1, .int .i64 0, .int .i64 1, .int .i64 0]] w fun e w' => e = .returned (.int .i64 1) ∧ Fr (fun _ => False) w w' := by
  have h := words_calls conf1 w
  rwa [show conf1.words = 1 from by decide +kernel] at h

set_option maxRecDepth 100000 in
theorem first3_calls (w : World) : Calls Try.prog 8 #[] w fun e w' => e = .returned (.bool true) ∧ Fr (fun _ => False) w w' := by
  have hB0 := BoxConf.mk w conf1
  go_enter Try.func8, Try.ntmps8
  go_wp2_with (first
    | (go_at_call 9; refine (conf1_check _).mono ?_; rintro e w1 ⟨rfl, hf1⟩; have hB1 : BoxConf w1 w.heap.size conf1 := BoxConf.frame hB0 hf1 (fun x => x); obtain ⟨⟨c0, c1, c2, c3⟩, ⟨c4, c5, c6, c7⟩, c8, c9, c10, c11⟩ := hB1.cell; simp only [conf1] at c0 c1 c2 c3 c4 c5 c6 c7 c8 c9 c10 c11)
    | (go_at_call 11; refine (conf1_nodes _).mono ?_; rintro e w2 ⟨rfl, hf2⟩; have hB2 : BoxConf w2 w.heap.size conf1 := BoxConf.frame hB1 hf2 (fun x => x); obtain ⟨⟨c0, c1, c2, c3⟩, ⟨c4, c5, c6, c7⟩, c8, c9, c10, c11⟩ := hB2.cell; simp only [conf1] at c0 c1 c2 c3 c4 c5 c6 c7 c8 c9 c10 c11)
    | (go_at_call 12; refine (conf1_cells _).mono ?_; rintro e w3 ⟨rfl, hf3⟩; have hB3 : BoxConf w3 w.heap.size conf1 := BoxConf.frame hB2 hf3 (fun x => x); obtain ⟨⟨c0, c1, c2, c3⟩, ⟨c4, c5, c6, c7⟩, c8, c9, c10, c11⟩ := hB3.cell; simp only [conf1] at c0 c1 c2 c3 c4 c5 c6 c7 c8 c9 c10 c11)
    | (go_at_call 10; refine (conf1_words _).mono ?_; rintro e w4 ⟨rfl, hf4⟩))
  go_ret
  exact ⟨rfl, (((((Fr.refl _ _).alloc _).trans hf1).trans hf2).trans hf3).trans hf4⟩

/-- A configuration that came in. -/
def ConfIn (cs : Array Value) (c : Conf) : Prop := .agg cs = c.val
theorem ConfIn.of {W : World} {cs : Array Value} {xs : List Int} (h : rdNums 12 W xs cs.toList) : ∃ c, ConfIn cs c := by
  obtain ⟨h1, h2, _⟩ := h
  match xs, h1 with
  | [r, o, s, wd, th, sl, rg, lk, un, es, tk, po], _ =>
    refine ⟨⟨r, o, s, wd, th, sl, rg, lk, un, es, tk, po⟩, ?_⟩
    unfold ConfIn Conf.val
    rw [show cs = cs.toList.toArray by simp, h2]; rfl
theorem opens_conf : Opens Try.prog 23 (rdNums 12) := by
  refine opens_nums Try.underlying23 (by kernel_rfl) (fun i hi => ?_)
  have : i = 0 ∨ i = 1 ∨ i = 2 ∨ i = 3 ∨ i = 4 ∨ i = 5 ∨ i = 6 ∨ i = 7 ∨ i = 8 ∨ i = 9 ∨ i = 10 ∨ i = 11 := by omega
  rcases this with rfl | rfl | rfl | rfl | rfl | rfl | rfl | rfl | rfl | rfl | rfl | rfl <;> exact ⟨_, rfl, rfl, Try.underlying3, by kernel_rfl⟩
end Go.Proofs.Ytbfhkhklhghigaa
