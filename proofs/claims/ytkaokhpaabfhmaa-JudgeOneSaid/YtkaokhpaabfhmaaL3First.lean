/- ltklaw3.first answers true; configurations as they come in. -/
import Derived.Test.YtkaokhpaabfhmaaShape
import Derived.Test.YtkaokhpaabfhmaaOpen
import Derived.Deep.RegionHeld3
namespace Go.Proofs.Ytkaokhpaabfhmaa
open Go.RowKit

theorem ret_bool {a b : Bool} (h : a = b) : Ending.returned (.bool a) = Ending.returned (.bool b) := by rw [h]
def conf1 : Conf := ⟨1, 1, 1, 1, 1, 0, 1, 1, 1, 0, 1, 0⟩
theorem conf1_check (w : World) : Calls Try.prog 56 #[.agg #[.int .i64 1, .int .i64 1, .int .i64 1, .int .i64 1, .int .i64 1, .int .i64 0, .int .i64 1, .int .i64 1, .int .i64 1, .int .i64 0, .int .i64 1, .int .i64 0]] w fun e w' => e = .returned (.int .i64 0) ∧ Fr (fun _ => False) w w' := by
  have h := check_calls conf1 w
  rwa [show conf1.chk = 0 from by decide +kernel] at h
theorem conf1_words (w : World) : Calls Try.prog 23 #[.agg #[.int .i64 1, .int .i64 1, .int .i64 1, .int .i64 1, .int .i64 1, .int .i64 0, .int .i64 1, .int .i64 1, .int .i64 1, .int .i64 0, .int .i64 1, .int .i64 0]] w fun e w' => e = .returned (.int .i64 1) ∧ Fr (fun _ => False) w w' := by
  have h := words_calls conf1 w
  rwa [show conf1.words = 1 from by decide +kernel] at h

/-- A configuration that came in. -/
def ConfIn (cs : Array Value) (c : Conf) : Prop := .agg cs = c.val
theorem ConfIn.of {W : World} {cs : Array Value} {xs : List Int} (h : rdNums 12 W xs cs.toList) : ∃ c, ConfIn cs c := by
  obtain ⟨h1, h2, _⟩ := h
  match xs, h1 with
  | [r, o, s, wd, th, sl, rg, lk, un, es, tk, po], _ =>
    refine ⟨⟨r, o, s, wd, th, sl, rg, lk, un, es, tk, po⟩, ?_⟩
    unfold ConfIn Conf.val
    rw [show cs = cs.toList.toArray by simp, h2]; rfl
theorem opens_conf : Opens Try.prog 23 (rdNums 12) := by
  refine opens_nums Try.underlying23 (by kernel_rfl) (fun i hi => ?_)
  have : i = 0 ∨ i = 1 ∨ i = 2 ∨ i = 3 ∨ i = 4 ∨ i = 5 ∨ i = 6 ∨ i = 7 ∨ i = 8 ∨ i = 9 ∨ i = 10 ∨ i = 11 := by omega
  rcases this with rfl | rfl | rfl | rfl | rfl | rfl | rfl | rfl | rfl | rfl | rfl | rfl <;> exact ⟨_, rfl, rfl, Try.underlying3, by kernel_rfl⟩
end Go.Proofs.Ytkaokhpaabfhmaa
