/- The contracts of package shape: what each function tells of a configuration. -/
import Derived.Test.YtkaokhpaabfhmaaRows
import Derived.Test.YtkaokhpaabfhmaaBase
namespace Go.Proofs.Ytkaokhpaabfhmaa
open Go.RowKit

/-- A configuration. -/
structure Conf where
  (r o s wd th sl rg lk un es tk po : Int)

def Conf.val (c : Conf) : Value := .agg #[.int .i64 c.r, .int .i64 c.o, .int .i64 c.s, .int .i64 c.wd, .int .i64 c.th, .int .i64 c.sl, .int .i64 c.rg, .int .i64 c.lk, .int .i64 c.un, .int .i64 c.es, .int .i64 c.tk, .int .i64 c.po]
/-- Each number within its bounds. -/
def Conf.Fine (c : Conf) : Prop :=
  ((1 ≤ c.r ∧ c.r ≤ 8) ∧ (1 ≤ c.o ∧ c.o ≤ 8) ∧ (1 ≤ c.s ∧ c.s ≤ 8) ∧ (1 ≤ c.wd ∧ c.wd ≤ 8)) ∧ ((1 ≤ c.th ∧ c.th ≤ 64) ∧ (0 ≤ c.sl ∧ c.sl ≤ 48) ∧ (1 ≤ c.rg ∧ c.rg ≤ 8) ∧ (1 ≤ c.lk ∧ c.lk ≤ 4096)) ∧
  ((1 ≤ c.un ∧ c.un ≤ 1000) ∧ (0 ≤ c.es ∧ c.es ≤ 64) ∧ (1 ≤ c.tk ∧ c.tk ≤ 10000) ∧ (0 ≤ c.po ∧ c.po ≤ 2))
instance (c : Conf) : Decidable c.Fine := by unfold Conf.Fine; infer_instance
def Conf.chk (c : Conf) : Int := if c.Fine then 0 else 1
theorem Conf.chk_yes {c : Conf} (h : c.Fine) : c.chk = 0 := if_pos h
theorem Conf.chk_no {c : Conf} (h : ¬ c.Fine) : c.chk = 1 := if_neg h

/-- The numbers and their bounds, one by one. -/
def Conf.num (c : Conf) (j : Nat) : Int := [c.r, c.o, c.s, c.wd, c.th, c.sl, c.rg, c.lk, c.un, c.es, c.tk, c.po].getD j 0
def lows (j : Nat) : Int := [1, 1, 1, 1, 1, 0, 1, 1, 1, 0, 1, 0].getD j 0
def highs (j : Nat) : Int := [8, 8, 8, 8, 64, 48, 8, 4096, 1000, 64, 10000, 2].getD j 0
theorem Conf.fine_of {c : Conf} (h : ∀ j, j < 12 → lows j ≤ c.num j ∧ c.num j ≤ highs j) : c.Fine :=
  ⟨⟨h 0 (by omega), h 1 (by omega), h 2 (by omega), h 3 (by omega)⟩, ⟨h 4 (by omega), h 5 (by omega), h 6 (by omega), h 7 (by omega)⟩, h 8 (by omega), h 9 (by omega), h 10 (by omega), h 11 (by omega)⟩
theorem Conf.fine_at {c : Conf} (h : c.Fine) (j : Nat) (hj : j < 12) : lows j ≤ c.num j ∧ c.num j ≤ highs j := by
  obtain ⟨⟨h0, h1, h2, h3⟩, ⟨h4, h5, h6, h7⟩, h8, h9, h10, h11⟩ := h
  have : j = 0 ∨ j = 1 ∨ j = 2 ∨ j = 3 ∨ j = 4 ∨ j = 5 ∨ j = 6 ∨ j = 7 ∨ j = 8 ∨ j = 9 ∨ j = 10 ∨ j = 11 := by omega
  rcases this with rfl | rfl | rfl | rfl | rfl | rfl | rfl | rfl | rfl | rfl | rfl | rfl <;> assumption
set_option maxRecDepth 100000 in
theorem index_bound (r o s wd th sl rg lk un es tk po : Int) (j : Nat) (hj : j < 12) (W : World) :
    (Instr.index 96 (.agg #[.int .i64 r, .int .i64 1, .int .i64 8, .int .i64 o, .int .i64 1, .int .i64 8, .int .i64 s, .int .i64 1, .int .i64 8, .int .i64 wd, .int .i64 1, .int .i64 8, .int .i64 th, .int .i64 1, .int .i64 64, .int .i64 sl, .int .i64 0, .int .i64 48, .int .i64 rg, .int .i64 1, .int .i64 8, .int .i64 lk, .int .i64 1, .int .i64 4096, .int .i64 un, .int .i64 1, .int .i64 1000, .int .i64 es, .int .i64 0, .int .i64 64, .int .i64 tk, .int .i64 1, .int .i64 10000, .int .i64 po, .int .i64 0, .int .i64 2]) (.int .i64 (j : Int))).run Try.prog W =
      .ok (.agg #[.int .i64 ((Conf.mk r o s wd th sl rg lk un es tk po).num j), .int .i64 (lows j), .int .i64 (highs j)]) W := by
  have : j = 0 ∨ j = 1 ∨ j = 2 ∨ j = 3 ∨ j = 4 ∨ j = 5 ∨ j = 6 ∨ j = 7 ∨ j = 8 ∨ j = 9 ∨ j = 10 ∨ j = 11 := by omega
  rcases this with rfl | rfl | rfl | rfl | rfl | rfl | rfl | rfl | rfl | rfl | rfl | rfl <;> rfl

set_option maxRecDepth 100000 in
set_option maxHeartbeats 4000000 in
theorem check_calls (c : Conf) (w : World) : Calls Try.prog 56 #[c.val] w fun e w' => e = .returned (.int .i64 c.chk) ∧ Fr (fun _ => False) w w' := by
  obtain ⟨r, o, s, wd, th, sl, rg, lk, un, es, tk, po⟩ := c
  unfold Conf.val
  dsimp only
  generalize hc : Conf.mk r o s wd th sl rg lk un es tk po = c
  have HI := Lib.hid (index_bound r o s wd th sl rg lk un es tk po)
  rw [hc] at HI
  clear hc
  go_enter Try.func56, Try.ntmps56
  go_wp2
  go_loopw [42] (fun v42 wr => ∃ j : Nat, j ≤ 12 ∧ v42 = .int .i64 j ∧ (∀ i, i < j → lows i ≤ c.num i ∧ c.num i ≤ highs i) ∧ Fr (fun _ => False) w wr) (fun v42 _ => 12 - (intOf v42).toNat)
  case atStart => exact ⟨0, by omega, rfl, fun i hi => absurd hi (by omega), (Fr.refl _ _).alloc _⟩
  case round =>
    obtain ⟨j, hj, rfl, hb, hf⟩ := hrel
    have HB := Lib.hid hb
    clear hb
    by_cases hlt : j < 12
    · have hi := HI.out j hlt
      by_cases h1 : c.num j < lows j
      · have H1 := Lib.hid (Conf.chk_no (c := c) fun h => by have := Conf.fine_at h j hlt; omega)
        go_wp2
        go_ret
        exact ⟨by rw [H1.out]; rfl, hf.alloc _⟩
      · by_cases h2 : highs j < c.num j
        · have H1 := Lib.hid (Conf.chk_no (c := c) fun h => by have := Conf.fine_at h j hlt; omega)
          go_wp2
          go_ret
          exact ⟨by rw [H1.out]; rfl, hf.alloc _⟩
        · have h1' : lows j ≤ c.num j := by omega
          have h2' : c.num j ≤ highs j := by omega
          clear h1 h2
          go_wp2
          go_roundw
          case rel =>
            refine ⟨j + 1, by omega, by go_num, fun i hi' => ?_, hf.alloc _⟩
            by_cases hij : i < j
            · exact HB.out i hij
            · obtain rfl : i = j := by omega
              exact ⟨h1', h2'⟩
          case measure => simp [intOf]; omega
    · obtain rfl : j = 12 := by omega
      have H1 := Lib.hid (Conf.chk_yes (c := c) (Conf.fine_of HB.out))
      go_wp2
      go_ret
      exact ⟨by rw [H1.out]; rfl, hf⟩

end Go.Proofs.Ytkaokhpaabfhmaa
