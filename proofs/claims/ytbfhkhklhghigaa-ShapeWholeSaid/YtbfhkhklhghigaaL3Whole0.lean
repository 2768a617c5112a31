/- Each word in its stripe: the plain law. -/
import Derived.Test.YtbfhkhklhghigaaL3First
namespace Go.Proofs.Ytbfhkhklhghigaa
open Go.RowKit

/-- All that is told of a word: where it lies. -/
structure Lies (c : Conf) (a : Int) : Prop where
  err : c.pathErr a = 0
  l0 : c.level (c.regionOf a) = 0
  l1 : c.level (c.objectOf a) = 1
  l2 : c.level (c.stripeOf a) = 2
  p2 : c.parent (c.stripeOf a) = c.objectOf a
  p1 : c.parent (c.objectOf a) = c.regionOf a
  p0 : c.parent (c.regionOf a) = -1
  st : c.stripeOf a = c.R + c.O + a / c.wd
  la : c.latch (c.stripeOf a) = c.words + 8 * (a / c.wd)
  q0 : 0 ≤ a / c.wd
  q1 : a / c.wd ≤ 512

theorem lies {c : Conf} {a : Int} (hf : c.Fine) (h0 : 0 ≤ a) (h1 : a < c.words) : Lies c a := by
  have hb := c.bounds
  have hR : c.R = c.r := if_pos hf
  have hO : c.O = c.r * c.o := if_pos hf
  have hS : c.S = c.r * c.o * c.s := if_pos hf
  obtain ⟨⟨⟨r1, r2⟩, ⟨o1, o2⟩, ⟨s1, s2⟩, ⟨w1, w2⟩⟩, _⟩ := hf
  have hh : c.has a = true := (c.has_iff a).2 ⟨h0, h1⟩
  have k0 : 0 ≤ a / c.wd := Int.ediv_nonneg h0 (by omega)
  have k1 : a / c.wd < c.r * c.o * c.s := Int.ediv_lt_of_lt_mul (by omega) (by rw [← hS]; exact h1)
  have j0 : 0 ≤ a / c.wd / c.s := Int.ediv_nonneg k0 (by omega)
  have j1 : a / c.wd / c.s < c.r * c.o := Int.ediv_lt_of_lt_mul (by omega) k1
  have i0 : 0 ≤ a / c.wd / c.s / c.o := Int.ediv_nonneg j0 (by omega)
  have i1 : a / c.wd / c.s / c.o < c.r := Int.ediv_lt_of_lt_mul (by omega) j1
  have er : c.regionOf a = a / c.wd / c.s / c.o := if_pos hh
  have eo : c.objectOf a = c.r + a / c.wd / c.s := by rw [← hR]; exact if_pos hh
  have es : c.stripeOf a = c.R + c.O + a / c.wd := if_pos hh
  have hn : c.nodes = c.r + c.r * c.o + c.r * c.o * c.s := by unfold Conf.nodes; rw [hR, hO, hS]
  have l0 : c.level (c.regionOf a) = 0 := by
    unfold Conf.level; rw [er, hn, hR, if_neg (by omega), if_pos i1]
  have l1 : c.level (c.objectOf a) = 1 := by
    unfold Conf.level; rw [eo, hn, hR, hO, if_neg (by omega), if_neg (by omega), if_pos (by omega)]
  have l2 : c.level (c.stripeOf a) = 2 := by
    unfold Conf.level; rw [es, hn, hR, hO, if_neg (by omega), if_neg (by omega), if_neg (by omega)]
  refine ⟨if_pos hh, l0, l1, l2, ?_, ?_, ?_, es, ?_, k0, by rw [hS] at hb; omega⟩
  · unfold Conf.parent; rw [if_neg (by omega), if_pos l2, es, eo, hR]
    rw [show c.r + c.O + a / c.wd - c.r - c.O = a / c.wd by omega]
  · unfold Conf.parent; rw [if_pos l1, eo, er, hR]
    rw [show c.r + a / c.wd / c.s - c.r = a / c.wd / c.s by omega]
  · unfold Conf.parent; rw [if_neg (by omega), if_neg (by omega)]
  · rw [Conf.latch_yes l2, es, show c.R + c.O + a / c.wd - c.R - c.O = a / c.wd by omega, Int.mul_comm]

theorem div_step {m p : Int} (hm : 1 ≤ m) (hp : 0 ≤ p) :
    ((p + 1) / m = p / m ∧ p % m + 1 = (p + 1) % m) ∨ ((p + 1) / m = p / m + 1 ∧ p % m + 1 = m ∧ (p + 1) % m = 0) := by
  have h1 := Int.mul_ediv_add_emod p m
  have h2 := Int.emod_nonneg p (show m ≠ 0 by omega)
  have h3 := Int.emod_lt_of_pos p (show 0 < m by omega)
  by_cases h : p % m + 1 = m
  · right
    have e : p + 1 = (p / m + 1) * m := by rw [Int.add_mul, Int.one_mul, Int.mul_comm]; omega
    rw [e, Int.mul_ediv_cancel _ (by omega), Int.mul_emod_left]
    exact ⟨rfl, h, rfl⟩
  · left
    have e : p + 1 = (p % m + 1) + m * (p / m) := by omega
    constructor
    · conv => lhs; rw [e]
      rw [Int.add_mul_ediv_left _ _ (show m ≠ 0 by omega), Int.ediv_eq_zero_of_lt (by omega) (by omega), Int.zero_add]
    · conv => rhs; rw [e]
      rw [Int.add_mul_emod_self_left]
      exact (Int.emod_eq_of_lt (a := p % m + 1) (b := m) (by omega) (by omega)).symm
theorem whole_end {c : Conf} (hf : c.Fine) : 1 ≤ c.words ∧ c.R + c.O + (c.words - 1) / c.wd = c.nodes - 1 ∧ (c.words - 1) % c.wd + 1 = c.wd ∧ c.cells = c.words + 8 * (c.words / c.wd) ∧ c.level c.nodes = -1 ∧ c.pathErr c.words = 1 ∧ c.words / c.wd = c.S := by
  have hS : c.S = c.r * c.o * c.s := if_pos hf
  have hb := c.bounds
  obtain ⟨⟨⟨r1, r2⟩, ⟨o1, o2⟩, ⟨s1, s2⟩, ⟨w1, w2⟩⟩, _⟩ := hf
  have hS1 : 1 ≤ c.S := by rw [hS]; exact mul_pos_of (mul_pos_of r1 o1) s1
  have hw : c.words = c.S * c.wd := rfl
  have hw1 : 1 ≤ c.words := by rw [hw]; exact mul_pos_of hS1 w1
  have hd : c.words / c.wd = c.S := by rw [hw]; exact Int.mul_ediv_cancel _ (by omega)
  have hst := div_step (m := c.wd) (p := c.words - 1) w1 (by omega)
  rw [show c.words - 1 + 1 = c.words by omega, hd] at hst
  have hm : c.words % c.wd = 0 := by rw [hw]; exact Int.mul_emod_left _ _
  have hp := Int.emod_nonneg (c.words - 1) (show c.wd ≠ 0 by omega)
  have hst' : c.S = (c.words - 1) / c.wd + 1 ∧ (c.words - 1) % c.wd + 1 = c.wd := by
    rcases hst with ⟨_, h2⟩ | ⟨h1, h2, _⟩
    · rw [hm] at h2; omega
    · exact ⟨h1, h2⟩
  refine ⟨hw1, by unfold Conf.nodes; omega, hst'.2, by rw [hd]; unfold Conf.cells; rw [hw]; omega, ?_, ?_, hd⟩
  · unfold Conf.level; rw [if_pos (by omega)]
  · unfold Conf.pathErr; rw [if_neg]; intro h; have := (c.has_iff _).1 h; omega
theorem words_mul {c : Conf} (hf : c.Fine) : wrap64 (wrap64 (wrap64 (c.r * c.o) * c.s) * c.wd) = c.words := by
  have hb := c.bounds
  have hw := c.words_bounds
  have hO : c.O = c.r * c.o := if_pos hf
  have hS : c.S = c.r * c.o * c.s := if_pos hf
  have e1 : wrap64 (c.r * c.o) = c.O := by rw [← hO]; unfold wrap64; omega
  have e2 : wrap64 (c.O * c.s) = c.S := by rw [hO, ← hS]; unfold wrap64; omega
  rw [e1, e2]
  exact c.words_wrap
end Go.Proofs.Ytbfhkhklhghigaa
