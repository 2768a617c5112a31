/- The contracts of package shape, behind Check. -/
import Derived.Test.YtkaokhpaabfhmaaShape0
namespace Go.Proofs.Ytkaokhpaabfhmaa
open Go.RowKit

/-- How many regions, objects and stripes; how many words, nodes and cells. -/
def Conf.R (c : Conf) : Int := if c.Fine then c.r else 0
def Conf.O (c : Conf) : Int := if c.Fine then c.r * c.o else 0
def Conf.S (c : Conf) : Int := if c.Fine then c.r * c.o * c.s else 0
def Conf.words (c : Conf) : Int := c.S * c.wd
def Conf.nodes (c : Conf) : Int := c.R + c.O + c.S
def Conf.cells (c : Conf) : Int := c.S * c.wd + c.S * 8
theorem mul_le_of {a b A B : Int} (ha : 0 ≤ a) (hb : 0 ≤ b) (h1 : a ≤ A) (h2 : b ≤ B) : 0 ≤ a * b ∧ a * b ≤ A * B :=
  ⟨Int.mul_nonneg ha hb, Int.le_trans (Int.mul_le_mul_of_nonneg_right h1 hb) (Int.mul_le_mul_of_nonneg_left h2 (Int.le_trans ha h1))⟩
theorem mul_pos_of {a b : Int} (ha : 1 ≤ a) (hb : 1 ≤ b) : 1 ≤ a * b := Int.mul_pos (by omega) (by omega)
theorem Conf.bounds (c : Conf) : (0 ≤ c.R ∧ c.R ≤ 8) ∧ (0 ≤ c.O ∧ c.O ≤ 64) ∧ 0 ≤ c.S ∧ c.S ≤ 512 := by
  unfold Conf.R Conf.O Conf.S
  by_cases h : c.Fine
  · rw [if_pos h, if_pos h, if_pos h]
    obtain ⟨⟨h0, h1, h2, h3⟩, _⟩ := h
    have a := mul_le_of (a := c.r) (b := c.o) (by omega) (by omega) h0.2 h1.2
    have b := mul_le_of (a := c.r * c.o) (b := c.s) a.1 (by omega) a.2 h2.2
    omega
  · rw [if_neg h, if_neg h, if_neg h]; omega
theorem Conf.words_bounds (c : Conf) : 0 ≤ c.words ∧ c.words ≤ 4096 := by
  have hb := c.bounds
  by_cases h : c.Fine
  · obtain ⟨⟨h0, h1, h2, h3⟩, _⟩ := h
    exact mul_le_of hb.2.2.1 (by omega) hb.2.2.2 h3.2
  · unfold Conf.words Conf.S; rw [if_neg h]; omega

/-- A configuration in a block of its own. -/
def BoxConf (w : World) (b : Nat) (c : Conf) : Prop := w.heap[b]? = some (.cells #[.int .i64 c.r, .int .i64 c.o, .int .i64 c.s, .int .i64 c.wd, .int .i64 c.th, .int .i64 c.sl, .int .i64 c.rg, .int .i64 c.lk, .int .i64 c.un, .int .i64 c.es, .int .i64 c.tk, .int .i64 c.po] 23 (0, 0))
theorem BoxConf.mk (w : World) (c : Conf) : BoxConf (w.alloc (.cells #[.int .i64 c.r, .int .i64 c.o, .int .i64 c.s, .int .i64 c.wd, .int .i64 c.th, .int .i64 c.sl, .int .i64 c.rg, .int .i64 c.lk, .int .i64 c.un, .int .i64 c.es, .int .i64 c.tk, .int .i64 c.po] 23)) w.heap.size c := heap_alloc_new w _
theorem BoxConf.frame {w w' : World} {b : Nat} {c : Conf} {S : Nat → Prop} (h : BoxConf w b c) (hf : Fr S w w') (hs : ¬ S b) : BoxConf w' b c := hf.heap h hs
theorem BoxConf.cell {w : World} {b : Nat} {c : Conf} (h : BoxConf w b c) :
    (w.cell? ⟨b, 0, none⟩ = some (.int .i64 c.r) ∧ w.cell? ⟨b, 1, none⟩ = some (.int .i64 c.o) ∧ w.cell? ⟨b, 2, none⟩ = some (.int .i64 c.s) ∧ w.cell? ⟨b, 3, none⟩ = some (.int .i64 c.wd)) ∧
    (w.cell? ⟨b, 4, none⟩ = some (.int .i64 c.th) ∧ w.cell? ⟨b, 5, none⟩ = some (.int .i64 c.sl) ∧ w.cell? ⟨b, 6, none⟩ = some (.int .i64 c.rg) ∧ w.cell? ⟨b, 7, none⟩ = some (.int .i64 c.lk)) ∧
    w.cell? ⟨b, 8, none⟩ = some (.int .i64 c.un) ∧ w.cell? ⟨b, 9, none⟩ = some (.int .i64 c.es) ∧ w.cell? ⟨b, 10, none⟩ = some (.int .i64 c.tk) ∧ w.cell? ⟨b, 11, none⟩ = some (.int .i64 c.po) := by
  unfold BoxConf at h
  refine ⟨⟨?_, ?_, ?_, ?_⟩, ⟨?_, ?_, ?_, ?_⟩, ?_, ?_, ?_, ?_⟩ <;> (rw [blk_cell h]; rfl)

theorem BoxConf.all {w : World} {b : Nat} {c : Conf} (h : BoxConf w b c) :
    w.cell? ⟨b, 0, none⟩ = some (.int .i64 c.r) ∧ w.cell? ⟨b, 1, none⟩ = some (.int .i64 c.o) ∧ w.cell? ⟨b, 2, none⟩ = some (.int .i64 c.s) ∧ w.cell? ⟨b, 3, none⟩ = some (.int .i64 c.wd) ∧ w.cell? ⟨b, 4, none⟩ = some (.int .i64 c.th) ∧ w.cell? ⟨b, 5, none⟩ = some (.int .i64 c.sl) ∧ w.cell? ⟨b, 6, none⟩ = some (.int .i64 c.rg) ∧ w.cell? ⟨b, 7, none⟩ = some (.int .i64 c.lk) ∧ w.cell? ⟨b, 8, none⟩ = some (.int .i64 c.un) ∧ w.cell? ⟨b, 9, none⟩ = some (.int .i64 c.es) ∧ w.cell? ⟨b, 10, none⟩ = some (.int .i64 c.tk) ∧ w.cell? ⟨b, 11, none⟩ = some (.int .i64 c.po) := by
  unfold BoxConf at h
  refine ⟨?_, ?_, ?_, ?_, ?_, ?_, ?_, ?_, ?_, ?_, ?_, ?_⟩ <;> (rw [blk_cell h]; rfl)

set_option maxRecDepth 100000 in
theorem counts_calls (c : Conf) (w : World) : Calls Try.prog 40 #[c.val] w fun e w' => e = .returned (.tuple #[.int .i64 c.R, .int .i64 c.O, .int .i64 c.S]) ∧ Fr (fun _ => False) w w' := by
  have HC := Lib.hid (check_calls c)
  unfold Conf.val at *
  by_cases h : c.Fine
  · have hk := Conf.chk_yes h
    have HR := Lib.hid (show c.R = c.r from if_pos h)
    have HO := Lib.hid (show c.O = c.r * c.o from if_pos h)
    have HS := Lib.hid (show c.S = c.r * c.o * c.s from if_pos h)
    have hb := c.bounds
    rw [HR.out, HO.out, HS.out] at hb
    have e1 : wrap64 (c.r * c.o) = c.r * c.o := by unfold wrap64; omega
    have e2 : wrap64 (c.r * c.o * c.s) = c.r * c.o * c.s := by unfold wrap64; omega
    clear hb
    go_enter Try.func40, Try.ntmps40
    go_wp2_with (go_at_call 56; refine (HC.out _).mono ?_; rintro e w1 ⟨rfl, hf⟩; obtain ⟨⟨c0, c1, c2, -⟩, -⟩ := (BoxConf.mk _ _).frame hf (fun x => x) |>.cell)
    go_quiet (fail)
    go_wp2
    go_ret3
    exact ⟨by rw [HR.out, HO.out, HS.out]; show Ending.returned (.tuple #[.int .i64 c.r, .int .i64 (wrap64 (c.r * c.o)), .int .i64 (wrap64 (c.r * c.o * c.s))]) = _; rw [e2, e1], (((Fr.refl _ _).alloc _).trans hf).drewN _⟩
  · have hk := Conf.chk_no h
    have HR := Lib.hid (show c.R = 0 from if_neg h)
    have HO := Lib.hid (show c.O = 0 from if_neg h)
    have HS := Lib.hid (show c.S = 0 from if_neg h)
    go_enter Try.func40, Try.ntmps40
    go_wp2_with (go_at_call 56; refine (HC.out _).mono ?_; rintro e w1 ⟨rfl, hf⟩)
    go_ret3
    exact ⟨by rw [HR.out, HO.out, HS.out]; rfl, ((Fr.refl _ _).alloc _).trans hf⟩

theorem Conf.words_wrap (c : Conf) : wrap64 (c.S * c.wd) = c.words := by
  have := c.words_bounds; unfold Conf.words at *; unfold wrap64; omega

set_option maxRecDepth 100000 in
theorem words_calls (c : Conf) (w : World) : Calls Try.prog 23 #[c.val] w fun e w' => e = .returned (.int .i64 c.words) ∧ Fr (fun _ => False) w w' := by
  have HC := Lib.hid (counts_calls c)
  have HW := Lib.hid c.words_wrap
  unfold Conf.val at *
  go_enter Try.func23, Try.ntmps23
  go_wp2_with (go_at_call 40; refine (HC.out _).mono ?_; rintro e w1 ⟨rfl, hf⟩; obtain ⟨⟨-, -, -, c3⟩, -⟩ := (BoxConf.mk _ _).frame hf (fun x => x) |>.cell)
  go_ret
  exact ⟨by rw [← HW.out]; rfl, ((Fr.refl _ _).alloc _).trans hf⟩

theorem Conf.cells_bounds (c : Conf) : 0 ≤ c.cells ∧ c.cells ≤ 8192 := by
  have h1 := c.words_bounds; have h2 := c.bounds; unfold Conf.cells; unfold Conf.words at h1; omega
theorem Conf.cells_wrap (c : Conf) : wrap64 (wrap64 (c.S * c.wd) + c.S * 8) = c.cells := by
  have h1 := c.cells_bounds; rw [c.words_wrap]; unfold Conf.cells at *; unfold Conf.words; unfold wrap64; omega

/-- The level of a node; -1: there is none. -/
def Conf.level (c : Conf) (n : Int) : Int := if n < 0 ∨ c.nodes ≤ n then -1 else if n < c.R then 0 else if n < c.R + c.O then 1 else 2

theorem Conf.level_range (c : Conf) (n : Int) : -1 ≤ c.level n ∧ c.level n ≤ 2 := by unfold Conf.level; split <;> (try split) <;> (try split) <;> omega
theorem Conf.level_two {c : Conf} {n : Int} (h : c.level n = 2) : c.R + c.O ≤ n ∧ n < c.nodes := by unfold Conf.level at h; split at h <;> (try split at h) <;> (try split at h) <;> omega
theorem Conf.level_one {c : Conf} {n : Int} (h : c.level n = 1) : c.R ≤ n ∧ n < c.R + c.O := by unfold Conf.level at h; split at h <;> (try split at h) <;> (try split at h) <;> omega
theorem Conf.fine_of_level {c : Conf} {n : Int} (h : 0 ≤ c.level n) : c.Fine := by
  by_cases hf : c.Fine
  · exact hf
  · exfalso
    unfold Conf.level Conf.nodes Conf.R Conf.O Conf.S at h
    rw [if_neg hf, if_neg hf, if_neg hf, if_pos (by omega)] at h
    omega

/-- The first cell of a stripe's latch; -1: it is no stripe. -/
def Conf.latch (c : Conf) (n : Int) : Int := if c.level n = 2 then c.words + (n - c.R - c.O) * 8 else -1
theorem Conf.latch_yes {c : Conf} {n : Int} (h : c.level n = 2) : c.latch n = c.words + (n - c.R - c.O) * 8 := if_pos h
theorem Conf.latch_no {c : Conf} {n : Int} (h : ¬ c.level n = 2) : c.latch n = -1 := if_neg h

/-- What a node lies in; -1: in nothing. -/
def Conf.parent (c : Conf) (n : Int) : Int := if c.level n = 1 then (n - c.R) / c.o else if c.level n = 2 then c.R + (n - c.R - c.O) / c.s else -1

/-- Is there such a word? Its region, object and stripe. -/
def Conf.has (c : Conf) (a : Int) : Bool := decide (0 ≤ a) && decide (a < c.words)
theorem Conf.has_iff (c : Conf) (a : Int) : c.has a = true ↔ 0 ≤ a ∧ a < c.words := by simp [Conf.has]
def Conf.stripeOf (c : Conf) (a : Int) : Int := if c.has a then c.R + c.O + a / c.wd else 0
def Conf.objectOf (c : Conf) (a : Int) : Int := if c.has a then c.R + a / c.wd / c.s else 0
def Conf.regionOf (c : Conf) (a : Int) : Int := if c.has a then a / c.wd / c.s / c.o else 0
def Conf.pathErr (c : Conf) (a : Int) : Int := if c.has a then 0 else 1
theorem Conf.fine_of_has {c : Conf} {a : Int} (h : c.has a = true) : c.Fine := by
  by_cases hf : c.Fine
  · exact hf
  · exfalso
    rw [Conf.has_iff] at h
    unfold Conf.words Conf.S at h
    rw [if_neg hf] at h
    omega

end Go.Proofs.Ytkaokhpaabfhmaa
