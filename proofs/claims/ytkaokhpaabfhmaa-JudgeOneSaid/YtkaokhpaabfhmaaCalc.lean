/- The contracts of package calc: what Known, Eval and Wrap answer. -/
import Derived.Test.YtkaokhpaabfhmaaRows
import Derived.Test.YtkaokhpaabfhmaaOpen
import Derived.Test.YtkaokhpaabfhmaaCalcLaw
namespace Go.Proofs.Ytkaokhpaabfhmaa
open Go.RowKit

theorem iw (n : Int) : IntKind.i64.wrap n = wrap64 n := by rw [IntKind.wrap_i64, wrap64]
theorem ret_i64 {a b : Int} (h : a = b) : Ending.returned (.int .i64 a) = Ending.returned (.int .i64 b) := by rw [h]
theorem ret_bool {a b : Bool} (h : a = b) : Ending.returned (.bool a) = Ending.returned (.bool b) := by rw [h]

theorem add_nil (a : Addr) : a.add 0 = a := by unfold Addr.add; simp
theorem add_none (b o i : Nat) : (⟨b, o, none⟩ : Addr).add i = ⟨b, o + i, none⟩ := by unfold Addr.add; split <;> simp_all
/-- A slice of whole numbers that came in, its room and its numbers' bounds. -/
structure IntsC (w : World) (A : Option Addr) (n cap : Nat) (xs : List Int) : Prop where
  row : IntsIn w A n xs
  cap : n ≤ cap
  max : n ≤ 9223372036854775807
  i64 : ∀ x ∈ xs, I64 x
theorem IntsC.of {W : World} {A : Option Addr} {n cap : Nat} {xs : List Int} (h : rdSlice rdInt 1 W xs [.slice A n cap]) : IntsC W A n cap xs := by
  refine ⟨IntsIn.of h, ?_, ?_, ?_⟩
  · rcases h with ⟨h1, rfl⟩ | ⟨a, len, cap', h1, h2, _⟩
    · simp at h1; omega
    · simp at h1; omega
  · rcases h with ⟨h1, rfl⟩ | ⟨a, len, cap', h1, h2, h3, _⟩
    · simp at h1; omega
    · simp at h1; unfold maxLen at h3; omega
  · intro x hx
    rcases h with ⟨h1, rfl⟩ | ⟨a, len, cap', h1, _, _, h3, h4⟩
    · simp at hx
    · obtain ⟨i, hi⟩ := List.getElem?_of_mem hx
      obtain ⟨c, _, _, h5, h6⟩ := h4 i x hi
      exact I64.of h6
theorem IntsC.frame {w w' : World} {A : Option Addr} {n cap : Nat} {xs : List Int} {S : Nat → Prop} (h : IntsC w A n cap xs) (hf : Fr S w w') (hs : ∀ k, S k → w.heap.size ≤ k) : IntsC w' A n cap xs :=
  ⟨h.row.frame hf hs, h.cap, h.max, h.i64⟩

theorem knownC (k : Int) (w : World) : Calls Try.prog 66 #[.int .i64 k] w fun e w' => e = .returned (.bool (known k)) ∧ w' = w := by
  unfold known
  go_enter Try.func66, Try.ntmps66
  go_wp2
  all_goals (go_ret; exact ⟨by first | (simp [*]; done) | (simp [*]; omega), rfl⟩)

theorem bitC (b : Bool) (w : World) : Calls Try.prog 70 #[.bool b] w fun e w' => e = .returned (.int .i64 (b01 b)) ∧ w' = w := by
  cases b <;>
  · go_enter Try.func70, Try.ntmps70
    go_wp2
    go_ret
    exact ⟨rfl, rfl⟩

theorem foldsC (k a n : Int) (w : World) : Calls Try.prog 72 #[.int .i64 k, .int .i64 a, .int .i64 n] w fun e w' => e = .returned (.int .i64 (foldS k a n)) ∧ w' = w := by
  have h : ((k == 0) = true) ∨ ((k == 0) = false ∧ (k == 1) = true) ∨ ((k == 0) = false ∧ (k == 1) = false ∧ (k == 2) = true) ∨ ((k == 0) = false ∧ (k == 1) = false ∧ (k == 2) = false ∧ (k == 5) = true) ∨ ((k == 0) = false ∧ (k == 1) = false ∧ (k == 2) = false ∧ (k == 5) = false ∧ (k == 6) = true) ∨ ((k == 0) = false ∧ (k == 1) = false ∧ (k == 2) = false ∧ (k == 5) = false ∧ (k == 6) = false ∧ (k == 7) = true) ∨ ((k == 0) = false ∧ (k == 1) = false ∧ (k == 2) = false ∧ (k == 5) = false ∧ (k == 6) = false ∧ (k == 7) = false) := by simp; omega
  rcases h with h0 | ⟨h0, h1⟩ | ⟨h0, h1, h2⟩ | ⟨h0, h1, h2, h3⟩ | ⟨h0, h1, h2, h3, h4⟩ | ⟨h0, h1, h2, h3, h4, h5⟩ | ⟨h0, h1, h2, h3, h4, h5⟩
  all_goals
    go_enter Try.func72, Try.ntmps72
    go_wp2
    all_goals
      go_ret
      exact ⟨by unfold foldS; simp_all; try omega, rfl⟩

/-- What went wrong with nothing. -/
def noneE (k : Int) : Int := if k = 7 ∨ k = 8 then 1 else 0
theorem noneC (k : Int) (w : World) : Calls Try.prog 69 #[.int .i64 k] w fun e w' => e = .returned (.tuple #[.int .i64 (noneV k), .int .i64 (noneE k)]) ∧ w' = w := by
  have h : ((k == 2) = true) ∨ ((k == 2) = false ∧ (k == 3) = true) ∨ ((k == 2) = false ∧ (k == 3) = false ∧ (k == 4) = true) ∨ ((k == 2) = false ∧ (k == 3) = false ∧ (k == 4) = false ∧ (k == 5) = true) ∨ ((k == 2) = false ∧ (k == 3) = false ∧ (k == 4) = false ∧ (k == 5) = false ∧ (k == 7) = true) ∨ ((k == 2) = false ∧ (k == 3) = false ∧ (k == 4) = false ∧ (k == 5) = false ∧ (k == 7) = false ∧ (k == 8) = true) ∨ ((k == 2) = false ∧ (k == 3) = false ∧ (k == 4) = false ∧ (k == 5) = false ∧ (k == 7) = false ∧ (k == 8) = false) := by simp; omega
  rcases h with h0 | ⟨h0, h1⟩ | ⟨h0, h1, h2⟩ | ⟨h0, h1, h2, h3⟩ | ⟨h0, h1, h2, h3, h4⟩ | ⟨h0, h1, h2, h3, h4, h5⟩ | ⟨h0, h1, h2, h3, h4, h5⟩
  all_goals
    go_enter Try.func69, Try.ntmps69
    go_wp2
    all_goals
      go_ret2
      exact ⟨by unfold noneV noneE; simp_all, rfl⟩

theorem wrapC (n m : Int) (w : World) (_hn : I64 n) (hm : I64 m) : Calls Try.prog 68 #[.int .i64 n, .int .i64 m] w fun e w' => e = .returned (.int .i64 (wrapV n m)) ∧ w' = w := by
  unfold I64 at hm
  by_cases h : m < 1
  · have HV := Lib.hid (show wrapV n m = 0 from if_pos h)
    go_enter Try.func68, Try.ntmps68
    go_wp2
    go_ret
    exact ⟨ret_i64 HV.out.symm, rfl⟩
  · have HV := Lib.hid (show wrapV n m = n % m from if_neg h)
    have hz : ¬ m = 0 := by omega
    have hz' : (m == 0) = false := by simpa using hz
    have b1 := Int.emod_nonneg n hz
    have b2 := Int.emod_lt_of_pos n (show 0 < m by omega)
    have b3 : n.tmod m = n % m ∨ (n.tmod m = n % m - m ∧ n.tmod m < 0) := by
      rcases Int.le_total 0 n with hn0 | hn0
      · exact .inl (Int.tmod_eq_emod_of_nonneg hn0)
      · rw [Int.tmod_eq_emod]
        split <;> omega
    have HT := Lib.hid b3
    have HE := Lib.hid (show wrap64 (n.tmod m) = n.tmod m from by unfold wrap64; omega)
    clear b3
    by_cases hq : n.tmod m < 0
    · have HX := Lib.hid (show wrap64 (n.tmod m + m) = n % m from by have := HT.out; unfold wrap64; omega)
      go_enter Try.func68, Try.ntmps68
      go_wp2
      go_ret
      exact ⟨ret_i64 (HX.out.trans HV.out.symm), rfl⟩
    · have HX := Lib.hid (show n.tmod m = n % m from by have := HT.out; omega)
      go_enter Try.func68, Try.ntmps68
      go_wp2
      go_ret
      exact ⟨ret_i64 (HX.out.trans HV.out.symm), rfl⟩


end Go.Proofs.Ytkaokhpaabfhmaa
