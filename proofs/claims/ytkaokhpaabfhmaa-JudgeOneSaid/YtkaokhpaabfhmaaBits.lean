/- 64-bit numbers bit by bit. No program. -/
import Derived.Test.YtkaokhpaabfhmaaBase
import Derived.Laws.BitsLemmas
namespace Go.Proofs.Ytkaokhpaabfhmaa
open Go.RowKit

/-- The 64 bits of a number. -/
def B (x : Int) : BitVec 64 := BitVec.ofInt 64 x
def I64 (x : Int) : Prop := -9223372036854775808 ≤ x ∧ x ≤ 9223372036854775807
theorem I64.of {x : Int} (h : (Lit.int .i64 x).wf = true) : I64 x := bounds_i64 h

theorem toInt_eq (v : BitVec 64) : v.toInt = if v.toNat < 9223372036854775808 then (v.toNat : Int) else (v.toNat : Int) - 18446744073709551616 := by
  rw [BitVec.toInt_eq_toNat_cond]; simp only [Nat.reducePow]; split <;> split <;> omega
theorem toNat_B (x : Int) : ((B x).toNat : Int) = x % 18446744073709551616 := by
  unfold B; rw [BitVec.toNat_ofInt]; simp only [Nat.reducePow]; omega
theorem i64_wrap_nat (v : BitVec 64) : IntKind.i64.wrap (v.toNat : Int) = v.toInt := by
  rw [IntKind.wrap_i64, toInt_eq]; have := v.isLt; simp only [Nat.reducePow] at this; split <;> omega
theorem u64_wrap (n : Int) : IntKind.u64.wrap n = ((B n).toNat : Int) := by
  rw [toNat_B]; simp [IntKind.wrap, IntKind.bits, IntKind.signed]
theorem wrap64_B (x : Int) : wrap64 x = (B x).toInt := by
  rw [toInt_eq]; have := toNat_B x; unfold wrap64; split <;> omega
theorem i64_wrap_B (x : Int) : IntKind.i64.wrap x = (B x).toInt := by rw [← wrap64_B, IntKind.wrap_i64, wrap64]
theorem B_toInt (v : BitVec 64) : B v.toInt = v := BitVec.ofInt_toInt
theorem B_toNat (v : BitVec 64) : B (v.toNat : Int) = v := by unfold B; rw [BitVec.ofInt_natCast, BitVec.ofNat_toNat]; simp
theorem toInt_B {x : Int} (h : I64 x) : (B x).toInt = x := by rw [← wrap64_B]; unfold wrap64; obtain ⟨h1, h2⟩ := h; omega
theorem toNat_B' {x : Int} (h0 : 0 ≤ x) (h1 : x < 18446744073709551616) : ((B x).toNat : Int) = x := by rw [toNat_B]; omega
theorem B_wrap64 (x : Int) : B (wrap64 x) = B x := by rw [wrap64_B, B_toInt]
theorem B_u64 (x : Int) : B (IntKind.u64.wrap x) = B x := by rw [u64_wrap, B_toNat]
theorem I64_toInt (v : BitVec 64) : I64 v.toInt := by rw [toInt_eq]; have := v.isLt; simp only [Nat.reducePow] at this; unfold I64; split <;> omega
theorem I64_wrap64 (x : Int) : I64 (wrap64 x) := by rw [wrap64_B]; exact I64_toInt _
theorem B_inj {x y : Int} (hx : I64 x) (hy : I64 y) (h : B x = B y) : x = y := by rw [← toInt_B hx, ← toInt_B hy, h]

theorem bits_and (x y : Int) : bits .and .i64 x y = (B x &&& B y).toInt := i64_wrap_nat _
theorem bits_or (x y : Int) : bits .or .i64 x y = (B x ||| B y).toInt := i64_wrap_nat _
theorem bits_andNot (x y : Int) : bits .andNot .i64 x y = (B x &&& ~~~B y).toInt := i64_wrap_nat _
theorem u64_nat (v : BitVec 64) : IntKind.u64.wrap (v.toNat : Int) = (v.toNat : Int) := by rw [u64_wrap, B_toNat]
theorem ubits_and (x y : Int) : bits .and .u64 x y = ((B x &&& B y).toNat : Int) := u64_nat _
theorem ubits_or (x y : Int) : bits .or .u64 x y = ((B x ||| B y).toNat : Int) := u64_nat _
theorem ubits_andNot (x y : Int) : bits .andNot .u64 x y = ((B x &&& ~~~B y).toNat : Int) := u64_nat _

theorem B_pow (n : Nat) : B (2 ^ n) = BitVec.twoPow 64 n := by
  apply BitVec.eq_of_toNat_eq
  have h := toNat_B (2 ^ n)
  rw [BitVec.toNat_twoPow]
  have h2 : ((2 ^ n % 2 ^ 64 : Nat) : Int) = (2 : Int) ^ n % 18446744073709551616 := by
    rw [Int.natCast_emod, Int.natCast_pow]; rfl
  omega
theorem B_shl (x : Int) (n : Nat) : B (x * 2 ^ n) = B x <<< n := by
  have : B (x * 2 ^ n) = B x * B (2 ^ n) := BitVec.ofInt_mul _ _
  rw [this, B_pow, BitVec.mul_twoPow_eq_shiftLeft]
theorem B_sshr {x : Int} (h : I64 x) (n : Nat) : x / 2 ^ n = ((B x).sshiftRight n).toInt := by
  rw [BitVec.toInt_sshiftRight, toInt_B h, Int.shiftRight_eq_div_pow]; simp
theorem B_ushr {x : Int} (h0 : 0 ≤ x) (h1 : x < 18446744073709551616) (n : Nat) : x / 2 ^ n = ((B x >>> n).toNat : Int) := by
  have h := toNat_B' h0 h1
  rw [BitVec.toNat_ushiftRight, Nat.shiftRight_eq_div_pow, Int.natCast_ediv, h]; simp

/-- The i-th bit. -/
def bit (x : Int) (i : Nat) : Bool := (B x).getLsbD i
theorem eq_of_bits {x y : Int} (hx : I64 x) (hy : I64 y) (h : ∀ i, i < 64 → bit x i = bit y i) : x = y := B_inj hx hy (BitVec.eq_of_getLsbD_eq h)
theorem bit_nat (n i : Nat) : bit (n : Int) i = (decide (i < 64) && n.testBit i) := by unfold bit B; rw [BitVec.ofInt_natCast, BitVec.getLsbD_ofNat]
theorem bit_small {b : Int} (h0 : 0 ≤ b) (h1 : b ≤ 255) (i : Nat) (hi : 8 ≤ i) : bit b i = false := by
  obtain ⟨n, rfl⟩ := Int.eq_ofNat_of_zero_le h0
  rw [bit_nat, Nat.testBit_lt_two_pow (Nat.lt_of_lt_of_le (show n < 2 ^ 8 by omega) (Nat.pow_le_pow_right (by omega) hi)), Bool.and_false]
theorem bit_255 (i : Nat) : bit 255 i = decide (i < 8) := by
  have := bit_nat 255 i
  rw [show ((255 : Nat) : Int) = 255 from rfl] at this
  rw [this, show (255 : Nat) = 2 ^ 8 - 1 from rfl, Nat.testBit_two_pow_sub_one]
  by_cases h : i < 8
  · simp [h]; omega
  · simp [h]
theorem bit_and (x y : Int) (i : Nat) : bit (bits .and .i64 x y) i = (bit x i && bit y i) := by unfold bit; rw [bits_and, B_toInt, BitVec.getLsbD_and]
theorem bit_or (x y : Int) (i : Nat) : bit (bits .or .i64 x y) i = (bit x i || bit y i) := by unfold bit; rw [bits_or, B_toInt, BitVec.getLsbD_or]
theorem bit_andNot (x y : Int) (i : Nat) : bit (bits .andNot .i64 x y) i = (bit x i && !bit y i) := by
  unfold bit; rw [bits_andNot, B_toInt, BitVec.getLsbD_and, BitVec.getLsbD_not]
  by_cases h : i < 64
  · simp [h]
  · have : (B x).getLsbD i = false := BitVec.getLsbD_of_ge _ _ (by omega)
    simp [this]
theorem ubit_or (x y : Int) (i : Nat) : bit (bits .or .u64 x y) i = (bit x i || bit y i) := by unfold bit; rw [ubits_or, B_toNat, BitVec.getLsbD_or]
theorem ubit_and (x y : Int) (i : Nat) : bit (bits .and .u64 x y) i = (bit x i && bit y i) := by unfold bit; rw [ubits_and, B_toNat, BitVec.getLsbD_and]
theorem ubit_andNot (x y : Int) (i : Nat) : bit (bits .andNot .u64 x y) i = (bit x i && !bit y i) := by
  unfold bit; rw [ubits_andNot, B_toNat, BitVec.getLsbD_and, BitVec.getLsbD_not]
  by_cases h : i < 64
  · simp [h]
  · have : (B x).getLsbD i = false := BitVec.getLsbD_of_ge _ _ (by omega)
    simp [this]
theorem bit_wrap (x : Int) (i : Nat) : bit (wrap64 x) i = bit x i := by unfold bit; rw [B_wrap64]
theorem bit_uwrap (x : Int) (i : Nat) : bit (IntKind.u64.wrap x) i = bit x i := by unfold bit; rw [B_u64]
theorem bit_iwrap (x : Int) (i : Nat) : bit (IntKind.i64.wrap x) i = bit x i := by unfold bit; rw [i64_wrap_B, B_toInt]
theorem bit_shl (x : Int) (n i : Nat) : bit (x * 2 ^ n) i = (decide (i < 64) && !decide (i < n) && bit x (i - n)) := by unfold bit; rw [B_shl, BitVec.getLsbD_shiftLeft]
theorem bit_ushr {x : Int} (h0 : 0 ≤ x) (h1 : x < 18446744073709551616) (n i : Nat) : bit (x / 2 ^ n) i = bit x (n + i) := by unfold bit; rw [B_ushr h0 h1, B_toNat, BitVec.getLsbD_ushiftRight]
theorem bit_sshr {x : Int} (h : I64 x) (n i : Nat) (hi : n + i < 64) : bit (x / 2 ^ n) i = bit x (n + i) := by
  unfold bit; rw [B_sshr h, B_toInt, BitVec.getLsbD_sshiftRight]; simp [hi]; omega
theorem bit_past (x : Int) (i : Nat) (h : 64 ≤ i) : bit x i = false := BitVec.getLsbD_of_ge _ _ h
theorem u64_range (x : Int) : 0 ≤ IntKind.u64.wrap x ∧ IntKind.u64.wrap x < 18446744073709551616 := by rw [u64_wrap, toNat_B]; omega
theorem ubits_range (op : BinOp) (x y : Int) : 0 ≤ bits op .u64 x y ∧ bits op .u64 x y < 18446744073709551616 := u64_range _
theorem I64_bits (op : BinOp) (x y : Int) : I64 (bits op .i64 x y) := by unfold bits; rw [i64_wrap_B]; exact I64_toInt _
theorem ueq_of_bits {x y : Int} (hx : 0 ≤ x ∧ x < 18446744073709551616) (hy : 0 ≤ y ∧ y < 18446744073709551616) (h : ∀ i, i < 64 → bit x i = bit y i) : x = y := by
  rw [← toNat_B' hx.1 hx.2, ← toNat_B' hy.1 hy.2, show B x = B y from BitVec.eq_of_getLsbD_eq h]
end Go.Proofs.Ytkaokhpaabfhmaa
