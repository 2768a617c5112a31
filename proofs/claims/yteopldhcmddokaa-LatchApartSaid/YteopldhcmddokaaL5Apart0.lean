/- Latches of two stripes: the plain law. -/
import Derived.Test.YteopldhcmddokaaLatch5
namespace Go.Proofs.Yteopldhcmddokaa
open Go.RowKit

/-- So many stripes, two threads, one slot. -/
def apartC (s : Nat) : Conf := { oneC 2 1 with s := (s : Int) }
def apartRun (s a b : Nat) : Bool :=
  let C := apartC s
  let r1 := thru 20 (LM.write C (2 + (a : Int)) 0 false) (CM.zero C.cells.toNat)
  let r2 := thru 20 (LM.write C (2 + (b : Int)) 1 false) r1.2.1
  let r3 := thru 20 (LM.read C (2 + (a : Int)) 1) r2.2.1
  let r4 := thru 20 (LM.write C (2 + (b : Int)) 0 false) r3.2.1
  let r5 := thru 20 (LM.endWrite C (2 + (a : Int)) 0) r4.2.1
  let r6 := thru 20 (LM.read C (2 + (a : Int)) 1) r5.2.1
  let r7 := thru 20 (LM.endRead C (2 + (a : Int)) 1) r6.2.1
  let r8 := thru 20 (LM.endWrite C (2 + (b : Int)) 1) r7.2.1
  r1.2.2 && (r2.2.2 && (!r3.2.2 && (!r4.2.2 && (r5.2.2 && (r6.2.2 && (r7.2.2 && (r8.2.2 && r8.2.1.xs.all (· == 0))))))))
theorem apart2 : ∀ a, a < 2 → ∀ b, b < 2 → a ≠ b → apartRun 2 a b = true := by decide +kernel
theorem apart3 : ∀ a, a < 3 → ∀ b, b < 3 → a ≠ b → apartRun 3 a b = true := by decide +kernel
theorem apart4 : ∀ a, a < 4 → ∀ b, b < 4 → a ≠ b → apartRun 4 a b = true := by decide +kernel
theorem apart5 : ∀ a, a < 5 → ∀ b, b < 5 → a ≠ b → apartRun 5 a b = true := by decide +kernel
theorem apart6 : ∀ a, a < 6 → ∀ b, b < 6 → a ≠ b → apartRun 6 a b = true := by decide +kernel
theorem apart7 : ∀ a, a < 7 → ∀ b, b < 7 → a ≠ b → apartRun 7 a b = true := by decide +kernel
theorem apart8 : ∀ a, a < 8 → ∀ b, b < 8 → a ≠ b → apartRun 8 a b = true := by decide +kernel
theorem apart_all (s a b : Nat) (h0 : 2 ≤ s) (h1 : s ≤ 8) (ha : a < s) (hb : b < s) (hne : a ≠ b) : apartRun s a b = true := by
  have : s = 2 ∨ s = 3 ∨ s = 4 ∨ s = 5 ∨ s = 6 ∨ s = 7 ∨ s = 8 := by omega
  rcases this with rfl | rfl | rfl | rfl | rfl | rfl | rfl
  · exact apart2 a ha b hb hne
  · exact apart3 a ha b hb hne
  · exact apart4 a ha b hb hne
  · exact apart5 a ha b hb hne
  · exact apart6 a ha b hb hne
  · exact apart7 a ha b hb hne
  · exact apart8 a ha b hb hne
end Go.Proofs.Yteopldhcmddokaa
