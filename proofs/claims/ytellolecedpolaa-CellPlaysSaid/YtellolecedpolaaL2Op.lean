/- A slice of accesses (ltklaw2.Op) as it comes in. -/
import Derived.Test.YtellolecedpolaaRows
import Derived.Test.YtellolecedpolaaOpen
namespace Go.Proofs.Ytellolecedpolaa
open Go.RowKit
theorem opens_op : Opens Try.prog 30 (rdNums 5) := by
  refine opens_nums Try.underlying30 (by kernel_rfl) (fun i hi => ?_)
  have : i = 0 ∨ i = 1 ∨ i = 2 ∨ i = 3 ∨ i = 4 := by omega
  rcases this with rfl | rfl | rfl | rfl | rfl <;> exact ⟨_, rfl, rfl, Try.underlying3, by kernel_rfl⟩
theorem opens_ops : Opens Try.prog 22 (rdSlice (rdNums 5) 5) := opens_slice Try.underlying22 (by kernel_rfl) opens_op
end Go.Proofs.Ytellolecedpolaa
