/- ltklaw1.first answers true. -/
import Derived.Test.YtkaokhpaabfhmaaCalcEval
namespace Go.Proofs.Ytkaokhpaabfhmaa
open Go.RowKit

/-- A slice that the call has built itself. -/
theorem IntsC.built (w : World) (xs : List Int) (hx : ∀ x ∈ xs, I64 x) (hl : xs.length ≤ 1000000) :
    IntsC (w.alloc (.cells (ints xs) 3)) (some ⟨w.heap.size, 0, none⟩) xs.length xs.length xs :=
  ⟨⟨rfl, fun _ => ⟨_, rfl, fun i hi => by
    rw [add_none, Nat.zero_add, blk_cell (heap_alloc_new w _), ints_get _ _ hi]⟩⟩, Nat.le_refl _, by omega, hx⟩
theorem IntsC.built1 (w : World) (a : Int) (hx : ∀ x ∈ [a], I64 x) : IntsC (w.alloc (.cells #[.int .i64 a] 3)) (some ⟨w.heap.size, 0, none⟩) 1 1 [a] := IntsC.built w [a] hx (by simp)
theorem IntsC.built2 (w : World) (a b : Int) (hx : ∀ x ∈ [a, b], I64 x) : IntsC (w.alloc (.cells #[.int .i64 a, .int .i64 b] 3)) (some ⟨w.heap.size, 0, none⟩) 2 2 [a, b] := IntsC.built w [a, b] hx (by simp)
theorem IntsC.built3 (w : World) (a b c : Int) (hx : ∀ x ∈ [a, b, c], I64 x) : IntsC (w.alloc (.cells #[.int .i64 a, .int .i64 b, .int .i64 c] 3)) (some ⟨w.heap.size, 0, none⟩) 3 3 [a, b, c] := IntsC.built w [a, b, c] hx (by simp)
theorem IntsC.nil (w : World) : IntsC w none 0 0 [] := ⟨⟨rfl, fun h => absurd h (by omega)⟩, Nat.le_refl _, by omega, fun x hx => by simp at hx⟩

end Go.Proofs.Ytkaokhpaabfhmaa
