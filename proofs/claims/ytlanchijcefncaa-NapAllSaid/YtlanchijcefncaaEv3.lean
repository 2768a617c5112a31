/- slices.Clone at numbers, at accesses and at events. -/
import Derived.Test.YtlanchijcefncaaEv2
import Derived.Lib.SliceRun
import Derived.Lib.Walk
namespace Go.Proofs.Ytlanchijcefncaa
open Go.RowKit

theorem infoInt : (Try.prog.info? 3).map (fun i => (i.zero, i.size, i.bytes)) = some (some (.int .i64 0), 1, 8) := by kernel_rfl
theorem infoAcc : (Try.prog.info? 27).map (fun i => (i.zero, i.size, i.bytes)) = some (some (.agg #[.int .i64 0, .int .i64 0]), 2, 16) := by kernel_rfl
theorem one_ints (xs : List Int) : ∀ u ∈ xs.map (Value.int .i64), u.oneCell' = true := by
  intro u hu
  obtain ⟨y, _, rfl⟩ := List.mem_map.1 hu
  rfl
theorem cells_ints {w : World} {ad : Addr} {m : Nat} {xs : List Int} (hl : xs.length = m) (h : ∀ i, i < m → w.cell? (ad.add i) = some (.int .i64 (xs.getD i 0))) : ∀ j u, (xs.map (Value.int .i64))[j]? = some u → w.cell? (ad.add j) = some u := by
  intro j u hj
  rw [List.getElem?_map] at hj
  cases hz : xs[j]? with
  | none => rw [hz] at hj; cases hj
  | some y =>
    rw [hz] at hj; cases hj
    rw [h j (by rw [← hl]; exact (List.getElem?_eq_some_iff.1 hz).1), List.getD_eq_getElem?_getD, hz]; rfl

end Go.Proofs.Ytlanchijcefncaa
