/- Seven numbers, alike. -/
import Derived.Test.YthlanmibfnaoiaaEvC
import Derived.ChangeKeysEq
import Derived.Laws.StructEq
namespace Go.Proofs.Ythlanmibfnaoiaa
open Go.RowKit

theorem eq_seven (w : World) (k th pr tr ti st ca k' th' pr' tr' ti' st' ca' : Int) : (Op.equalIn 10000 52 (.agg #[.int .i64 k, .int .i64 th, .int .i64 pr, .int .i64 tr, .int .i64 ti, .int .i64 st, .int .i64 ca]) (.agg #[.int .i64 k', .int .i64 th', .int .i64 pr', .int .i64 tr', .int .i64 ti', .int .i64 st', .int .i64 ca'])).run Try.prog w = .ok (k == k' && (th == th' && (pr == pr' && (tr == tr' && (ti == ti' && (st == st' && ca == ca')))))) w := by
  have u3 := Try.underlying3
  have a3 := Try.isAgg3
  have z3 := Try.sizeOf3
  obtain ⟨i0, hi, hz0, hz1, hz2⟩ := info_parts infoInt
  rw [show (10000 : Nat) = 9999 + 1 from rfl, run_equalIn_array w 9999 _ _ Try.underlying52 hi, show Try.prog.cellsOf 3 = 1 by kernel_rfl]
  rw [show List.range 7 = [0, 1, 2, 3, 4, 5, 6] from rfl]
  simp only [Op.eqItems]
  go_simp
  repeat' split
  all_goals simp_all
end Go.Proofs.Ythlanmibfnaoiaa
