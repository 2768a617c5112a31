/- One reader that becomes the writer: the plain law. -/
import Derived.Test.YteopldhcmddokaaLatch5
namespace Go.Proofs.Yteopldhcmddokaa
open Go.RowKit

/-- Two, step by step in turn. -/
def run2 : Nat → LM → LM → CM → LM × LM × CM
  | 0, a, b, s => (a, b, s)
  | n + 1, a, b, s => run2 n (a.step s) (b.step (a.stepS s)) (b.stepS (a.stepS s))
theorem run2_succ : ∀ (n : Nat) (a b : LM) (s : CM), run2 (n + 1) a b s = ((run2 n a b s).1.step (run2 n a b s).2.2, (run2 n a b s).2.1.step ((run2 n a b s).1.stepS (run2 n a b s).2.2), (run2 n a b s).2.1.stepS ((run2 n a b s).1.stepS (run2 n a b s).2.2))
  | 0, _, _, _ => rfl
  | n + 1, a, b, s => run2_succ n _ _ _
theorem run2_word : ∀ (n : Nat) (a b : LM) (s : CM), (0 ≤ a.word ∧ a.word ≤ 7) → (0 ≤ b.word ∧ b.word ≤ 7) → (0 ≤ (run2 n a b s).1.word ∧ (run2 n a b s).1.word ≤ 7) ∧ (0 ≤ (run2 n a b s).2.1.word ∧ (run2 n a b s).2.1.word ≤ 7)
  | 0, _, _, _, h, k => ⟨h, k⟩
  | n + 1, _, _, _, h, k => run2_word n _ _ _ (LM.step_word _ _ h) (LM.step_word _ _ k)
def turnC (sl : Nat) : Conf := oneC 2 (sl : Int)
def turnRun (sl : Nat) : Bool :=
  let C := turnC sl
  let r1 := thru 20 (LM.read C 2 0) (CM.zero C.cells.toNat)
  let r2 := thru 20 (LM.read C 2 1) r1.2.1
  let q := run2 15 (LM.write C 2 0 true) (LM.write C 2 1 true) r2.2.1
  let ac := q.1.cancelled.step q.2.2
  let sc := q.1.cancelled.stepS q.2.2
  let c1 := thru 20 (LM.endRead C 2 0) sc
  let c2 := thru 20 (LM.endRead C 2 1) c1.2.1
  let n1 := thru 20 (LM.endRead C 2 1) q.2.2
  let n2 := runLM 15 q.1 n1.2.1
  let n3 := thru 20 (LM.endWrite C 2 0) n2.2
  r1.2.2 && (r2.2.2 && (!q.1.over && (q.2.1.over && (!q.2.1.got && (ac.over && (!ac.got && (c1.2.2 && (c2.2.2 && (c2.2.1.xs.all (· == 0) &&
    (n1.2.2 && (n2.1.got && (n3.2.2 && n3.2.1.xs.all (· == 0)))))))))))))
theorem turn_all : ∀ sl, sl < 3 → turnRun sl = true := by decide +kernel
end Go.Proofs.Yteopldhcmddokaa
