/- So many steps: the plain law. -/
import Derived.Test.YteopldhcmddokaaLatch5
namespace Go.Proofs.Yteopldhcmddokaa
open Go.RowKit

def stepsC (sl : Nat) : Conf := oneC 4 (sl : Int)
def stepsL (sl th : Nat) (i : Nat) : LM :=
  match i with
  | 0 => LM.read (stepsC sl) 2 (th : Int)
  | 1 => LM.write (stepsC sl) 2 (th : Int) true
  | 2 => LM.endWrite (stepsC sl) 2 (th : Int)
  | 3 => LM.read (stepsC sl) 2 (th : Int)
  | _ => LM.endRead (stepsC sl) 2 (th : Int)
def stepsK (i : Nat) : Nat := [2, 9, 1, 2, 1].getD i 0
def stepsS (sl th : Nat) : Nat → CM
  | 0 => CM.zero (stepsC sl).cells.toNat
  | i + 1 => (runLM (stepsK i) (stepsL sl th i) (stepsS sl th i)).2
def stepsT : Nat → Nat
  | 0 => 0
  | i + 1 => stepsT i + stepsK i
theorem steps_all : ∀ sl, sl < 5 → ∀ th, th < 4 → (∀ i, i < 5 → ((∀ k, k < stepsK i → (runLM k (stepsL sl th i) (stepsS sl th i)).1.over = false ∧ (runLM (k + 1) (stepsL sl th i) (stepsS sl th i)).1.over = (k + 1 == stepsK i)) ∧
    (runLM (stepsK i) (stepsL sl th i) (stepsS sl th i)).1.got = true ∧ (runLM (stepsK i) (stepsL sl th i) (stepsS sl th i)).1.steps = stepsK i ∧ (stepsS sl th (i + 1)).cnt = stepsT (i + 1))) ∧ (stepsS sl th 5).xs.all (· == 0) = true := by decide +kernel
theorem stepsL_word (sl th i : Nat) : 0 ≤ (stepsL sl th i).word ∧ (stepsL sl th i).word ≤ 7 := by
  unfold stepsL
  split
  · exact ⟨by show (0 : Int) ≤ 0; omega, by show (0 : Int) ≤ 7; omega⟩
  · exact ⟨by show (0 : Int) ≤ 1; omega, by show (1 : Int) ≤ 7; omega⟩
  · exact ⟨by show (0 : Int) ≤ 0; omega, by show (0 : Int) ≤ 7; omega⟩
  · exact ⟨by show (0 : Int) ≤ 0; omega, by show (0 : Int) ≤ 7; omega⟩
  · exact ⟨by show (0 : Int) ≤ 0; omega, by show (0 : Int) ≤ 7; omega⟩
end Go.Proofs.Yteopldhcmddokaa
