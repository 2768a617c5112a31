/-
  No cell of these rows narrows 'for every input' (looked for: loops, veiled, ifaces, maps, wideKeys, modest, calm, conditions, laid).
  DERIVED. THE GIVEN ROWS OF THIS SEAT. 6 by the template 'for every input the law returns true; each argument reads behind the call as it read before'; 0 by the template 'total and deterministic' (their statements: YteopldhcmddokaaTotals.lean).
  GIVEN WITH THE SEED: the statements are not yours to turn. If you find one false, say at which input.
  Laid BY PROGRAM, IN A SANDBOX (cutbox-rows.mjs): the forced cells as the released guide's own fill.sh prints them over the translation 102545def0752bd9… (all of the seat's roots in one cut). By AI agents, Wed Nov 11 2026. No macro, syntax, notation, axiom, sorry.
-/
import Derived.Test.YteopldhcmddokaaChecked
import GoSem.Claim
import GoSem.ClaimJoined
import GoSem.ClaimMapViews
import Derived.JoinedTies
import Derived.KernelRfl
namespace Go.Proofs.Yteopldhcmddokaa
/- THE CELL 'sum', in the pinned program and in every row, IS THE sha256 OF THE DUMP (.gsa) THAT YteopldhcmddokaaProg.lean LOADS. Nothing in Lean hashes anything: it is a label: what it is worth is what the hold of that sum in a sandbox is worth. -/
noncomputable def Try.pinned : Pinned := { name := "yteopldhcmddokaa", sum := "102545def0752bd9447d18253049725aac977224fdfc2090891e7589eed71931", checked := Try.checked }
namespace Rows
def none {H : Type} : Left H := { results := [], args := [] }

/-- 'ltklaw5.LatchReaders': WHATEVER THE INPUT: true; the input reads as it did. -/
def latchReadersSpec : ChangeSpec := { name := "latchReaders", fn := fun _ => fun
  | [d1, d2, d3, d4] => { results := [.lit (.bool true)], args := [d1, d2, d3, d4] }
  | _ => none }
def latchReadersRow : OpenClaim := { program := "yteopldhcmddokaa", sum := "102545def0752bd9447d18253049725aac977224fdfc2090891e7589eed71931", func := "latchkey/ltklaw5.LatchReaders", spec := "latchReaders", apart := false }
def LatchReadersSaid : Prop := latchReadersRow.holds Try.pinned (OpenSpec.ofChange latchReadersSpec)

/-- ITS FALSE NEIGHBOUR: 'it returns false'. Refute it at one input. -/
def latchReadersWrong : ChangeSpec := { name := "latchReaders", fn := fun _ => fun
  | [d1, d2, d3, d4] => { results := [.lit (.bool false)], args := [d1, d2, d3, d4] }
  | _ => none }
def LatchReadersWrongFalsely : Prop := latchReadersRow.holds Try.pinned (OpenSpec.ofChange latchReadersWrong)

/-- 'ltklaw5.LatchApart': WHATEVER THE INPUT: true; the input reads as it did. -/
def latchApartSpec : ChangeSpec := { name := "latchApart", fn := fun _ => fun
  | [d1, d2, d3] => { results := [.lit (.bool true)], args := [d1, d2, d3] }
  | _ => none }
def latchApartRow : OpenClaim := { program := "yteopldhcmddokaa", sum := "102545def0752bd9447d18253049725aac977224fdfc2090891e7589eed71931", func := "latchkey/ltklaw5.LatchApart", spec := "latchApart", apart := false }
def LatchApartSaid : Prop := latchApartRow.holds Try.pinned (OpenSpec.ofChange latchApartSpec)

/-- ITS FALSE NEIGHBOUR: 'it returns false'. Refute it at one input. -/
def latchApartWrong : ChangeSpec := { name := "latchApart", fn := fun _ => fun
  | [d1, d2, d3] => { results := [.lit (.bool false)], args := [d1, d2, d3] }
  | _ => none }
def LatchApartWrongFalsely : Prop := latchApartRow.holds Try.pinned (OpenSpec.ofChange latchApartWrong)

/-- 'ltklaw5.LatchSteps': WHATEVER THE INPUT: true; the input reads as it did. -/
def latchStepsSpec : ChangeSpec := { name := "latchSteps", fn := fun _ => fun
  | [d1, d2] => { results := [.lit (.bool true)], args := [d1, d2] }
  | _ => none }
def latchStepsRow : OpenClaim := { program := "yteopldhcmddokaa", sum := "102545def0752bd9447d18253049725aac977224fdfc2090891e7589eed71931", func := "latchkey/ltklaw5.LatchSteps", spec := "latchSteps", apart := false }
def LatchStepsSaid : Prop := latchStepsRow.holds Try.pinned (OpenSpec.ofChange latchStepsSpec)

/-- ITS FALSE NEIGHBOUR: 'it returns false'. Refute it at one input. -/
def latchStepsWrong : ChangeSpec := { name := "latchSteps", fn := fun _ => fun
  | [d1, d2] => { results := [.lit (.bool false)], args := [d1, d2] }
  | _ => none }
def LatchStepsWrongFalsely : Prop := latchStepsRow.holds Try.pinned (OpenSpec.ofChange latchStepsWrong)

/-- 'ltklaw5.LatchAlone': WHATEVER THE INPUT: true; the input reads as it did. -/
def latchAloneSpec : ChangeSpec := { name := "latchAlone", fn := fun _ => fun
  | [d1, d2, d3, d4] => { results := [.lit (.bool true)], args := [d1, d2, d3, d4] }
  | _ => none }
def latchAloneRow : OpenClaim := { program := "yteopldhcmddokaa", sum := "102545def0752bd9447d18253049725aac977224fdfc2090891e7589eed71931", func := "latchkey/ltklaw5.LatchAlone", spec := "latchAlone", apart := false }
def LatchAloneSaid : Prop := latchAloneRow.holds Try.pinned (OpenSpec.ofChange latchAloneSpec)

/-- ITS FALSE NEIGHBOUR: 'it returns false'. Refute it at one input. -/
def latchAloneWrong : ChangeSpec := { name := "latchAlone", fn := fun _ => fun
  | [d1, d2, d3, d4] => { results := [.lit (.bool false)], args := [d1, d2, d3, d4] }
  | _ => none }
def LatchAloneWrongFalsely : Prop := latchAloneRow.holds Try.pinned (OpenSpec.ofChange latchAloneWrong)

/-- 'ltklaw5.LatchTurn': WHATEVER THE INPUT: true; the input reads as it did. -/
def latchTurnSpec : ChangeSpec := { name := "latchTurn", fn := fun _ => fun
  | [d1, d2] => { results := [.lit (.bool true)], args := [d1, d2] }
  | _ => none }
def latchTurnRow : OpenClaim := { program := "yteopldhcmddokaa", sum := "102545def0752bd9447d18253049725aac977224fdfc2090891e7589eed71931", func := "latchkey/ltklaw5.LatchTurn", spec := "latchTurn", apart := false }
def LatchTurnSaid : Prop := latchTurnRow.holds Try.pinned (OpenSpec.ofChange latchTurnSpec)

/-- ITS FALSE NEIGHBOUR: 'it returns false'. Refute it at one input. -/
def latchTurnWrong : ChangeSpec := { name := "latchTurn", fn := fun _ => fun
  | [d1, d2] => { results := [.lit (.bool false)], args := [d1, d2] }
  | _ => none }
def LatchTurnWrongFalsely : Prop := latchTurnRow.holds Try.pinned (OpenSpec.ofChange latchTurnWrong)

/-- 'ltklaw5.LatchPlays': WHATEVER THE INPUT: true; the input reads as it did. -/
def latchPlaysSpec : ChangeSpec := { name := "latchPlays", fn := fun _ => fun
  | [d1, d2] => { results := [.lit (.bool true)], args := [d1, d2] }
  | _ => none }
def latchPlaysRow : OpenClaim := { program := "yteopldhcmddokaa", sum := "102545def0752bd9447d18253049725aac977224fdfc2090891e7589eed71931", func := "latchkey/ltklaw5.LatchPlays", spec := "latchPlays", apart := false }
def LatchPlaysSaid : Prop := latchPlaysRow.holds Try.pinned (OpenSpec.ofChange latchPlaysSpec)

/-- ITS FALSE NEIGHBOUR: 'it returns false'. Refute it at one input. -/
def latchPlaysWrong : ChangeSpec := { name := "latchPlays", fn := fun _ => fun
  | [d1, d2] => { results := [.lit (.bool false)], args := [d1, d2] }
  | _ => none }
def LatchPlaysWrongFalsely : Prop := latchPlaysRow.holds Try.pinned (OpenSpec.ofChange latchPlaysWrong)

/- THE SECOND FORM. 'bulk': how many values and letters a reading holds, each counted each time it is reached (what is shared counts as often as it is met; a slice's spare places count too). A statement '..UptoSaid' is the law's where the arguments, and the package variables that the reading takes, are together of bulk at most 1048576: NARROWER than '..Said'. Prove '..Said' where nothing that the law and all that it calls make is longer than what came in: it says more and counts as full. Else prove '..UptoSaid'. A law counts once. -/
mutual
def uptoBulk {H : Type} : DataW H → Nat
  | .lit (.string bytes) => bytes.length + 1
  | .lit _ => 1
  | .nil => 1
  | .ptr d => uptoBulk d + 1
  | .slice elems spare => uptoBulkAll elems + uptoBulkAll spare + 1
  | .agg parts => uptoBulkAll parts + 1
  | .iface _ d => uptoBulk d + 1
  | .map entries => uptoBulkEntries entries + 1
  | .held _ => 1
def uptoBulkAll {H : Type} : List (DataW H) → Nat
  | [] => 0
  | d :: r => uptoBulk d + uptoBulkAll r
def uptoBulkEntries {H : Type} : List (Lit × DataW H) → Nat
  | [] => 0
  | x :: r => uptoBulkEntry x + uptoBulkEntries r
def uptoBulkEntry {H : Type} : Lit × DataW H → Nat
  | (.string bytes, d) => bytes.length + uptoBulk d + 1
  | (_, d) => uptoBulk d + 1
 end
def uptoSmall : (H : Type) → List (DataW H) → Bool := fun _ ds => decide (uptoBulkAll ds ≤ 1048576)
def OpenSpec.upto (s : _root_.Go.ChangeSpec) : _root_.Go.OpenSpec := { _root_.Go.OpenSpec.ofChange s with cond := some uptoSmall }

/-- 'ltklaw5.LatchReaders', WHERE WHAT IT READS IS OF BULK AT MOST 1048576: true; the input reads as it did. -/
def latchReadersUptoRow : OpenClaim := { program := "yteopldhcmddokaa", sum := "102545def0752bd9447d18253049725aac977224fdfc2090891e7589eed71931", func := "latchkey/ltklaw5.LatchReaders", spec := "latchReaders", apart := false, narrowed := true }
def LatchReadersUptoSaid : Prop := latchReadersUptoRow.holds Try.pinned (OpenSpec.upto latchReadersSpec)

/-- 'ltklaw5.LatchApart', WHERE WHAT IT READS IS OF BULK AT MOST 1048576: true; the input reads as it did. -/
def latchApartUptoRow : OpenClaim := { program := "yteopldhcmddokaa", sum := "102545def0752bd9447d18253049725aac977224fdfc2090891e7589eed71931", func := "latchkey/ltklaw5.LatchApart", spec := "latchApart", apart := false, narrowed := true }
def LatchApartUptoSaid : Prop := latchApartUptoRow.holds Try.pinned (OpenSpec.upto latchApartSpec)

/-- 'ltklaw5.LatchSteps', WHERE WHAT IT READS IS OF BULK AT MOST 1048576: true; the input reads as it did. -/
def latchStepsUptoRow : OpenClaim := { program := "yteopldhcmddokaa", sum := "102545def0752bd9447d18253049725aac977224fdfc2090891e7589eed71931", func := "latchkey/ltklaw5.LatchSteps", spec := "latchSteps", apart := false, narrowed := true }
def LatchStepsUptoSaid : Prop := latchStepsUptoRow.holds Try.pinned (OpenSpec.upto latchStepsSpec)

/-- 'ltklaw5.LatchAlone', WHERE WHAT IT READS IS OF BULK AT MOST 1048576: true; the input reads as it did. -/
def latchAloneUptoRow : OpenClaim := { program := "yteopldhcmddokaa", sum := "102545def0752bd9447d18253049725aac977224fdfc2090891e7589eed71931", func := "latchkey/ltklaw5.LatchAlone", spec := "latchAlone", apart := false, narrowed := true }
def LatchAloneUptoSaid : Prop := latchAloneUptoRow.holds Try.pinned (OpenSpec.upto latchAloneSpec)

/-- 'ltklaw5.LatchTurn', WHERE WHAT IT READS IS OF BULK AT MOST 1048576: true; the input reads as it did. -/
def latchTurnUptoRow : OpenClaim := { program := "yteopldhcmddokaa", sum := "102545def0752bd9447d18253049725aac977224fdfc2090891e7589eed71931", func := "latchkey/ltklaw5.LatchTurn", spec := "latchTurn", apart := false, narrowed := true }
def LatchTurnUptoSaid : Prop := latchTurnUptoRow.holds Try.pinned (OpenSpec.upto latchTurnSpec)

/-- 'ltklaw5.LatchPlays', WHERE WHAT IT READS IS OF BULK AT MOST 1048576: true; the input reads as it did. -/
def latchPlaysUptoRow : OpenClaim := { program := "yteopldhcmddokaa", sum := "102545def0752bd9447d18253049725aac977224fdfc2090891e7589eed71931", func := "latchkey/ltklaw5.LatchPlays", spec := "latchPlays", apart := false, narrowed := true }
def LatchPlaysUptoSaid : Prop := latchPlaysUptoRow.holds Try.pinned (OpenSpec.upto latchPlaysSpec)

end Rows
end Go.Proofs.Yteopldhcmddokaa
