/-
  No cell of these rows narrows 'for every input' (looked for: loops, veiled, ifaces, maps, wideKeys, modest, calm, conditions, laid).
  DERIVED. THE GIVEN ROWS OF THIS SEAT. 4 by the template 'for every input the law returns true; each argument reads behind the call as it read before'; 0 by the template 'total and deterministic' (their statements: YtlanchijcefncaaTotals.lean).
  GIVEN WITH THE SEED: the statements are not yours to turn. If you find one false, say at which input.
  Laid BY PROGRAM, IN A SANDBOX (cutbox-rows.mjs): the forced cells as the released guide's own fill.sh prints them over the translation 787dccccd04c4b65… (all of the seat's roots in one cut). By AI agents, Wed Nov 11 2026. No macro, syntax, notation, axiom, sorry.
-/
import Derived.Test.YtlanchijcefncaaChecked
import GoSem.Claim
import GoSem.ClaimJoined
import GoSem.ClaimMapViews
import Derived.JoinedTies
import Derived.KernelRfl
namespace Go.Proofs.Ytlanchijcefncaa
/- THE CELL 'sum', in the pinned program and in every row, IS THE sha256 OF THE DUMP (.gsa) THAT YtlanchijcefncaaProg.lean LOADS. Nothing in Lean hashes anything: it is a label: what it is worth is what the hold of that sum in a sandbox is worth. -/
noncomputable def Try.pinned : Pinned := { name := "ytlanchijcefncaa", sum := "787dccccd04c4b65e272e2a01717489ed426548c9345a62ae7f8c26fcb57de01", checked := Try.checked }
namespace Rows
def none {H : Type} : Left H := { results := [], args := [] }

/-- 'ltklaw15.NapAll': WHATEVER THE INPUT: true; the input reads as it did. -/
def napAllSpec : ChangeSpec := { name := "napAll", fn := fun _ => fun
  | [d1, d2, d3] => { results := [.lit (.bool true)], args := [d1, d2, d3] }
  | _ => none }
def napAllRow : OpenClaim := { program := "ytlanchijcefncaa", sum := "787dccccd04c4b65e272e2a01717489ed426548c9345a62ae7f8c26fcb57de01", func := "latchkey/ltklaw15.NapAll", spec := "napAll", unfollowed := true, recurses := true, apart := false }
def NapAllSaid : Prop := napAllRow.holds Try.pinned (OpenSpec.ofChange napAllSpec)

/-- ITS FALSE NEIGHBOUR: 'it returns false'. Refute it at one input. -/
def napAllWrong : ChangeSpec := { name := "napAll", fn := fun _ => fun
  | [d1, d2, d3] => { results := [.lit (.bool false)], args := [d1, d2, d3] }
  | _ => none }
def NapAllWrongFalsely : Prop := napAllRow.holds Try.pinned (OpenSpec.ofChange napAllWrong)

/-- 'ltklaw15.NapPlays': WHATEVER THE INPUT: true; the input reads as it did. -/
def napPlaysSpec : ChangeSpec := { name := "napPlays", fn := fun _ => fun
  | [d] => { results := [.lit (.bool true)], args := [d] }
  | _ => none }
def napPlaysRow : OpenClaim := { program := "ytlanchijcefncaa", sum := "787dccccd04c4b65e272e2a01717489ed426548c9345a62ae7f8c26fcb57de01", func := "latchkey/ltklaw15.NapPlays", spec := "napPlays", unfollowed := true, recurses := true, apart := false }
def NapPlaysSaid : Prop := napPlaysRow.holds Try.pinned (OpenSpec.ofChange napPlaysSpec)

/-- ITS FALSE NEIGHBOUR: 'it returns false'. Refute it at one input. -/
def napPlaysWrong : ChangeSpec := { name := "napPlays", fn := fun _ => fun
  | [d] => { results := [.lit (.bool false)], args := [d] }
  | _ => none }
def NapPlaysWrongFalsely : Prop := napPlaysRow.holds Try.pinned (OpenSpec.ofChange napPlaysWrong)

/-- 'ltklaw15.NapWakes': WHATEVER THE INPUT: true; the input reads as it did. -/
def napWakesSpec : ChangeSpec := { name := "napWakes", fn := fun _ => fun
  | [d1, d2] => { results := [.lit (.bool true)], args := [d1, d2] }
  | _ => none }
def napWakesRow : OpenClaim := { program := "ytlanchijcefncaa", sum := "787dccccd04c4b65e272e2a01717489ed426548c9345a62ae7f8c26fcb57de01", func := "latchkey/ltklaw15.NapWakes", spec := "napWakes", unfollowed := true, recurses := true, apart := false }
def NapWakesSaid : Prop := napWakesRow.holds Try.pinned (OpenSpec.ofChange napWakesSpec)

/-- ITS FALSE NEIGHBOUR: 'it returns false'. Refute it at one input. -/
def napWakesWrong : ChangeSpec := { name := "napWakes", fn := fun _ => fun
  | [d1, d2] => { results := [.lit (.bool false)], args := [d1, d2] }
  | _ => none }
def NapWakesWrongFalsely : Prop := napWakesRow.holds Try.pinned (OpenSpec.ofChange napWakesWrong)

/-- 'ltklaw15.NapAgain': WHATEVER THE INPUT: true; the input reads as it did. -/
def napAgainSpec : ChangeSpec := { name := "napAgain", fn := fun _ => fun
  | [d1, d2] => { results := [.lit (.bool true)], args := [d1, d2] }
  | _ => none }
def napAgainRow : OpenClaim := { program := "ytlanchijcefncaa", sum := "787dccccd04c4b65e272e2a01717489ed426548c9345a62ae7f8c26fcb57de01", func := "latchkey/ltklaw15.NapAgain", spec := "napAgain", unfollowed := true, recurses := true, apart := false }
def NapAgainSaid : Prop := napAgainRow.holds Try.pinned (OpenSpec.ofChange napAgainSpec)

/-- ITS FALSE NEIGHBOUR: 'it returns false'. Refute it at one input. -/
def napAgainWrong : ChangeSpec := { name := "napAgain", fn := fun _ => fun
  | [d1, d2] => { results := [.lit (.bool false)], args := [d1, d2] }
  | _ => none }
def NapAgainWrongFalsely : Prop := napAgainRow.holds Try.pinned (OpenSpec.ofChange napAgainWrong)

/- THE SECOND FORM. 'bulk': how many values and letters a reading holds, each counted each time it is reached (what is shared counts as often as it is met; a slice's spare places count too). A statement '..UptoSaid' is the law's where the arguments, and the package variables that the reading takes, are together of bulk at most 1048576: NARROWER than '..Said'. Prove '..Said' where nothing that the law and all that it calls make is longer than what came in: it says more and counts as full. Else prove '..UptoSaid'. A law counts once. -/
mutual
def uptoBulk {H : Type} : DataW H → Nat
  | .lit (.string bytes) => bytes.length + 1
  | .lit _ => 1
  | .nil => 1
  | .ptr d => uptoBulk d + 1
  | .slice elems spare => uptoBulkAll elems + uptoBulkAll spare + 1
  | .agg parts => uptoBulkAll parts + 1
  | .iface _ d => uptoBulk d + 1
  | .map entries => uptoBulkEntries entries + 1
  | .held _ => 1
def uptoBulkAll {H : Type} : List (DataW H) → Nat
  | [] => 0
  | d :: r => uptoBulk d + uptoBulkAll r
def uptoBulkEntries {H : Type} : List (Lit × DataW H) → Nat
  | [] => 0
  | x :: r => uptoBulkEntry x + uptoBulkEntries r
def uptoBulkEntry {H : Type} : Lit × DataW H → Nat
  | (.string bytes, d) => bytes.length + uptoBulk d + 1
  | (_, d) => uptoBulk d + 1
 end
def uptoSmall : (H : Type) → List (DataW H) → Bool := fun _ ds => decide (uptoBulkAll ds ≤ 1048576)
def OpenSpec.upto (s : _root_.Go.ChangeSpec) : _root_.Go.OpenSpec := { _root_.Go.OpenSpec.ofChange s with cond := some uptoSmall }

/-- 'ltklaw15.NapAll', WHERE WHAT IT READS IS OF BULK AT MOST 1048576: true; the input reads as it did. -/
def napAllUptoRow : OpenClaim := { program := "ytlanchijcefncaa", sum := "787dccccd04c4b65e272e2a01717489ed426548c9345a62ae7f8c26fcb57de01", func := "latchkey/ltklaw15.NapAll", spec := "napAll", unfollowed := true, recurses := true, apart := false, narrowed := true }
def NapAllUptoSaid : Prop := napAllUptoRow.holds Try.pinned (OpenSpec.upto napAllSpec)

/-- 'ltklaw15.NapPlays', WHERE WHAT IT READS IS OF BULK AT MOST 1048576: true; the input reads as it did. -/
def napPlaysUptoRow : OpenClaim := { program := "ytlanchijcefncaa", sum := "787dccccd04c4b65e272e2a01717489ed426548c9345a62ae7f8c26fcb57de01", func := "latchkey/ltklaw15.NapPlays", spec := "napPlays", unfollowed := true, recurses := true, apart := false, narrowed := true }
def NapPlaysUptoSaid : Prop := napPlaysUptoRow.holds Try.pinned (OpenSpec.upto napPlaysSpec)

/-- 'ltklaw15.NapWakes', WHERE WHAT IT READS IS OF BULK AT MOST 1048576: true; the input reads as it did. -/
def napWakesUptoRow : OpenClaim := { program := "ytlanchijcefncaa", sum := "787dccccd04c4b65e272e2a01717489ed426548c9345a62ae7f8c26fcb57de01", func := "latchkey/ltklaw15.NapWakes", spec := "napWakes", unfollowed := true, recurses := true, apart := false, narrowed := true }
def NapWakesUptoSaid : Prop := napWakesUptoRow.holds Try.pinned (OpenSpec.upto napWakesSpec)

/-- 'ltklaw15.NapAgain', WHERE WHAT IT READS IS OF BULK AT MOST 1048576: true; the input reads as it did. -/
def napAgainUptoRow : OpenClaim := { program := "ytlanchijcefncaa", sum := "787dccccd04c4b65e272e2a01717489ed426548c9345a62ae7f8c26fcb57de01", func := "latchkey/ltklaw15.NapAgain", spec := "napAgain", unfollowed := true, recurses := true, apart := false, narrowed := true }
def NapAgainUptoSaid : Prop := napAgainUptoRow.holds Try.pinned (OpenSpec.upto napAgainSpec)

end Rows
end Go.Proofs.Ytlanchijcefncaa
