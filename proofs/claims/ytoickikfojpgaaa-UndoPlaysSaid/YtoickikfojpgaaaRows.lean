/-
  No cell of these rows narrows 'for every input' (looked for: loops, veiled, ifaces, maps, wideKeys, modest, calm, conditions, laid).
  DERIVED. THE GIVEN ROWS OF THIS SEAT. 4 by the template 'for every input the law returns true; each argument reads behind the call as it read before'; 0 by the template 'total and deterministic' (their statements: YtoickikfojpgaaaTotals.lean).
  GIVEN WITH THE SEED: the statements are not yours to turn. If you find one false, say at which input.
  Laid BY PROGRAM, IN A SANDBOX (cutbox-rows.mjs): the forced cells as the released guide's own fill.sh prints them over the translation 386ea075ffb7572d… (all of the seat's roots in one cut). By AI agents, Wed Nov 11 2026. No macro, syntax, notation, axiom, sorry.
-/
import Derived.Test.YtoickikfojpgaaaChecked
import GoSem.Claim
import GoSem.ClaimJoined
import GoSem.ClaimMapViews
import Derived.JoinedTies
import Derived.KernelRfl
namespace Go.Proofs.Ytoickikfojpgaaa
/- THE CELL 'sum', in the pinned program and in every row, IS THE sha256 OF THE DUMP (.gsa) THAT YtoickikfojpgaaaProg.lean LOADS. Nothing in Lean hashes anything: it is a label: what it is worth is what the hold of that sum in a sandbox is worth. -/
noncomputable def Try.pinned : Pinned := { name := "ytoickikfojpgaaa", sum := "386ea075ffb7572dd7f09bcb3c6e0c73f477f605187609aafd2960754fe76a9e", checked := Try.checked }
namespace Rows
def none {H : Type} : Left H := { results := [], args := [] }

/-- 'ltklaw14.UndoFirsts': WHATEVER THE INPUT: true; the input reads as it did. -/
def undoFirstsSpec : ChangeSpec := { name := "undoFirsts", fn := fun _ => fun
  | [d] => { results := [.lit (.bool true)], args := [d] }
  | _ => none }
def undoFirstsRow : OpenClaim := { program := "ytoickikfojpgaaa", sum := "386ea075ffb7572dd7f09bcb3c6e0c73f477f605187609aafd2960754fe76a9e", func := "latchkey/ltklaw14.UndoFirsts", spec := "undoFirsts", unfollowed := true, recurses := true, apart := false }
def UndoFirstsSaid : Prop := undoFirstsRow.holds Try.pinned (OpenSpec.ofChange undoFirstsSpec)

/-- ITS FALSE NEIGHBOUR: 'it returns false'. Refute it at one input. -/
def undoFirstsWrong : ChangeSpec := { name := "undoFirsts", fn := fun _ => fun
  | [d] => { results := [.lit (.bool false)], args := [d] }
  | _ => none }
def UndoFirstsWrongFalsely : Prop := undoFirstsRow.holds Try.pinned (OpenSpec.ofChange undoFirstsWrong)

/-- 'ltklaw14.UndoBack': WHATEVER THE INPUT: true; the input reads as it did. -/
def undoBackSpec : ChangeSpec := { name := "undoBack", fn := fun _ => fun
  | [d1, d2] => { results := [.lit (.bool true)], args := [d1, d2] }
  | _ => none }
def undoBackRow : OpenClaim := { program := "ytoickikfojpgaaa", sum := "386ea075ffb7572dd7f09bcb3c6e0c73f477f605187609aafd2960754fe76a9e", func := "latchkey/ltklaw14.UndoBack", spec := "undoBack", unfollowed := true, recurses := true, apart := false }
def UndoBackSaid : Prop := undoBackRow.holds Try.pinned (OpenSpec.ofChange undoBackSpec)

/-- ITS FALSE NEIGHBOUR: 'it returns false'. Refute it at one input. -/
def undoBackWrong : ChangeSpec := { name := "undoBack", fn := fun _ => fun
  | [d1, d2] => { results := [.lit (.bool false)], args := [d1, d2] }
  | _ => none }
def UndoBackWrongFalsely : Prop := undoBackRow.holds Try.pinned (OpenSpec.ofChange undoBackWrong)

/-- 'ltklaw14.UndoPlays': WHATEVER THE INPUT: true; the input reads as it did. -/
def undoPlaysSpec : ChangeSpec := { name := "undoPlays", fn := fun _ => fun
  | [d1, d2] => { results := [.lit (.bool true)], args := [d1, d2] }
  | _ => none }
def undoPlaysRow : OpenClaim := { program := "ytoickikfojpgaaa", sum := "386ea075ffb7572dd7f09bcb3c6e0c73f477f605187609aafd2960754fe76a9e", func := "latchkey/ltklaw14.UndoPlays", spec := "undoPlays", unfollowed := true, recurses := true, apart := false }
def UndoPlaysSaid : Prop := undoPlaysRow.holds Try.pinned (OpenSpec.ofChange undoPlaysSpec)

/-- ITS FALSE NEIGHBOUR: 'it returns false'. Refute it at one input. -/
def undoPlaysWrong : ChangeSpec := { name := "undoPlays", fn := fun _ => fun
  | [d1, d2] => { results := [.lit (.bool false)], args := [d1, d2] }
  | _ => none }
def UndoPlaysWrongFalsely : Prop := undoPlaysRow.holds Try.pinned (OpenSpec.ofChange undoPlaysWrong)

/-- 'ltklaw14.UndoFull': WHATEVER THE INPUT: true; the input reads as it did. -/
def undoFullSpec : ChangeSpec := { name := "undoFull", fn := fun _ => fun
  | [d1, d2] => { results := [.lit (.bool true)], args := [d1, d2] }
  | _ => none }
def undoFullRow : OpenClaim := { program := "ytoickikfojpgaaa", sum := "386ea075ffb7572dd7f09bcb3c6e0c73f477f605187609aafd2960754fe76a9e", func := "latchkey/ltklaw14.UndoFull", spec := "undoFull", unfollowed := true, recurses := true, apart := false }
def UndoFullSaid : Prop := undoFullRow.holds Try.pinned (OpenSpec.ofChange undoFullSpec)

/-- ITS FALSE NEIGHBOUR: 'it returns false'. Refute it at one input. -/
def undoFullWrong : ChangeSpec := { name := "undoFull", fn := fun _ => fun
  | [d1, d2] => { results := [.lit (.bool false)], args := [d1, d2] }
  | _ => none }
def UndoFullWrongFalsely : Prop := undoFullRow.holds Try.pinned (OpenSpec.ofChange undoFullWrong)

/- THE SECOND FORM. 'bulk': how many values and letters a reading holds, each counted each time it is reached (what is shared counts as often as it is met; a slice's spare places count too). A statement '..UptoSaid' is the law's where the arguments, and the package variables that the reading takes, are together of bulk at most 1048576: NARROWER than '..Said'. Prove '..Said' where nothing that the law and all that it calls make is longer than what came in: it says more and counts as full. Else prove '..UptoSaid'. A law counts once. -/
mutual
def uptoBulk {H : Type} : DataW H → Nat
  | .lit (.string bytes) => bytes.length + 1
  | .lit _ => 1
  | .nil => 1
  | .ptr d => uptoBulk d + 1
  | .slice elems spare => uptoBulkAll elems + uptoBulkAll spare + 1
  | .agg parts => uptoBulkAll parts + 1
  | .iface _ d => uptoBulk d + 1
  | .map entries => uptoBulkEntries entries + 1
  | .held _ => 1
def uptoBulkAll {H : Type} : List (DataW H) → Nat
  | [] => 0
  | d :: r => uptoBulk d + uptoBulkAll r
def uptoBulkEntries {H : Type} : List (Lit × DataW H) → Nat
  | [] => 0
  | x :: r => uptoBulkEntry x + uptoBulkEntries r
def uptoBulkEntry {H : Type} : Lit × DataW H → Nat
  | (.string bytes, d) => bytes.length + uptoBulk d + 1
  | (_, d) => uptoBulk d + 1
 end
def uptoSmall : (H : Type) → List (DataW H) → Bool := fun _ ds => decide (uptoBulkAll ds ≤ 1048576)
def OpenSpec.upto (s : _root_.Go.ChangeSpec) : _root_.Go.OpenSpec := { _root_.Go.OpenSpec.ofChange s with cond := some uptoSmall }

/-- 'ltklaw14.UndoFirsts', WHERE WHAT IT READS IS OF BULK AT MOST 1048576: true; the input reads as it did. -/
def undoFirstsUptoRow : OpenClaim := { program := "ytoickikfojpgaaa", sum := "386ea075ffb7572dd7f09bcb3c6e0c73f477f605187609aafd2960754fe76a9e", func := "latchkey/ltklaw14.UndoFirsts", spec := "undoFirsts", unfollowed := true, recurses := true, apart := false, narrowed := true }
def UndoFirstsUptoSaid : Prop := undoFirstsUptoRow.holds Try.pinned (OpenSpec.upto undoFirstsSpec)

/-- 'ltklaw14.UndoBack', WHERE WHAT IT READS IS OF BULK AT MOST 1048576: true; the input reads as it did. -/
def undoBackUptoRow : OpenClaim := { program := "ytoickikfojpgaaa", sum := "386ea075ffb7572dd7f09bcb3c6e0c73f477f605187609aafd2960754fe76a9e", func := "latchkey/ltklaw14.UndoBack", spec := "undoBack", unfollowed := true, recurses := true, apart := false, narrowed := true }
def UndoBackUptoSaid : Prop := undoBackUptoRow.holds Try.pinned (OpenSpec.upto undoBackSpec)

/-- 'ltklaw14.UndoPlays', WHERE WHAT IT READS IS OF BULK AT MOST 1048576: true; the input reads as it did. -/
def undoPlaysUptoRow : OpenClaim := { program := "ytoickikfojpgaaa", sum := "386ea075ffb7572dd7f09bcb3c6e0c73f477f605187609aafd2960754fe76a9e", func := "latchkey/ltklaw14.UndoPlays", spec := "undoPlays", unfollowed := true, recurses := true, apart := false, narrowed := true }
def UndoPlaysUptoSaid : Prop := undoPlaysUptoRow.holds Try.pinned (OpenSpec.upto undoPlaysSpec)

/-- 'ltklaw14.UndoFull', WHERE WHAT IT READS IS OF BULK AT MOST 1048576: true; the input reads as it did. -/
def undoFullUptoRow : OpenClaim := { program := "ytoickikfojpgaaa", sum := "386ea075ffb7572dd7f09bcb3c6e0c73f477f605187609aafd2960754fe76a9e", func := "latchkey/ltklaw14.UndoFull", spec := "undoFull", unfollowed := true, recurses := true, apart := false, narrowed := true }
def UndoFullUptoSaid : Prop := undoFullUptoRow.holds Try.pinned (OpenSpec.upto undoFullSpec)

end Rows
end Go.Proofs.Ytoickikfojpgaaa
