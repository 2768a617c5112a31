/-
  No cell of these rows narrows 'for every input' (looked for: loops, veiled, ifaces, maps, wideKeys, modest, calm, conditions, laid).
  DERIVED. THE GIVEN ROWS OF THIS SEAT. 5 by the template 'for every input the law returns true; each argument reads behind the call as it read before'; 0 by the template 'total and deterministic' (their statements: YthlanmibfnaoiaaTotals.lean).
  GIVEN WITH THE SEED: the statements are not yours to turn. If you find one false, say at which input.
  Laid BY PROGRAM, IN A SANDBOX (cutbox-rows.mjs): the forced cells as the released guide's own fill.sh prints them over the translation 6cb830af7a735c24… (all of the seat's roots in one cut). By AI agents, Wed Nov 11 2026. No macro, syntax, notation, axiom, sorry.
-/
import Derived.Test.YthlanmibfnaoiaaChecked
import GoSem.Claim
import GoSem.ClaimJoined
import GoSem.ClaimMapViews
import Derived.JoinedTies
import Derived.KernelRfl
namespace Go.Proofs.Ythlanmibfnaoiaa
/- THE CELL 'sum', in the pinned program and in every row, IS THE sha256 OF THE DUMP (.gsa) THAT YthlanmibfnaoiaaProg.lean LOADS. Nothing in Lean hashes anything: it is a label: what it is worth is what the hold of that sum in a sandbox is worth. -/
noncomputable def Try.pinned : Pinned := { name := "ythlanmibfnaoiaa", sum := "6cb830af7a735c248136ac5d3a5b77c77e2b574b7e3fe9c403e61dbe9033788d", checked := Try.checked }
namespace Rows
def none {H : Type} : Left H := { results := [], args := [] }

/-- 'ltklaw16.StoryOf': WHATEVER THE INPUT: true; the input reads as it did. -/
def storyOfSpec : ChangeSpec := { name := "storyOf", fn := fun _ => fun
  | [d1, d2] => { results := [.lit (.bool true)], args := [d1, d2] }
  | _ => none }
def storyOfRow : OpenClaim := { program := "ythlanmibfnaoiaa", sum := "6cb830af7a735c248136ac5d3a5b77c77e2b574b7e3fe9c403e61dbe9033788d", func := "latchkey/ltklaw16.StoryOf", spec := "storyOf", unfollowed := true, recurses := true, apart := false }
def StoryOfSaid : Prop := storyOfRow.holds Try.pinned (OpenSpec.ofChange storyOfSpec)

/-- ITS FALSE NEIGHBOUR: 'it returns false'. Refute it at one input. -/
def storyOfWrong : ChangeSpec := { name := "storyOf", fn := fun _ => fun
  | [d1, d2] => { results := [.lit (.bool false)], args := [d1, d2] }
  | _ => none }
def StoryOfWrongFalsely : Prop := storyOfRow.holds Try.pinned (OpenSpec.ofChange storyOfWrong)

/-- 'ltklaw16.StoryFind': WHATEVER THE INPUT: true; the input reads as it did. -/
def storyFindSpec : ChangeSpec := { name := "storyFind", fn := fun _ => fun
  | [d1, d2, d3, d4] => { results := [.lit (.bool true)], args := [d1, d2, d3, d4] }
  | _ => none }
def storyFindRow : OpenClaim := { program := "ythlanmibfnaoiaa", sum := "6cb830af7a735c248136ac5d3a5b77c77e2b574b7e3fe9c403e61dbe9033788d", func := "latchkey/ltklaw16.StoryFind", spec := "storyFind", unfollowed := true, recurses := true, apart := false }
def StoryFindSaid : Prop := storyFindRow.holds Try.pinned (OpenSpec.ofChange storyFindSpec)

/-- ITS FALSE NEIGHBOUR: 'it returns false'. Refute it at one input. -/
def storyFindWrong : ChangeSpec := { name := "storyFind", fn := fun _ => fun
  | [d1, d2, d3, d4] => { results := [.lit (.bool false)], args := [d1, d2, d3, d4] }
  | _ => none }
def StoryFindWrongFalsely : Prop := storyFindRow.holds Try.pinned (OpenSpec.ofChange storyFindWrong)

/-- 'ltklaw16.StoryKept': WHATEVER THE INPUT: true; the input reads as it did. -/
def storyKeptSpec : ChangeSpec := { name := "storyKept", fn := fun _ => fun
  | [d] => { results := [.lit (.bool true)], args := [d] }
  | _ => none }
def storyKeptRow : OpenClaim := { program := "ythlanmibfnaoiaa", sum := "6cb830af7a735c248136ac5d3a5b77c77e2b574b7e3fe9c403e61dbe9033788d", func := "latchkey/ltklaw16.StoryKept", spec := "storyKept", unfollowed := true, recurses := true, apart := false }
def StoryKeptSaid : Prop := storyKeptRow.holds Try.pinned (OpenSpec.ofChange storyKeptSpec)

/-- ITS FALSE NEIGHBOUR: 'it returns false'. Refute it at one input. -/
def storyKeptWrong : ChangeSpec := { name := "storyKept", fn := fun _ => fun
  | [d] => { results := [.lit (.bool false)], args := [d] }
  | _ => none }
def StoryKeptWrongFalsely : Prop := storyKeptRow.holds Try.pinned (OpenSpec.ofChange storyKeptWrong)

/-- 'ltklaw16.StoryParts': WHATEVER THE INPUT: true; the input reads as it did. -/
def storyPartsSpec : ChangeSpec := { name := "storyParts", fn := fun _ => fun
  | [d] => { results := [.lit (.bool true)], args := [d] }
  | _ => none }
def storyPartsRow : OpenClaim := { program := "ythlanmibfnaoiaa", sum := "6cb830af7a735c248136ac5d3a5b77c77e2b574b7e3fe9c403e61dbe9033788d", func := "latchkey/ltklaw16.StoryParts", spec := "storyParts", unfollowed := true, recurses := true, apart := false }
def StoryPartsSaid : Prop := storyPartsRow.holds Try.pinned (OpenSpec.ofChange storyPartsSpec)

/-- ITS FALSE NEIGHBOUR: 'it returns false'. Refute it at one input. -/
def storyPartsWrong : ChangeSpec := { name := "storyParts", fn := fun _ => fun
  | [d] => { results := [.lit (.bool false)], args := [d] }
  | _ => none }
def StoryPartsWrongFalsely : Prop := storyPartsRow.holds Try.pinned (OpenSpec.ofChange storyPartsWrong)

/-- 'ltklaw16.StoryPlays': WHATEVER THE INPUT: true; the input reads as it did. -/
def storyPlaysSpec : ChangeSpec := { name := "storyPlays", fn := fun _ => fun
  | [d1, d2, d3, d4] => { results := [.lit (.bool true)], args := [d1, d2, d3, d4] }
  | _ => none }
def storyPlaysRow : OpenClaim := { program := "ythlanmibfnaoiaa", sum := "6cb830af7a735c248136ac5d3a5b77c77e2b574b7e3fe9c403e61dbe9033788d", func := "latchkey/ltklaw16.StoryPlays", spec := "storyPlays", unfollowed := true, recurses := true, apart := false }
def StoryPlaysSaid : Prop := storyPlaysRow.holds Try.pinned (OpenSpec.ofChange storyPlaysSpec)

/-- ITS FALSE NEIGHBOUR: 'it returns false'. Refute it at one input. -/
def storyPlaysWrong : ChangeSpec := { name := "storyPlays", fn := fun _ => fun
  | [d1, d2, d3, d4] => { results := [.lit (.bool false)], args := [d1, d2, d3, d4] }
  | _ => none }
def StoryPlaysWrongFalsely : Prop := storyPlaysRow.holds Try.pinned (OpenSpec.ofChange storyPlaysWrong)

/- THE SECOND FORM. 'bulk': how many values and letters a reading holds, each counted each time it is reached (what is shared counts as often as it is met; a slice's spare places count too). A statement '..UptoSaid' is the law's where the arguments, and the package variables that the reading takes, are together of bulk at most 1048576: NARROWER than '..Said'. Prove '..Said' where nothing that the law and all that it calls make is longer than what came in: it says more and counts as full. Else prove '..UptoSaid'. A law counts once. -/
mutual
def uptoBulk {H : Type} : DataW H → Nat
  | .lit (.string bytes) => bytes.length + 1
  | .lit _ => 1
  | .nil => 1
  | .ptr d => uptoBulk d + 1
  | .slice elems spare => uptoBulkAll elems + uptoBulkAll spare + 1
  | .agg parts => uptoBulkAll parts + 1
  | .iface _ d => uptoBulk d + 1
  | .map entries => uptoBulkEntries entries + 1
  | .held _ => 1
def uptoBulkAll {H : Type} : List (DataW H) → Nat
  | [] => 0
  | d :: r => uptoBulk d + uptoBulkAll r
def uptoBulkEntries {H : Type} : List (Lit × DataW H) → Nat
  | [] => 0
  | x :: r => uptoBulkEntry x + uptoBulkEntries r
def uptoBulkEntry {H : Type} : Lit × DataW H → Nat
  | (.string bytes, d) => bytes.length + uptoBulk d + 1
  | (_, d) => uptoBulk d + 1
 end
def uptoSmall : (H : Type) → List (DataW H) → Bool := fun _ ds => decide (uptoBulkAll ds ≤ 1048576)
def OpenSpec.upto (s : _root_.Go.ChangeSpec) : _root_.Go.OpenSpec := { _root_.Go.OpenSpec.ofChange s with cond := some uptoSmall }

/-- 'ltklaw16.StoryOf', WHERE WHAT IT READS IS OF BULK AT MOST 1048576: true; the input reads as it did. -/
def storyOfUptoRow : OpenClaim := { program := "ythlanmibfnaoiaa", sum := "6cb830af7a735c248136ac5d3a5b77c77e2b574b7e3fe9c403e61dbe9033788d", func := "latchkey/ltklaw16.StoryOf", spec := "storyOf", unfollowed := true, recurses := true, apart := false, narrowed := true }
def StoryOfUptoSaid : Prop := storyOfUptoRow.holds Try.pinned (OpenSpec.upto storyOfSpec)

/-- 'ltklaw16.StoryFind', WHERE WHAT IT READS IS OF BULK AT MOST 1048576: true; the input reads as it did. -/
def storyFindUptoRow : OpenClaim := { program := "ythlanmibfnaoiaa", sum := "6cb830af7a735c248136ac5d3a5b77c77e2b574b7e3fe9c403e61dbe9033788d", func := "latchkey/ltklaw16.StoryFind", spec := "storyFind", unfollowed := true, recurses := true, apart := false, narrowed := true }
def StoryFindUptoSaid : Prop := storyFindUptoRow.holds Try.pinned (OpenSpec.upto storyFindSpec)

/-- 'ltklaw16.StoryKept', WHERE WHAT IT READS IS OF BULK AT MOST 1048576: true; the input reads as it did. -/
def storyKeptUptoRow : OpenClaim := { program := "ythlanmibfnaoiaa", sum := "6cb830af7a735c248136ac5d3a5b77c77e2b574b7e3fe9c403e61dbe9033788d", func := "latchkey/ltklaw16.StoryKept", spec := "storyKept", unfollowed := true, recurses := true, apart := false, narrowed := true }
def StoryKeptUptoSaid : Prop := storyKeptUptoRow.holds Try.pinned (OpenSpec.upto storyKeptSpec)

/-- 'ltklaw16.StoryParts', WHERE WHAT IT READS IS OF BULK AT MOST 1048576: true; the input reads as it did. -/
def storyPartsUptoRow : OpenClaim := { program := "ythlanmibfnaoiaa", sum := "6cb830af7a735c248136ac5d3a5b77c77e2b574b7e3fe9c403e61dbe9033788d", func := "latchkey/ltklaw16.StoryParts", spec := "storyParts", unfollowed := true, recurses := true, apart := false, narrowed := true }
def StoryPartsUptoSaid : Prop := storyPartsUptoRow.holds Try.pinned (OpenSpec.upto storyPartsSpec)

/-- 'ltklaw16.StoryPlays', WHERE WHAT IT READS IS OF BULK AT MOST 1048576: true; the input reads as it did. -/
def storyPlaysUptoRow : OpenClaim := { program := "ythlanmibfnaoiaa", sum := "6cb830af7a735c248136ac5d3a5b77c77e2b574b7e3fe9c403e61dbe9033788d", func := "latchkey/ltklaw16.StoryPlays", spec := "storyPlays", unfollowed := true, recurses := true, apart := false, narrowed := true }
def StoryPlaysUptoSaid : Prop := storyPlaysUptoRow.holds Try.pinned (OpenSpec.upto storyPlaysSpec)

end Rows
end Go.Proofs.Ythlanmibfnaoiaa
