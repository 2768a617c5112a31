/-
  No cell of these rows narrows 'for every input' (looked for: loops, veiled, ifaces, maps, wideKeys, modest, calm, conditions, laid).
  DERIVED. THE GIVEN ROWS OF THIS SEAT. 4 by the template 'for every input the law returns true; each argument reads behind the call as it read before'; 0 by the template 'total and deterministic' (their statements: YtkaokhpaabfhmaaTotals.lean).
  GIVEN WITH THE SEED: the statements are not yours to turn. If you find one false, say at which input.
  Laid BY PROGRAM, IN A SANDBOX (cutbox-rows.mjs): the forced cells as the released guide's own fill.sh prints them over the translation d4c5e889fbe14b8c… (all of the seat's roots in one cut). By AI agents, Wed Nov 11 2026. No macro, syntax, notation, axiom, sorry.
-/
import Derived.Test.YtkaokhpaabfhmaaChecked
import GoSem.Claim
import GoSem.ClaimJoined
import GoSem.ClaimMapViews
import Derived.JoinedTies
import Derived.KernelRfl
namespace Go.Proofs.Ytkaokhpaabfhmaa
/- THE CELL 'sum', in the pinned program and in every row, IS THE sha256 OF THE DUMP (.gsa) THAT YtkaokhpaabfhmaaProg.lean LOADS. Nothing in Lean hashes anything: it is a label: what it is worth is what the hold of that sum in a sandbox is worth. -/
noncomputable def Try.pinned : Pinned := { name := "ytkaokhpaabfhmaa", sum := "d4c5e889fbe14b8c2bbca4c804f7904df1806547307b36d0ce14303517e3bb0c", checked := Try.checked }
namespace Rows
def none {H : Type} : Left H := { results := [], args := [] }

/-- 'ltklaw20.JudgeTells': WHATEVER THE INPUT: true; the input reads as it did. -/
def judgeTellsSpec : ChangeSpec := { name := "judgeTells", fn := fun _ => fun
  | [d1, d2, d3, d4] => { results := [.lit (.bool true)], args := [d1, d2, d3, d4] }
  | _ => none }
def judgeTellsRow : OpenClaim := { program := "ytkaokhpaabfhmaa", sum := "d4c5e889fbe14b8c2bbca4c804f7904df1806547307b36d0ce14303517e3bb0c", func := "latchkey/ltklaw20.JudgeTells", spec := "judgeTells", unfollowed := true, recurses := true, apart := false }
def JudgeTellsSaid : Prop := judgeTellsRow.holds Try.pinned (OpenSpec.ofChange judgeTellsSpec)

/-- ITS FALSE NEIGHBOUR: 'it returns false'. Refute it at one input. -/
def judgeTellsWrong : ChangeSpec := { name := "judgeTells", fn := fun _ => fun
  | [d1, d2, d3, d4] => { results := [.lit (.bool false)], args := [d1, d2, d3, d4] }
  | _ => none }
def JudgeTellsWrongFalsely : Prop := judgeTellsRow.holds Try.pinned (OpenSpec.ofChange judgeTellsWrong)

/-- 'ltklaw20.JudgeOne': WHATEVER THE INPUT: true; the input reads as it did. -/
def judgeOneSpec : ChangeSpec := { name := "judgeOne", fn := fun _ => fun
  | [d1, d2, d3, d4] => { results := [.lit (.bool true)], args := [d1, d2, d3, d4] }
  | _ => none }
def judgeOneRow : OpenClaim := { program := "ytkaokhpaabfhmaa", sum := "d4c5e889fbe14b8c2bbca4c804f7904df1806547307b36d0ce14303517e3bb0c", func := "latchkey/ltklaw20.JudgeOne", spec := "judgeOne", unfollowed := true, recurses := true, apart := false }
def JudgeOneSaid : Prop := judgeOneRow.holds Try.pinned (OpenSpec.ofChange judgeOneSpec)

/-- ITS FALSE NEIGHBOUR: 'it returns false'. Refute it at one input. -/
def judgeOneWrong : ChangeSpec := { name := "judgeOne", fn := fun _ => fun
  | [d1, d2, d3, d4] => { results := [.lit (.bool false)], args := [d1, d2, d3, d4] }
  | _ => none }
def JudgeOneWrongFalsely : Prop := judgeOneRow.holds Try.pinned (OpenSpec.ofChange judgeOneWrong)

/-- 'ltklaw20.JudgeWrong': WHATEVER THE INPUT: true; the input reads as it did. -/
def judgeWrongSpec : ChangeSpec := { name := "judgeWrong", fn := fun _ => fun
  | [d1, d2, d3, d4] => { results := [.lit (.bool true)], args := [d1, d2, d3, d4] }
  | _ => none }
def judgeWrongRow : OpenClaim := { program := "ytkaokhpaabfhmaa", sum := "d4c5e889fbe14b8c2bbca4c804f7904df1806547307b36d0ce14303517e3bb0c", func := "latchkey/ltklaw20.JudgeWrong", spec := "judgeWrong", unfollowed := true, recurses := true, apart := false }
def JudgeWrongSaid : Prop := judgeWrongRow.holds Try.pinned (OpenSpec.ofChange judgeWrongSpec)

/-- ITS FALSE NEIGHBOUR: 'it returns false'. Refute it at one input. -/
def judgeWrongWrong : ChangeSpec := { name := "judgeWrong", fn := fun _ => fun
  | [d1, d2, d3, d4] => { results := [.lit (.bool false)], args := [d1, d2, d3, d4] }
  | _ => none }
def JudgeWrongWrongFalsely : Prop := judgeWrongRow.holds Try.pinned (OpenSpec.ofChange judgeWrongWrong)

/-- 'ltklaw20.JudgeAhead': WHATEVER THE INPUT: true; the input reads as it did. -/
def judgeAheadSpec : ChangeSpec := { name := "judgeAhead", fn := fun _ => fun
  | [d1, d2, d3, d4] => { results := [.lit (.bool true)], args := [d1, d2, d3, d4] }
  | _ => none }
def judgeAheadRow : OpenClaim := { program := "ytkaokhpaabfhmaa", sum := "d4c5e889fbe14b8c2bbca4c804f7904df1806547307b36d0ce14303517e3bb0c", func := "latchkey/ltklaw20.JudgeAhead", spec := "judgeAhead", unfollowed := true, recurses := true, apart := false }
def JudgeAheadSaid : Prop := judgeAheadRow.holds Try.pinned (OpenSpec.ofChange judgeAheadSpec)

/-- ITS FALSE NEIGHBOUR: 'it returns false'. Refute it at one input. -/
def judgeAheadWrong : ChangeSpec := { name := "judgeAhead", fn := fun _ => fun
  | [d1, d2, d3, d4] => { results := [.lit (.bool false)], args := [d1, d2, d3, d4] }
  | _ => none }
def JudgeAheadWrongFalsely : Prop := judgeAheadRow.holds Try.pinned (OpenSpec.ofChange judgeAheadWrong)

/- THE SECOND FORM. 'bulk': how many values and letters a reading holds, each counted each time it is reached (what is shared counts as often as it is met; a slice's spare places count too). A statement '..UptoSaid' is the law's where the arguments, and the package variables that the reading takes, are together of bulk at most 1048576: NARROWER than '..Said'. Prove '..Said' where nothing that the law and all that it calls make is longer than what came in: it says more and counts as full. Else prove '..UptoSaid'. A law counts once. -/
mutual
def uptoBulk {H : Type} : DataW H → Nat
  | .lit (.string bytes) => bytes.length + 1
  | .lit _ => 1
  | .nil => 1
  | .ptr d => uptoBulk d + 1
  | .slice elems spare => uptoBulkAll elems + uptoBulkAll spare + 1
  | .agg parts => uptoBulkAll parts + 1
  | .iface _ d => uptoBulk d + 1
  | .map entries => uptoBulkEntries entries + 1
  | .held _ => 1
def uptoBulkAll {H : Type} : List (DataW H) → Nat
  | [] => 0
  | d :: r => uptoBulk d + uptoBulkAll r
def uptoBulkEntries {H : Type} : List (Lit × DataW H) → Nat
  | [] => 0
  | x :: r => uptoBulkEntry x + uptoBulkEntries r
def uptoBulkEntry {H : Type} : Lit × DataW H → Nat
  | (.string bytes, d) => bytes.length + uptoBulk d + 1
  | (_, d) => uptoBulk d + 1
 end
def uptoSmall : (H : Type) → List (DataW H) → Bool := fun _ ds => decide (uptoBulkAll ds ≤ 1048576)
def OpenSpec.upto (s : _root_.Go.ChangeSpec) : _root_.Go.OpenSpec := { _root_.Go.OpenSpec.ofChange s with cond := some uptoSmall }

/-- 'ltklaw20.JudgeTells', WHERE WHAT IT READS IS OF BULK AT MOST 1048576: true; the input reads as it did. -/
def judgeTellsUptoRow : OpenClaim := { program := "ytkaokhpaabfhmaa", sum := "d4c5e889fbe14b8c2bbca4c804f7904df1806547307b36d0ce14303517e3bb0c", func := "latchkey/ltklaw20.JudgeTells", spec := "judgeTells", unfollowed := true, recurses := true, apart := false, narrowed := true }
def JudgeTellsUptoSaid : Prop := judgeTellsUptoRow.holds Try.pinned (OpenSpec.upto judgeTellsSpec)

/-- 'ltklaw20.JudgeOne', WHERE WHAT IT READS IS OF BULK AT MOST 1048576: true; the input reads as it did. -/
def judgeOneUptoRow : OpenClaim := { program := "ytkaokhpaabfhmaa", sum := "d4c5e889fbe14b8c2bbca4c804f7904df1806547307b36d0ce14303517e3bb0c", func := "latchkey/ltklaw20.JudgeOne", spec := "judgeOne", unfollowed := true, recurses := true, apart := false, narrowed := true }
def JudgeOneUptoSaid : Prop := judgeOneUptoRow.holds Try.pinned (OpenSpec.upto judgeOneSpec)

/-- 'ltklaw20.JudgeWrong', WHERE WHAT IT READS IS OF BULK AT MOST 1048576: true; the input reads as it did. -/
def judgeWrongUptoRow : OpenClaim := { program := "ytkaokhpaabfhmaa", sum := "d4c5e889fbe14b8c2bbca4c804f7904df1806547307b36d0ce14303517e3bb0c", func := "latchkey/ltklaw20.JudgeWrong", spec := "judgeWrong", unfollowed := true, recurses := true, apart := false, narrowed := true }
def JudgeWrongUptoSaid : Prop := judgeWrongUptoRow.holds Try.pinned (OpenSpec.upto judgeWrongSpec)

/-- 'ltklaw20.JudgeAhead', WHERE WHAT IT READS IS OF BULK AT MOST 1048576: true; the input reads as it did. -/
def judgeAheadUptoRow : OpenClaim := { program := "ytkaokhpaabfhmaa", sum := "d4c5e889fbe14b8c2bbca4c804f7904df1806547307b36d0ce14303517e3bb0c", func := "latchkey/ltklaw20.JudgeAhead", spec := "judgeAhead", unfollowed := true, recurses := true, apart := false, narrowed := true }
def JudgeAheadUptoSaid : Prop := judgeAheadUptoRow.holds Try.pinned (OpenSpec.upto judgeAheadSpec)

end Rows
end Go.Proofs.Ytkaokhpaabfhmaa
