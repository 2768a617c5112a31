/-
  No cell of these rows narrows 'for every input' (looked for: loops, veiled, ifaces, maps, wideKeys, modest, calm, conditions, laid).
  DERIVED. THE GIVEN ROWS OF THIS SEAT. 6 by the template 'for every input the law returns true; each argument reads behind the call as it read before'; 0 by the template 'total and deterministic' (their statements: YtfbdfboekgjbcaaTotals.lean).
  GIVEN WITH THE SEED: the statements are not yours to turn. If you find one false, say at which input.
  Laid BY PROGRAM, IN A SANDBOX (cutbox-rows.mjs): the forced cells as the released guide's own fill.sh prints them over the translation 0413c8c2fab39be4… (all of the seat's roots in one cut). By AI agents, Wed Nov 11 2026. No macro, syntax, notation, axiom, sorry.
-/
import Derived.Test.YtfbdfboekgjbcaaChecked
import GoSem.Claim
import GoSem.ClaimJoined
import GoSem.ClaimMapViews
import Derived.JoinedTies
import Derived.KernelRfl
namespace Go.Proofs.Ytfbdfboekgjbcaa
/- THE CELL 'sum', in the pinned program and in every row, IS THE sha256 OF THE DUMP (.gsa) THAT YtfbdfboekgjbcaaProg.lean LOADS. Nothing in Lean hashes anything: it is a label: what it is worth is what the hold of that sum in a sandbox is worth. -/
noncomputable def Try.pinned : Pinned := { name := "ytfbdfboekgjbcaa", sum := "0413c8c2fab39be477bed45a522039bde50381db782d8c10809aba2266c9dc28", checked := Try.checked }
namespace Rows
def none {H : Type} : Left H := { results := [], args := [] }

/-- 'ltklaw7.PlainOwn': WHATEVER THE INPUT: true; the input reads as it did. -/
def plainOwnSpec : ChangeSpec := { name := "plainOwn", fn := fun _ => fun
  | [d1, d2, d3] => { results := [.lit (.bool true)], args := [d1, d2, d3] }
  | _ => none }
def plainOwnRow : OpenClaim := { program := "ytfbdfboekgjbcaa", sum := "0413c8c2fab39be477bed45a522039bde50381db782d8c10809aba2266c9dc28", func := "latchkey/ltklaw7.PlainOwn", spec := "plainOwn", unfollowed := true, recurses := true, apart := false }
def PlainOwnSaid : Prop := plainOwnRow.holds Try.pinned (OpenSpec.ofChange plainOwnSpec)

/-- ITS FALSE NEIGHBOUR: 'it returns false'. Refute it at one input. -/
def plainOwnWrong : ChangeSpec := { name := "plainOwn", fn := fun _ => fun
  | [d1, d2, d3] => { results := [.lit (.bool false)], args := [d1, d2, d3] }
  | _ => none }
def PlainOwnWrongFalsely : Prop := plainOwnRow.holds Try.pinned (OpenSpec.ofChange plainOwnWrong)

/-- 'ltklaw7.PlainSteps': WHATEVER THE INPUT: true; the input reads as it did. -/
def plainStepsSpec : ChangeSpec := { name := "plainSteps", fn := fun _ => fun
  | [d1, d2, d3, d4, d5] => { results := [.lit (.bool true)], args := [d1, d2, d3, d4, d5] }
  | _ => none }
def plainStepsRow : OpenClaim := { program := "ytfbdfboekgjbcaa", sum := "0413c8c2fab39be477bed45a522039bde50381db782d8c10809aba2266c9dc28", func := "latchkey/ltklaw7.PlainSteps", spec := "plainSteps", unfollowed := true, recurses := true, apart := false }
def PlainStepsSaid : Prop := plainStepsRow.holds Try.pinned (OpenSpec.ofChange plainStepsSpec)

/-- ITS FALSE NEIGHBOUR: 'it returns false'. Refute it at one input. -/
def plainStepsWrong : ChangeSpec := { name := "plainSteps", fn := fun _ => fun
  | [d1, d2, d3, d4, d5] => { results := [.lit (.bool false)], args := [d1, d2, d3, d4, d5] }
  | _ => none }
def PlainStepsWrongFalsely : Prop := plainStepsRow.holds Try.pinned (OpenSpec.ofChange plainStepsWrong)

/-- 'ltklaw7.PlainJumps': WHATEVER THE INPUT: true; the input reads as it did. -/
def plainJumpsSpec : ChangeSpec := { name := "plainJumps", fn := fun _ => fun
  | [d] => { results := [.lit (.bool true)], args := [d] }
  | _ => none }
def plainJumpsRow : OpenClaim := { program := "ytfbdfboekgjbcaa", sum := "0413c8c2fab39be477bed45a522039bde50381db782d8c10809aba2266c9dc28", func := "latchkey/ltklaw7.PlainJumps", spec := "plainJumps", unfollowed := true, recurses := true, apart := false }
def PlainJumpsSaid : Prop := plainJumpsRow.holds Try.pinned (OpenSpec.ofChange plainJumpsSpec)

/-- ITS FALSE NEIGHBOUR: 'it returns false'. Refute it at one input. -/
def plainJumpsWrong : ChangeSpec := { name := "plainJumps", fn := fun _ => fun
  | [d] => { results := [.lit (.bool false)], args := [d] }
  | _ => none }
def PlainJumpsWrongFalsely : Prop := plainJumpsRow.holds Try.pinned (OpenSpec.ofChange plainJumpsWrong)

/-- 'ltklaw7.PlainChain': WHATEVER THE INPUT: true; the input reads as it did. -/
def plainChainSpec : ChangeSpec := { name := "plainChain", fn := fun _ => fun
  | [d1, d2] => { results := [.lit (.bool true)], args := [d1, d2] }
  | _ => none }
def plainChainRow : OpenClaim := { program := "ytfbdfboekgjbcaa", sum := "0413c8c2fab39be477bed45a522039bde50381db782d8c10809aba2266c9dc28", func := "latchkey/ltklaw7.PlainChain", spec := "plainChain", unfollowed := true, recurses := true, apart := false }
def PlainChainSaid : Prop := plainChainRow.holds Try.pinned (OpenSpec.ofChange plainChainSpec)

/-- ITS FALSE NEIGHBOUR: 'it returns false'. Refute it at one input. -/
def plainChainWrong : ChangeSpec := { name := "plainChain", fn := fun _ => fun
  | [d1, d2] => { results := [.lit (.bool false)], args := [d1, d2] }
  | _ => none }
def PlainChainWrongFalsely : Prop := plainChainRow.holds Try.pinned (OpenSpec.ofChange plainChainWrong)

/-- 'ltklaw7.PlainRuns': WHATEVER THE INPUT: true; the input reads as it did. -/
def plainRunsSpec : ChangeSpec := { name := "plainRuns", fn := fun _ => fun
  | [d1, d2, d3, d4] => { results := [.lit (.bool true)], args := [d1, d2, d3, d4] }
  | _ => none }
def plainRunsRow : OpenClaim := { program := "ytfbdfboekgjbcaa", sum := "0413c8c2fab39be477bed45a522039bde50381db782d8c10809aba2266c9dc28", func := "latchkey/ltklaw7.PlainRuns", spec := "plainRuns", unfollowed := true, recurses := true, apart := false }
def PlainRunsSaid : Prop := plainRunsRow.holds Try.pinned (OpenSpec.ofChange plainRunsSpec)

/-- ITS FALSE NEIGHBOUR: 'it returns false'. Refute it at one input. -/
def plainRunsWrong : ChangeSpec := { name := "plainRuns", fn := fun _ => fun
  | [d1, d2, d3, d4] => { results := [.lit (.bool false)], args := [d1, d2, d3, d4] }
  | _ => none }
def PlainRunsWrongFalsely : Prop := plainRunsRow.holds Try.pinned (OpenSpec.ofChange plainRunsWrong)

/-- 'ltklaw7.PlainTwice': WHATEVER THE INPUT: true; the input reads as it did. -/
def plainTwiceSpec : ChangeSpec := { name := "plainTwice", fn := fun _ => fun
  | [d1, d2, d3] => { results := [.lit (.bool true)], args := [d1, d2, d3] }
  | _ => none }
def plainTwiceRow : OpenClaim := { program := "ytfbdfboekgjbcaa", sum := "0413c8c2fab39be477bed45a522039bde50381db782d8c10809aba2266c9dc28", func := "latchkey/ltklaw7.PlainTwice", spec := "plainTwice", unfollowed := true, recurses := true, apart := false }
def PlainTwiceSaid : Prop := plainTwiceRow.holds Try.pinned (OpenSpec.ofChange plainTwiceSpec)

/-- ITS FALSE NEIGHBOUR: 'it returns false'. Refute it at one input. -/
def plainTwiceWrong : ChangeSpec := { name := "plainTwice", fn := fun _ => fun
  | [d1, d2, d3] => { results := [.lit (.bool false)], args := [d1, d2, d3] }
  | _ => none }
def PlainTwiceWrongFalsely : Prop := plainTwiceRow.holds Try.pinned (OpenSpec.ofChange plainTwiceWrong)

/- THE SECOND FORM. 'bulk': how many values and letters a reading holds, each counted each time it is reached (what is shared counts as often as it is met; a slice's spare places count too). A statement '..UptoSaid' is the law's where the arguments, and the package variables that the reading takes, are together of bulk at most 1048576: NARROWER than '..Said'. Prove '..Said' where nothing that the law and all that it calls make is longer than what came in: it says more and counts as full. Else prove '..UptoSaid'. A law counts once. -/
mutual
def uptoBulk {H : Type} : DataW H → Nat
  | .lit (.string bytes) => bytes.length + 1
  | .lit _ => 1
  | .nil => 1
  | .ptr d => uptoBulk d + 1
  | .slice elems spare => uptoBulkAll elems + uptoBulkAll spare + 1
  | .agg parts => uptoBulkAll parts + 1
  | .iface _ d => uptoBulk d + 1
  | .map entries => uptoBulkEntries entries + 1
  | .held _ => 1
def uptoBulkAll {H : Type} : List (DataW H) → Nat
  | [] => 0
  | d :: r => uptoBulk d + uptoBulkAll r
def uptoBulkEntries {H : Type} : List (Lit × DataW H) → Nat
  | [] => 0
  | x :: r => uptoBulkEntry x + uptoBulkEntries r
def uptoBulkEntry {H : Type} : Lit × DataW H → Nat
  | (.string bytes, d) => bytes.length + uptoBulk d + 1
  | (_, d) => uptoBulk d + 1
 end
def uptoSmall : (H : Type) → List (DataW H) → Bool := fun _ ds => decide (uptoBulkAll ds ≤ 1048576)
def OpenSpec.upto (s : _root_.Go.ChangeSpec) : _root_.Go.OpenSpec := { _root_.Go.OpenSpec.ofChange s with cond := some uptoSmall }

/-- 'ltklaw7.PlainOwn', WHERE WHAT IT READS IS OF BULK AT MOST 1048576: true; the input reads as it did. -/
def plainOwnUptoRow : OpenClaim := { program := "ytfbdfboekgjbcaa", sum := "0413c8c2fab39be477bed45a522039bde50381db782d8c10809aba2266c9dc28", func := "latchkey/ltklaw7.PlainOwn", spec := "plainOwn", unfollowed := true, recurses := true, apart := false, narrowed := true }
def PlainOwnUptoSaid : Prop := plainOwnUptoRow.holds Try.pinned (OpenSpec.upto plainOwnSpec)

/-- 'ltklaw7.PlainSteps', WHERE WHAT IT READS IS OF BULK AT MOST 1048576: true; the input reads as it did. -/
def plainStepsUptoRow : OpenClaim := { program := "ytfbdfboekgjbcaa", sum := "0413c8c2fab39be477bed45a522039bde50381db782d8c10809aba2266c9dc28", func := "latchkey/ltklaw7.PlainSteps", spec := "plainSteps", unfollowed := true, recurses := true, apart := false, narrowed := true }
def PlainStepsUptoSaid : Prop := plainStepsUptoRow.holds Try.pinned (OpenSpec.upto plainStepsSpec)

/-- 'ltklaw7.PlainJumps', WHERE WHAT IT READS IS OF BULK AT MOST 1048576: true; the input reads as it did. -/
def plainJumpsUptoRow : OpenClaim := { program := "ytfbdfboekgjbcaa", sum := "0413c8c2fab39be477bed45a522039bde50381db782d8c10809aba2266c9dc28", func := "latchkey/ltklaw7.PlainJumps", spec := "plainJumps", unfollowed := true, recurses := true, apart := false, narrowed := true }
def PlainJumpsUptoSaid : Prop := plainJumpsUptoRow.holds Try.pinned (OpenSpec.upto plainJumpsSpec)

/-- 'ltklaw7.PlainChain', WHERE WHAT IT READS IS OF BULK AT MOST 1048576: true; the input reads as it did. -/
def plainChainUptoRow : OpenClaim := { program := "ytfbdfboekgjbcaa", sum := "0413c8c2fab39be477bed45a522039bde50381db782d8c10809aba2266c9dc28", func := "latchkey/ltklaw7.PlainChain", spec := "plainChain", unfollowed := true, recurses := true, apart := false, narrowed := true }
def PlainChainUptoSaid : Prop := plainChainUptoRow.holds Try.pinned (OpenSpec.upto plainChainSpec)

/-- 'ltklaw7.PlainRuns', WHERE WHAT IT READS IS OF BULK AT MOST 1048576: true; the input reads as it did. -/
def plainRunsUptoRow : OpenClaim := { program := "ytfbdfboekgjbcaa", sum := "0413c8c2fab39be477bed45a522039bde50381db782d8c10809aba2266c9dc28", func := "latchkey/ltklaw7.PlainRuns", spec := "plainRuns", unfollowed := true, recurses := true, apart := false, narrowed := true }
def PlainRunsUptoSaid : Prop := plainRunsUptoRow.holds Try.pinned (OpenSpec.upto plainRunsSpec)

/-- 'ltklaw7.PlainTwice', WHERE WHAT IT READS IS OF BULK AT MOST 1048576: true; the input reads as it did. -/
def plainTwiceUptoRow : OpenClaim := { program := "ytfbdfboekgjbcaa", sum := "0413c8c2fab39be477bed45a522039bde50381db782d8c10809aba2266c9dc28", func := "latchkey/ltklaw7.PlainTwice", spec := "plainTwice", unfollowed := true, recurses := true, apart := false, narrowed := true }
def PlainTwiceUptoSaid : Prop := plainTwiceUptoRow.holds Try.pinned (OpenSpec.upto plainTwiceSpec)

end Rows
end Go.Proofs.Ytfbdfboekgjbcaa
