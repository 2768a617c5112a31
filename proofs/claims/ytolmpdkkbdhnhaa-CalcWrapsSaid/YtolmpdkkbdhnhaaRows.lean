/-
  No cell of these rows narrows 'for every input' (looked for: loops, veiled, ifaces, maps, wideKeys, modest, calm, conditions, laid).
  DERIVED. THE GIVEN ROWS OF THIS SEAT. 6 by the template 'for every input the law returns true; each argument reads behind the call as it read before'; 0 by the template 'total and deterministic' (their statements: YtolmpdkkbdhnhaaTotals.lean).
  GIVEN WITH THE SEED: the statements are not yours to turn. If you find one false, say at which input.
  Laid BY PROGRAM, IN A SANDBOX (cutbox-rows.mjs): the forced cells as the released guide's own fill.sh prints them over the translation b40b80d1c53d545d… (all of the seat's roots in one cut). By AI agents, Wed Nov 11 2026. No macro, syntax, notation, axiom, sorry.
-/
import Derived.Test.YtolmpdkkbdhnhaaChecked
import GoSem.Claim
import GoSem.ClaimJoined
import GoSem.ClaimMapViews
import Derived.JoinedTies
import Derived.KernelRfl
namespace Go.Proofs.Ytolmpdkkbdhnhaa
/- THE CELL 'sum', in the pinned program and in every row, IS THE sha256 OF THE DUMP (.gsa) THAT YtolmpdkkbdhnhaaProg.lean LOADS. Nothing in Lean hashes anything: it is a label: what it is worth is what the hold of that sum in a sandbox is worth. -/
noncomputable def Try.pinned : Pinned := { name := "ytolmpdkkbdhnhaa", sum := "b40b80d1c53d545d5f7da2572a9ff4bf39c37f3cd4248130fbaa2e129b882f23", checked := Try.checked }
namespace Rows
def none {H : Type} : Left H := { results := [], args := [] }

/-- 'ltklaw1.CalcOrder': WHATEVER THE INPUT: true; the input reads as it did. -/
def calcOrderSpec : ChangeSpec := { name := "calcOrder", fn := fun _ => fun
  | [d1, d2, d3] => { results := [.lit (.bool true)], args := [d1, d2, d3] }
  | _ => none }
def calcOrderRow : OpenClaim := { program := "ytolmpdkkbdhnhaa", sum := "b40b80d1c53d545d5f7da2572a9ff4bf39c37f3cd4248130fbaa2e129b882f23", func := "latchkey/ltklaw1.CalcOrder", spec := "calcOrder", apart := false }
def CalcOrderSaid : Prop := calcOrderRow.holds Try.pinned (OpenSpec.ofChange calcOrderSpec)

/-- ITS FALSE NEIGHBOUR: 'it returns false'. Refute it at one input. -/
def calcOrderWrong : ChangeSpec := { name := "calcOrder", fn := fun _ => fun
  | [d1, d2, d3] => { results := [.lit (.bool false)], args := [d1, d2, d3] }
  | _ => none }
def CalcOrderWrongFalsely : Prop := calcOrderRow.holds Try.pinned (OpenSpec.ofChange calcOrderWrong)

/-- 'ltklaw1.CalcBits': WHATEVER THE INPUT: true; the input reads as it did. -/
def calcBitsSpec : ChangeSpec := { name := "calcBits", fn := fun _ => fun
  | [d1, d2] => { results := [.lit (.bool true)], args := [d1, d2] }
  | _ => none }
def calcBitsRow : OpenClaim := { program := "ytolmpdkkbdhnhaa", sum := "b40b80d1c53d545d5f7da2572a9ff4bf39c37f3cd4248130fbaa2e129b882f23", func := "latchkey/ltklaw1.CalcBits", spec := "calcBits", apart := false }
def CalcBitsSaid : Prop := calcBitsRow.holds Try.pinned (OpenSpec.ofChange calcBitsSpec)

/-- ITS FALSE NEIGHBOUR: 'it returns false'. Refute it at one input. -/
def calcBitsWrong : ChangeSpec := { name := "calcBits", fn := fun _ => fun
  | [d1, d2] => { results := [.lit (.bool false)], args := [d1, d2] }
  | _ => none }
def CalcBitsWrongFalsely : Prop := calcBitsRow.holds Try.pinned (OpenSpec.ofChange calcBitsWrong)

/-- 'ltklaw1.CalcFew': WHATEVER THE INPUT: true; the input reads as it did. -/
def calcFewSpec : ChangeSpec := { name := "calcFew", fn := fun _ => fun
  | [d1, d2] => { results := [.lit (.bool true)], args := [d1, d2] }
  | _ => none }
def calcFewRow : OpenClaim := { program := "ytolmpdkkbdhnhaa", sum := "b40b80d1c53d545d5f7da2572a9ff4bf39c37f3cd4248130fbaa2e129b882f23", func := "latchkey/ltklaw1.CalcFew", spec := "calcFew", apart := false }
def CalcFewSaid : Prop := calcFewRow.holds Try.pinned (OpenSpec.ofChange calcFewSpec)

/-- ITS FALSE NEIGHBOUR: 'it returns false'. Refute it at one input. -/
def calcFewWrong : ChangeSpec := { name := "calcFew", fn := fun _ => fun
  | [d1, d2] => { results := [.lit (.bool false)], args := [d1, d2] }
  | _ => none }
def CalcFewWrongFalsely : Prop := calcFewRow.holds Try.pinned (OpenSpec.ofChange calcFewWrong)

/-- 'ltklaw1.CalcTells': WHATEVER THE INPUT: true; the input reads as it did. -/
def calcTellsSpec : ChangeSpec := { name := "calcTells", fn := fun _ => fun
  | [d1, d2, d3, d4] => { results := [.lit (.bool true)], args := [d1, d2, d3, d4] }
  | _ => none }
def calcTellsRow : OpenClaim := { program := "ytolmpdkkbdhnhaa", sum := "b40b80d1c53d545d5f7da2572a9ff4bf39c37f3cd4248130fbaa2e129b882f23", func := "latchkey/ltklaw1.CalcTells", spec := "calcTells", apart := false }
def CalcTellsSaid : Prop := calcTellsRow.holds Try.pinned (OpenSpec.ofChange calcTellsSpec)

/-- ITS FALSE NEIGHBOUR: 'it returns false'. Refute it at one input. -/
def calcTellsWrong : ChangeSpec := { name := "calcTells", fn := fun _ => fun
  | [d1, d2, d3, d4] => { results := [.lit (.bool false)], args := [d1, d2, d3, d4] }
  | _ => none }
def CalcTellsWrongFalsely : Prop := calcTellsRow.holds Try.pinned (OpenSpec.ofChange calcTellsWrong)

/-- 'ltklaw1.CalcParts': WHATEVER THE INPUT: true; the input reads as it did. -/
def calcPartsSpec : ChangeSpec := { name := "calcParts", fn := fun _ => fun
  | [d1, d2, d3, d4] => { results := [.lit (.bool true)], args := [d1, d2, d3, d4] }
  | _ => none }
def calcPartsRow : OpenClaim := { program := "ytolmpdkkbdhnhaa", sum := "b40b80d1c53d545d5f7da2572a9ff4bf39c37f3cd4248130fbaa2e129b882f23", func := "latchkey/ltklaw1.CalcParts", spec := "calcParts", apart := false }
def CalcPartsSaid : Prop := calcPartsRow.holds Try.pinned (OpenSpec.ofChange calcPartsSpec)

/-- ITS FALSE NEIGHBOUR: 'it returns false'. Refute it at one input. -/
def calcPartsWrong : ChangeSpec := { name := "calcParts", fn := fun _ => fun
  | [d1, d2, d3, d4] => { results := [.lit (.bool false)], args := [d1, d2, d3, d4] }
  | _ => none }
def CalcPartsWrongFalsely : Prop := calcPartsRow.holds Try.pinned (OpenSpec.ofChange calcPartsWrong)

/-- 'ltklaw1.CalcWraps': WHATEVER THE INPUT: true; the input reads as it did. -/
def calcWrapsSpec : ChangeSpec := { name := "calcWraps", fn := fun _ => fun
  | [d1, d2, d3] => { results := [.lit (.bool true)], args := [d1, d2, d3] }
  | _ => none }
def calcWrapsRow : OpenClaim := { program := "ytolmpdkkbdhnhaa", sum := "b40b80d1c53d545d5f7da2572a9ff4bf39c37f3cd4248130fbaa2e129b882f23", func := "latchkey/ltklaw1.CalcWraps", spec := "calcWraps", apart := false }
def CalcWrapsSaid : Prop := calcWrapsRow.holds Try.pinned (OpenSpec.ofChange calcWrapsSpec)

/-- ITS FALSE NEIGHBOUR: 'it returns false'. Refute it at one input. -/
def calcWrapsWrong : ChangeSpec := { name := "calcWraps", fn := fun _ => fun
  | [d1, d2, d3] => { results := [.lit (.bool false)], args := [d1, d2, d3] }
  | _ => none }
def CalcWrapsWrongFalsely : Prop := calcWrapsRow.holds Try.pinned (OpenSpec.ofChange calcWrapsWrong)

/- THE SECOND FORM. 'bulk': how many values and letters a reading holds, each counted each time it is reached (what is shared counts as often as it is met; a slice's spare places count too). A statement '..UptoSaid' is the law's where the arguments, and the package variables that the reading takes, are together of bulk at most 1048576: NARROWER than '..Said'. Prove '..Said' where nothing that the law and all that it calls make is longer than what came in: it says more and counts as full. Else prove '..UptoSaid'. A law counts once. -/
mutual
def uptoBulk {H : Type} : DataW H → Nat
  | .lit (.string bytes) => bytes.length + 1
  | .lit _ => 1
  | .nil => 1
  | .ptr d => uptoBulk d + 1
  | .slice elems spare => uptoBulkAll elems + uptoBulkAll spare + 1
  | .agg parts => uptoBulkAll parts + 1
  | .iface _ d => uptoBulk d + 1
  | .map entries => uptoBulkEntries entries + 1
  | .held _ => 1
def uptoBulkAll {H : Type} : List (DataW H) → Nat
  | [] => 0
  | d :: r => uptoBulk d + uptoBulkAll r
def uptoBulkEntries {H : Type} : List (Lit × DataW H) → Nat
  | [] => 0
  | x :: r => uptoBulkEntry x + uptoBulkEntries r
def uptoBulkEntry {H : Type} : Lit × DataW H → Nat
  | (.string bytes, d) => bytes.length + uptoBulk d + 1
  | (_, d) => uptoBulk d + 1
 end
def uptoSmall : (H : Type) → List (DataW H) → Bool := fun _ ds => decide (uptoBulkAll ds ≤ 1048576)
def OpenSpec.upto (s : _root_.Go.ChangeSpec) : _root_.Go.OpenSpec := { _root_.Go.OpenSpec.ofChange s with cond := some uptoSmall }

/-- 'ltklaw1.CalcOrder', WHERE WHAT IT READS IS OF BULK AT MOST 1048576: true; the input reads as it did. -/
def calcOrderUptoRow : OpenClaim := { program := "ytolmpdkkbdhnhaa", sum := "b40b80d1c53d545d5f7da2572a9ff4bf39c37f3cd4248130fbaa2e129b882f23", func := "latchkey/ltklaw1.CalcOrder", spec := "calcOrder", apart := false, narrowed := true }
def CalcOrderUptoSaid : Prop := calcOrderUptoRow.holds Try.pinned (OpenSpec.upto calcOrderSpec)

/-- 'ltklaw1.CalcBits', WHERE WHAT IT READS IS OF BULK AT MOST 1048576: true; the input reads as it did. -/
def calcBitsUptoRow : OpenClaim := { program := "ytolmpdkkbdhnhaa", sum := "b40b80d1c53d545d5f7da2572a9ff4bf39c37f3cd4248130fbaa2e129b882f23", func := "latchkey/ltklaw1.CalcBits", spec := "calcBits", apart := false, narrowed := true }
def CalcBitsUptoSaid : Prop := calcBitsUptoRow.holds Try.pinned (OpenSpec.upto calcBitsSpec)

/-- 'ltklaw1.CalcFew', WHERE WHAT IT READS IS OF BULK AT MOST 1048576: true; the input reads as it did. -/
def calcFewUptoRow : OpenClaim := { program := "ytolmpdkkbdhnhaa", sum := "b40b80d1c53d545d5f7da2572a9ff4bf39c37f3cd4248130fbaa2e129b882f23", func := "latchkey/ltklaw1.CalcFew", spec := "calcFew", apart := false, narrowed := true }
def CalcFewUptoSaid : Prop := calcFewUptoRow.holds Try.pinned (OpenSpec.upto calcFewSpec)

/-- 'ltklaw1.CalcTells', WHERE WHAT IT READS IS OF BULK AT MOST 1048576: true; the input reads as it did. -/
def calcTellsUptoRow : OpenClaim := { program := "ytolmpdkkbdhnhaa", sum := "b40b80d1c53d545d5f7da2572a9ff4bf39c37f3cd4248130fbaa2e129b882f23", func := "latchkey/ltklaw1.CalcTells", spec := "calcTells", apart := false, narrowed := true }
def CalcTellsUptoSaid : Prop := calcTellsUptoRow.holds Try.pinned (OpenSpec.upto calcTellsSpec)

/-- 'ltklaw1.CalcParts', WHERE WHAT IT READS IS OF BULK AT MOST 1048576: true; the input reads as it did. -/
def calcPartsUptoRow : OpenClaim := { program := "ytolmpdkkbdhnhaa", sum := "b40b80d1c53d545d5f7da2572a9ff4bf39c37f3cd4248130fbaa2e129b882f23", func := "latchkey/ltklaw1.CalcParts", spec := "calcParts", apart := false, narrowed := true }
def CalcPartsUptoSaid : Prop := calcPartsUptoRow.holds Try.pinned (OpenSpec.upto calcPartsSpec)

/-- 'ltklaw1.CalcWraps', WHERE WHAT IT READS IS OF BULK AT MOST 1048576: true; the input reads as it did. -/
def calcWrapsUptoRow : OpenClaim := { program := "ytolmpdkkbdhnhaa", sum := "b40b80d1c53d545d5f7da2572a9ff4bf39c37f3cd4248130fbaa2e129b882f23", func := "latchkey/ltklaw1.CalcWraps", spec := "calcWraps", apart := false, narrowed := true }
def CalcWrapsUptoSaid : Prop := calcWrapsUptoRow.holds Try.pinned (OpenSpec.upto calcWrapsSpec)

end Rows
end Go.Proofs.Ytolmpdkkbdhnhaa
