/-
  No cell of these rows narrows 'for every input' (looked for: loops, veiled, ifaces, maps, wideKeys, modest, calm, conditions, laid).
  DERIVED. THE GIVEN ROWS OF THIS SEAT. 5 by the template 'for every input the law returns true; each argument reads behind the call as it read before'; 0 by the template 'total and deterministic' (their statements: YtbfhkhklhghigaaTotals.lean).
  GIVEN WITH THE SEED: the statements are not yours to turn. If you find one false, say at which input.
  Laid BY PROGRAM, IN A SANDBOX (cutbox-rows.mjs): the forced cells as the released guide's own fill.sh prints them over the translation 0b24919dcd2c4481… (all of the seat's roots in one cut). By AI agents, Wed Nov 11 2026. No macro, syntax, notation, axiom, sorry.
-/
import Derived.Test.YtbfhkhklhghigaaChecked
import GoSem.Claim
import GoSem.ClaimJoined
import GoSem.ClaimMapViews
import Derived.JoinedTies
import Derived.KernelRfl
namespace Go.Proofs.Ytbfhkhklhghigaa
/- THE CELL 'sum', in the pinned program and in every row, IS THE sha256 OF THE DUMP (.gsa) THAT YtbfhkhklhghigaaProg.lean LOADS. Nothing in Lean hashes anything: it is a label: what it is worth is what the hold of that sum in a sandbox is worth. -/
noncomputable def Try.pinned : Pinned := { name := "ytbfhkhklhghigaa", sum := "0b24919dcd2c448105b18221a4ad6459a248889617767f8ff0ed9317edad17b9", checked := Try.checked }
namespace Rows
def none {H : Type} : Left H := { results := [], args := [] }

/-- 'ltklaw3.ShapeBad': WHATEVER THE INPUT: true; the input reads as it did. -/
def shapeBadSpec : ChangeSpec := { name := "shapeBad", fn := fun _ => fun
  | [d1, d2, d3] => { results := [.lit (.bool true)], args := [d1, d2, d3] }
  | _ => none }
def shapeBadRow : OpenClaim := { program := "ytbfhkhklhghigaa", sum := "0b24919dcd2c448105b18221a4ad6459a248889617767f8ff0ed9317edad17b9", func := "latchkey/ltklaw3.ShapeBad", spec := "shapeBad", apart := false }
def ShapeBadSaid : Prop := shapeBadRow.holds Try.pinned (OpenSpec.ofChange shapeBadSpec)

/-- ITS FALSE NEIGHBOUR: 'it returns false'. Refute it at one input. -/
def shapeBadWrong : ChangeSpec := { name := "shapeBad", fn := fun _ => fun
  | [d1, d2, d3] => { results := [.lit (.bool false)], args := [d1, d2, d3] }
  | _ => none }
def ShapeBadWrongFalsely : Prop := shapeBadRow.holds Try.pinned (OpenSpec.ofChange shapeBadWrong)

/-- 'ltklaw3.ShapeSame': WHATEVER THE INPUT: true; the input reads as it did. -/
def shapeSameSpec : ChangeSpec := { name := "shapeSame", fn := fun _ => fun
  | [d1, d2, d3] => { results := [.lit (.bool true)], args := [d1, d2, d3] }
  | _ => none }
def shapeSameRow : OpenClaim := { program := "ytbfhkhklhghigaa", sum := "0b24919dcd2c448105b18221a4ad6459a248889617767f8ff0ed9317edad17b9", func := "latchkey/ltklaw3.ShapeSame", spec := "shapeSame", apart := false }
def ShapeSameSaid : Prop := shapeSameRow.holds Try.pinned (OpenSpec.ofChange shapeSameSpec)

/-- ITS FALSE NEIGHBOUR: 'it returns false'. Refute it at one input. -/
def shapeSameWrong : ChangeSpec := { name := "shapeSame", fn := fun _ => fun
  | [d1, d2, d3] => { results := [.lit (.bool false)], args := [d1, d2, d3] }
  | _ => none }
def ShapeSameWrongFalsely : Prop := shapeSameRow.holds Try.pinned (OpenSpec.ofChange shapeSameWrong)

/-- 'ltklaw3.ShapeApart': WHATEVER THE INPUT: true; the input reads as it did. -/
def shapeApartSpec : ChangeSpec := { name := "shapeApart", fn := fun _ => fun
  | [d] => { results := [.lit (.bool true)], args := [d] }
  | _ => none }
def shapeApartRow : OpenClaim := { program := "ytbfhkhklhghigaa", sum := "0b24919dcd2c448105b18221a4ad6459a248889617767f8ff0ed9317edad17b9", func := "latchkey/ltklaw3.ShapeApart", spec := "shapeApart", apart := false }
def ShapeApartSaid : Prop := shapeApartRow.holds Try.pinned (OpenSpec.ofChange shapeApartSpec)

/-- ITS FALSE NEIGHBOUR: 'it returns false'. Refute it at one input. -/
def shapeApartWrong : ChangeSpec := { name := "shapeApart", fn := fun _ => fun
  | [d] => { results := [.lit (.bool false)], args := [d] }
  | _ => none }
def ShapeApartWrongFalsely : Prop := shapeApartRow.holds Try.pinned (OpenSpec.ofChange shapeApartWrong)

/-- 'ltklaw3.ShapeTells': WHATEVER THE INPUT: true; the input reads as it did. -/
def shapeTellsSpec : ChangeSpec := { name := "shapeTells", fn := fun _ => fun
  | [d1, d2, d3] => { results := [.lit (.bool true)], args := [d1, d2, d3] }
  | _ => none }
def shapeTellsRow : OpenClaim := { program := "ytbfhkhklhghigaa", sum := "0b24919dcd2c448105b18221a4ad6459a248889617767f8ff0ed9317edad17b9", func := "latchkey/ltklaw3.ShapeTells", spec := "shapeTells", apart := false }
def ShapeTellsSaid : Prop := shapeTellsRow.holds Try.pinned (OpenSpec.ofChange shapeTellsSpec)

/-- ITS FALSE NEIGHBOUR: 'it returns false'. Refute it at one input. -/
def shapeTellsWrong : ChangeSpec := { name := "shapeTells", fn := fun _ => fun
  | [d1, d2, d3] => { results := [.lit (.bool false)], args := [d1, d2, d3] }
  | _ => none }
def ShapeTellsWrongFalsely : Prop := shapeTellsRow.holds Try.pinned (OpenSpec.ofChange shapeTellsWrong)

/-- 'ltklaw3.ShapeWhole': WHATEVER THE INPUT: true; the input reads as it did. -/
def shapeWholeSpec : ChangeSpec := { name := "shapeWhole", fn := fun _ => fun
  | [d] => { results := [.lit (.bool true)], args := [d] }
  | _ => none }
def shapeWholeRow : OpenClaim := { program := "ytbfhkhklhghigaa", sum := "0b24919dcd2c448105b18221a4ad6459a248889617767f8ff0ed9317edad17b9", func := "latchkey/ltklaw3.ShapeWhole", spec := "shapeWhole", apart := false }
def ShapeWholeSaid : Prop := shapeWholeRow.holds Try.pinned (OpenSpec.ofChange shapeWholeSpec)

/-- ITS FALSE NEIGHBOUR: 'it returns false'. Refute it at one input. -/
def shapeWholeWrong : ChangeSpec := { name := "shapeWhole", fn := fun _ => fun
  | [d] => { results := [.lit (.bool false)], args := [d] }
  | _ => none }
def ShapeWholeWrongFalsely : Prop := shapeWholeRow.holds Try.pinned (OpenSpec.ofChange shapeWholeWrong)

/- THE SECOND FORM. 'bulk': how many values and letters a reading holds, each counted each time it is reached (what is shared counts as often as it is met; a slice's spare places count too). A statement '..UptoSaid' is the law's where the arguments, and the package variables that the reading takes, are together of bulk at most 1048576: NARROWER than '..Said'. Prove '..Said' where nothing that the law and all that it calls make is longer than what came in: it says more and counts as full. Else prove '..UptoSaid'. A law counts once. -/
mutual
def uptoBulk {H : Type} : DataW H → Nat
  | .lit (.string bytes) => bytes.length + 1
  | .lit _ => 1
  | .nil => 1
  | .ptr d => uptoBulk d + 1
  | .slice elems spare => uptoBulkAll elems + uptoBulkAll spare + 1
  | .agg parts => uptoBulkAll parts + 1
  | .iface _ d => uptoBulk d + 1
  | .map entries => uptoBulkEntries entries + 1
  | .held _ => 1
def uptoBulkAll {H : Type} : List (DataW H) → Nat
  | [] => 0
  | d :: r => uptoBulk d + uptoBulkAll r
def uptoBulkEntries {H : Type} : List (Lit × DataW H) → Nat
  | [] => 0
  | x :: r => uptoBulkEntry x + uptoBulkEntries r
def uptoBulkEntry {H : Type} : Lit × DataW H → Nat
  | (.string bytes, d) => bytes.length + uptoBulk d + 1
  | (_, d) => uptoBulk d + 1
 end
def uptoSmall : (H : Type) → List (DataW H) → Bool := fun _ ds => decide (uptoBulkAll ds ≤ 1048576)
def OpenSpec.upto (s : _root_.Go.ChangeSpec) : _root_.Go.OpenSpec := { _root_.Go.OpenSpec.ofChange s with cond := some uptoSmall }

/-- 'ltklaw3.ShapeBad', WHERE WHAT IT READS IS OF BULK AT MOST 1048576: true; the input reads as it did. -/
def shapeBadUptoRow : OpenClaim := { program := "ytbfhkhklhghigaa", sum := "0b24919dcd2c448105b18221a4ad6459a248889617767f8ff0ed9317edad17b9", func := "latchkey/ltklaw3.ShapeBad", spec := "shapeBad", apart := false, narrowed := true }
def ShapeBadUptoSaid : Prop := shapeBadUptoRow.holds Try.pinned (OpenSpec.upto shapeBadSpec)

/-- 'ltklaw3.ShapeSame', WHERE WHAT IT READS IS OF BULK AT MOST 1048576: true; the input reads as it did. -/
def shapeSameUptoRow : OpenClaim := { program := "ytbfhkhklhghigaa", sum := "0b24919dcd2c448105b18221a4ad6459a248889617767f8ff0ed9317edad17b9", func := "latchkey/ltklaw3.ShapeSame", spec := "shapeSame", apart := false, narrowed := true }
def ShapeSameUptoSaid : Prop := shapeSameUptoRow.holds Try.pinned (OpenSpec.upto shapeSameSpec)

/-- 'ltklaw3.ShapeApart', WHERE WHAT IT READS IS OF BULK AT MOST 1048576: true; the input reads as it did. -/
def shapeApartUptoRow : OpenClaim := { program := "ytbfhkhklhghigaa", sum := "0b24919dcd2c448105b18221a4ad6459a248889617767f8ff0ed9317edad17b9", func := "latchkey/ltklaw3.ShapeApart", spec := "shapeApart", apart := false, narrowed := true }
def ShapeApartUptoSaid : Prop := shapeApartUptoRow.holds Try.pinned (OpenSpec.upto shapeApartSpec)

/-- 'ltklaw3.ShapeTells', WHERE WHAT IT READS IS OF BULK AT MOST 1048576: true; the input reads as it did. -/
def shapeTellsUptoRow : OpenClaim := { program := "ytbfhkhklhghigaa", sum := "0b24919dcd2c448105b18221a4ad6459a248889617767f8ff0ed9317edad17b9", func := "latchkey/ltklaw3.ShapeTells", spec := "shapeTells", apart := false, narrowed := true }
def ShapeTellsUptoSaid : Prop := shapeTellsUptoRow.holds Try.pinned (OpenSpec.upto shapeTellsSpec)

/-- 'ltklaw3.ShapeWhole', WHERE WHAT IT READS IS OF BULK AT MOST 1048576: true; the input reads as it did. -/
def shapeWholeUptoRow : OpenClaim := { program := "ytbfhkhklhghigaa", sum := "0b24919dcd2c448105b18221a4ad6459a248889617767f8ff0ed9317edad17b9", func := "latchkey/ltklaw3.ShapeWhole", spec := "shapeWhole", apart := false, narrowed := true }
def ShapeWholeUptoSaid : Prop := shapeWholeUptoRow.holds Try.pinned (OpenSpec.upto shapeWholeSpec)

end Rows
end Go.Proofs.Ytbfhkhklhghigaa
