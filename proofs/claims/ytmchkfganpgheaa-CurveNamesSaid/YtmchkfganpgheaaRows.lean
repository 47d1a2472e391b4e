/-
  No cell of these rows narrows 'for every input' (looked for: loops, veiled, ifaces, maps, wideKeys, modest, calm, conditions, laid).
  DERIVED. THE GIVEN ROWS OF THIS SEAT. 11 by the template 'for every input the law returns true; each argument reads behind the call as it read before'; 0 by the template 'total and deterministic' (their statements: YtmchkfganpgheaaTotals.lean).
  GIVEN WITH THE SEED: the statements are not yours to turn. If you find one false, say at which input.
  Laid BY PROGRAM, IN A SANDBOX (cutbox-rows.mjs): the forced cells as the released guide's own fill.sh prints them over the translation 0f2b8b4932ed7157… (all of the seat's roots in one cut). By AI agents, Wed Nov 11 2026. No macro, syntax, notation, axiom, sorry.
-/
import Derived.Test.YtmchkfganpgheaaChecked
import GoSem.Claim
import GoSem.ClaimJoined
import GoSem.ClaimMapViews
import Derived.JoinedTies
import Derived.KernelRfl
namespace Go.Proofs.Ytmchkfganpgheaa
/- THE CELL 'sum', in the pinned program and in every row, IS THE sha256 OF THE DUMP (.gsa) THAT YtmchkfganpgheaaProg.lean LOADS. Nothing in Lean hashes anything: it is a label: what it is worth is what the hold of that sum in a sandbox is worth. -/
noncomputable def Try.pinned : Pinned := { name := "ytmchkfganpgheaa", sum := "0f2b8b4932ed71577df619321cf4ce2ca4c70c310535823f5641dc9bb865d2ad", checked := Try.checked }
namespace Rows
def none {H : Type} : Left H := { results := [], args := [] }

/-- 'causewaylaw02.FieldSwap': WHATEVER THE INPUT: true; the input reads as it did. -/
def fieldSwapSpec : ChangeSpec := { name := "fieldSwap", fn := fun _ => fun
  | [d1, d2, d3] => { results := [.lit (.bool true)], args := [d1, d2, d3] }
  | _ => none }
def fieldSwapRow : OpenClaim := { program := "ytmchkfganpgheaa", sum := "0f2b8b4932ed71577df619321cf4ce2ca4c70c310535823f5641dc9bb865d2ad", func := "causeway/causewaylaw02.FieldSwap", spec := "fieldSwap", apart := false }
def FieldSwapSaid : Prop := fieldSwapRow.holds Try.pinned (OpenSpec.ofChange fieldSwapSpec)

/-- ITS FALSE NEIGHBOUR: 'it returns false'. Refute it at one input. -/
def fieldSwapWrong : ChangeSpec := { name := "fieldSwap", fn := fun _ => fun
  | [d1, d2, d3] => { results := [.lit (.bool false)], args := [d1, d2, d3] }
  | _ => none }
def FieldSwapWrongFalsely : Prop := fieldSwapRow.holds Try.pinned (OpenSpec.ofChange fieldSwapWrong)

/-- 'causewaylaw02.FieldNames': WHATEVER THE INPUT: true; the input reads as it did. -/
def fieldNamesSpec : ChangeSpec := { name := "fieldNames", fn := fun _ => fun
  | [] => { results := [.lit (.bool true)], args := [] }
  | _ => none }
def fieldNamesRow : OpenClaim := { program := "ytmchkfganpgheaa", sum := "0f2b8b4932ed71577df619321cf4ce2ca4c70c310535823f5641dc9bb865d2ad", func := "causeway/causewaylaw02.FieldNames", spec := "fieldNames", inPlace := ["math/bits.Add64"], apart := false }
def FieldNamesSaid : Prop := fieldNamesRow.holds Try.pinned (OpenSpec.ofChange fieldNamesSpec)

/-- ITS FALSE NEIGHBOUR: 'it returns false'. Refute it at one input. -/
def fieldNamesWrong : ChangeSpec := { name := "fieldNames", fn := fun _ => fun
  | [] => { results := [.lit (.bool false)], args := [] }
  | _ => none }
def FieldNamesWrongFalsely : Prop := fieldNamesRow.holds Try.pinned (OpenSpec.ofChange fieldNamesWrong)

/-- 'causewaylaw03.CurveX': WHATEVER THE INPUT: true; the input reads as it did. -/
def curveXSpec : ChangeSpec := { name := "curveX", fn := fun _ => fun
  | [d1, d2] => { results := [.lit (.bool true)], args := [d1, d2] }
  | _ => none }
def curveXRow : OpenClaim := { program := "ytmchkfganpgheaa", sum := "0f2b8b4932ed71577df619321cf4ce2ca4c70c310535823f5641dc9bb865d2ad", func := "causeway/causewaylaw03.CurveX", spec := "curveX", inPlace := ["math/bits.Add64"], apart := false }
def CurveXSaid : Prop := curveXRow.holds Try.pinned (OpenSpec.ofChange curveXSpec)

/-- ITS FALSE NEIGHBOUR: 'it returns false'. Refute it at one input. -/
def curveXWrong : ChangeSpec := { name := "curveX", fn := fun _ => fun
  | [d1, d2] => { results := [.lit (.bool false)], args := [d1, d2] }
  | _ => none }
def CurveXWrongFalsely : Prop := curveXRow.holds Try.pinned (OpenSpec.ofChange curveXWrong)

/-- 'causewaylaw03.CurvePublic': WHATEVER THE INPUT: true; the input reads as it did. -/
def curvePublicSpec : ChangeSpec := { name := "curvePublic", fn := fun _ => fun
  | [d] => { results := [.lit (.bool true)], args := [d] }
  | _ => none }
def curvePublicRow : OpenClaim := { program := "ytmchkfganpgheaa", sum := "0f2b8b4932ed71577df619321cf4ce2ca4c70c310535823f5641dc9bb865d2ad", func := "causeway/causewaylaw03.CurvePublic", spec := "curvePublic", inPlace := ["math/bits.Add64"], apart := false }
def CurvePublicSaid : Prop := curvePublicRow.holds Try.pinned (OpenSpec.ofChange curvePublicSpec)

/-- ITS FALSE NEIGHBOUR: 'it returns false'. Refute it at one input. -/
def curvePublicWrong : ChangeSpec := { name := "curvePublic", fn := fun _ => fun
  | [d] => { results := [.lit (.bool false)], args := [d] }
  | _ => none }
def CurvePublicWrongFalsely : Prop := curvePublicRow.holds Try.pinned (OpenSpec.ofChange curvePublicWrong)

/-- 'causewaylaw03.CurveShare': WHATEVER THE INPUT: true; the input reads as it did. -/
def curveShareSpec : ChangeSpec := { name := "curveShare", fn := fun _ => fun
  | [d1, d2] => { results := [.lit (.bool true)], args := [d1, d2] }
  | _ => none }
def curveShareRow : OpenClaim := { program := "ytmchkfganpgheaa", sum := "0f2b8b4932ed71577df619321cf4ce2ca4c70c310535823f5641dc9bb865d2ad", func := "causeway/causewaylaw03.CurveShare", spec := "curveShare", inPlace := ["math/bits.Add64"], apart := false }
def CurveShareSaid : Prop := curveShareRow.holds Try.pinned (OpenSpec.ofChange curveShareSpec)

/-- ITS FALSE NEIGHBOUR: 'it returns false'. Refute it at one input. -/
def curveShareWrong : ChangeSpec := { name := "curveShare", fn := fun _ => fun
  | [d1, d2] => { results := [.lit (.bool false)], args := [d1, d2] }
  | _ => none }
def CurveShareWrongFalsely : Prop := curveShareRow.holds Try.pinned (OpenSpec.ofChange curveShareWrong)

/-- 'causewaylaw03.CurveBoth': WHATEVER THE INPUT: true; the input reads as it did. -/
def curveBothSpec : ChangeSpec := { name := "curveBoth", fn := fun _ => fun
  | [d1, d2] => { results := [.lit (.bool true)], args := [d1, d2] }
  | _ => none }
def curveBothRow : OpenClaim := { program := "ytmchkfganpgheaa", sum := "0f2b8b4932ed71577df619321cf4ce2ca4c70c310535823f5641dc9bb865d2ad", func := "causeway/causewaylaw03.CurveBoth", spec := "curveBoth", inPlace := ["math/bits.Add64"], apart := false }
def CurveBothSaid : Prop := curveBothRow.holds Try.pinned (OpenSpec.ofChange curveBothSpec)

/-- ITS FALSE NEIGHBOUR: 'it returns false'. Refute it at one input. -/
def curveBothWrong : ChangeSpec := { name := "curveBoth", fn := fun _ => fun
  | [d1, d2] => { results := [.lit (.bool false)], args := [d1, d2] }
  | _ => none }
def CurveBothWrongFalsely : Prop := curveBothRow.holds Try.pinned (OpenSpec.ofChange curveBothWrong)

/-- 'causewaylaw03.CurveNumber': WHATEVER THE INPUT: true; the input reads as it did. -/
def curveNumberSpec : ChangeSpec := { name := "curveNumber", fn := fun _ => fun
  | [d1, d2, d3] => { results := [.lit (.bool true)], args := [d1, d2, d3] }
  | _ => none }
def curveNumberRow : OpenClaim := { program := "ytmchkfganpgheaa", sum := "0f2b8b4932ed71577df619321cf4ce2ca4c70c310535823f5641dc9bb865d2ad", func := "causeway/causewaylaw03.CurveNumber", spec := "curveNumber", inPlace := ["math/bits.Add64"], apart := false }
def CurveNumberSaid : Prop := curveNumberRow.holds Try.pinned (OpenSpec.ofChange curveNumberSpec)

/-- ITS FALSE NEIGHBOUR: 'it returns false'. Refute it at one input. -/
def curveNumberWrong : ChangeSpec := { name := "curveNumber", fn := fun _ => fun
  | [d1, d2, d3] => { results := [.lit (.bool false)], args := [d1, d2, d3] }
  | _ => none }
def CurveNumberWrongFalsely : Prop := curveNumberRow.holds Try.pinned (OpenSpec.ofChange curveNumberWrong)

/-- 'causewaylaw03.CurvePoints': WHATEVER THE INPUT: true; the input reads as it did. -/
def curvePointsSpec : ChangeSpec := { name := "curvePoints", fn := fun _ => fun
  | [d1, d2] => { results := [.lit (.bool true)], args := [d1, d2] }
  | _ => none }
def curvePointsRow : OpenClaim := { program := "ytmchkfganpgheaa", sum := "0f2b8b4932ed71577df619321cf4ce2ca4c70c310535823f5641dc9bb865d2ad", func := "causeway/causewaylaw03.CurvePoints", spec := "curvePoints", inPlace := ["math/bits.Add64"], apart := false }
def CurvePointsSaid : Prop := curvePointsRow.holds Try.pinned (OpenSpec.ofChange curvePointsSpec)

/-- ITS FALSE NEIGHBOUR: 'it returns false'. Refute it at one input. -/
def curvePointsWrong : ChangeSpec := { name := "curvePoints", fn := fun _ => fun
  | [d1, d2] => { results := [.lit (.bool false)], args := [d1, d2] }
  | _ => none }
def CurvePointsWrongFalsely : Prop := curvePointsRow.holds Try.pinned (OpenSpec.ofChange curvePointsWrong)

/-- 'causewaylaw03.CurveThree': WHATEVER THE INPUT: true; the input reads as it did. -/
def curveThreeSpec : ChangeSpec := { name := "curveThree", fn := fun _ => fun
  | [d1, d2, d3] => { results := [.lit (.bool true)], args := [d1, d2, d3] }
  | _ => none }
def curveThreeRow : OpenClaim := { program := "ytmchkfganpgheaa", sum := "0f2b8b4932ed71577df619321cf4ce2ca4c70c310535823f5641dc9bb865d2ad", func := "causeway/causewaylaw03.CurveThree", spec := "curveThree", inPlace := ["math/bits.Add64"], apart := false }
def CurveThreeSaid : Prop := curveThreeRow.holds Try.pinned (OpenSpec.ofChange curveThreeSpec)

/-- ITS FALSE NEIGHBOUR: 'it returns false'. Refute it at one input. -/
def curveThreeWrong : ChangeSpec := { name := "curveThree", fn := fun _ => fun
  | [d1, d2, d3] => { results := [.lit (.bool false)], args := [d1, d2, d3] }
  | _ => none }
def CurveThreeWrongFalsely : Prop := curveThreeRow.holds Try.pinned (OpenSpec.ofChange curveThreeWrong)

/-- 'causewaylaw03.CurveLow': WHATEVER THE INPUT: true; the input reads as it did. -/
def curveLowSpec : ChangeSpec := { name := "curveLow", fn := fun _ => fun
  | [d] => { results := [.lit (.bool true)], args := [d] }
  | _ => none }
def curveLowRow : OpenClaim := { program := "ytmchkfganpgheaa", sum := "0f2b8b4932ed71577df619321cf4ce2ca4c70c310535823f5641dc9bb865d2ad", func := "causeway/causewaylaw03.CurveLow", spec := "curveLow", inPlace := ["math/bits.Add64"], apart := false }
def CurveLowSaid : Prop := curveLowRow.holds Try.pinned (OpenSpec.ofChange curveLowSpec)

/-- ITS FALSE NEIGHBOUR: 'it returns false'. Refute it at one input. -/
def curveLowWrong : ChangeSpec := { name := "curveLow", fn := fun _ => fun
  | [d] => { results := [.lit (.bool false)], args := [d] }
  | _ => none }
def CurveLowWrongFalsely : Prop := curveLowRow.holds Try.pinned (OpenSpec.ofChange curveLowWrong)

/-- 'causewaylaw03.CurveNames': WHATEVER THE INPUT: true; the input reads as it did. -/
def curveNamesSpec : ChangeSpec := { name := "curveNames", fn := fun _ => fun
  | [] => { results := [.lit (.bool true)], args := [] }
  | _ => none }
def curveNamesRow : OpenClaim := { program := "ytmchkfganpgheaa", sum := "0f2b8b4932ed71577df619321cf4ce2ca4c70c310535823f5641dc9bb865d2ad", func := "causeway/causewaylaw03.CurveNames", spec := "curveNames", inPlace := ["math/bits.Add64"], apart := false }
def CurveNamesSaid : Prop := curveNamesRow.holds Try.pinned (OpenSpec.ofChange curveNamesSpec)

/-- ITS FALSE NEIGHBOUR: 'it returns false'. Refute it at one input. -/
def curveNamesWrong : ChangeSpec := { name := "curveNames", fn := fun _ => fun
  | [] => { results := [.lit (.bool false)], args := [] }
  | _ => none }
def CurveNamesWrongFalsely : Prop := curveNamesRow.holds Try.pinned (OpenSpec.ofChange curveNamesWrong)

/- THE SECOND FORM. 'bulk': how many values and letters a reading holds, each counted each time it is reached (what is shared counts as often as it is met; a slice's spare places count too). A statement '..UptoSaid' is the law's where the arguments, and the package variables that the reading takes, are together of bulk at most 1048576: NARROWER than '..Said'. Prove '..Said' where nothing that the law and all that it calls make is longer than what came in: it says more and counts as full. Else prove '..UptoSaid'. A law counts once. -/
mutual
def uptoBulk {H : Type} : DataW H → Nat
  | .lit (.string bytes) => bytes.length + 1
  | .lit _ => 1
  | .nil => 1
  | .ptr d => uptoBulk d + 1
  | .slice elems spare => uptoBulkAll elems + uptoBulkAll spare + 1
  | .agg parts => uptoBulkAll parts + 1
  | .iface _ d => uptoBulk d + 1
  | .map entries => uptoBulkEntries entries + 1
  | .held _ => 1
def uptoBulkAll {H : Type} : List (DataW H) → Nat
  | [] => 0
  | d :: r => uptoBulk d + uptoBulkAll r
def uptoBulkEntries {H : Type} : List (Lit × DataW H) → Nat
  | [] => 0
  | x :: r => uptoBulkEntry x + uptoBulkEntries r
def uptoBulkEntry {H : Type} : Lit × DataW H → Nat
  | (.string bytes, d) => bytes.length + uptoBulk d + 1
  | (_, d) => uptoBulk d + 1
 end
def uptoSmall : (H : Type) → List (DataW H) → Bool := fun _ ds => decide (uptoBulkAll ds ≤ 1048576)
def OpenSpec.upto (s : _root_.Go.ChangeSpec) : _root_.Go.OpenSpec := { _root_.Go.OpenSpec.ofChange s with cond := some uptoSmall }

/-- 'causewaylaw02.FieldSwap', WHERE WHAT IT READS IS OF BULK AT MOST 1048576: true; the input reads as it did. -/
def fieldSwapUptoRow : OpenClaim := { program := "ytmchkfganpgheaa", sum := "0f2b8b4932ed71577df619321cf4ce2ca4c70c310535823f5641dc9bb865d2ad", func := "causeway/causewaylaw02.FieldSwap", spec := "fieldSwap", apart := false, narrowed := true }
def FieldSwapUptoSaid : Prop := fieldSwapUptoRow.holds Try.pinned (OpenSpec.upto fieldSwapSpec)

/-- 'causewaylaw02.FieldNames', WHERE WHAT IT READS IS OF BULK AT MOST 1048576: true; the input reads as it did. -/
def fieldNamesUptoRow : OpenClaim := { program := "ytmchkfganpgheaa", sum := "0f2b8b4932ed71577df619321cf4ce2ca4c70c310535823f5641dc9bb865d2ad", func := "causeway/causewaylaw02.FieldNames", spec := "fieldNames", inPlace := ["math/bits.Add64"], apart := false, narrowed := true }
def FieldNamesUptoSaid : Prop := fieldNamesUptoRow.holds Try.pinned (OpenSpec.upto fieldNamesSpec)

/-- 'causewaylaw03.CurveX', WHERE WHAT IT READS IS OF BULK AT MOST 1048576: true; the input reads as it did. -/
def curveXUptoRow : OpenClaim := { program := "ytmchkfganpgheaa", sum := "0f2b8b4932ed71577df619321cf4ce2ca4c70c310535823f5641dc9bb865d2ad", func := "causeway/causewaylaw03.CurveX", spec := "curveX", inPlace := ["math/bits.Add64"], apart := false, narrowed := true }
def CurveXUptoSaid : Prop := curveXUptoRow.holds Try.pinned (OpenSpec.upto curveXSpec)

/-- 'causewaylaw03.CurvePublic', WHERE WHAT IT READS IS OF BULK AT MOST 1048576: true; the input reads as it did. -/
def curvePublicUptoRow : OpenClaim := { program := "ytmchkfganpgheaa", sum := "0f2b8b4932ed71577df619321cf4ce2ca4c70c310535823f5641dc9bb865d2ad", func := "causeway/causewaylaw03.CurvePublic", spec := "curvePublic", inPlace := ["math/bits.Add64"], apart := false, narrowed := true }
def CurvePublicUptoSaid : Prop := curvePublicUptoRow.holds Try.pinned (OpenSpec.upto curvePublicSpec)

/-- 'causewaylaw03.CurveShare', WHERE WHAT IT READS IS OF BULK AT MOST 1048576: true; the input reads as it did. -/
def curveShareUptoRow : OpenClaim := { program := "ytmchkfganpgheaa", sum := "0f2b8b4932ed71577df619321cf4ce2ca4c70c310535823f5641dc9bb865d2ad", func := "causeway/causewaylaw03.CurveShare", spec := "curveShare", inPlace := ["math/bits.Add64"], apart := false, narrowed := true }
def CurveShareUptoSaid : Prop := curveShareUptoRow.holds Try.pinned (OpenSpec.upto curveShareSpec)

/-- 'causewaylaw03.CurveBoth', WHERE WHAT IT READS IS OF BULK AT MOST 1048576: true; the input reads as it did. -/
def curveBothUptoRow : OpenClaim := { program := "ytmchkfganpgheaa", sum := "0f2b8b4932ed71577df619321cf4ce2ca4c70c310535823f5641dc9bb865d2ad", func := "causeway/causewaylaw03.CurveBoth", spec := "curveBoth", inPlace := ["math/bits.Add64"], apart := false, narrowed := true }
def CurveBothUptoSaid : Prop := curveBothUptoRow.holds Try.pinned (OpenSpec.upto curveBothSpec)

/-- 'causewaylaw03.CurveNumber', WHERE WHAT IT READS IS OF BULK AT MOST 1048576: true; the input reads as it did. -/
def curveNumberUptoRow : OpenClaim := { program := "ytmchkfganpgheaa", sum := "0f2b8b4932ed71577df619321cf4ce2ca4c70c310535823f5641dc9bb865d2ad", func := "causeway/causewaylaw03.CurveNumber", spec := "curveNumber", inPlace := ["math/bits.Add64"], apart := false, narrowed := true }
def CurveNumberUptoSaid : Prop := curveNumberUptoRow.holds Try.pinned (OpenSpec.upto curveNumberSpec)

/-- 'causewaylaw03.CurvePoints', WHERE WHAT IT READS IS OF BULK AT MOST 1048576: true; the input reads as it did. -/
def curvePointsUptoRow : OpenClaim := { program := "ytmchkfganpgheaa", sum := "0f2b8b4932ed71577df619321cf4ce2ca4c70c310535823f5641dc9bb865d2ad", func := "causeway/causewaylaw03.CurvePoints", spec := "curvePoints", inPlace := ["math/bits.Add64"], apart := false, narrowed := true }
def CurvePointsUptoSaid : Prop := curvePointsUptoRow.holds Try.pinned (OpenSpec.upto curvePointsSpec)

/-- 'causewaylaw03.CurveThree', WHERE WHAT IT READS IS OF BULK AT MOST 1048576: true; the input reads as it did. -/
def curveThreeUptoRow : OpenClaim := { program := "ytmchkfganpgheaa", sum := "0f2b8b4932ed71577df619321cf4ce2ca4c70c310535823f5641dc9bb865d2ad", func := "causeway/causewaylaw03.CurveThree", spec := "curveThree", inPlace := ["math/bits.Add64"], apart := false, narrowed := true }
def CurveThreeUptoSaid : Prop := curveThreeUptoRow.holds Try.pinned (OpenSpec.upto curveThreeSpec)

/-- 'causewaylaw03.CurveLow', WHERE WHAT IT READS IS OF BULK AT MOST 1048576: true; the input reads as it did. -/
def curveLowUptoRow : OpenClaim := { program := "ytmchkfganpgheaa", sum := "0f2b8b4932ed71577df619321cf4ce2ca4c70c310535823f5641dc9bb865d2ad", func := "causeway/causewaylaw03.CurveLow", spec := "curveLow", inPlace := ["math/bits.Add64"], apart := false, narrowed := true }
def CurveLowUptoSaid : Prop := curveLowUptoRow.holds Try.pinned (OpenSpec.upto curveLowSpec)

/-- 'causewaylaw03.CurveNames', WHERE WHAT IT READS IS OF BULK AT MOST 1048576: true; the input reads as it did. -/
def curveNamesUptoRow : OpenClaim := { program := "ytmchkfganpgheaa", sum := "0f2b8b4932ed71577df619321cf4ce2ca4c70c310535823f5641dc9bb865d2ad", func := "causeway/causewaylaw03.CurveNames", spec := "curveNames", inPlace := ["math/bits.Add64"], apart := false, narrowed := true }
def CurveNamesUptoSaid : Prop := curveNamesUptoRow.holds Try.pinned (OpenSpec.upto curveNamesSpec)

end Rows
end Go.Proofs.Ytmchkfganpgheaa
