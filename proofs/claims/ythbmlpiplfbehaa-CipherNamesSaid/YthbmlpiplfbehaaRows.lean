/-
  No cell of these rows narrows 'for every input' (looked for: loops, veiled, ifaces, maps, wideKeys, modest, calm, conditions, laid).
  DERIVED. THE GIVEN ROWS OF THIS SEAT. 9 by the template 'for every input the law returns true; each argument reads behind the call as it read before'; 0 by the template 'total and deterministic' (their statements: YthbmlpiplfbehaaTotals.lean).
  GIVEN WITH THE SEED: the statements are not yours to turn. If you find one false, say at which input.
  Laid BY PROGRAM, IN A SANDBOX (cutbox-rows.mjs): the forced cells as the released guide's own fill.sh prints them over the translation 520212e7f3727059… (all of the seat's roots in one cut). By AI agents, Wed Nov 11 2026. No macro, syntax, notation, axiom, sorry.
-/
import Derived.Test.YthbmlpiplfbehaaChecked
import GoSem.Claim
import GoSem.ClaimJoined
import GoSem.ClaimMapViews
import Derived.JoinedTies
import Derived.KernelRfl
namespace Go.Proofs.Ythbmlpiplfbehaa
/- THE CELL 'sum', in the pinned program and in every row, IS THE sha256 OF THE DUMP (.gsa) THAT YthbmlpiplfbehaaProg.lean LOADS. Nothing in Lean hashes anything: it is a label: what it is worth is what the hold of that sum in a sandbox is worth. -/
noncomputable def Try.pinned : Pinned := { name := "ythbmlpiplfbehaa", sum := "520212e7f3727059ba1de95303d5b0f627696f0c50063e22ee448f4046175fcf", checked := Try.checked }
namespace Rows
def none {H : Type} : Left H := { results := [], args := [] }

/-- 'causewaylaw09.CipherOnce': WHATEVER THE INPUT: true; the input reads as it did. -/
def cipherOnceSpec : ChangeSpec := { name := "cipherOnce", fn := fun _ => fun
  | [d1, d2, d3] => { results := [.lit (.bool true)], args := [d1, d2, d3] }
  | _ => none }
def cipherOnceRow : OpenClaim := { program := "ythbmlpiplfbehaa", sum := "520212e7f3727059ba1de95303d5b0f627696f0c50063e22ee448f4046175fcf", func := "causeway/causewaylaw09.CipherOnce", spec := "cipherOnce", inPlace := ["math/bits.Add64"], unfollowed := true, recurses := true, apart := false }
def CipherOnceSaid : Prop := cipherOnceRow.holds Try.pinned (OpenSpec.ofChange cipherOnceSpec)

/-- ITS FALSE NEIGHBOUR: 'it returns false'. Refute it at one input. -/
def cipherOnceWrong : ChangeSpec := { name := "cipherOnce", fn := fun _ => fun
  | [d1, d2, d3] => { results := [.lit (.bool false)], args := [d1, d2, d3] }
  | _ => none }
def CipherOnceWrongFalsely : Prop := cipherOnceRow.holds Try.pinned (OpenSpec.ofChange cipherOnceWrong)

/-- 'causewaylaw09.CipherOrder': WHATEVER THE INPUT: true; the input reads as it did. -/
def cipherOrderSpec : ChangeSpec := { name := "cipherOrder", fn := fun _ => fun
  | [d1, d2] => { results := [.lit (.bool true)], args := [d1, d2] }
  | _ => none }
def cipherOrderRow : OpenClaim := { program := "ythbmlpiplfbehaa", sum := "520212e7f3727059ba1de95303d5b0f627696f0c50063e22ee448f4046175fcf", func := "causeway/causewaylaw09.CipherOrder", spec := "cipherOrder", inPlace := ["math/bits.Add64"], unfollowed := true, recurses := true, apart := false }
def CipherOrderSaid : Prop := cipherOrderRow.holds Try.pinned (OpenSpec.ofChange cipherOrderSpec)

/-- ITS FALSE NEIGHBOUR: 'it returns false'. Refute it at one input. -/
def cipherOrderWrong : ChangeSpec := { name := "cipherOrder", fn := fun _ => fun
  | [d1, d2] => { results := [.lit (.bool false)], args := [d1, d2] }
  | _ => none }
def CipherOrderWrongFalsely : Prop := cipherOrderRow.holds Try.pinned (OpenSpec.ofChange cipherOrderWrong)

/-- 'causewaylaw09.CipherAny': WHATEVER THE INPUT: true; the input reads as it did. -/
def cipherAnySpec : ChangeSpec := { name := "cipherAny", fn := fun _ => fun
  | [d1, d2, d3] => { results := [.lit (.bool true)], args := [d1, d2, d3] }
  | _ => none }
def cipherAnyRow : OpenClaim := { program := "ythbmlpiplfbehaa", sum := "520212e7f3727059ba1de95303d5b0f627696f0c50063e22ee448f4046175fcf", func := "causeway/causewaylaw09.CipherAny", spec := "cipherAny", inPlace := ["math/bits.Add64"], unfollowed := true, recurses := true, apart := false }
def CipherAnySaid : Prop := cipherAnyRow.holds Try.pinned (OpenSpec.ofChange cipherAnySpec)

/-- ITS FALSE NEIGHBOUR: 'it returns false'. Refute it at one input. -/
def cipherAnyWrong : ChangeSpec := { name := "cipherAny", fn := fun _ => fun
  | [d1, d2, d3] => { results := [.lit (.bool false)], args := [d1, d2, d3] }
  | _ => none }
def CipherAnyWrongFalsely : Prop := cipherAnyRow.holds Try.pinned (OpenSpec.ofChange cipherAnyWrong)

/-- 'causewaylaw09.CipherBoxes': WHATEVER THE INPUT: true; the input reads as it did. -/
def cipherBoxesSpec : ChangeSpec := { name := "cipherBoxes", fn := fun _ => fun
  | [d1, d2, d3] => { results := [.lit (.bool true)], args := [d1, d2, d3] }
  | _ => none }
def cipherBoxesRow : OpenClaim := { program := "ythbmlpiplfbehaa", sum := "520212e7f3727059ba1de95303d5b0f627696f0c50063e22ee448f4046175fcf", func := "causeway/causewaylaw09.CipherBoxes", spec := "cipherBoxes", inPlace := ["math/bits.Add64"], unfollowed := true, recurses := true, apart := false }
def CipherBoxesSaid : Prop := cipherBoxesRow.holds Try.pinned (OpenSpec.ofChange cipherBoxesSpec)

/-- ITS FALSE NEIGHBOUR: 'it returns false'. Refute it at one input. -/
def cipherBoxesWrong : ChangeSpec := { name := "cipherBoxes", fn := fun _ => fun
  | [d1, d2, d3] => { results := [.lit (.bool false)], args := [d1, d2, d3] }
  | _ => none }
def CipherBoxesWrongFalsely : Prop := cipherBoxesRow.holds Try.pinned (OpenSpec.ofChange cipherBoxesWrong)

/-- 'causewaylaw09.CipherSkips': WHATEVER THE INPUT: true; the input reads as it did. -/
def cipherSkipsSpec : ChangeSpec := { name := "cipherSkips", fn := fun _ => fun
  | [d1, d2] => { results := [.lit (.bool true)], args := [d1, d2] }
  | _ => none }
def cipherSkipsRow : OpenClaim := { program := "ythbmlpiplfbehaa", sum := "520212e7f3727059ba1de95303d5b0f627696f0c50063e22ee448f4046175fcf", func := "causeway/causewaylaw09.CipherSkips", spec := "cipherSkips", inPlace := ["math/bits.Add64"], unfollowed := true, recurses := true, apart := false }
def CipherSkipsSaid : Prop := cipherSkipsRow.holds Try.pinned (OpenSpec.ofChange cipherSkipsSpec)

/-- ITS FALSE NEIGHBOUR: 'it returns false'. Refute it at one input. -/
def cipherSkipsWrong : ChangeSpec := { name := "cipherSkips", fn := fun _ => fun
  | [d1, d2] => { results := [.lit (.bool false)], args := [d1, d2] }
  | _ => none }
def CipherSkipsWrongFalsely : Prop := cipherSkipsRow.holds Try.pinned (OpenSpec.ofChange cipherSkipsWrong)

/-- 'causewaylaw09.CipherRekey': WHATEVER THE INPUT: true; the input reads as it did. -/
def cipherRekeySpec : ChangeSpec := { name := "cipherRekey", fn := fun _ => fun
  | [d1, d2] => { results := [.lit (.bool true)], args := [d1, d2] }
  | _ => none }
def cipherRekeyRow : OpenClaim := { program := "ythbmlpiplfbehaa", sum := "520212e7f3727059ba1de95303d5b0f627696f0c50063e22ee448f4046175fcf", func := "causeway/causewaylaw09.CipherRekey", spec := "cipherRekey", inPlace := ["math/bits.Add64"], unfollowed := true, recurses := true, apart := false }
def CipherRekeySaid : Prop := cipherRekeyRow.holds Try.pinned (OpenSpec.ofChange cipherRekeySpec)

/-- ITS FALSE NEIGHBOUR: 'it returns false'. Refute it at one input. -/
def cipherRekeyWrong : ChangeSpec := { name := "cipherRekey", fn := fun _ => fun
  | [d1, d2] => { results := [.lit (.bool false)], args := [d1, d2] }
  | _ => none }
def CipherRekeyWrongFalsely : Prop := cipherRekeyRow.holds Try.pinned (OpenSpec.ofChange cipherRekeyWrong)

/-- 'causewaylaw09.CipherChanges': WHATEVER THE INPUT: true; the input reads as it did. -/
def cipherChangesSpec : ChangeSpec := { name := "cipherChanges", fn := fun _ => fun
  | [d1, d2, d3] => { results := [.lit (.bool true)], args := [d1, d2, d3] }
  | _ => none }
def cipherChangesRow : OpenClaim := { program := "ythbmlpiplfbehaa", sum := "520212e7f3727059ba1de95303d5b0f627696f0c50063e22ee448f4046175fcf", func := "causeway/causewaylaw09.CipherChanges", spec := "cipherChanges", inPlace := ["math/bits.Add64"], unfollowed := true, recurses := true, apart := false }
def CipherChangesSaid : Prop := cipherChangesRow.holds Try.pinned (OpenSpec.ofChange cipherChangesSpec)

/-- ITS FALSE NEIGHBOUR: 'it returns false'. Refute it at one input. -/
def cipherChangesWrong : ChangeSpec := { name := "cipherChanges", fn := fun _ => fun
  | [d1, d2, d3] => { results := [.lit (.bool false)], args := [d1, d2, d3] }
  | _ => none }
def CipherChangesWrongFalsely : Prop := cipherChangesRow.holds Try.pinned (OpenSpec.ofChange cipherChangesWrong)

/-- 'causewaylaw09.CipherPlays': WHATEVER THE INPUT: true; the input reads as it did. -/
def cipherPlaysSpec : ChangeSpec := { name := "cipherPlays", fn := fun _ => fun
  | [d1, d2] => { results := [.lit (.bool true)], args := [d1, d2] }
  | _ => none }
def cipherPlaysRow : OpenClaim := { program := "ythbmlpiplfbehaa", sum := "520212e7f3727059ba1de95303d5b0f627696f0c50063e22ee448f4046175fcf", func := "causeway/causewaylaw09.CipherPlays", spec := "cipherPlays", inPlace := ["math/bits.Add64"], unfollowed := true, recurses := true, apart := false }
def CipherPlaysSaid : Prop := cipherPlaysRow.holds Try.pinned (OpenSpec.ofChange cipherPlaysSpec)

/-- ITS FALSE NEIGHBOUR: 'it returns false'. Refute it at one input. -/
def cipherPlaysWrong : ChangeSpec := { name := "cipherPlays", fn := fun _ => fun
  | [d1, d2] => { results := [.lit (.bool false)], args := [d1, d2] }
  | _ => none }
def CipherPlaysWrongFalsely : Prop := cipherPlaysRow.holds Try.pinned (OpenSpec.ofChange cipherPlaysWrong)

/-- 'causewaylaw09.CipherNames': WHATEVER THE INPUT: true; the input reads as it did. -/
def cipherNamesSpec : ChangeSpec := { name := "cipherNames", fn := fun _ => fun
  | [] => { results := [.lit (.bool true)], args := [] }
  | _ => none }
def cipherNamesRow : OpenClaim := { program := "ythbmlpiplfbehaa", sum := "520212e7f3727059ba1de95303d5b0f627696f0c50063e22ee448f4046175fcf", func := "causeway/causewaylaw09.CipherNames", spec := "cipherNames", inPlace := ["math/bits.Add64"], unfollowed := true, recurses := true, apart := false }
def CipherNamesSaid : Prop := cipherNamesRow.holds Try.pinned (OpenSpec.ofChange cipherNamesSpec)

/-- ITS FALSE NEIGHBOUR: 'it returns false'. Refute it at one input. -/
def cipherNamesWrong : ChangeSpec := { name := "cipherNames", fn := fun _ => fun
  | [] => { results := [.lit (.bool false)], args := [] }
  | _ => none }
def CipherNamesWrongFalsely : Prop := cipherNamesRow.holds Try.pinned (OpenSpec.ofChange cipherNamesWrong)

/- THE SECOND FORM. 'bulk': how many values and letters a reading holds, each counted each time it is reached (what is shared counts as often as it is met; a slice's spare places count too). A statement '..UptoSaid' is the law's where the arguments, and the package variables that the reading takes, are together of bulk at most 1048576: NARROWER than '..Said'. Prove '..Said' where nothing that the law and all that it calls make is longer than what came in: it says more and counts as full. Else prove '..UptoSaid'. A law counts once. -/
mutual
def uptoBulk {H : Type} : DataW H → Nat
  | .lit (.string bytes) => bytes.length + 1
  | .lit _ => 1
  | .nil => 1
  | .ptr d => uptoBulk d + 1
  | .slice elems spare => uptoBulkAll elems + uptoBulkAll spare + 1
  | .agg parts => uptoBulkAll parts + 1
  | .iface _ d => uptoBulk d + 1
  | .map entries => uptoBulkEntries entries + 1
  | .held _ => 1
def uptoBulkAll {H : Type} : List (DataW H) → Nat
  | [] => 0
  | d :: r => uptoBulk d + uptoBulkAll r
def uptoBulkEntries {H : Type} : List (Lit × DataW H) → Nat
  | [] => 0
  | x :: r => uptoBulkEntry x + uptoBulkEntries r
def uptoBulkEntry {H : Type} : Lit × DataW H → Nat
  | (.string bytes, d) => bytes.length + uptoBulk d + 1
  | (_, d) => uptoBulk d + 1
 end
def uptoSmall : (H : Type) → List (DataW H) → Bool := fun _ ds => decide (uptoBulkAll ds ≤ 1048576)
def OpenSpec.upto (s : _root_.Go.ChangeSpec) : _root_.Go.OpenSpec := { _root_.Go.OpenSpec.ofChange s with cond := some uptoSmall }

/-- 'causewaylaw09.CipherOnce', WHERE WHAT IT READS IS OF BULK AT MOST 1048576: true; the input reads as it did. -/
def cipherOnceUptoRow : OpenClaim := { program := "ythbmlpiplfbehaa", sum := "520212e7f3727059ba1de95303d5b0f627696f0c50063e22ee448f4046175fcf", func := "causeway/causewaylaw09.CipherOnce", spec := "cipherOnce", inPlace := ["math/bits.Add64"], unfollowed := true, recurses := true, apart := false, narrowed := true }
def CipherOnceUptoSaid : Prop := cipherOnceUptoRow.holds Try.pinned (OpenSpec.upto cipherOnceSpec)

/-- 'causewaylaw09.CipherOrder', WHERE WHAT IT READS IS OF BULK AT MOST 1048576: true; the input reads as it did. -/
def cipherOrderUptoRow : OpenClaim := { program := "ythbmlpiplfbehaa", sum := "520212e7f3727059ba1de95303d5b0f627696f0c50063e22ee448f4046175fcf", func := "causeway/causewaylaw09.CipherOrder", spec := "cipherOrder", inPlace := ["math/bits.Add64"], unfollowed := true, recurses := true, apart := false, narrowed := true }
def CipherOrderUptoSaid : Prop := cipherOrderUptoRow.holds Try.pinned (OpenSpec.upto cipherOrderSpec)

/-- 'causewaylaw09.CipherAny', WHERE WHAT IT READS IS OF BULK AT MOST 1048576: true; the input reads as it did. -/
def cipherAnyUptoRow : OpenClaim := { program := "ythbmlpiplfbehaa", sum := "520212e7f3727059ba1de95303d5b0f627696f0c50063e22ee448f4046175fcf", func := "causeway/causewaylaw09.CipherAny", spec := "cipherAny", inPlace := ["math/bits.Add64"], unfollowed := true, recurses := true, apart := false, narrowed := true }
def CipherAnyUptoSaid : Prop := cipherAnyUptoRow.holds Try.pinned (OpenSpec.upto cipherAnySpec)

/-- 'causewaylaw09.CipherBoxes', WHERE WHAT IT READS IS OF BULK AT MOST 1048576: true; the input reads as it did. -/
def cipherBoxesUptoRow : OpenClaim := { program := "ythbmlpiplfbehaa", sum := "520212e7f3727059ba1de95303d5b0f627696f0c50063e22ee448f4046175fcf", func := "causeway/causewaylaw09.CipherBoxes", spec := "cipherBoxes", inPlace := ["math/bits.Add64"], unfollowed := true, recurses := true, apart := false, narrowed := true }
def CipherBoxesUptoSaid : Prop := cipherBoxesUptoRow.holds Try.pinned (OpenSpec.upto cipherBoxesSpec)

/-- 'causewaylaw09.CipherSkips', WHERE WHAT IT READS IS OF BULK AT MOST 1048576: true; the input reads as it did. -/
def cipherSkipsUptoRow : OpenClaim := { program := "ythbmlpiplfbehaa", sum := "520212e7f3727059ba1de95303d5b0f627696f0c50063e22ee448f4046175fcf", func := "causeway/causewaylaw09.CipherSkips", spec := "cipherSkips", inPlace := ["math/bits.Add64"], unfollowed := true, recurses := true, apart := false, narrowed := true }
def CipherSkipsUptoSaid : Prop := cipherSkipsUptoRow.holds Try.pinned (OpenSpec.upto cipherSkipsSpec)

/-- 'causewaylaw09.CipherRekey', WHERE WHAT IT READS IS OF BULK AT MOST 1048576: true; the input reads as it did. -/
def cipherRekeyUptoRow : OpenClaim := { program := "ythbmlpiplfbehaa", sum := "520212e7f3727059ba1de95303d5b0f627696f0c50063e22ee448f4046175fcf", func := "causeway/causewaylaw09.CipherRekey", spec := "cipherRekey", inPlace := ["math/bits.Add64"], unfollowed := true, recurses := true, apart := false, narrowed := true }
def CipherRekeyUptoSaid : Prop := cipherRekeyUptoRow.holds Try.pinned (OpenSpec.upto cipherRekeySpec)

/-- 'causewaylaw09.CipherChanges', WHERE WHAT IT READS IS OF BULK AT MOST 1048576: true; the input reads as it did. -/
def cipherChangesUptoRow : OpenClaim := { program := "ythbmlpiplfbehaa", sum := "520212e7f3727059ba1de95303d5b0f627696f0c50063e22ee448f4046175fcf", func := "causeway/causewaylaw09.CipherChanges", spec := "cipherChanges", inPlace := ["math/bits.Add64"], unfollowed := true, recurses := true, apart := false, narrowed := true }
def CipherChangesUptoSaid : Prop := cipherChangesUptoRow.holds Try.pinned (OpenSpec.upto cipherChangesSpec)

/-- 'causewaylaw09.CipherPlays', WHERE WHAT IT READS IS OF BULK AT MOST 1048576: true; the input reads as it did. -/
def cipherPlaysUptoRow : OpenClaim := { program := "ythbmlpiplfbehaa", sum := "520212e7f3727059ba1de95303d5b0f627696f0c50063e22ee448f4046175fcf", func := "causeway/causewaylaw09.CipherPlays", spec := "cipherPlays", inPlace := ["math/bits.Add64"], unfollowed := true, recurses := true, apart := false, narrowed := true }
def CipherPlaysUptoSaid : Prop := cipherPlaysUptoRow.holds Try.pinned (OpenSpec.upto cipherPlaysSpec)

/-- 'causewaylaw09.CipherNames', WHERE WHAT IT READS IS OF BULK AT MOST 1048576: true; the input reads as it did. -/
def cipherNamesUptoRow : OpenClaim := { program := "ythbmlpiplfbehaa", sum := "520212e7f3727059ba1de95303d5b0f627696f0c50063e22ee448f4046175fcf", func := "causeway/causewaylaw09.CipherNames", spec := "cipherNames", inPlace := ["math/bits.Add64"], unfollowed := true, recurses := true, apart := false, narrowed := true }
def CipherNamesUptoSaid : Prop := cipherNamesUptoRow.holds Try.pinned (OpenSpec.upto cipherNamesSpec)

end Rows
end Go.Proofs.Ythbmlpiplfbehaa
