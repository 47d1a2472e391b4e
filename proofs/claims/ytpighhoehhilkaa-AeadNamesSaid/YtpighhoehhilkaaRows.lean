/-
  No cell of these rows narrows 'for every input' (looked for: loops, veiled, ifaces, maps, wideKeys, modest, calm, conditions, laid).
  DERIVED. THE GIVEN ROWS OF THIS SEAT. 9 by the template 'for every input the law returns true; each argument reads behind the call as it read before'; 0 by the template 'total and deterministic' (their statements: YtpighhoehhilkaaTotals.lean).
  GIVEN WITH THE SEED: the statements are not yours to turn. If you find one false, say at which input.
  Laid BY PROGRAM, IN A SANDBOX (cutbox-rows.mjs): the forced cells as the released guide's own fill.sh prints them over the translation debb5353fb46a377… (all of the seat's roots in one cut). By AI agents, Wed Nov 11 2026. No macro, syntax, notation, axiom, sorry.
-/
import Derived.Test.YtpighhoehhilkaaChecked
import GoSem.Claim
import GoSem.ClaimJoined
import GoSem.ClaimMapViews
import Derived.JoinedTies
import Derived.KernelRfl
namespace Go.Proofs.Ytpighhoehhilkaa
/- THE CELL 'sum', in the pinned program and in every row, IS THE sha256 OF THE DUMP (.gsa) THAT YtpighhoehhilkaaProg.lean LOADS. Nothing in Lean hashes anything: it is a label: what it is worth is what the hold of that sum in a sandbox is worth. -/
noncomputable def Try.pinned : Pinned := { name := "ytpighhoehhilkaa", sum := "debb5353fb46a3776a91f9c9663df17810523cddd62461c05787a764386311f3", checked := Try.checked }
namespace Rows
def none {H : Type} : Left H := { results := [], args := [] }

/-- 'causewaylaw06.AeadSeals': WHATEVER THE INPUT: true; the input reads as it did. -/
def aeadSealsSpec : ChangeSpec := { name := "aeadSeals", fn := fun _ => fun
  | [d] => { results := [.lit (.bool true)], args := [d] }
  | _ => none }
def aeadSealsRow : OpenClaim := { program := "ytpighhoehhilkaa", sum := "debb5353fb46a3776a91f9c9663df17810523cddd62461c05787a764386311f3", func := "causeway/causewaylaw06.AeadSeals", spec := "aeadSeals", inPlace := ["math/bits.Add64"], apart := false }
def AeadSealsSaid : Prop := aeadSealsRow.holds Try.pinned (OpenSpec.ofChange aeadSealsSpec)

/-- ITS FALSE NEIGHBOUR: 'it returns false'. Refute it at one input. -/
def aeadSealsWrong : ChangeSpec := { name := "aeadSeals", fn := fun _ => fun
  | [d] => { results := [.lit (.bool false)], args := [d] }
  | _ => none }
def AeadSealsWrongFalsely : Prop := aeadSealsRow.holds Try.pinned (OpenSpec.ofChange aeadSealsWrong)

/-- 'causewaylaw06.AeadParts': WHATEVER THE INPUT: true; the input reads as it did. -/
def aeadPartsSpec : ChangeSpec := { name := "aeadParts", fn := fun _ => fun
  | [d] => { results := [.lit (.bool true)], args := [d] }
  | _ => none }
def aeadPartsRow : OpenClaim := { program := "ytpighhoehhilkaa", sum := "debb5353fb46a3776a91f9c9663df17810523cddd62461c05787a764386311f3", func := "causeway/causewaylaw06.AeadParts", spec := "aeadParts", inPlace := ["math/bits.Add64"], apart := false }
def AeadPartsSaid : Prop := aeadPartsRow.holds Try.pinned (OpenSpec.ofChange aeadPartsSpec)

/-- ITS FALSE NEIGHBOUR: 'it returns false'. Refute it at one input. -/
def aeadPartsWrong : ChangeSpec := { name := "aeadParts", fn := fun _ => fun
  | [d] => { results := [.lit (.bool false)], args := [d] }
  | _ => none }
def AeadPartsWrongFalsely : Prop := aeadPartsRow.holds Try.pinned (OpenSpec.ofChange aeadPartsWrong)

/-- 'causewaylaw06.AeadTexts': WHATEVER THE INPUT: true; the input reads as it did. -/
def aeadTextsSpec : ChangeSpec := { name := "aeadTexts", fn := fun _ => fun
  | [d1, d2] => { results := [.lit (.bool true)], args := [d1, d2] }
  | _ => none }
def aeadTextsRow : OpenClaim := { program := "ytpighhoehhilkaa", sum := "debb5353fb46a3776a91f9c9663df17810523cddd62461c05787a764386311f3", func := "causeway/causewaylaw06.AeadTexts", spec := "aeadTexts", inPlace := ["math/bits.Add64"], apart := false }
def AeadTextsSaid : Prop := aeadTextsRow.holds Try.pinned (OpenSpec.ofChange aeadTextsSpec)

/-- ITS FALSE NEIGHBOUR: 'it returns false'. Refute it at one input. -/
def aeadTextsWrong : ChangeSpec := { name := "aeadTexts", fn := fun _ => fun
  | [d1, d2] => { results := [.lit (.bool false)], args := [d1, d2] }
  | _ => none }
def AeadTextsWrongFalsely : Prop := aeadTextsRow.holds Try.pinned (OpenSpec.ofChange aeadTextsWrong)

/-- 'causewaylaw06.AeadNumbers': WHATEVER THE INPUT: true; the input reads as it did. -/
def aeadNumbersSpec : ChangeSpec := { name := "aeadNumbers", fn := fun _ => fun
  | [d1, d2] => { results := [.lit (.bool true)], args := [d1, d2] }
  | _ => none }
def aeadNumbersRow : OpenClaim := { program := "ytpighhoehhilkaa", sum := "debb5353fb46a3776a91f9c9663df17810523cddd62461c05787a764386311f3", func := "causeway/causewaylaw06.AeadNumbers", spec := "aeadNumbers", inPlace := ["math/bits.Add64"], apart := false }
def AeadNumbersSaid : Prop := aeadNumbersRow.holds Try.pinned (OpenSpec.ofChange aeadNumbersSpec)

/-- ITS FALSE NEIGHBOUR: 'it returns false'. Refute it at one input. -/
def aeadNumbersWrong : ChangeSpec := { name := "aeadNumbers", fn := fun _ => fun
  | [d1, d2] => { results := [.lit (.bool false)], args := [d1, d2] }
  | _ => none }
def AeadNumbersWrongFalsely : Prop := aeadNumbersRow.holds Try.pinned (OpenSpec.ofChange aeadNumbersWrong)

/-- 'causewaylaw06.AeadOpens': WHATEVER THE INPUT: true; the input reads as it did. -/
def aeadOpensSpec : ChangeSpec := { name := "aeadOpens", fn := fun _ => fun
  | [d] => { results := [.lit (.bool true)], args := [d] }
  | _ => none }
def aeadOpensRow : OpenClaim := { program := "ytpighhoehhilkaa", sum := "debb5353fb46a3776a91f9c9663df17810523cddd62461c05787a764386311f3", func := "causeway/causewaylaw06.AeadOpens", spec := "aeadOpens", inPlace := ["math/bits.Add64"], apart := false }
def AeadOpensSaid : Prop := aeadOpensRow.holds Try.pinned (OpenSpec.ofChange aeadOpensSpec)

/-- ITS FALSE NEIGHBOUR: 'it returns false'. Refute it at one input. -/
def aeadOpensWrong : ChangeSpec := { name := "aeadOpens", fn := fun _ => fun
  | [d] => { results := [.lit (.bool false)], args := [d] }
  | _ => none }
def AeadOpensWrongFalsely : Prop := aeadOpensRow.holds Try.pinned (OpenSpec.ofChange aeadOpensWrong)

/-- 'causewaylaw06.AeadBack': WHATEVER THE INPUT: true; the input reads as it did. -/
def aeadBackSpec : ChangeSpec := { name := "aeadBack", fn := fun _ => fun
  | [d] => { results := [.lit (.bool true)], args := [d] }
  | _ => none }
def aeadBackRow : OpenClaim := { program := "ytpighhoehhilkaa", sum := "debb5353fb46a3776a91f9c9663df17810523cddd62461c05787a764386311f3", func := "causeway/causewaylaw06.AeadBack", spec := "aeadBack", inPlace := ["math/bits.Add64"], apart := false }
def AeadBackSaid : Prop := aeadBackRow.holds Try.pinned (OpenSpec.ofChange aeadBackSpec)

/-- ITS FALSE NEIGHBOUR: 'it returns false'. Refute it at one input. -/
def aeadBackWrong : ChangeSpec := { name := "aeadBack", fn := fun _ => fun
  | [d] => { results := [.lit (.bool false)], args := [d] }
  | _ => none }
def AeadBackWrongFalsely : Prop := aeadBackRow.holds Try.pinned (OpenSpec.ofChange aeadBackWrong)

/-- 'causewaylaw06.AeadOnce': WHATEVER THE INPUT: true; the input reads as it did. -/
def aeadOnceSpec : ChangeSpec := { name := "aeadOnce", fn := fun _ => fun
  | [d] => { results := [.lit (.bool true)], args := [d] }
  | _ => none }
def aeadOnceRow : OpenClaim := { program := "ytpighhoehhilkaa", sum := "debb5353fb46a3776a91f9c9663df17810523cddd62461c05787a764386311f3", func := "causeway/causewaylaw06.AeadOnce", spec := "aeadOnce", inPlace := ["math/bits.Add64"], apart := false }
def AeadOnceSaid : Prop := aeadOnceRow.holds Try.pinned (OpenSpec.ofChange aeadOnceSpec)

/-- ITS FALSE NEIGHBOUR: 'it returns false'. Refute it at one input. -/
def aeadOnceWrong : ChangeSpec := { name := "aeadOnce", fn := fun _ => fun
  | [d] => { results := [.lit (.bool false)], args := [d] }
  | _ => none }
def AeadOnceWrongFalsely : Prop := aeadOnceRow.holds Try.pinned (OpenSpec.ofChange aeadOnceWrong)

/-- 'causewaylaw06.AeadTag': WHATEVER THE INPUT: true; the input reads as it did. -/
def aeadTagSpec : ChangeSpec := { name := "aeadTag", fn := fun _ => fun
  | [d1, d2] => { results := [.lit (.bool true)], args := [d1, d2] }
  | _ => none }
def aeadTagRow : OpenClaim := { program := "ytpighhoehhilkaa", sum := "debb5353fb46a3776a91f9c9663df17810523cddd62461c05787a764386311f3", func := "causeway/causewaylaw06.AeadTag", spec := "aeadTag", inPlace := ["math/bits.Add64"], apart := false }
def AeadTagSaid : Prop := aeadTagRow.holds Try.pinned (OpenSpec.ofChange aeadTagSpec)

/-- ITS FALSE NEIGHBOUR: 'it returns false'. Refute it at one input. -/
def aeadTagWrong : ChangeSpec := { name := "aeadTag", fn := fun _ => fun
  | [d1, d2] => { results := [.lit (.bool false)], args := [d1, d2] }
  | _ => none }
def AeadTagWrongFalsely : Prop := aeadTagRow.holds Try.pinned (OpenSpec.ofChange aeadTagWrong)

/-- 'causewaylaw06.AeadNames': WHATEVER THE INPUT: true; the input reads as it did. -/
def aeadNamesSpec : ChangeSpec := { name := "aeadNames", fn := fun _ => fun
  | [] => { results := [.lit (.bool true)], args := [] }
  | _ => none }
def aeadNamesRow : OpenClaim := { program := "ytpighhoehhilkaa", sum := "debb5353fb46a3776a91f9c9663df17810523cddd62461c05787a764386311f3", func := "causeway/causewaylaw06.AeadNames", spec := "aeadNames", inPlace := ["math/bits.Add64"], apart := false }
def AeadNamesSaid : Prop := aeadNamesRow.holds Try.pinned (OpenSpec.ofChange aeadNamesSpec)

/-- ITS FALSE NEIGHBOUR: 'it returns false'. Refute it at one input. -/
def aeadNamesWrong : ChangeSpec := { name := "aeadNames", fn := fun _ => fun
  | [] => { results := [.lit (.bool false)], args := [] }
  | _ => none }
def AeadNamesWrongFalsely : Prop := aeadNamesRow.holds Try.pinned (OpenSpec.ofChange aeadNamesWrong)

/- THE SECOND FORM. 'bulk': how many values and letters a reading holds, each counted each time it is reached (what is shared counts as often as it is met; a slice's spare places count too). A statement '..UptoSaid' is the law's where the arguments, and the package variables that the reading takes, are together of bulk at most 1048576: NARROWER than '..Said'. Prove '..Said' where nothing that the law and all that it calls make is longer than what came in: it says more and counts as full. Else prove '..UptoSaid'. A law counts once. -/
mutual
def uptoBulk {H : Type} : DataW H → Nat
  | .lit (.string bytes) => bytes.length + 1
  | .lit _ => 1
  | .nil => 1
  | .ptr d => uptoBulk d + 1
  | .slice elems spare => uptoBulkAll elems + uptoBulkAll spare + 1
  | .agg parts => uptoBulkAll parts + 1
  | .iface _ d => uptoBulk d + 1
  | .map entries => uptoBulkEntries entries + 1
  | .held _ => 1
def uptoBulkAll {H : Type} : List (DataW H) → Nat
  | [] => 0
  | d :: r => uptoBulk d + uptoBulkAll r
def uptoBulkEntries {H : Type} : List (Lit × DataW H) → Nat
  | [] => 0
  | x :: r => uptoBulkEntry x + uptoBulkEntries r
def uptoBulkEntry {H : Type} : Lit × DataW H → Nat
  | (.string bytes, d) => bytes.length + uptoBulk d + 1
  | (_, d) => uptoBulk d + 1
 end
def uptoSmall : (H : Type) → List (DataW H) → Bool := fun _ ds => decide (uptoBulkAll ds ≤ 1048576)
def OpenSpec.upto (s : _root_.Go.ChangeSpec) : _root_.Go.OpenSpec := { _root_.Go.OpenSpec.ofChange s with cond := some uptoSmall }

/-- 'causewaylaw06.AeadSeals', WHERE WHAT IT READS IS OF BULK AT MOST 1048576: true; the input reads as it did. -/
def aeadSealsUptoRow : OpenClaim := { program := "ytpighhoehhilkaa", sum := "debb5353fb46a3776a91f9c9663df17810523cddd62461c05787a764386311f3", func := "causeway/causewaylaw06.AeadSeals", spec := "aeadSeals", inPlace := ["math/bits.Add64"], apart := false, narrowed := true }
def AeadSealsUptoSaid : Prop := aeadSealsUptoRow.holds Try.pinned (OpenSpec.upto aeadSealsSpec)

/-- 'causewaylaw06.AeadParts', WHERE WHAT IT READS IS OF BULK AT MOST 1048576: true; the input reads as it did. -/
def aeadPartsUptoRow : OpenClaim := { program := "ytpighhoehhilkaa", sum := "debb5353fb46a3776a91f9c9663df17810523cddd62461c05787a764386311f3", func := "causeway/causewaylaw06.AeadParts", spec := "aeadParts", inPlace := ["math/bits.Add64"], apart := false, narrowed := true }
def AeadPartsUptoSaid : Prop := aeadPartsUptoRow.holds Try.pinned (OpenSpec.upto aeadPartsSpec)

/-- 'causewaylaw06.AeadTexts', WHERE WHAT IT READS IS OF BULK AT MOST 1048576: true; the input reads as it did. -/
def aeadTextsUptoRow : OpenClaim := { program := "ytpighhoehhilkaa", sum := "debb5353fb46a3776a91f9c9663df17810523cddd62461c05787a764386311f3", func := "causeway/causewaylaw06.AeadTexts", spec := "aeadTexts", inPlace := ["math/bits.Add64"], apart := false, narrowed := true }
def AeadTextsUptoSaid : Prop := aeadTextsUptoRow.holds Try.pinned (OpenSpec.upto aeadTextsSpec)

/-- 'causewaylaw06.AeadNumbers', WHERE WHAT IT READS IS OF BULK AT MOST 1048576: true; the input reads as it did. -/
def aeadNumbersUptoRow : OpenClaim := { program := "ytpighhoehhilkaa", sum := "debb5353fb46a3776a91f9c9663df17810523cddd62461c05787a764386311f3", func := "causeway/causewaylaw06.AeadNumbers", spec := "aeadNumbers", inPlace := ["math/bits.Add64"], apart := false, narrowed := true }
def AeadNumbersUptoSaid : Prop := aeadNumbersUptoRow.holds Try.pinned (OpenSpec.upto aeadNumbersSpec)

/-- 'causewaylaw06.AeadOpens', WHERE WHAT IT READS IS OF BULK AT MOST 1048576: true; the input reads as it did. -/
def aeadOpensUptoRow : OpenClaim := { program := "ytpighhoehhilkaa", sum := "debb5353fb46a3776a91f9c9663df17810523cddd62461c05787a764386311f3", func := "causeway/causewaylaw06.AeadOpens", spec := "aeadOpens", inPlace := ["math/bits.Add64"], apart := false, narrowed := true }
def AeadOpensUptoSaid : Prop := aeadOpensUptoRow.holds Try.pinned (OpenSpec.upto aeadOpensSpec)

/-- 'causewaylaw06.AeadBack', WHERE WHAT IT READS IS OF BULK AT MOST 1048576: true; the input reads as it did. -/
def aeadBackUptoRow : OpenClaim := { program := "ytpighhoehhilkaa", sum := "debb5353fb46a3776a91f9c9663df17810523cddd62461c05787a764386311f3", func := "causeway/causewaylaw06.AeadBack", spec := "aeadBack", inPlace := ["math/bits.Add64"], apart := false, narrowed := true }
def AeadBackUptoSaid : Prop := aeadBackUptoRow.holds Try.pinned (OpenSpec.upto aeadBackSpec)

/-- 'causewaylaw06.AeadOnce', WHERE WHAT IT READS IS OF BULK AT MOST 1048576: true; the input reads as it did. -/
def aeadOnceUptoRow : OpenClaim := { program := "ytpighhoehhilkaa", sum := "debb5353fb46a3776a91f9c9663df17810523cddd62461c05787a764386311f3", func := "causeway/causewaylaw06.AeadOnce", spec := "aeadOnce", inPlace := ["math/bits.Add64"], apart := false, narrowed := true }
def AeadOnceUptoSaid : Prop := aeadOnceUptoRow.holds Try.pinned (OpenSpec.upto aeadOnceSpec)

/-- 'causewaylaw06.AeadTag', WHERE WHAT IT READS IS OF BULK AT MOST 1048576: true; the input reads as it did. -/
def aeadTagUptoRow : OpenClaim := { program := "ytpighhoehhilkaa", sum := "debb5353fb46a3776a91f9c9663df17810523cddd62461c05787a764386311f3", func := "causeway/causewaylaw06.AeadTag", spec := "aeadTag", inPlace := ["math/bits.Add64"], apart := false, narrowed := true }
def AeadTagUptoSaid : Prop := aeadTagUptoRow.holds Try.pinned (OpenSpec.upto aeadTagSpec)

/-- 'causewaylaw06.AeadNames', WHERE WHAT IT READS IS OF BULK AT MOST 1048576: true; the input reads as it did. -/
def aeadNamesUptoRow : OpenClaim := { program := "ytpighhoehhilkaa", sum := "debb5353fb46a3776a91f9c9663df17810523cddd62461c05787a764386311f3", func := "causeway/causewaylaw06.AeadNames", spec := "aeadNames", inPlace := ["math/bits.Add64"], apart := false, narrowed := true }
def AeadNamesUptoSaid : Prop := aeadNamesUptoRow.holds Try.pinned (OpenSpec.upto aeadNamesSpec)

end Rows
end Go.Proofs.Ytpighhoehhilkaa
