/-
  No cell of these rows narrows 'for every input' (looked for: loops, veiled, ifaces, maps, wideKeys, modest, calm, conditions, laid).
  DERIVED. THE GIVEN ROWS OF THIS SEAT. 4 by the template 'for every input the law returns true; each argument reads behind the call as it read before'; 0 by the template 'total and deterministic' (their statements: YtdjecenggngdjaaTotals.lean).
  GIVEN WITH THE SEED: the statements are not yours to turn. If you find one false, say at which input.
  Laid BY PROGRAM, IN A SANDBOX (cutbox-rows.mjs): the forced cells as the released guide's own fill.sh prints them over the translation 1cdd0757d9872eee… (all of the seat's roots in one cut). By AI agents, Wed Nov 11 2026. No macro, syntax, notation, axiom, sorry.
-/
import Derived.Test.YtdjecenggngdjaaChecked
import GoSem.Claim
import GoSem.ClaimJoined
import GoSem.ClaimMapViews
import Derived.JoinedTies
import Derived.KernelRfl
namespace Go.Proofs.Ytdjecenggngdjaa
/- THE CELL 'sum', in the pinned program and in every row, IS THE sha256 OF THE DUMP (.gsa) THAT YtdjecenggngdjaaProg.lean LOADS. Nothing in Lean hashes anything: it is a label: what it is worth is what the hold of that sum in a sandbox is worth. -/
noncomputable def Try.pinned : Pinned := { name := "ytdjecenggngdjaa", sum := "1cdd0757d9872eeedfd9758d0cb9a78cd31881767a7dd79163597b47c3c51c71", checked := Try.checked }
namespace Rows
def none {H : Type} : Left H := { results := [], args := [] }

/-- 'causewaylaw10.HandTurns': WHATEVER THE INPUT: true; the input reads as it did. -/
def handTurnsSpec : ChangeSpec := { name := "handTurns", fn := fun _ => fun
  | [d] => { results := [.lit (.bool true)], args := [d] }
  | _ => none }
def handTurnsRow : OpenClaim := { program := "ytdjecenggngdjaa", sum := "1cdd0757d9872eeedfd9758d0cb9a78cd31881767a7dd79163597b47c3c51c71", func := "causeway/causewaylaw10.HandTurns", spec := "handTurns", inPlace := ["math/bits.Add64"], unfollowed := true, recurses := true, apart := false }
def HandTurnsSaid : Prop := handTurnsRow.holds Try.pinned (OpenSpec.ofChange handTurnsSpec)

/-- ITS FALSE NEIGHBOUR: 'it returns false'. Refute it at one input. -/
def handTurnsWrong : ChangeSpec := { name := "handTurns", fn := fun _ => fun
  | [d] => { results := [.lit (.bool false)], args := [d] }
  | _ => none }
def HandTurnsWrongFalsely : Prop := handTurnsRow.holds Try.pinned (OpenSpec.ofChange handTurnsWrong)

/-- 'causewaylaw10.HandLengths': WHATEVER THE INPUT: true; the input reads as it did. -/
def handLengthsSpec : ChangeSpec := { name := "handLengths", fn := fun _ => fun
  | [d1, d2] => { results := [.lit (.bool true)], args := [d1, d2] }
  | _ => none }
def handLengthsRow : OpenClaim := { program := "ytdjecenggngdjaa", sum := "1cdd0757d9872eeedfd9758d0cb9a78cd31881767a7dd79163597b47c3c51c71", func := "causeway/causewaylaw10.HandLengths", spec := "handLengths", inPlace := ["math/bits.Add64"], unfollowed := true, recurses := true, apart := false }
def HandLengthsSaid : Prop := handLengthsRow.holds Try.pinned (OpenSpec.ofChange handLengthsSpec)

/-- ITS FALSE NEIGHBOUR: 'it returns false'. Refute it at one input. -/
def handLengthsWrong : ChangeSpec := { name := "handLengths", fn := fun _ => fun
  | [d1, d2] => { results := [.lit (.bool false)], args := [d1, d2] }
  | _ => none }
def HandLengthsWrongFalsely : Prop := handLengthsRow.holds Try.pinned (OpenSpec.ofChange handLengthsWrong)

/-- 'causewaylaw10.HandOthers': WHATEVER THE INPUT: true; the input reads as it did. -/
def handOthersSpec : ChangeSpec := { name := "handOthers", fn := fun _ => fun
  | [] => { results := [.lit (.bool true)], args := [] }
  | _ => none }
def handOthersRow : OpenClaim := { program := "ytdjecenggngdjaa", sum := "1cdd0757d9872eeedfd9758d0cb9a78cd31881767a7dd79163597b47c3c51c71", func := "causeway/causewaylaw10.HandOthers", spec := "handOthers", inPlace := ["math/bits.Add64"], unfollowed := true, recurses := true, apart := false }
def HandOthersSaid : Prop := handOthersRow.holds Try.pinned (OpenSpec.ofChange handOthersSpec)

/-- ITS FALSE NEIGHBOUR: 'it returns false'. Refute it at one input. -/
def handOthersWrong : ChangeSpec := { name := "handOthers", fn := fun _ => fun
  | [] => { results := [.lit (.bool false)], args := [] }
  | _ => none }
def HandOthersWrongFalsely : Prop := handOthersRow.holds Try.pinned (OpenSpec.ofChange handOthersWrong)

/-- 'causewaylaw10.HandPoints': WHATEVER THE INPUT: true; the input reads as it did. -/
def handPointsSpec : ChangeSpec := { name := "handPoints", fn := fun _ => fun
  | [d1, d2] => { results := [.lit (.bool true)], args := [d1, d2] }
  | _ => none }
def handPointsRow : OpenClaim := { program := "ytdjecenggngdjaa", sum := "1cdd0757d9872eeedfd9758d0cb9a78cd31881767a7dd79163597b47c3c51c71", func := "causeway/causewaylaw10.HandPoints", spec := "handPoints", inPlace := ["math/bits.Add64"], unfollowed := true, recurses := true, apart := false }
def HandPointsSaid : Prop := handPointsRow.holds Try.pinned (OpenSpec.ofChange handPointsSpec)

/-- ITS FALSE NEIGHBOUR: 'it returns false'. Refute it at one input. -/
def handPointsWrong : ChangeSpec := { name := "handPoints", fn := fun _ => fun
  | [d1, d2] => { results := [.lit (.bool false)], args := [d1, d2] }
  | _ => none }
def HandPointsWrongFalsely : Prop := handPointsRow.holds Try.pinned (OpenSpec.ofChange handPointsWrong)

/- THE SECOND FORM. 'bulk': how many values and letters a reading holds, each counted each time it is reached (what is shared counts as often as it is met; a slice's spare places count too). A statement '..UptoSaid' is the law's where the arguments, and the package variables that the reading takes, are together of bulk at most 1048576: NARROWER than '..Said'. Prove '..Said' where nothing that the law and all that it calls make is longer than what came in: it says more and counts as full. Else prove '..UptoSaid'. A law counts once. -/
mutual
def uptoBulk {H : Type} : DataW H → Nat
  | .lit (.string bytes) => bytes.length + 1
  | .lit _ => 1
  | .nil => 1
  | .ptr d => uptoBulk d + 1
  | .slice elems spare => uptoBulkAll elems + uptoBulkAll spare + 1
  | .agg parts => uptoBulkAll parts + 1
  | .iface _ d => uptoBulk d + 1
  | .map entries => uptoBulkEntries entries + 1
  | .held _ => 1
def uptoBulkAll {H : Type} : List (DataW H) → Nat
  | [] => 0
  | d :: r => uptoBulk d + uptoBulkAll r
def uptoBulkEntries {H : Type} : List (Lit × DataW H) → Nat
  | [] => 0
  | x :: r => uptoBulkEntry x + uptoBulkEntries r
def uptoBulkEntry {H : Type} : Lit × DataW H → Nat
  | (.string bytes, d) => bytes.length + uptoBulk d + 1
  | (_, d) => uptoBulk d + 1
 end
def uptoSmall : (H : Type) → List (DataW H) → Bool := fun _ ds => decide (uptoBulkAll ds ≤ 1048576)
def OpenSpec.upto (s : _root_.Go.ChangeSpec) : _root_.Go.OpenSpec := { _root_.Go.OpenSpec.ofChange s with cond := some uptoSmall }

/-- 'causewaylaw10.HandTurns', WHERE WHAT IT READS IS OF BULK AT MOST 1048576: true; the input reads as it did. -/
def handTurnsUptoRow : OpenClaim := { program := "ytdjecenggngdjaa", sum := "1cdd0757d9872eeedfd9758d0cb9a78cd31881767a7dd79163597b47c3c51c71", func := "causeway/causewaylaw10.HandTurns", spec := "handTurns", inPlace := ["math/bits.Add64"], unfollowed := true, recurses := true, apart := false, narrowed := true }
def HandTurnsUptoSaid : Prop := handTurnsUptoRow.holds Try.pinned (OpenSpec.upto handTurnsSpec)

/-- 'causewaylaw10.HandLengths', WHERE WHAT IT READS IS OF BULK AT MOST 1048576: true; the input reads as it did. -/
def handLengthsUptoRow : OpenClaim := { program := "ytdjecenggngdjaa", sum := "1cdd0757d9872eeedfd9758d0cb9a78cd31881767a7dd79163597b47c3c51c71", func := "causeway/causewaylaw10.HandLengths", spec := "handLengths", inPlace := ["math/bits.Add64"], unfollowed := true, recurses := true, apart := false, narrowed := true }
def HandLengthsUptoSaid : Prop := handLengthsUptoRow.holds Try.pinned (OpenSpec.upto handLengthsSpec)

/-- 'causewaylaw10.HandOthers', WHERE WHAT IT READS IS OF BULK AT MOST 1048576: true; the input reads as it did. -/
def handOthersUptoRow : OpenClaim := { program := "ytdjecenggngdjaa", sum := "1cdd0757d9872eeedfd9758d0cb9a78cd31881767a7dd79163597b47c3c51c71", func := "causeway/causewaylaw10.HandOthers", spec := "handOthers", inPlace := ["math/bits.Add64"], unfollowed := true, recurses := true, apart := false, narrowed := true }
def HandOthersUptoSaid : Prop := handOthersUptoRow.holds Try.pinned (OpenSpec.upto handOthersSpec)

/-- 'causewaylaw10.HandPoints', WHERE WHAT IT READS IS OF BULK AT MOST 1048576: true; the input reads as it did. -/
def handPointsUptoRow : OpenClaim := { program := "ytdjecenggngdjaa", sum := "1cdd0757d9872eeedfd9758d0cb9a78cd31881767a7dd79163597b47c3c51c71", func := "causeway/causewaylaw10.HandPoints", spec := "handPoints", inPlace := ["math/bits.Add64"], unfollowed := true, recurses := true, apart := false, narrowed := true }
def HandPointsUptoSaid : Prop := handPointsUptoRow.holds Try.pinned (OpenSpec.upto handPointsSpec)

end Rows
end Go.Proofs.Ytdjecenggngdjaa
