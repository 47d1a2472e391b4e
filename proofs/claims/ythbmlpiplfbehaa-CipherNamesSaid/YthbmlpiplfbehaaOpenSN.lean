/-
  Arguments that are slices of slices of bytes: opened.
  Arguments that are slices of integers: opened.
  Arguments that are slices of slices of bytes, or slices of structs of two numbers and two slices: opened, with lengths that a machine has.
  Arguments that are slices of structs of two numbers and two slices: opened.
-/
import Derived.Test.YthbmlpiplfbehaaOpenS
import Derived.Lib.SmallJoins
namespace Go.Proofs.Ythbmlpiplfbehaa
set_option linter.unusedSimpArgs false
set_option linter.unusedVariables false
open Go Go.ChangeShapes Go.WideShapes Go.ChangeAt Go.RowKit Sp M

section
variable {H : Type} {enc : TypeId × Value → H} {P : Program} {w : World} {base : Nat} {spare : Nat → Bool} {held : Bool}
end
end Go.Proofs.Ythbmlpiplfbehaa

namespace Go.Proofs.Ythbmlpiplfbehaa
set_option linter.unusedSimpArgs false
set_option linter.unusedVariables false
open Go Go.ChangeShapes Go.WideShapes Go.ChangeAt Go.RowKit Sp M
/-- A slice of integers. -/
structure SlI (k : IntKind) (w : World) (p : Option Addr) (n c : Nat) (L : List Int) : Prop where
  len : L.length = n
  at_ : 0 < n → ∃ b off A T fz, p = some ⟨b, off, none⟩ ∧ w.heap[b]? = some (.cells A T fz) ∧ ∀ j, j < n → A[off + j]? = some (.int k (gi L j))
theorem SlI.old {k : IntKind} {w w' : World} {p : Option Addr} {n c : Nat} {L : List Int} (h : SlI k w p n c L) (hb : Below w.heap.size w w') : SlI k w' p n c L :=
  ⟨h.len, fun h0 => by
    obtain ⟨b, off, A, T, fz, rfl, hh, hA⟩ := h.at_ h0
    exact ⟨b, off, A, T, fz, rfl, by rw [hb.block _ (Array.getElem?_eq_some_iff.1 hh).1]; exact hh, hA⟩⟩
section
variable {H : Type} {enc : TypeId × Value → H} {P : Program} {w : World} {base : Nat} {spare : Nat → Bool} {held : Bool}
end
end Go.Proofs.Ythbmlpiplfbehaa

namespace Go.Proofs.Ythbmlpiplfbehaa
set_option linter.unusedSimpArgs false
set_option linter.unusedVariables false
open Go Go.ChangeShapes Go.WideShapes Go.ChangeAt Go.RowKit Sp M
/-- Two numbers and two slices. -/
structure DoV where
  (k m : Int) (p q : Option Addr) (la ca lb cb : Nat) (A B : List Int)
def DoV.row (d : DoV) : Array Value := #[.int .i64 d.k, .int .i64 d.m, .slice d.p d.la d.ca, .slice d.q d.lb d.cb]
def DoV.ok (w : World) (d : DoV) : Prop := Sl w d.p d.la d.ca d.A ∧ Sl w d.q d.lb d.cb d.B ∧ Byts d.A ∧ Byts d.B ∧ d.la ≤ 140737488351232 ∧ d.lb ≤ 140737488351232 ∧ (Lit.int .i64 d.k).wf = true ∧ (Lit.int .i64 d.m).wf = true
/-- A slice of such. -/
structure Dos (w : World) (p : Option Addr) (n c : Nat) (D : Nat → DoV) : Prop where
  at_ : 0 < n → ∃ b off X T fz, p = some ⟨b, off, none⟩ ∧ w.heap[b]? = some (.cells X T fz) ∧ ∀ i, i < n → off + i * 4 + 4 ≤ X.size ∧ X.extract (off + i * 4) (off + i * 4 + 4) = (D i).row
  el : ∀ i, i < n → (D i).ok w
section
variable {H : Type} {enc : TypeId × Value → H} {P : Program} {w : World} {base : Nat} {spare : Nat → Bool} {held : Bool}
end
end Go.Proofs.Ythbmlpiplfbehaa

namespace Go.Proofs.Ythbmlpiplfbehaa
set_option linter.unusedSimpArgs false
set_option linter.unusedVariables false
open Go Go.ChangeShapes Go.WideShapes Go.ChangeAt Go.RowKit Sp M
section
variable {H : Type} {enc : TypeId × Value → H} {P : Program} {w : World} {base : Nat} {spare : Nat → Bool} {held : Bool}
end
end Go.Proofs.Ythbmlpiplfbehaa
