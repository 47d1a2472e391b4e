/-
  Two arrays of integers, held against each other; an array's element by its index.
-/
import Derived.Test.YthbmlpiplfbehaaGrow
import Derived.Laws.StructEq
namespace Go.Proofs.Ythbmlpiplfbehaa
set_option linter.unusedSimpArgs false
set_option linter.unusedVariables false
open Go Go.RowKit

section
variable {P : Program} (w : World)

theorem run_part_int (e : TypeId) (d : TypeDesc) (hu : P.underlying e = some d) (hd : (match d with | .struct _ | .array _ _ => true | _ => false) = false) (k : IntKind) (L : List Int) (i : Nat) (hi : i < L.length) :
    (part e (ints k L) i).run P w = .ok (.int k (gi L i)) w := by
  unfold part
  have hagg : (isAgg e).run P w = .ok false w := by
    unfold isAgg
    rw [Sem.run_bind, run_underlying hu w]
    cases d <;> simp_all
  simp [Sem.run_bind, hagg, ints_get hi]

theorem run_index_ints (t e : TypeId) (n : Nat) (k' : IntKind) (hu : P.underlying t = some (.array n e)) (hue : P.underlying e = some (.int k')) (hs : (P.info? e).map (·.size) = some 1)
    (k : IntKind) (L : List Int) (hL : L.length = n) (j : IntKind) (i : Int) (h0 : 0 ≤ i) (h1 : i < n) :
    (Instr.index t (.agg (ints k L)) (.int j i)).run P w = .ok (.int k (gi L i.toNat)) w := by
  cases hq : P.info? e with
  | none => simp [hq] at hs
  | some inf =>
    have hs' : inf.size = 1 := by simpa [hq] using hs
    have hp := run_part_int (P := P) w e (.int k') hue rfl k L i.toNat (by omega)
    simp [Instr.index, asIntOf, Sem.run_bind, run_underlying hu, h0, h1, sizeOf, typeInfo, hq, hs', hp]

end
end Go.Proofs.Ythbmlpiplfbehaa
