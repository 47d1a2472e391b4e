/-
  Strings in the walker: cuts, sums, comparisons. No conditions.
-/
import Derived.Test.YtmchkfganpgheaaSpM
import Derived.Laws.Concat
import Derived.Laws.Strings2
namespace Go.Proofs.Ytmchkfganpgheaa
set_option linter.unusedSimpArgs false
set_option linter.unusedVariables false
open Go Go.RowKit
namespace Sp
open M
variable {P : Program} {tab : Tab} {w0 : World} {mu : List Nat} {bs : Mem} {l l' : List Value} {ops : Array Oper} {rest : List Oper} {Q : ExitP}
variable {dst : Option Tmp} {op : Op} {ty : TypeId} {pos : String} {af : Array Edge} {gd : Option (Nat × Bool)}

theorem ValO.cutStr (ht : TabOk P tab) {t : TypeId} {x lo hi : Operand} {s : ByteArray} {k k' : IntKind} {i j : Int} {sz : Nat} (hl : look tab t = some (.str, sz)) (hx : evL l x = .string s)
    (hlo : evL l lo = .int k i) (hhi : evL l hi = .int k' j) (h0 : 0 ≤ i) (h1 : i ≤ j) (h2 : j ≤ s.size) :
    ValO P w0 mu bs l ⟨dst, .slice t x (some lo) (some hi) none, ty, pos, af, gd⟩ (.string (s.extract i.toNat j.toNat)) := by
  have hu := td_str (look_ok ht hl)
  refine ⟨M.growAt_pure fun w => ?_⟩
  unfold execOp
  have h := run_slice_string (P := P) (w := w) t s k k' i j hu h0 h1 h2
  have h3 := run_sliceAt_string (P := P) (w := w) t (.string s) (some (.int k i)) (some (.int k' j)) none hu
  simp only [evL_eq, hx, opt_eval, Option.map_some, Option.map_none, hlo, hhi, h3, h, Sem.run_bind, Result.andThen_ok, Sem.run_pure]
theorem ValO.addStr {t t' : TypeId} {x y : Operand} {a b : ByteArray} (hx : evL l x = .string a) (hy : evL l y = .string b) (ha : (a.size : Int) ≤ 8388608) (hb : (b.size : Int) ≤ 8388608) :
    ValO P w0 mu bs l ⟨dst, .binOp .add t x y t', ty, pos, af, gd⟩ (.string (a ++ b)) := by
  refine ⟨M.growAt_pure fun w => ?_⟩
  unfold execOp
  simp only [evL_eq, hx, hy]
  have h1 : (eqGuard .add t x y (.string a) (.string b)).run P w = .ok () w := by simp [eqGuard]
  rw [Sem.run_bind, Sem.run_bind, h1, Result.andThen_ok, binOp_string_add, run_string_add _ a b ha hb]
  rfl
theorem ValO.eqlStr {t t' : TypeId} {x y : Operand} {a b : ByteArray} (hx : evL l x = .string a) (hy : evL l y = .string b) (h : (a.toList == b.toList) = true) :
    ValO P w0 mu bs l ⟨dst, .binOp .eql t x y t', ty, pos, af, gd⟩ (.bool true) := by
  refine ⟨M.growAt_pure fun w => ?_⟩
  unfold execOp
  simp only [evL_eq, hx, hy]
  have h1 : (eqGuard .eql t x y (.string a) (.string b)).run P w = .ok () w := by simp [eqGuard]
  rw [Sem.run_bind, Sem.run_bind, h1, Result.andThen_ok, binOp_string_eql, h]
  rfl
end Sp
end Go.Proofs.Ytmchkfganpgheaa
