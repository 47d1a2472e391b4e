/-
  An operation whose guard holds runs as one without a guard.
-/
import Derived.Test.YtmchkfganpgheaaLaw
namespace Go.Proofs.Ytmchkfganpgheaa
set_option linter.unusedSimpArgs false
set_option linter.unusedVariables false
open Go Go.RowKit
theorem wpl_unguard {P : Program} {ops : Array Oper} {Q : Exit → Act → World → Prop} {a : Act} {W : World} {o : Oper} {rest : List Oper} (g : Nat × Bool) (hg : o.guard = some g) (hw : Region.wanted o (yielded ops a.tmps) = true)
    (h : wpList P ops Q ({ o with guard := none } :: rest) a W) : wpList P ops Q (o :: rest) a W := by
  unfold wpList at h ⊢
  rw [if_pos (by simp [Region.wanted])] at h
  rw [if_pos hw]
  exact h
end Go.Proofs.Ytmchkfganpgheaa
