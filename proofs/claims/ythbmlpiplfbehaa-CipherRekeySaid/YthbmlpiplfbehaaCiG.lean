/-
  Bring: a number is brought below another.
-/
import Derived.Test.YthbmlpiplfbehaaCiW
namespace Go.Proofs.Ythbmlpiplfbehaa
set_option linter.unusedSimpArgs false
set_option linter.unusedVariables false
open Go Go.RowKit

namespace Sp
open F M
theorem tmod_cases (a m : Int) (hm : 0 < m) : (a.tmod m < 0 ∧ a.tmod m + m = a % m) ∨ (0 ≤ a.tmod m ∧ a.tmod m = a % m) := by
  have h1 := Int.emod_nonneg a (show m ≠ 0 by omega)
  have h2 := Int.emod_lt_of_pos a hm
  by_cases ha : 0 ≤ a
  · exact .inr ⟨by rw [Int.tmod_eq_emod_of_nonneg ha]; exact h1, Int.tmod_eq_emod_of_nonneg ha⟩
  · have h3 := Int.tmod_eq_emod (a := a) (b := m)
    split at h3
    · right
      rw [h3]
      omega
    · left
      omega
set_option maxRecDepth 20000 in
theorem bring_any (a m : Int) (hm : 0 < m) (hm2 : m < 4294967296) (w : World) :
    Calls Try.prog 22 #[.int .i64 a, .int .i64 m] w fun e w' => e = .returned (.int .i64 (a % m)) ∧ Below w.heap.size w w' := by
  have h1 := Int.emod_nonneg a (show m ≠ 0 by omega)
  have h2 := Int.emod_lt_of_pos a hm
  rcases tmod_cases a m hm with ⟨h3, h4⟩ | ⟨h3, h4⟩
  · have hw : IntKind.i64.wrap (a.tmod m + m) = a % m := by rw [h4, IntWalk.i64_in _ (by omega)]
    have hw2 : IntKind.i64.wrap (a.tmod m) = a.tmod m := IntWalk.i64_in _ (by omega)
    refine pure_of_SP Try.func22 rfl [.int .i64 a, .int .i64 m, undef, undef, undef, undef, undef, undef, undef, undef, undef, undef, undef, undef, undef, undef] (by simp only [Try.ntmps22, List.size_toArray, List.length_cons, List.length_nil, Nat.reduceAdd, Nat.reduceSub, Array.replicate_succ, Array.replicate_zero, List.push_toArray, List.append_toArray, List.nil_append, List.cons_append]) _ Try.results22 _ ?_
    repeat (first | ((with_reducible refine SP.region (id := 0) ?_); refine SL.e tabOk ?_; (with_reducible refine SL.nil ?_)) | ((with_reducible refine SP.region (id := 1) ?_); refine SL.e tabOk ?_; refine SL.e tabOk ?_; (with_reducible refine SL.nil ?_)) | ((with_reducible refine SP.region (id := 3) ?_); refine SL.e tabOk ?_; refine SL.e tabOk ?_; refine SL.dv ?_; refine SL.e tabOk ?_; (with_reducible refine SL.nil ?_)) | ((with_reducible refine SP.region (id := 4) ?_); refine SL.e tabOk ?_; refine SL.e tabOk ?_; (with_reducible refine SL.nil ?_)) | ((with_reducible refine SP.region (id := 5) ?_); refine SL.e tabOk ?_; refine SL.e tabOk ?_; refine SL.e tabOk ?_; refine SL.e tabOk ?_; (with_reducible refine SL.nil ?_)) | ((with_reducible refine SP.region (id := 6) ?_); refine SL.e tabOk ?_; refine SL.e tabOk ?_; (with_reducible refine SL.nil ?_)) | ((with_reducible refine SP.seqK ?_); intro _ _) | (with_reducible refine thenK_normal ?_) | (refine useK (by assumption) ?_) | (with_reducible refine SP.block ?_) | (with_reducible refine thenK_exit ?_) | (with_reducible refine thenK_ret ?_) | (with_reducible refine blockK_normal ?_) | (with_reducible refine blockK_ret ?_) | (with_reducible refine blockK_eq ?_) | (with_reducible refine blockK_ne rfl ?_) | (with_reducible refine SP.skip ?_) | (with_reducible refine SP.ret ?_) | (with_reducible refine SP.exit ?_) | ((with_reducible show SP _ _ _ (Code.cond _ _ _) _ _ _); first | (refine SP.condT rfl (by first | rfl | (simp only [decide_eq_true_eq, beq_iff_eq, bne_iff_ne]; first | done | omega)) ?_) | (refine SP.condF rfl (by first | rfl | (simp only [decide_eq_false_iff_not, beq_eq_false_iff_ne, bne_eq_false_iff_eq]; first | done | omega)) ?_)))
    exact doneK.mk rfl (ResO.tmp rfl) (by simp only [hw]; rfl)
  · refine pure_of_SP Try.func22 rfl [.int .i64 a, .int .i64 m, undef, undef, undef, undef, undef, undef, undef, undef, undef, undef, undef, undef, undef, undef] (by simp only [Try.ntmps22, List.size_toArray, List.length_cons, List.length_nil, Nat.reduceAdd, Nat.reduceSub, Array.replicate_succ, Array.replicate_zero, List.push_toArray, List.append_toArray, List.nil_append, List.cons_append]) _ Try.results22 _ ?_
    repeat (first | ((with_reducible refine SP.region (id := 0) ?_); refine SL.e tabOk ?_; (with_reducible refine SL.nil ?_)) | ((with_reducible refine SP.region (id := 1) ?_); refine SL.e tabOk ?_; refine SL.e tabOk ?_; (with_reducible refine SL.nil ?_)) | ((with_reducible refine SP.region (id := 3) ?_); refine SL.e tabOk ?_; refine SL.e tabOk ?_; refine SL.dv ?_; refine SL.e tabOk ?_; (with_reducible refine SL.nil ?_)) | ((with_reducible refine SP.region (id := 4) ?_); refine SL.e tabOk ?_; refine SL.e tabOk ?_; (with_reducible refine SL.nil ?_)) | ((with_reducible refine SP.region (id := 6) ?_); refine SL.e tabOk ?_; refine SL.e tabOk ?_; (with_reducible refine SL.nil ?_)) | ((with_reducible refine SP.seqK ?_); intro _ _) | (with_reducible refine thenK_normal ?_) | (refine useK (by assumption) ?_) | (with_reducible refine SP.block ?_) | (with_reducible refine thenK_exit ?_) | (with_reducible refine thenK_ret ?_) | (with_reducible refine blockK_normal ?_) | (with_reducible refine blockK_ret ?_) | (with_reducible refine blockK_eq ?_) | (with_reducible refine blockK_ne rfl ?_) | (with_reducible refine SP.skip ?_) | (with_reducible refine SP.ret ?_) | (with_reducible refine SP.exit ?_) | ((with_reducible show SP _ _ _ (Code.cond _ _ _) _ _ _); first | (refine SP.condT rfl (by first | rfl | (simp only [decide_eq_true_eq, beq_iff_eq, bne_iff_ne]; first | done | omega)) ?_) | (refine SP.condF rfl (by first | rfl | (simp only [decide_eq_false_iff_not, beq_eq_false_iff_ne, bne_eq_false_iff_eq]; first | done | omega)) ?_)))
    exact doneK.mk rfl (ResO.tmp rfl) (by rw [h4]; rfl)

end Sp

end Go.Proofs.Ythbmlpiplfbehaa
