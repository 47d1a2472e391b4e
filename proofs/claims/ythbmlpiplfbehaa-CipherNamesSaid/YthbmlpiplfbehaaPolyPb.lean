/-
  The poly's sum: a number of 129 bits is added.
-/
import Derived.Test.YthbmlpiplfbehaaPolyRow
import Derived.Test.YthbmlpiplfbehaaBits
import Derived.KernelRfl
import Derived.Lib.Hide
namespace Go.Proofs.Ythbmlpiplfbehaa
set_option linter.unusedSimpArgs false
set_option linter.unusedVariables false
open Go Go.RowKit

namespace Sp
open F

theorem w64_0 : W64 0 := by unfold W64 M64; omega
theorem w64_5 : W64 5 := by unfold W64 M64; omega
set_option maxRecDepth 20000 in
set_option maxHeartbeats 400000 in
theorem padd_any (b : Nat) (T : TypeId) (g : Bool) (r0 r1 s0 s1 h0 h1 h2 : Int) (bl : List Int) (n lo hi top : Int) (hbl : bl.length = 16) (w0 : W64 h0) (w1 : W64 h1) (wl : W64 lo) (wh : W64 hi) (w : World)
    (hb : w.heap[b]? = some (.cells (polyRow g r0 r1 s0 s1 h0 h1 h2 bl n) T (0, 0))) :
    Calls Try.prog 70 #[.pointer (some ⟨b, 0, none⟩), .int .u64 lo, .int .u64 hi, .int .u64 top] w fun e w' => e = .returned (.tuple #[]) ∧ OwnM w [b] w' [(b, polyRow g r0 r1 s0 s1 (addLo h0 lo 0) (addLo h1 hi (addHi h0 lo 0)) (IntKind.u64.wrap (h2 + IntKind.u64.wrap (top + addHi h1 hi (addHi h0 lo 0)))) bl n, T)] := by
  have c1 : Bit (addHi h0 lo 0) := Bit.addHi w0 wl Bit.zero
  have c2 : Bit (addHi h1 hi (addHi h0 lo 0)) := Bit.addHi w1 wh c1
  refine mutE Try.func70 Try.ntmps70 Try.results70 hb ?_
  repeat (first | ((with_reducible refine SP.region (id := 0) ?_); refine SL.e tabOk ?_; (with_reducible refine SL.nil ?_)) | ((with_reducible show SP _ _ _ (Code.region _ _ true) _ _ _); first | (refine SPa (id := 1) [14] [] ([]) [0, 1, 2, 3, 4, 5, 6, 7, 8, 9, 10, 11, 12, 13, 14, 15] follows ?_; refine SF.p tabOk ?_; refine SF.p tabOk ?_; refine SF.nc ?_; refine SF.e tabOk ?_; refine SF.e tabOk ?_; (first | (refine SF.ldI tabOk ?_) | (refine SF.ldC tabOk ?_ (hv := by first | exact pr_g0 | exact pr_g5 | exact pr_g6 | exact pr_g7 | exact pr_g3 | exact pr_g4 | exact (pr_gn hbl)))); refine SF.p tabOk ?_; refine SF.v (ValO.ext _ rfl _ (fun w => add64_run _ _ _ (by first | assumption | exact W64.addLo _ _ _ | exact w64_0 | exact w64_5) (by first | assumption | exact W64.addLo _ _ _ | exact w64_0 | exact w64_5) (by first | exact Bit.zero | assumption) w)) ?_; refine SF.p tabOk ?_; refine SF.p tabOk ?_; refine SF.p tabOk ?_; refine SF.nc ?_; refine SF.e tabOk ?_; refine SF.e tabOk ?_; (first | (refine SF.stI tabOk ?_) | (refine SF.stP tabOk ?_ (hsz := by first | (rw [pr_size hbl]; omega) | (rw [pr_size (by assumption)]; omega)) (hA := by first | exact pr_p5 | exact pr_p6 | exact pr_p7 | exact (pr_pn hbl)))); refine SF.p tabOk ?_; refine SF.done ?_) | (refine SPa (id := 2) [15] [] ([]) [0, 1, 2, 3, 4, 5, 6, 7, 8, 9, 10, 11, 12, 13, 14, 15, 16] follows ?_; refine SF.p tabOk ?_; refine SF.p tabOk ?_; refine SF.nc ?_; refine SF.e tabOk ?_; refine SF.e tabOk ?_; (first | (refine SF.ldI tabOk ?_) | (refine SF.ldC tabOk ?_ (hv := by first | exact pr_g0 | exact pr_g5 | exact pr_g6 | exact pr_g7 | exact pr_g3 | exact pr_g4 | exact (pr_gn hbl)))); refine SF.p tabOk ?_; refine SF.p tabOk ?_; refine SF.v (ValO.ext _ rfl _ (fun w => add64_run _ _ _ (by first | assumption | exact W64.addLo _ _ _ | exact w64_0 | exact w64_5) (by first | assumption | exact W64.addLo _ _ _ | exact w64_0 | exact w64_5) (by first | exact Bit.zero | assumption) w)) ?_; refine SF.p tabOk ?_; refine SF.p tabOk ?_; refine SF.p tabOk ?_; refine SF.nc ?_; refine SF.e tabOk ?_; refine SF.e tabOk ?_; (first | (refine SF.stI tabOk ?_) | (refine SF.stP tabOk ?_ (hsz := by first | (rw [pr_size hbl]; omega) | (rw [pr_size (by assumption)]; omega)) (hA := by first | exact pr_p5 | exact pr_p6 | exact pr_p7 | exact (pr_pn hbl)))); refine SF.p tabOk ?_; refine SF.done ?_) | (refine SPa (id := 3) [12] [] ([]) [0, 1, 2, 3, 4, 5, 6, 7, 8, 9, 10, 11, 12] follows ?_; refine SF.p tabOk ?_; refine SF.nc ?_; refine SF.e tabOk ?_; refine SF.e tabOk ?_; (first | (refine SF.ldI tabOk ?_) | (refine SF.ldC tabOk ?_ (hv := by first | exact pr_g0 | exact pr_g5 | exact pr_g6 | exact pr_g7 | exact pr_g3 | exact pr_g4 | exact (pr_gn hbl)))); refine SF.p tabOk ?_; refine SF.p tabOk ?_; refine SF.e tabOk ?_; refine SF.e tabOk ?_; refine SF.nc ?_; refine SF.e tabOk ?_; refine SF.e tabOk ?_; (first | (refine SF.stI tabOk ?_) | (refine SF.stP tabOk ?_ (hsz := by first | (rw [pr_size hbl]; omega) | (rw [pr_size (by assumption)]; omega)) (hA := by first | exact pr_p5 | exact pr_p6 | exact pr_p7 | exact (pr_pn hbl)))); refine SF.done ?_)) | ((with_reducible refine SP.seqK ?_); intro _ _) | (with_reducible refine thenK_normal ?_) | (refine useK (by assumption) ?_) | (with_reducible refine SP.block ?_) | (with_reducible refine thenK_exit ?_) | (with_reducible refine thenK_ret ?_) | (with_reducible refine blockK_normal ?_) | (with_reducible refine blockK_ret ?_) | (with_reducible refine blockK_eq ?_) | (with_reducible refine blockK_ne rfl ?_) | (with_reducible refine SP.skip ?_) | (with_reducible refine SP.ret ?_) | (with_reducible refine SP.exit ?_) | ((with_reducible show SP _ _ _ (Code.cond _ _ _) _ _ _); first | (refine SP.condT rfl (by first | rfl | (simp only [decide_eq_true_eq, beq_iff_eq, bne_iff_ne]; omega)) ?_) | (refine SP.condF rfl (by first | rfl | (simp only [decide_eq_false_iff_not, beq_eq_false_iff_ne, bne_eq_false_iff_eq]; omega)) ?_)))
  exact doneK.mk rfl ResO.nil ⟨rfl, (by first | exact sub1 | exact subc sub1 | exact subc (subc sub1) | exact subc (subc (subc sub1)) | exact subc (subc (subc (subc sub1))))⟩
end Sp

end Go.Proofs.Ythbmlpiplfbehaa
