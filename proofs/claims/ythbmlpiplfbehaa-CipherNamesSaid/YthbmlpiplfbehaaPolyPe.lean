/-
  A poly is made.
-/
import Derived.Test.YthbmlpiplfbehaaPolyPd
import Derived.KernelRfl
import Derived.Lib.Hide
namespace Go.Proofs.Ythbmlpiplfbehaa
set_option linter.unusedSimpArgs false
set_option linter.unusedVariables false
open Go Go.RowKit

namespace Sp
open F

theorem bldP (a b c d : Int) : Try.prog.built 95 [(0, .bool true), (1, .agg (ints .u64 [a, b])), (2, .agg (ints .u64 [c, d]))] = some (polyRow true a b c d 0 0 0 (List.replicate 16 0) 0) := by unfold polyRow; kernel_rfl
@[irreducible] def keyR0 (K : List Int) : Int := bits .and .u64 (numN (K.drop 0) 8) 1152921487695413247
@[irreducible] def keyR1 (K : List Int) : Int := bits .and .u64 (numN (K.drop 8) 8) 1152921487695413244
@[irreducible] def keyS0 (K : List Int) : Int := numN (K.drop 16) 8
@[irreducible] def keyS1 (K : List Int) : Int := numN (K.drop 24) 8
theorem keyR_w (K : List Int) : AllW [keyR0 K, keyR1 K] := by unfold keyR0 keyR1; exact AllW.mk2 (W64.bits _ _ _) (W64.bits _ _ _)
theorem keyS0_w (K : List Int) : W64 (keyS0 K) := by unfold keyS0; exact numN_w _ _
theorem keyS1_w (K : List Int) : W64 (keyS1 K) := by unfold keyS1; exact numN_w _ _
set_option maxRecDepth 20000 in
set_option maxHeartbeats 1000000 in
theorem pnew_any (K : List Int) (hk : K.length = 32) (w : World) :
    Calls Try.prog 48 #[.agg (ints .u8 K)] w fun e w' => ∃ nb, e = .returned (.pointer (some ⟨nb, 0, none⟩)) ∧ OwnM w [] w' [(nb, polyRow true (keyR0 K) (keyR1 K) (keyS0 K) (keyS1 K) 0 0 0 (List.replicate 16 0) 0, 95)] := by
  unfold keyR0 keyR1 keyS0 keyS1
  refine newE Try.func48 Try.ntmps48 Try.results48 ?_
  have tok_kb : True := trivial
  have tok_nb : True := trivial
  repeat (first | ((with_reducible refine SP.region (id := 0) ?_); refine SL.bx ?_; (first | (have _t := tok_kb; clear _t tok_kb; intro kb) | (have _t := tok_nb; clear _t tok_nb; intro nb) | intro _); refine SL.e tabOk ?_; (with_reducible refine SL.nil ?_)) | ((with_reducible show SP _ _ _ (Code.region _ _ true) _ _ _); first | (refine SPa (id := 1) [13] [] ([]) [0, 1, 2, 3, 4, 5, 6, 7, 8, 9, 10, 11, 12, 13, 14] follows ?_; refine SF.ctA tabOk _ _ ?_; refine SF.v (ValO.call ent_59 _ rfl _ (fun w hw => number_any _ _ _ _ _ _ _ _ w (hw.block (List.mem_of_getElem? (show _ = some (kb, ints .u8 _, _) from (gbk _)))) (fun j hj => ints_drop (by rw [hk]; omega)) (by omega) (by omega))) ?_; refine SF.e tabOk ?_; refine SF.ctA tabOk _ _ ?_; refine SF.v (ValO.call ent_59 _ rfl _ (fun w hw => number_any _ _ _ _ _ _ _ _ w (hw.block (List.mem_of_getElem? (show _ = some (kb, ints .u8 _, _) from (gbk _)))) (fun j hj => ints_drop (by rw [hk]; omega)) (by omega) (by omega))) ?_; refine SF.e tabOk ?_; refine SF.val rfl rfl rfl rfl (ValO.build (by first | (dsimp only [List.map, evL, nth]; done) | (dsimp only [List.map, evL, nth]; rfl)) (bld2 _ _)) bpp ?_; refine SF.ctA tabOk _ _ ?_; refine SF.v (ValO.call ent_59 _ rfl _ (fun w hw => number_any _ _ _ _ _ _ _ _ w (hw.block (List.mem_of_getElem? (show _ = some (kb, ints .u8 _, _) from (gbk _)))) (fun j hj => ints_drop (by rw [hk]; omega)) (by omega) (by omega))) ?_; refine SF.ctA tabOk _ _ ?_; refine SF.v (ValO.call ent_59 _ rfl _ (fun w hw => number_any _ _ _ _ _ _ _ _ w (hw.block (List.mem_of_getElem? (show _ = some (kb, ints .u8 _, _) from (gbk _)))) (fun j hj => ints_drop (by rw [hk]; omega)) (by omega) (by omega))) ?_; refine SF.val rfl rfl rfl rfl (ValO.build (by first | (dsimp only [List.map, evL, nth]; done) | (dsimp only [List.map, evL, nth]; rfl)) (bld2 _ _)) bpp ?_; refine SF.val rfl rfl rfl rfl (ValO.build (by first | (dsimp only [List.map, evL, nth]; done) | (dsimp only [List.map, evL, nth]; rfl)) (bldP _ _ _ _)) bpp ?_; refine SF.bx ?_; (first | (have _t := tok_kb; clear _t tok_kb; intro kb) | (have _t := tok_nb; clear _t tok_nb; intro nb) | intro _); refine SF.p tabOk ?_; refine SF.done ?_)) | ((with_reducible refine SP.seqK ?_); intro _ _) | (with_reducible refine thenK_normal ?_) | (refine useK (by assumption) ?_) | (with_reducible refine SP.block ?_) | (with_reducible refine thenK_exit ?_) | (with_reducible refine thenK_ret ?_) | (with_reducible refine blockK_normal ?_) | (with_reducible refine blockK_ret ?_) | (with_reducible refine blockK_eq ?_) | (with_reducible refine blockK_ne rfl ?_) | (with_reducible refine SP.skip ?_) | (with_reducible refine SP.ret ?_) | (with_reducible refine SP.exit ?_) | ((with_reducible show SP _ _ _ (Code.cond _ _ _) _ _ _); first | (refine SP.condT rfl (by first | rfl | (simp only [decide_eq_true_eq, beq_iff_eq, bne_iff_ne]; omega)) ?_) | (refine SP.condF rfl (by first | rfl | (simp only [decide_eq_false_iff_not, beq_eq_false_iff_ne, bne_eq_false_iff_eq]; omega)) ?_)))
  exact doneK.mk rfl (ResO.tmp rfl) ⟨_, rfl, (by first | exact sub1 | exact subc sub1 | exact subc (subc sub1) | exact subc (subc (subc sub1)) | exact subc (subc (subc (subc sub1))))⟩
end Sp

end Go.Proofs.Ythbmlpiplfbehaa
