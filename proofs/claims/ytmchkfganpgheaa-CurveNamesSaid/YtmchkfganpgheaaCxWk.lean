/-
  The walks of CurveX.
-/
import Derived.Test.YtmchkfganpgheaaCurveD
namespace Go.Proofs.Ytmchkfganpgheaa
set_option linter.unusedSimpArgs false
set_option linter.unusedVariables false
open Go Go.RowKit

open Go.ChangeShapes Go.WideShapes Go.ChangeAt Sp F

theorem u8_byte (op : BinOp) (x y : Int) : 0 ≤ bits op .u8 x y ∧ bits op .u8 x y < 256 := by
  have hw : ∀ n, 0 ≤ IntKind.u8.wrap n ∧ IntKind.u8.wrap n < 256 := fun n => by rw [IntKind.wrap_u8]; omega
  unfold Go.bits
  exact hw _
theorem byt_of {k : List Int} (h : Bytes32 k) : Byt k := by
  intro j
  by_cases hj : j < 32
  · exact h.2 j hj
  · have : gi k j = 0 := by unfold gi; rw [List.getD_eq_getElem?_getD, List.getElem?_eq_none (by rw [h.1]; omega)]; rfl
    rw [this]; omega
theorem byt_set {K : List Int} (h : Byt K) (i : Nat) {v : Int} (hv : 0 ≤ v ∧ v < 256) : Byt (K.set i v) := by
  intro j
  have hj := h j
  unfold gi at *
  rw [List.getD_eq_getElem?_getD] at *
  rw [List.getElem?_set]
  split
  · split
    · exact hv
    · show (0 : Int) ≤ 0 ∧ (0 : Int) < 256; omega
  · exact hj
theorem byt_clamp {k : List Int} (h : Bytes32 k) : Byt (clampL k) := by
  unfold clampL
  exact byt_set (byt_set (byt_of h) 0 (u8_byte _ _ _)) 31 (u8_byte _ _ _)
set_option maxRecDepth 20000 in
set_option maxHeartbeats 1000000 in
theorem curveXlaw_walk (a : List Int) (la : a.length = 32) (wa : ∀ x ∈ a, (Lit.int .u8 x).wf = true) (b : List Int) (lb : b.length = 32) (wb : ∀ x ∈ b, (Lit.int .u8 x).wf = true) (w : World) :
    Calls Try.prog 5 #[.agg (ints .u8 a), .agg (ints .u8 b)] w fun e w' => e = .returned (.bool true) ∧ Below w.heap.size w w' := by
  have hub := bytes32_of lb wb
  have hkb := byt_clamp (bytes32_of la wa)
  clear wa wb
  refine pureE Try.func5 Try.ntmps5 Try.results5 ?_
  repeat (first | ((with_reducible refine SP.region (id := 0) ?_); refine SL.box (by first | (dsimp only [evL, nth, Value.cells]; done) | (dsimp only [evL, nth, Value.cells]; rfl)) (fun _ => bpp) ?_; (first | intro _); refine SL.box (by first | (dsimp only [evL, nth, Value.cells]; done) | (dsimp only [evL, nth, Value.cells]; rfl)) (fun _ => bpp) ?_; (first | intro _); refine SL.val (ValO.ev tabOk (by rfl)) bpp ?_; (with_reducible refine SL.nil ?_)) | ((with_reducible show SP _ _ _ (Code.region _ _ true) _ _ _); first | (refine SPa (id := 1) [] [] ([]) [0, 1, 2, 3, 4, 5, 6, 7] follows ?_; refine SF.val rfl rfl rfl rfl (ValO.ldRow tabOk _ rfl _ _ rfl rfl _ (by first | exact RdA.own g0 | exact RdA.own g1 | exact RdA.own g2 | exact RdA.own g3 | exact RdA.own g4 | exact RdA.own g5 | exact RdA.own g6 | exact RdA.own g7 | exact RdA.own g8 | exact RdA.own g9 | exact RdA.own g10 | exact RdA.own g11 | exact RdA.own g12 | exact RdA.own g13 | exact RdA.own g14 | exact RdA.own g15) (by first | (simp [ints_size, la, lb, le32_length]; done) | (simp [ints_size, la, lb, le32_length]; omega))) bpp ?_; refine SF.val rfl rfl rfl rfl (ValO.ldRow tabOk _ rfl _ _ rfl rfl _ (by first | exact RdA.own g0 | exact RdA.own g1 | exact RdA.own g2 | exact RdA.own g3 | exact RdA.own g4 | exact RdA.own g5 | exact RdA.own g6 | exact RdA.own g7 | exact RdA.own g8 | exact RdA.own g9 | exact RdA.own g10 | exact RdA.own g11 | exact RdA.own g12 | exact RdA.own g13 | exact RdA.own g14 | exact RdA.own g15) (by first | (simp [ints_size, la, lb, le32_length]; done) | (simp [ints_size, la, lb, le32_length]; omega))) bpp ?_; refine SF.val rfl rfl rfl rfl (ValO.call ent_30 _ rfl _ (fun w _ => curveX_any _ _ la hub hkb w)) bpp ?_; refine SF.val rfl rfl rfl rfl (ValO.ldRow tabOk _ rfl _ _ rfl rfl _ (by first | exact RdA.own g0 | exact RdA.own g1 | exact RdA.own g2 | exact RdA.own g3 | exact RdA.own g4 | exact RdA.own g5 | exact RdA.own g6 | exact RdA.own g7 | exact RdA.own g8 | exact RdA.own g9 | exact RdA.own g10 | exact RdA.own g11 | exact RdA.own g12 | exact RdA.own g13 | exact RdA.own g14 | exact RdA.own g15) (by first | (simp [ints_size, la, lb, le32_length]; done) | (simp [ints_size, la, lb, le32_length]; omega))) bpp ?_; refine SF.val rfl rfl rfl rfl (ValO.ldRow tabOk _ rfl _ _ rfl rfl _ (by first | exact RdA.own g0 | exact RdA.own g1 | exact RdA.own g2 | exact RdA.own g3 | exact RdA.own g4 | exact RdA.own g5 | exact RdA.own g6 | exact RdA.own g7 | exact RdA.own g8 | exact RdA.own g9 | exact RdA.own g10 | exact RdA.own g11 | exact RdA.own g12 | exact RdA.own g13 | exact RdA.own g14 | exact RdA.own g15) (by first | (simp [ints_size, la, lb, le32_length]; done) | (simp [ints_size, la, lb, le32_length]; omega))) bpp ?_; refine SF.val rfl rfl rfl rfl (ValO.call ent_31 _ rfl _ (fun w _ => rcurveX_any _ _ la hub hkb w)) bpp ?_; refine SF.val rfl rfl rfl rfl (ValO.eqlI tabOk rfl rfl rfl rfl (by kernel_rfl) (by first | (simp [la, lb, le32_length]; done) | (simp [la, lb, le32_length]; omega)) (by first | (simp [la, lb, le32_length]; done) | (simp [la, lb, le32_length]; omega))) bpp ?_; refine SF.pure tabOk rfl rfl rfl bpp ?_; refine SF.done ?_)) | ((with_reducible refine SP.seqK ?_); intro _ _) | (with_reducible refine thenK_normal ?_) | (refine useK (by assumption) ?_) | (with_reducible refine SP.block ?_) | (with_reducible refine thenK_exit ?_) | (with_reducible refine thenK_ret ?_) | (with_reducible refine blockK_normal ?_) | (with_reducible refine blockK_ret ?_) | (with_reducible refine blockK_eq ?_) | (with_reducible refine blockK_ne rfl ?_) | (with_reducible refine SP.skip ?_) | (with_reducible refine SP.ret ?_) | (with_reducible refine SP.exit ?_) | ((with_reducible show SP _ _ _ (Code.cond _ _ _) _ _ _); first | (refine SP.condT rfl (by first | rfl | (simp only [decide_eq_true_eq, beq_iff_eq, bne_iff_ne]; omega)) ?_) | (refine SP.condF rfl (by first | rfl | (simp only [decide_eq_false_iff_not, beq_eq_false_iff_ne, bne_eq_false_iff_eq]; omega)) ?_)))
  exact doneK.mk rfl (ResO.tmp rfl) (by simp [nth])


end Go.Proofs.Ytmchkfganpgheaa
