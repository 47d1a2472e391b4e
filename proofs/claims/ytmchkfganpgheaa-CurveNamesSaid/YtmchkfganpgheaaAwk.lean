/-
  awake: the curve is not asleep. No conditions.
-/
import Derived.Test.YtmchkfganpgheaaLowS
import Derived.Test.YtmchkfganpgheaaTwin
import Derived.Test.YtmchkfganpgheaaHex
namespace Go.Proofs.Ytmchkfganpgheaa
set_option linter.unusedSimpArgs false
set_option linter.unusedVariables false
open Go Go.RowKit

namespace Low
open Sp F
/-- The base point. -/
@[irreducible] def base9 : List Int := 9 :: List.replicate 31 0
theorem base9_length : base9.length = 32 := by unfold base9; rfl
theorem bldK9 : Try.prog.built 46 [(0, .int .u8 9)] = some (ints .u8 base9) := by unfold base9; kernel_rfl
theorem base9_ok : Bytes32 base9 := by
  refine ⟨base9_length, ?_⟩
  unfold base9
  intro i hi
  match i with
  | 0 => decide
  | i + 1 =>
    have : gi (9 :: List.replicate 31 0) (i + 1) = 0 := by
      unfold gi
      rw [List.getD_eq_getElem?_getD, List.getElem?_cons_succ, List.getElem?_replicate]
      split <;> rfl
    rw [this]; omega
@[irreducible] def pubV (k : List Int) : Int := vX (clampL k) (v32 base9 % H255) % PP


set_option maxRecDepth 20000 in
theorem pub_any (a : List Int) (la : a.length = 32) (hkb : Byt (clampL a)) (w : World) : Calls Try.prog 32 #[.agg (ints .u8 a)] w fun e w' => e = .returned (.agg (ints .u8 (le32 (pubV a)))) ∧ Below w.heap.size w w' := by
  unfold pubV
  refine pureE Try.func32 Try.ntmps32 Try.results32 ?_
  repeat (first | ((with_reducible refine SP.region (id := 0) ?_); refine SL.box (by first | (dsimp only [evL, nth, Value.cells]; done) | (dsimp only [evL, nth, Value.cells]; rfl)) (fun _ => bpp) ?_; (first | intro _); refine SL.alloc zero_46 (fun _ => bpp) ?_; (first | intro _); (with_reducible refine SL.nil ?_)) | ((with_reducible refine SP.region (id := 1) ?_); refine SL.val (ValO.ldRow tabOk _ rfl _ _ rfl rfl _ (by first | exact RdA.own g0 | exact RdA.own g1 | exact RdA.own g2 | exact RdA.own g3 | exact RdA.own g4 | exact RdA.own g5 | exact RdA.own g6 | exact RdA.own g7 | exact RdA.own g8 | exact RdA.own g9 | exact RdA.own g10 | exact RdA.own g11 | exact RdA.own g12 | exact RdA.own g13 | exact RdA.own g14 | exact RdA.own g15) (by first | (simp [ints_size, la, base9_length, le32_length]; done) | (simp [ints_size, la, base9_length, le32_length]; omega))) bpp ?_; refine SL.val (ValO.build (by first | (dsimp only [List.map, evL, nth]; done) | (dsimp only [List.map, evL, nth]; rfl)) (bldK9)) bpp ?_; refine SL.val (ValO.call ent_30 _ rfl _ (fun w _ => curveX_any _ _ la base9_ok hkb w)) bpp ?_; refine SL.storeRow tabOk rfl rfl rfl (gbk _) (by first | (simp [ints_size, la, base9_length, le32_length]; done) | (simp [ints_size, la, base9_length, le32_length]; omega)) (by first | (simp [ints_size, la, base9_length, le32_length]; done) | (simp [ints_size, la, base9_length, le32_length]; omega)) ints_mem stt bpp ?_; (with_reducible refine SL.nil ?_)) | ((with_reducible refine SP.seqK ?_); intro _ _) | (with_reducible refine thenK_normal ?_) | (refine useK (by assumption) ?_) | (with_reducible refine SP.block ?_) | (with_reducible refine thenK_exit ?_) | (with_reducible refine thenK_ret ?_) | (with_reducible refine blockK_normal ?_) | (with_reducible refine blockK_ret ?_) | (with_reducible refine blockK_eq ?_) | (with_reducible refine blockK_ne rfl ?_) | (with_reducible refine SP.skip ?_) | (with_reducible refine SP.ret ?_) | (with_reducible refine SP.exit ?_) | ((with_reducible show SP _ _ _ (Code.cond _ _ _) _ _ _); first | (refine SP.condT rfl (by first | rfl | (simp only [decide_eq_true_eq, beq_iff_eq, bne_iff_ne]; omega)) ?_) | (refine SP.condF rfl (by first | rfl | (simp only [decide_eq_false_iff_not, beq_eq_false_iff_ne, bne_eq_false_iff_eq]; omega)) ?_)))
  exact doneK.mk rfl (ResO.cell tabOk rfl rfl rfl (by first | exact RdA.own g0 | exact RdA.own g1 | exact RdA.own g2 | exact RdA.own g3 | exact RdA.own g4 | exact RdA.own g5 | exact RdA.own g6 | exact RdA.own g7 | exact RdA.own g8 | exact RdA.own g9 | exact RdA.own g10 | exact RdA.own g11 | exact RdA.own g12 | exact RdA.own g13 | exact RdA.own g14 | exact RdA.own g15) (by rw [ints_size, le32_length])) rfl


theorem alice_length : aliceL.length = 32 := by unfold aliceL; rfl
theorem alice_ok : Bytes32 aliceL := ⟨alice_length, by unfold Dig; unfold aliceL; decide +kernel⟩
theorem bld_alice : Try.prog.built 46 [(0, .int .u8 119), (1, .int .u8 7), (2, .int .u8 109), (3, .int .u8 10), (4, .int .u8 115), (5, .int .u8 24), (6, .int .u8 165), (7, .int .u8 125), (8, .int .u8 60), (9, .int .u8 22), (10, .int .u8 193), (11, .int .u8 114), (12, .int .u8 81), (13, .int .u8 178), (14, .int .u8 102), (15, .int .u8 69), (16, .int .u8 223), (17, .int .u8 76), (18, .int .u8 47), (19, .int .u8 135), (20, .int .u8 235), (21, .int .u8 192), (22, .int .u8 153), (23, .int .u8 42), (24, .int .u8 177), (25, .int .u8 119), (26, .int .u8 251), (27, .int .u8 165), (28, .int .u8 29), (29, .int .u8 185), (30, .int .u8 44), (31, .int .u8 42)] = some (ints .u8 aliceL) := by unfold aliceL; kernel_rfl
set_option maxRecDepth 20000 in
theorem alice_any (w : World) : Calls Try.prog 40 #[] w fun e w' => e = .returned (.agg (ints .u8 aliceL)) ∧ Below w.heap.size w w' := by
  refine pureE Try.func40 Try.ntmps40 Try.results40 ?_
  repeat (first | ((with_reducible refine SP.region (id := 0) ?_); refine SL.alloc zero_46 (fun _ => bpp) ?_; (first | intro _); (with_reducible refine SL.nil ?_)) | ((with_reducible refine SP.region (id := 1) ?_); refine SL.val (ValO.build (by first | (dsimp only [List.map, evL, nth]; done) | (dsimp only [List.map, evL, nth]; rfl)) bld_alice) bpp ?_; refine SL.storeRow tabOk rfl rfl rfl (gbk _) (by first | (simp [ints_size, alice_length]; done) | (simp [ints_size, alice_length]; omega)) (by first | (simp [ints_size, alice_length]; done) | (simp [ints_size, alice_length]; omega)) ints_mem stt bpp ?_; (with_reducible refine SL.nil ?_)) | ((with_reducible refine SP.seqK ?_); intro _ _) | (with_reducible refine thenK_normal ?_) | (refine useK (by assumption) ?_) | (with_reducible refine SP.block ?_) | (with_reducible refine thenK_exit ?_) | (with_reducible refine thenK_ret ?_) | (with_reducible refine blockK_normal ?_) | (with_reducible refine blockK_ret ?_) | (with_reducible refine blockK_eq ?_) | (with_reducible refine blockK_ne rfl ?_) | (with_reducible refine SP.skip ?_) | (with_reducible refine SP.ret ?_) | (with_reducible refine SP.exit ?_) | ((with_reducible show SP _ _ _ (Code.cond _ _ _) _ _ _); first | (refine SP.condT rfl (by first | rfl | (simp only [decide_eq_true_eq, beq_iff_eq, bne_iff_ne]; omega)) ?_) | (refine SP.condF rfl (by first | rfl | (simp only [decide_eq_false_iff_not, beq_eq_false_iff_ne, bne_eq_false_iff_eq]; omega)) ?_)))
  exact doneK.mk rfl (ResO.cell tabOk rfl rfl rfl (by first | exact RdA.own g0 | exact RdA.own g1 | exact RdA.own g2 | exact RdA.own g3 | exact RdA.own g4 | exact RdA.own g5 | exact RdA.own g6 | exact RdA.own g7 | exact RdA.own g8 | exact RdA.own g9 | exact RdA.own g10 | exact RdA.own g11 | exact RdA.own g12 | exact RdA.own g13 | exact RdA.own g14 | exact RdA.own g15) (by rw [ints_size, alice_length])) rfl


theorem bob_length : bobL.length = 32 := by unfold bobL; rfl
theorem bob_ok : Bytes32 bobL := ⟨bob_length, by unfold Dig; unfold bobL; decide +kernel⟩
theorem bld_bob : Try.prog.built 46 [(0, .int .u8 93), (1, .int .u8 171), (2, .int .u8 8), (3, .int .u8 126), (4, .int .u8 98), (5, .int .u8 74), (6, .int .u8 138), (7, .int .u8 75), (8, .int .u8 121), (9, .int .u8 225), (10, .int .u8 127), (11, .int .u8 139), (12, .int .u8 131), (13, .int .u8 128), (14, .int .u8 14), (15, .int .u8 230), (16, .int .u8 111), (17, .int .u8 59), (18, .int .u8 177), (19, .int .u8 41), (20, .int .u8 38), (21, .int .u8 24), (22, .int .u8 182), (23, .int .u8 253), (24, .int .u8 28), (25, .int .u8 47), (26, .int .u8 139), (27, .int .u8 39), (28, .int .u8 255), (29, .int .u8 136), (30, .int .u8 224), (31, .int .u8 235)] = some (ints .u8 bobL) := by unfold bobL; kernel_rfl
set_option maxRecDepth 20000 in
theorem bob_any (w : World) : Calls Try.prog 41 #[] w fun e w' => e = .returned (.agg (ints .u8 bobL)) ∧ Below w.heap.size w w' := by
  refine pureE Try.func41 Try.ntmps41 Try.results41 ?_
  repeat (first | ((with_reducible refine SP.region (id := 0) ?_); refine SL.alloc zero_46 (fun _ => bpp) ?_; (first | intro _); (with_reducible refine SL.nil ?_)) | ((with_reducible refine SP.region (id := 1) ?_); refine SL.val (ValO.build (by first | (dsimp only [List.map, evL, nth]; done) | (dsimp only [List.map, evL, nth]; rfl)) bld_bob) bpp ?_; refine SL.storeRow tabOk rfl rfl rfl (gbk _) (by first | (simp [ints_size, bob_length]; done) | (simp [ints_size, bob_length]; omega)) (by first | (simp [ints_size, bob_length]; done) | (simp [ints_size, bob_length]; omega)) ints_mem stt bpp ?_; (with_reducible refine SL.nil ?_)) | ((with_reducible refine SP.seqK ?_); intro _ _) | (with_reducible refine thenK_normal ?_) | (refine useK (by assumption) ?_) | (with_reducible refine SP.block ?_) | (with_reducible refine thenK_exit ?_) | (with_reducible refine thenK_ret ?_) | (with_reducible refine blockK_normal ?_) | (with_reducible refine blockK_ret ?_) | (with_reducible refine blockK_eq ?_) | (with_reducible refine blockK_ne rfl ?_) | (with_reducible refine SP.skip ?_) | (with_reducible refine SP.ret ?_) | (with_reducible refine SP.exit ?_) | ((with_reducible show SP _ _ _ (Code.cond _ _ _) _ _ _); first | (refine SP.condT rfl (by first | rfl | (simp only [decide_eq_true_eq, beq_iff_eq, bne_iff_ne]; omega)) ?_) | (refine SP.condF rfl (by first | rfl | (simp only [decide_eq_false_iff_not, beq_eq_false_iff_ne, bne_eq_false_iff_eq]; omega)) ?_)))
  exact doneK.mk rfl (ResO.cell tabOk rfl rfl rfl (by first | exact RdA.own g0 | exact RdA.own g1 | exact RdA.own g2 | exact RdA.own g3 | exact RdA.own g4 | exact RdA.own g5 | exact RdA.own g6 | exact RdA.own g7 | exact RdA.own g8 | exact RdA.own g9 | exact RdA.own g10 | exact RdA.own g11 | exact RdA.own g12 | exact RdA.own g13 | exact RdA.own g14 | exact RdA.own g15) (by rw [ints_size, bob_length])) rfl


theorem base9_num : v32 base9 % H255 = 9 := by unfold base9; decide +kernel
theorem pub_alice : le32 (pubV aliceL) = alicePub := by unfold pubV; rw [vX_mX, base9_num]; exact alice_pub
theorem pub_bob : le32 (pubV bobL) = bobPub := by unfold pubV; rw [vX_mX, base9_num]; exact bob_pub
theorem bobPub_ok : Bytes32 bobPub := ⟨by unfold bobPub; rfl, by unfold Dig; unfold bobPub; decide +kernel⟩
theorem alicePub_ok : Bytes32 alicePub := ⟨by unfold alicePub; rfl, by unfold Dig; unfold alicePub; decide +kernel⟩
theorem bothL_ok : Bytes32 bothL := ⟨by unfold bothL; rfl, by unfold Dig; unfold bothL; decide +kernel⟩
theorem sh_both : shX aliceL bobPub = bothL := by unfold shX; rw [vX_mX]; exact both_x
theorem shN_both : shN aliceL bobPub = 0 := by
  unfold shN
  rw [sh_both, if_neg (by unfold bothL; decide)]


set_option maxRecDepth 20000 in
set_option maxHeartbeats 1000000 in
theorem awake_any (w : World) : Calls Try.prog 36 #[] w fun e w' => e = .returned (.bool true) ∧ Below w.heap.size w w' := by
  have pubB : ∀ w : World, Calls Try.prog 32 #[.agg (ints .u8 bobL)] w fun e w' => e = .returned (.agg (ints .u8 bobPub)) ∧ Below w.heap.size w w' := fun w => by
    have h := pub_any bobL bob_length (byt_clamp bob_ok) w
    rwa [pub_bob] at h
  have pubA : ∀ w : World, Calls Try.prog 32 #[.agg (ints .u8 aliceL)] w fun e w' => e = .returned (.agg (ints .u8 alicePub)) ∧ Below w.heap.size w w' := fun w => by
    have h := pub_any aliceL alice_length (byt_clamp alice_ok) w
    rwa [pub_alice] at h
  have shB : ∀ w : World, Calls Try.prog 34 #[.agg (ints .u8 aliceL), .agg (ints .u8 bobPub)] w fun e w' => e = .returned (.tuple #[.agg (ints .u8 bothL), .int .i64 0]) ∧ Below w.heap.size w w' := fun w => by
    have h := share_any aliceL bobPub alice_length bobPub_ok (byt_clamp alice_ok) w
    rwa [sh_both, shN_both] at h
  have hexA := hex_any alicePub alicePub_ok.1 (byt_of alicePub_ok)
  have hexB := hex_any bothL bothL_ok.1 (byt_of bothL_ok)
  refine pureE Try.func36 Try.ntmps36 Try.results36 ?_
  repeat (first | ((with_reducible refine SP.region (id := 0) ?_); refine SL.val (ValO.ev tabOk (by rfl)) bpp ?_; (with_reducible refine SL.nil ?_)) | ((with_reducible refine SP.region (id := 1) ?_); refine SL.val (ValO.call ent_40 _ rfl _ (fun w _ => alice_any w)) bpp ?_; refine SL.val (ValO.call ent_41 _ rfl _ (fun w _ => bob_any w)) bpp ?_; refine SL.val (ValO.call ent_32 _ rfl _ (fun w _ => pubB w)) bpp ?_; refine SL.val (ValO.call ent_34 _ rfl _ (fun w _ => shB w)) bpp ?_; refine SL.val (ValO.ev tabOk (by rfl)) bpp ?_; refine SL.val (ValO.ev tabOk (by rfl)) bpp ?_; refine SL.val (ValO.ev tabOk (by rfl)) bpp ?_; refine SL.alloc zero_46 (fun _ => bpp) ?_; (first | intro _); refine SL.storeRow tabOk rfl rfl rfl (gbk _) (by first | (simp [ints_size, bothL_ok.1]; done) | (simp [ints_size, bothL_ok.1]; omega)) (by first | (simp [ints_size, bothL_ok.1]; done) | (simp [ints_size, bothL_ok.1]; omega)) ints_mem stt bpp ?_; refine SL.val (ValO.ev tabOk (by rfl)) bpp ?_; (with_reducible refine SL.nil ?_)) | ((with_reducible refine SP.region (id := 2) ?_); refine SL.val (ValO.ev tabOk (by rfl)) bpp ?_; (first | (refine SL.val (ValO.evB (b := true) tabOk rfl (by first | rfl | (simp only [decide_eq_true_eq, decide_eq_false_iff_not, beq_iff_eq, bne_iff_ne, beq_eq_false_iff_ne, bne_eq_false_iff_eq, ne_eq, gt_iff_lt, ge_iff_le]; omega))) bpp ?_) | (refine SL.val (ValO.evB (b := false) tabOk rfl (by first | rfl | (simp only [decide_eq_true_eq, decide_eq_false_iff_not, beq_iff_eq, bne_iff_ne, beq_eq_false_iff_ne, bne_eq_false_iff_eq, ne_eq, gt_iff_lt, ge_iff_le]; omega))) bpp ?_) | (refine SL.val (ValO.ev tabOk (by rfl)) bpp ?_)); refine SL.val (ValO.ev tabOk (by rfl)) bpp ?_; (first | (refine SL.guardT (by rfl) ?_; refine SL.val (ValO.call ent_40 _ rfl _ (fun w _ => alice_any w)) bpp ?_) | refine SL.guardF (by rfl) bpp ?_); (first | (refine SL.guardT (by rfl) ?_; refine SL.val (ValO.call ent_32 _ rfl _ (fun w _ => pubA w)) bpp ?_) | refine SL.guardF (by rfl) bpp ?_); (first | (refine SL.guardT (by rfl) ?_; refine SL.val (ValO.call ent_39 _ rfl _ (fun w _ => hexA w)) bpp ?_) | refine SL.guardF (by rfl) bpp ?_); (first | (refine SL.guardT (by rfl) ?_; refine SL.val (ValO.eqlStr rfl rfl (by first | (unfold alicePub; decide +kernel) | (unfold bothL; decide +kernel))) bpp ?_) | refine SL.guardF (by rfl) bpp ?_); refine SL.val (ValO.ev tabOk (by rfl)) bpp ?_; refine SL.val (ValO.ev tabOk (by rfl)) bpp ?_; (first | (refine SL.guardT (by rfl) ?_; refine SL.val (ValO.ldRow tabOk _ rfl _ _ rfl rfl _ (by first | exact RdA.own g0 | exact RdA.own g1 | exact RdA.own g2 | exact RdA.own g3 | exact RdA.own g4 | exact RdA.own g5 | exact RdA.own g6 | exact RdA.own g7 | exact RdA.own g8 | exact RdA.own g9 | exact RdA.own g10 | exact RdA.own g11 | exact RdA.own g12 | exact RdA.own g13 | exact RdA.own g14 | exact RdA.own g15) (by first | (simp [ints_size, bothL_ok.1]; done) | (simp [ints_size, bothL_ok.1]; omega))) bpp ?_) | refine SL.guardF (by rfl) bpp ?_); (first | (refine SL.guardT (by rfl) ?_; refine SL.val (ValO.call ent_39 _ rfl _ (fun w _ => hexB w)) bpp ?_) | refine SL.guardF (by rfl) bpp ?_); (first | (refine SL.guardT (by rfl) ?_; refine SL.val (ValO.eqlStr rfl rfl (by first | (unfold alicePub; decide +kernel) | (unfold bothL; decide +kernel))) bpp ?_) | refine SL.guardF (by rfl) bpp ?_); refine SL.val (ValO.ev tabOk (by rfl)) bpp ?_; refine SL.val (ValO.ev tabOk (by rfl)) bpp ?_; (with_reducible refine SL.nil ?_)) | ((with_reducible refine SP.seqK ?_); intro _ _) | (with_reducible refine thenK_normal ?_) | (refine useK (by assumption) ?_) | (with_reducible refine SP.block ?_) | (with_reducible refine thenK_exit ?_) | (with_reducible refine thenK_ret ?_) | (with_reducible refine blockK_normal ?_) | (with_reducible refine blockK_ret ?_) | (with_reducible refine blockK_eq ?_) | (with_reducible refine blockK_ne rfl ?_) | (with_reducible refine SP.skip ?_) | (with_reducible refine SP.ret ?_) | (with_reducible refine SP.exit ?_) | ((with_reducible show SP _ _ _ (Code.cond _ _ _) _ _ _); first | (refine SP.condT rfl (by first | rfl | (simp only [decide_eq_true_eq, beq_iff_eq, bne_iff_ne]; omega)) ?_) | (refine SP.condF rfl (by first | rfl | (simp only [decide_eq_false_iff_not, beq_eq_false_iff_ne, bne_eq_false_iff_eq]; omega)) ?_)))
  exact doneK.mk rfl (ResO.tmp rfl) (by first | rfl | (simp; done) | (simp [nth]; done))

end Low

end Go.Proofs.Ytmchkfganpgheaa
