/-
  works() is true; tail, less.
-/
import Derived.Test.YtngbfamlhlhbmaaPolyQ
namespace Go.Proofs.Ytngbfamlhlhbmaa
set_option linter.unusedSimpArgs false
set_option linter.unusedVariables false
open Go Go.RowKit

namespace Sp
open F
@[irreducible] def wkK : List Int := [133, 214, 190, 120, 87, 85, 109, 51, 127, 68, 82, 254, 66, 213, 6, 168, 1, 3, 128, 138, 251, 13, 178, 253, 74, 191, 246, 175, 65, 73, 245, 27]
@[irreducible] def wkB : List Int := [67, 114, 121, 112, 116, 111, 103, 114, 97, 112, 104, 105, 99, 32, 70, 111, 114, 117, 109, 32, 82, 101, 115, 101, 97, 114, 99, 104, 32, 71, 114, 111, 117, 112]
@[irreducible] def wkT : List Int := [168, 6, 29, 193, 48, 81, 54, 198, 194, 43, 139, 175, 12, 1, 39, 169]
theorem wkK_b : Byts wkK := fun j => by
  by_cases h : j < 32
  · have : ∀ j, j < 32 → 0 ≤ gi wkK j ∧ gi wkK j < 256 := by unfold wkK; decide +kernel
    exact this j h
  · rw [gi_over _ _ (by unfold wkK; simp; omega)]; omega
theorem wkB_b : Byts wkB := fun j => by
  by_cases h : j < 34
  · have : ∀ j, j < 34 → 0 ≤ gi wkB j ∧ gi wkB j < 256 := by unfold wkB; decide +kernel
    exact this j h
  · rw [gi_over _ _ (by unfold wkB; simp; omega)]; omega
theorem wk_tag : ptag wkK wkB = wkT := by
  rw [ptag_val wkK_b wkB_b]
  unfold wkK wkB wkT
  decide +kernel
theorem wkB_len : wkB.length = 34 := by unfold wkB; rfl
theorem wkK_len : wkK.length = 32 := by unfold wkK; rfl
theorem wkT_len : wkT.length = 16 := by unfold wkT; rfl
attribute [simp] wkB_len wkK_len wkT_len
theorem wk_b1 : Try.prog.built 23 [(0, .int .u8 133), (1, .int .u8 214), (2, .int .u8 190), (3, .int .u8 120), (4, .int .u8 87), (5, .int .u8 85), (6, .int .u8 109), (7, .int .u8 51), (8, .int .u8 127), (9, .int .u8 68), (10, .int .u8 82), (11, .int .u8 254), (12, .int .u8 66), (13, .int .u8 213), (14, .int .u8 6), (15, .int .u8 168), (16, .int .u8 1), (17, .int .u8 3), (18, .int .u8 128), (19, .int .u8 138), (20, .int .u8 251), (21, .int .u8 13), (22, .int .u8 178), (23, .int .u8 253), (24, .int .u8 74), (25, .int .u8 191), (26, .int .u8 246), (27, .int .u8 175), (28, .int .u8 65), (29, .int .u8 73), (30, .int .u8 245), (31, .int .u8 27)] = some (ints .u8 (wkK)) := by unfold wkK; kernel_rfl
theorem wk_b2 : Try.prog.built 26 [(0, .int .u8 168), (1, .int .u8 6), (2, .int .u8 29), (3, .int .u8 193), (4, .int .u8 48), (5, .int .u8 81), (6, .int .u8 54), (7, .int .u8 198), (8, .int .u8 194), (9, .int .u8 43), (10, .int .u8 139), (11, .int .u8 175), (12, .int .u8 12), (13, .int .u8 1), (14, .int .u8 39), (15, .int .u8 169)] = some (ints .u8 (wkT)) := by unfold wkT; kernel_rfl
theorem wk_b3 : Instr.fill (fun i => some (i * 1, 1)) ((Array.range (34 * 1)).map ((Value.cells (.int .u8 0))[· % (Value.cells (.int .u8 0)).size]!)) [(0, .int .u8 67), (1, .int .u8 114), (2, .int .u8 121), (3, .int .u8 112), (4, .int .u8 116), (5, .int .u8 111), (6, .int .u8 103), (7, .int .u8 114), (8, .int .u8 97), (9, .int .u8 112), (10, .int .u8 104), (11, .int .u8 105), (12, .int .u8 99), (13, .int .u8 32), (14, .int .u8 70), (15, .int .u8 111), (16, .int .u8 114), (17, .int .u8 117), (18, .int .u8 109), (19, .int .u8 32), (20, .int .u8 82), (21, .int .u8 101), (22, .int .u8 115), (23, .int .u8 101), (24, .int .u8 97), (25, .int .u8 114), (26, .int .u8 99), (27, .int .u8 104), (28, .int .u8 32), (29, .int .u8 71), (30, .int .u8 114), (31, .int .u8 111), (32, .int .u8 117), (33, .int .u8 112)] = some (ints .u8 (wkB)) := by unfold wkB; kernel_rfl

set_option maxRecDepth 20000 in
set_option maxHeartbeats 1000000 in
theorem works_any (w : World) : Calls Try.prog 18 #[] w fun e w' => e = .returned (.bool true) ∧ Below w.heap.size w w' := by
  have tok_kb : True := trivial
  refine pure_of_SP Try.func18 rfl [undef, undef, undef, undef, undef, undef, undef, undef, undef] (by simp only [Try.ntmps18, List.size_toArray, List.length_cons, List.length_nil, Nat.reduceAdd, Nat.reduceSub, Array.replicate_succ, Array.replicate_zero, List.push_toArray, List.append_toArray, List.nil_append, List.cons_append]) _ Try.results18 _ ?_
  repeat (first | ((with_reducible refine SP.region (id := 0) ?_); refine SL.e tabOk ?_; (with_reducible refine SL.nil ?_)) | ((with_reducible refine SP.region (id := 1) ?_); refine SL.v (ValO.build (by first | (dsimp only [List.map, evL, nth]; done) | (dsimp only [List.map, evL, nth]; rfl)) wk_b1) ?_; refine SL.al zero_23 ?_; (first | (have _t := tok_kb; clear _t tok_kb; intro kb) | intro _); refine SL.stR tabOk ?_; (with_reducible refine SL.nil ?_)) | ((with_reducible refine SP.region (id := 2) ?_); refine SL.ldR tabOk ?_; refine SL.bytesC tabOk rfl rfl zero_u8 (by decide) (by decide) (by first | (dsimp only [List.map, evL, nth]; done) | (dsimp only [List.map, evL, nth]; rfl)) wk_b3 (fun _ => by first | (dsimp only [putL, setNth]; done) | (dsimp only [putL, setNth]; rfl)) (fun _ => by first | rfl | (dsimp only [evL, nth]; rfl)) (fun _ => by first | (dsimp only [putL, setNth]; done) | (dsimp only [putL, setNth]; rfl)) ?_; intro w1 wb wfz hw1 hwb hwn; skip; refine SL.v (ValO.call ent_15 _ rfl _ (fun w2 hw2 => ptag_any wkK wkK_len _ _ _ wkB w2 (Sl.of hw2 (RdA.old hwb hwn) (Lies.whole wkB) wkB_len (by decide)) (by decide))) ?_; refine SL.v (ValO.build (by first | (dsimp only [List.map, evL, nth]; done) | (dsimp only [List.map, evL, nth]; rfl)) wk_b2) ?_; refine SL.eqA tabOk (by kernel_rfl) ?_; refine SL.e tabOk ?_; (with_reducible refine SL.nil ?_)) | ((with_reducible refine SP.seqK ?_); intro _ _) | (with_reducible refine thenK_normal ?_) | (refine useK (by assumption) ?_) | (with_reducible refine SP.block ?_) | (with_reducible refine thenK_exit ?_) | (with_reducible refine thenK_ret ?_) | (with_reducible refine blockK_normal ?_) | (with_reducible refine blockK_ret ?_) | (with_reducible refine blockK_eq ?_) | (with_reducible refine blockK_ne rfl ?_) | (with_reducible refine SP.skip ?_) | (with_reducible refine SP.ret ?_) | (with_reducible refine SP.exit ?_) | ((with_reducible show SP _ _ _ (Code.cond _ _ _) _ _ _); first | (refine SP.condT rfl (by first | rfl | (simp only [decide_eq_true_eq, beq_iff_eq, bne_iff_ne]; first | done | omega)) ?_) | (refine SP.condF rfl (by first | rfl | (simp only [decide_eq_false_iff_not, beq_eq_false_iff_ne, bne_eq_false_iff_eq]; first | done | omega)) ?_)))
  exact doneK.mk rfl (ResO.tmp rfl) (by first | (simp [nth, wk_tag]; done) | (rw [wk_tag]; simp [nth]; done))

def tlI' (K : List Int) : Nat → List Int
  | 0 => List.replicate 16 0
  | i + 1 => (tlI' K i).set i (gi K (16 + i))
@[irreducible] def tlI (K : List Int) (i : Nat) : List Int := tlI' K i
theorem tlI_0 (K : List Int) : tlI K 0 = List.replicate 16 0 := by unfold tlI; rfl
theorem tlI_s (K : List Int) (i : Nat) : tlI K (i + 1) = (tlI K i).set i (gi K (16 + i)) := by unfold tlI; rfl
theorem tlI_length (K : List Int) : ∀ i, (tlI K i).length = (List.replicate 16 0).length
  | 0 => by simp [tlI_0]
  | i + 1 => by rw [tlI_s]; simp [tlI_length K i]
attribute [simp] tlI_length

set_option maxRecDepth 20000 in
set_option maxHeartbeats 1000000 in
theorem tail_any' (K : List Int) (hK : K.length = 32) (w : World) : Calls Try.prog 22 #[.agg (ints .u8 K)] w fun e w' => e = .returned (.agg (ints .u8 (tlI K 16))) ∧ Below w.heap.size w w' := by
  have tok_kb : True := trivial
  have tok_ob : True := trivial
  have tok_tb : True := trivial
  refine pure_of_SP Try.func22 rfl [.agg (ints .u8 K), undef, undef, undef, undef, undef, undef, undef, undef, undef, undef, undef, undef, undef, undef, undef] (by simp only [Try.ntmps22, List.size_toArray, List.length_cons, List.length_nil, Nat.reduceAdd, Nat.reduceSub, Array.replicate_succ, Array.replicate_zero, List.push_toArray, List.append_toArray, List.nil_append, List.cons_append]) _ Try.results22 _ ?_
  repeat (first | ((with_reducible refine SP.region (id := 0) ?_); refine SL.bx ?_; (first | (have _t := tok_kb; clear _t tok_kb; intro kb) | (have _t := tok_ob; clear _t tok_ob; intro ob) | (have _t := tok_tb; clear _t tok_tb; intro tb) | intro _); refine SL.al zero_26 ?_; (first | (have _t := tok_kb; clear _t tok_kb; intro kb) | (have _t := tok_ob; clear _t tok_ob; intro ob) | (have _t := tok_tb; clear _t tok_tb; intro tb) | intro _); (with_reducible refine SL.nil ?_)) | ((with_reducible refine SP.region (id := 1) ?_); refine SL.al zero_26 ?_; (first | (have _t := tok_kb; clear _t tok_kb; intro kb) | (have _t := tok_ob; clear _t tok_ob; intro ob) | (have _t := tok_tb; clear _t tok_tb; intro tb) | intro _); (with_reducible refine SL.nil ?_)) | ((with_reducible refine SP.region (id := 2) ?_); refine SL.e tabOk ?_; (with_reducible refine SL.nil ?_)) | ((with_reducible refine SP.seqK ?_); intro _ _) | (with_reducible refine thenK_normal ?_) | (refine useK (by assumption) ?_) | (with_reducible refine SP.block ?_) | (with_reducible refine thenK_exit ?_) | (with_reducible refine thenK_ret ?_) | (with_reducible refine blockK_normal ?_) | (with_reducible refine blockK_ret ?_) | (with_reducible refine blockK_eq ?_) | (with_reducible refine blockK_ne rfl ?_) | (with_reducible refine SP.skip ?_) | (with_reducible refine SP.ret ?_) | (with_reducible refine SP.exit ?_) | ((with_reducible show SP _ _ _ (Code.cond _ _ _) _ _ _); first | (refine SP.condT rfl (by first | rfl | (simp only [decide_eq_true_eq, beq_iff_eq, bne_iff_ne]; first | done | omega)) ?_) | (refine SP.condF rfl (by first | rfl | (simp only [decide_eq_false_iff_not, beq_eq_false_iff_ne, bne_eq_false_iff_eq]; first | done | omega)) ?_)))
  refine SP.loopN (fun k l bs => l = [.agg (ints .u8 K), .pointer (some ⟨kb, 0, none⟩), .pointer (some ⟨ob, 0, none⟩), .pointer (some ⟨tb, 0, none⟩), .int .i64 (k : Nat), nth l 5, nth l 6, nth l 7, nth l 8, nth l 9, nth l 10, nth l 11, nth l 12, nth l 13, nth l 14, nth l 15] ∧ bs = [(tb, ints .u8 (tlI K k), 26), (ob, ints .u8 (List.replicate 16 0), 26), (kb, ints .u8 K, 23)]) 16 ⟨(by first | rfl | (simp only [tlI_0]; done) | (simp only [tlI_0]; rfl) | (rw [tlI_0]; rfl)), (by first | rfl | (simp only [tlI_0]; done) | (simp only [tlI_0]; rfl) | (rw [tlI_0]; rfl))⟩ ?_
  rintro k lfk _ hkk ⟨hlk, rfl⟩
  refine SP.cast hlk ?_
  clear hlk
  by_cases hltk : k < 16
  · have hk1 : IntKind.i64.wrap ((k : Int) + 1) = ((k + 1 : Nat) : Int) := by rw [IntWalk.i64_in _ (by omega)]; omega
    have f16 : IntKind.i64.wrap (16 + (k : Int)) = ((16 + k : Nat) : Int) := by rw [IntWalk.i64_in _ (by omega)]; omega
    repeat (first | ((with_reducible refine SP.region (id := 3) ?_); refine SL.e tabOk ?_; refine SL.e tabOk ?_; (with_reducible refine SL.nil ?_)) | ((with_reducible refine SP.seqK ?_); intro _ _) | (with_reducible refine thenK_normal ?_) | (refine useK (by assumption) ?_) | (with_reducible refine SP.block ?_) | (with_reducible refine thenK_exit ?_) | (with_reducible refine thenK_ret ?_) | (with_reducible refine blockK_normal ?_) | (with_reducible refine blockK_ret ?_) | (with_reducible refine blockK_eq ?_) | (with_reducible refine blockK_ne rfl ?_) | (with_reducible refine SP.skip ?_) | (with_reducible refine SP.ret ?_) | (with_reducible refine SP.exit ?_) | ((with_reducible show SP _ _ _ (Code.cond _ _ _) _ _ _); first | (refine SP.condT rfl (by first | rfl | (simp only [decide_eq_true_eq, beq_iff_eq, bne_iff_ne]; first | done | omega)) ?_) | (refine SP.condF rfl (by first | rfl | (simp only [decide_eq_false_iff_not, beq_eq_false_iff_ne, bne_eq_false_iff_eq]; first | done | omega)) ?_)))
    repeat (first | ((with_reducible refine SP.region (id := 5) ?_); refine SL.e tabOk ?_; refine SL.e tabOk ?_; refine SL.e tabOk ?_; refine SL.ixA tabOk ?_ (hm := by first | (simp only [f16, Nat.zero_add, Nat.mul_one, Nat.one_mul, Int.toNat_natCast]; done) | (simp only [f16, Nat.zero_add, Nat.mul_one, Nat.one_mul, Int.toNat_natCast]; rfl) | rfl); refine SL.ldI tabOk ?_; refine SL.ixA tabOk ?_ (hm := by first | (simp only [f16, Nat.zero_add, Nat.mul_one, Nat.one_mul, Int.toNat_natCast]; done) | (simp only [f16, Nat.zero_add, Nat.mul_one, Nat.one_mul, Int.toNat_natCast]; rfl) | rfl); refine SL.stI tabOk ?_; (with_reducible refine SL.nil ?_)) | ((with_reducible refine SP.seqK ?_); intro _ _) | (with_reducible refine thenK_normal ?_) | (refine useK (by assumption) ?_) | (with_reducible refine SP.block ?_) | (with_reducible refine thenK_exit ?_) | (with_reducible refine thenK_ret ?_) | (with_reducible refine blockK_normal ?_) | (with_reducible refine blockK_ret ?_) | (with_reducible refine blockK_eq ?_) | (with_reducible refine blockK_ne rfl ?_) | (with_reducible refine SP.skip ?_) | (with_reducible refine SP.ret ?_) | (with_reducible refine SP.exit ?_) | ((with_reducible show SP _ _ _ (Code.cond _ _ _) _ _ _); first | (refine SP.condT rfl (by first | rfl | (simp only [decide_eq_true_eq, beq_iff_eq, bne_iff_ne]; first | done | omega)) ?_) | (refine SP.condF rfl (by first | rfl | (simp only [decide_eq_false_iff_not, beq_eq_false_iff_ne, bne_eq_false_iff_eq]; first | done | omega)) ?_)))
    repeat (first | ((with_reducible refine SP.region (id := 4) ?_); refine SL.e tabOk ?_; refine SL.e tabOk ?_; refine SL.e tabOk ?_; (with_reducible refine SL.nil ?_)) | ((with_reducible refine SP.seqK ?_); intro _ _) | (with_reducible refine thenK_normal ?_) | (refine useK (by assumption) ?_) | (with_reducible refine SP.block ?_) | (with_reducible refine thenK_exit ?_) | (with_reducible refine thenK_ret ?_) | (with_reducible refine blockK_normal ?_) | (with_reducible refine blockK_ret ?_) | (with_reducible refine blockK_eq ?_) | (with_reducible refine blockK_ne rfl ?_) | (with_reducible refine SP.skip ?_) | (with_reducible refine SP.ret ?_) | (with_reducible refine SP.exit ?_) | ((with_reducible show SP _ _ _ (Code.cond _ _ _) _ _ _); first | (refine SP.condT rfl (by first | rfl | (simp only [decide_eq_true_eq, beq_iff_eq, bne_iff_ne]; first | done | omega)) ?_) | (refine SP.condF rfl (by first | rfl | (simp only [decide_eq_false_iff_not, beq_eq_false_iff_ne, bne_eq_false_iff_eq]; first | done | omega)) ?_)))
    simp only [hk1]
    exact ⟨hltk, (by first | rfl | (simp only [tlI_s]; done) | (simp only [tlI_s]; rfl) | (rw [tlI_s]; rfl)), (by first | rfl | (simp only [tlI_s]; done) | (simp only [tlI_s]; rfl) | (rw [tlI_s]; rfl))⟩
  · have hendk : k = 16 := by omega
    replace hendk := Lib.hid hendk
    repeat (first | ((with_reducible refine SP.region (id := 3) ?_); refine SL.e tabOk ?_; refine SL.e tabOk ?_; (with_reducible refine SL.nil ?_)) | ((with_reducible refine SP.seqK ?_); intro _ _) | (with_reducible refine thenK_normal ?_) | (refine useK (by assumption) ?_) | (with_reducible refine SP.block ?_) | (with_reducible refine thenK_exit ?_) | (with_reducible refine thenK_ret ?_) | (with_reducible refine blockK_normal ?_) | (with_reducible refine blockK_ret ?_) | (with_reducible refine blockK_eq ?_) | (with_reducible refine blockK_ne rfl ?_) | (with_reducible refine SP.skip ?_) | (with_reducible refine SP.ret ?_) | (with_reducible refine SP.exit ?_) | ((with_reducible show SP _ _ _ (Code.cond _ _ _) _ _ _); first | (refine SP.condT rfl (by first | rfl | (simp only [decide_eq_true_eq, beq_iff_eq, bne_iff_ne]; first | done | omega)) ?_) | (refine SP.condF rfl (by first | rfl | (simp only [decide_eq_false_iff_not, beq_eq_false_iff_ne, bne_eq_false_iff_eq]; first | done | omega)) ?_)))
    have hq := hendk.out; clear hendk; subst hq
    repeat (first | ((with_reducible refine SP.region (id := 6) ?_); refine SL.ldR tabOk ?_; refine SL.stR tabOk ?_; (with_reducible refine SL.nil ?_)) | ((with_reducible refine SP.seqK ?_); intro _ _) | (with_reducible refine thenK_normal ?_) | (refine useK (by assumption) ?_) | (with_reducible refine SP.block ?_) | (with_reducible refine thenK_exit ?_) | (with_reducible refine thenK_ret ?_) | (with_reducible refine blockK_normal ?_) | (with_reducible refine blockK_ret ?_) | (with_reducible refine blockK_eq ?_) | (with_reducible refine blockK_ne rfl ?_) | (with_reducible refine SP.skip ?_) | (with_reducible refine SP.ret ?_) | (with_reducible refine SP.exit ?_) | ((with_reducible show SP _ _ _ (Code.cond _ _ _) _ _ _); first | (refine SP.condT rfl (by first | rfl | (simp only [decide_eq_true_eq, beq_iff_eq, bne_iff_ne]; first | done | omega)) ?_) | (refine SP.condF rfl (by first | rfl | (simp only [decide_eq_false_iff_not, beq_eq_false_iff_ne, bne_eq_false_iff_eq]; first | done | omega)) ?_)))
    refine doneK.mk rfl (ResO.cell tabOk rfl rfl rfl (by first | exact RdA.own g0 | exact RdA.own g1 | exact RdA.own g2 | exact RdA.own g3 | exact RdA.own g4 | exact RdA.own g5 | exact RdA.own g6 | exact RdA.own g7 | exact RdA.own g8 | exact RdA.own g9 | exact RdA.own g10 | exact RdA.own g11 | exact RdA.own g12 | exact RdA.own g13 | exact RdA.own g14 | exact RdA.own g15) (by first | (simp [ints_size]; done) | (simp [ints_size]; omega))) rfl
theorem tlI_val (K : List Int) : ∀ n, n ≤ 16 → ∀ j, gi (tlI K n) j = if j < n then gi K (16 + j) else 0
  | 0, _, j => by rw [tlI_0, gi_rep]; simp
  | n + 1, hn, j => by
    rw [tlI_s]
    by_cases hj : j = n
    · subst hj
      rw [gi_same _ _ _ (by simp; omega), if_pos (by omega)]
    · rw [gi_upd _ _ _ _ hj, tlI_val K n (by omega)]
      by_cases h : j < n
      · rw [if_pos h, if_pos (by omega)]
      · rw [if_neg h, if_neg (by omega)]
theorem tlI_eq {K : List Int} (hK : Byts K) : tlI K 16 = digN 16 (sV K) := by
  have h : Dig 256 (gi (tlI K 16)) 16 := fun i hi => by rw [tlI_val K 16 (Nat.le_refl _), if_pos hi]; exact hK _
  rw [eq_digN (n := 16) (by simp) h, sumN_congr (g := fun i => gi K (16 + i)) (fun i hi => by rw [tlI_val K 16 (Nat.le_refl _), if_pos hi])]
  rfl
theorem tail_any (K : List Int) (hK : K.length = 32) (hb : Byts K) (w : World) : Calls Try.prog 22 #[.agg (ints .u8 K)] w fun e w' => e = .returned (.agg (ints .u8 (digN 16 (sV K)))) ∧ Below w.heap.size w w' := by
  rw [← tlI_eq hb]
  exact tail_any' K hK w

end Sp
end Go.Proofs.Ytngbfamlhlhbmaa
