/-
  CurveX: the point of a private key and a point, of all keys and points. No conditions.
-/
import Derived.Test.YtmchkfganpgheaaCurveD
namespace Go.Proofs.Ytmchkfganpgheaa
set_option linter.unusedSimpArgs false
set_option linter.unusedVariables false
open Go Go.RowKit

open Go.ChangeShapes Go.WideShapes Go.ChangeAt Sp F

theorem u8_byte (op : BinOp) (x y : Int) : 0 ≤ bits op .u8 x y ∧ bits op .u8 x y < 256 := by
  have hw : ∀ n, 0 ≤ IntKind.u8.wrap n ∧ IntKind.u8.wrap n < 256 := fun n => by rw [IntKind.wrap_u8]; omega
  unfold Go.bits
  exact hw _
theorem byt_of {k : List Int} (h : Bytes32 k) : Byt k := by
  intro j
  by_cases hj : j < 32
  · exact h.2 j hj
  · have : gi k j = 0 := by unfold gi; rw [List.getD_eq_getElem?_getD, List.getElem?_eq_none (by rw [h.1]; omega)]; rfl
    rw [this]; omega
theorem byt_set {K : List Int} (h : Byt K) (i : Nat) {v : Int} (hv : 0 ≤ v ∧ v < 256) : Byt (K.set i v) := by
  intro j
  have hj := h j
  unfold gi at *
  rw [List.getD_eq_getElem?_getD] at *
  rw [List.getElem?_set]
  split
  · split
    · exact hv
    · show (0 : Int) ≤ 0 ∧ (0 : Int) < 256; omega
  · exact hj
theorem byt_clamp {k : List Int} (h : Bytes32 k) : Byt (clampL k) := by
  unfold clampL
  exact byt_set (byt_set (byt_of h) 0 (u8_byte _ _ _)) 31 (u8_byte _ _ _)
set_option maxRecDepth 20000 in
set_option maxHeartbeats 1000000 in
theorem curveXlaw_walk (a : List Int) (la : a.length = 32) (wa : ∀ x ∈ a, (Lit.int .u8 x).wf = true) (b : List Int) (lb : b.length = 32) (wb : ∀ x ∈ b, (Lit.int .u8 x).wf = true) (w : World) :
    Calls Try.prog 5 #[.agg (ints .u8 a), .agg (ints .u8 b)] w fun e w' => e = .returned (.bool true) ∧ Below w.heap.size w w' := by
  have hub := bytes32_of lb wb
  have hkb := byt_clamp (bytes32_of la wa)
  clear wa wb
  refine pure_of_SP Try.func5 rfl [.agg (ints .u8 a), .agg (ints .u8 b), undef, undef, undef, undef, undef, undef, undef, undef, undef, undef] (by simp only [Try.ntmps5, List.size_toArray, List.length_cons, List.length_nil, Nat.reduceAdd, Nat.reduceSub, Array.replicate_succ, Array.replicate_zero, List.push_toArray, List.append_toArray, List.nil_append, List.cons_append]) _ Try.results5 _ ?_
  repeat (first | ((with_reducible refine SP.region (id := 0) ?_); refine SL.box (by first | (dsimp only [evL, nth, Value.cells]; done) | (dsimp only [evL, nth, Value.cells]; rfl)) (fun _ => (by first | (dsimp only [putL, setNth, evL, nth, Nat.zero_add, Nat.add_zero, Nat.reduceAdd, Nat.reduceMul, Nat.reduceSub, Int.reduceToNat, Int.toNat_natCast, Nat.mul_one, Nat.one_mul, gi_c0, gi_c1, gi_c2, gi_c3]; rfl) | (dsimp only [putL, setNth, evL, nth, Nat.zero_add, Nat.add_zero, Nat.reduceAdd, Nat.reduceMul, Nat.reduceSub, Int.reduceToNat, Int.toNat_natCast, Nat.mul_one, Nat.one_mul, gi_c0, gi_c1, gi_c2, gi_c3]; done))) ?_; (first | intro _); refine SL.box (by first | (dsimp only [evL, nth, Value.cells]; done) | (dsimp only [evL, nth, Value.cells]; rfl)) (fun _ => (by first | (dsimp only [putL, setNth, evL, nth, Nat.zero_add, Nat.add_zero, Nat.reduceAdd, Nat.reduceMul, Nat.reduceSub, Int.reduceToNat, Int.toNat_natCast, Nat.mul_one, Nat.one_mul, gi_c0, gi_c1, gi_c2, gi_c3]; rfl) | (dsimp only [putL, setNth, evL, nth, Nat.zero_add, Nat.add_zero, Nat.reduceAdd, Nat.reduceMul, Nat.reduceSub, Int.reduceToNat, Int.toNat_natCast, Nat.mul_one, Nat.one_mul, gi_c0, gi_c1, gi_c2, gi_c3]; done))) ?_; (first | intro _); refine SL.val (ValO.ev tabOk (by rfl)) (by first | (dsimp only [putL, setNth, evL, nth, Nat.zero_add, Nat.add_zero, Nat.reduceAdd, Nat.reduceMul, Nat.reduceSub, Int.reduceToNat, Int.toNat_natCast, Nat.mul_one, Nat.one_mul, gi_c0, gi_c1, gi_c2, gi_c3]; rfl) | (dsimp only [putL, setNth, evL, nth, Nat.zero_add, Nat.add_zero, Nat.reduceAdd, Nat.reduceMul, Nat.reduceSub, Int.reduceToNat, Int.toNat_natCast, Nat.mul_one, Nat.one_mul, gi_c0, gi_c1, gi_c2, gi_c3]; done)) ?_; (with_reducible refine SL.nil ?_)) | ((with_reducible show SP _ _ _ (Code.region _ _ true) _ _ _); first | (refine SP_any (id := 1) [] [] ([]) [0, 1, 2, 3, 4, 5, 6, 7] follows (by kernel_rfl) (by first | (simp only [List.filterMap_cons, List.filterMap_nil, List.getElem?_cons_zero, List.getElem?_cons_succ, Option.map_some]; done) | (simp only [List.filterMap_cons, List.filterMap_nil, List.getElem?_cons_zero, List.getElem?_cons_succ, Option.map_some]; rfl)) (by first | exact Kept.nil | (simp [Kept]; done)) ?_; refine SF.val rfl rfl rfl rfl (ValO.ldRow tabOk _ rfl _ _ rfl rfl _ (by first | exact RdA.own g0 | exact RdA.own g1 | exact RdA.own g2 | exact RdA.own g3 | exact RdA.own g4 | exact RdA.own g5 | exact RdA.own g6 | exact RdA.own g7 | exact RdA.own g8 | exact RdA.own g9 | exact RdA.own g10 | exact RdA.own g11 | exact RdA.own g12 | exact RdA.own g13 | exact RdA.own g14 | exact RdA.own g15) (by first | (simp [ints_size, la, lb, le32_length]; done) | (simp [ints_size, la, lb, le32_length]; omega))) (by first | (dsimp only [putL, setNth, evL, nth, Nat.zero_add, Nat.add_zero, Nat.reduceAdd, Nat.reduceMul, Nat.reduceSub, Int.reduceToNat, Int.toNat_natCast, Nat.mul_one, Nat.one_mul, gi_c0, gi_c1, gi_c2, gi_c3]; rfl) | (dsimp only [putL, setNth, evL, nth, Nat.zero_add, Nat.add_zero, Nat.reduceAdd, Nat.reduceMul, Nat.reduceSub, Int.reduceToNat, Int.toNat_natCast, Nat.mul_one, Nat.one_mul, gi_c0, gi_c1, gi_c2, gi_c3]; done)) ?_; refine SF.val rfl rfl rfl rfl (ValO.ldRow tabOk _ rfl _ _ rfl rfl _ (by first | exact RdA.own g0 | exact RdA.own g1 | exact RdA.own g2 | exact RdA.own g3 | exact RdA.own g4 | exact RdA.own g5 | exact RdA.own g6 | exact RdA.own g7 | exact RdA.own g8 | exact RdA.own g9 | exact RdA.own g10 | exact RdA.own g11 | exact RdA.own g12 | exact RdA.own g13 | exact RdA.own g14 | exact RdA.own g15) (by first | (simp [ints_size, la, lb, le32_length]; done) | (simp [ints_size, la, lb, le32_length]; omega))) (by first | (dsimp only [putL, setNth, evL, nth, Nat.zero_add, Nat.add_zero, Nat.reduceAdd, Nat.reduceMul, Nat.reduceSub, Int.reduceToNat, Int.toNat_natCast, Nat.mul_one, Nat.one_mul, gi_c0, gi_c1, gi_c2, gi_c3]; rfl) | (dsimp only [putL, setNth, evL, nth, Nat.zero_add, Nat.add_zero, Nat.reduceAdd, Nat.reduceMul, Nat.reduceSub, Int.reduceToNat, Int.toNat_natCast, Nat.mul_one, Nat.one_mul, gi_c0, gi_c1, gi_c2, gi_c3]; done)) ?_; refine SF.val rfl rfl rfl rfl (ValO.call ent_30 _ rfl _ (fun w _ => curveX_any _ _ la hub hkb w)) (by first | (dsimp only [putL, setNth, evL, nth, Nat.zero_add, Nat.add_zero, Nat.reduceAdd, Nat.reduceMul, Nat.reduceSub, Int.reduceToNat, Int.toNat_natCast, Nat.mul_one, Nat.one_mul, gi_c0, gi_c1, gi_c2, gi_c3]; rfl) | (dsimp only [putL, setNth, evL, nth, Nat.zero_add, Nat.add_zero, Nat.reduceAdd, Nat.reduceMul, Nat.reduceSub, Int.reduceToNat, Int.toNat_natCast, Nat.mul_one, Nat.one_mul, gi_c0, gi_c1, gi_c2, gi_c3]; done)) ?_; refine SF.val rfl rfl rfl rfl (ValO.ldRow tabOk _ rfl _ _ rfl rfl _ (by first | exact RdA.own g0 | exact RdA.own g1 | exact RdA.own g2 | exact RdA.own g3 | exact RdA.own g4 | exact RdA.own g5 | exact RdA.own g6 | exact RdA.own g7 | exact RdA.own g8 | exact RdA.own g9 | exact RdA.own g10 | exact RdA.own g11 | exact RdA.own g12 | exact RdA.own g13 | exact RdA.own g14 | exact RdA.own g15) (by first | (simp [ints_size, la, lb, le32_length]; done) | (simp [ints_size, la, lb, le32_length]; omega))) (by first | (dsimp only [putL, setNth, evL, nth, Nat.zero_add, Nat.add_zero, Nat.reduceAdd, Nat.reduceMul, Nat.reduceSub, Int.reduceToNat, Int.toNat_natCast, Nat.mul_one, Nat.one_mul, gi_c0, gi_c1, gi_c2, gi_c3]; rfl) | (dsimp only [putL, setNth, evL, nth, Nat.zero_add, Nat.add_zero, Nat.reduceAdd, Nat.reduceMul, Nat.reduceSub, Int.reduceToNat, Int.toNat_natCast, Nat.mul_one, Nat.one_mul, gi_c0, gi_c1, gi_c2, gi_c3]; done)) ?_; refine SF.val rfl rfl rfl rfl (ValO.ldRow tabOk _ rfl _ _ rfl rfl _ (by first | exact RdA.own g0 | exact RdA.own g1 | exact RdA.own g2 | exact RdA.own g3 | exact RdA.own g4 | exact RdA.own g5 | exact RdA.own g6 | exact RdA.own g7 | exact RdA.own g8 | exact RdA.own g9 | exact RdA.own g10 | exact RdA.own g11 | exact RdA.own g12 | exact RdA.own g13 | exact RdA.own g14 | exact RdA.own g15) (by first | (simp [ints_size, la, lb, le32_length]; done) | (simp [ints_size, la, lb, le32_length]; omega))) (by first | (dsimp only [putL, setNth, evL, nth, Nat.zero_add, Nat.add_zero, Nat.reduceAdd, Nat.reduceMul, Nat.reduceSub, Int.reduceToNat, Int.toNat_natCast, Nat.mul_one, Nat.one_mul, gi_c0, gi_c1, gi_c2, gi_c3]; rfl) | (dsimp only [putL, setNth, evL, nth, Nat.zero_add, Nat.add_zero, Nat.reduceAdd, Nat.reduceMul, Nat.reduceSub, Int.reduceToNat, Int.toNat_natCast, Nat.mul_one, Nat.one_mul, gi_c0, gi_c1, gi_c2, gi_c3]; done)) ?_; refine SF.val rfl rfl rfl rfl (ValO.call ent_31 _ rfl _ (fun w _ => rcurveX_any _ _ la hub hkb w)) (by first | (dsimp only [putL, setNth, evL, nth, Nat.zero_add, Nat.add_zero, Nat.reduceAdd, Nat.reduceMul, Nat.reduceSub, Int.reduceToNat, Int.toNat_natCast, Nat.mul_one, Nat.one_mul, gi_c0, gi_c1, gi_c2, gi_c3]; rfl) | (dsimp only [putL, setNth, evL, nth, Nat.zero_add, Nat.add_zero, Nat.reduceAdd, Nat.reduceMul, Nat.reduceSub, Int.reduceToNat, Int.toNat_natCast, Nat.mul_one, Nat.one_mul, gi_c0, gi_c1, gi_c2, gi_c3]; done)) ?_; refine SF.val rfl rfl rfl rfl (ValO.eqlI tabOk rfl rfl rfl rfl (by kernel_rfl) (by first | (simp [la, lb, le32_length]; done) | (simp [la, lb, le32_length]; omega)) (by first | (simp [la, lb, le32_length]; done) | (simp [la, lb, le32_length]; omega))) (by first | (dsimp only [putL, setNth, evL, nth, Nat.zero_add, Nat.add_zero, Nat.reduceAdd, Nat.reduceMul, Nat.reduceSub, Int.reduceToNat, Int.toNat_natCast, Nat.mul_one, Nat.one_mul, gi_c0, gi_c1, gi_c2, gi_c3]; rfl) | (dsimp only [putL, setNth, evL, nth, Nat.zero_add, Nat.add_zero, Nat.reduceAdd, Nat.reduceMul, Nat.reduceSub, Int.reduceToNat, Int.toNat_natCast, Nat.mul_one, Nat.one_mul, gi_c0, gi_c1, gi_c2, gi_c3]; done)) ?_; refine SF.pure tabOk rfl rfl rfl (by first | (dsimp only [putL, setNth, evL, nth, Nat.zero_add, Nat.add_zero, Nat.reduceAdd, Nat.reduceMul, Nat.reduceSub, Int.reduceToNat, Int.toNat_natCast, Nat.mul_one, Nat.one_mul, gi_c0, gi_c1, gi_c2, gi_c3]; rfl) | (dsimp only [putL, setNth, evL, nth, Nat.zero_add, Nat.add_zero, Nat.reduceAdd, Nat.reduceMul, Nat.reduceSub, Int.reduceToNat, Int.toNat_natCast, Nat.mul_one, Nat.one_mul, gi_c0, gi_c1, gi_c2, gi_c3]; done)) ?_; refine SF.done ?_)) | ((with_reducible refine SP.seqK ?_); intro _ _) | (with_reducible refine thenK_normal ?_) | (refine useK (by assumption) ?_) | (with_reducible refine SP.block ?_) | (with_reducible refine thenK_exit ?_) | (with_reducible refine thenK_ret ?_) | (with_reducible refine blockK_normal ?_) | (with_reducible refine blockK_ret ?_) | (with_reducible refine blockK_eq ?_) | (with_reducible refine blockK_ne rfl ?_) | (with_reducible refine SP.skip ?_) | (with_reducible refine SP.ret ?_) | (with_reducible refine SP.exit ?_) | ((with_reducible show SP _ _ _ (Code.cond _ _ _) _ _ _); first | (refine SP.condT rfl (by first | rfl | (simp only [decide_eq_true_eq, beq_iff_eq, bne_iff_ne]; omega)) ?_) | (refine SP.condF rfl (by first | rfl | (simp only [decide_eq_false_iff_not, beq_eq_false_iff_ne, bne_eq_false_iff_eq]; omega)) ?_)))
  exact doneK.mk rfl (ResO.tmp rfl) (by simp [nth])

set_option maxRecDepth 100000 in
theorem CurveX_lifted (os : Os) (started : os.Started) (H : Type) (enc : TypeId × Value → H) :
    ReturnsInHanded {} Try.checked os 5 .any (Rows.curveXSpec.pre6 enc Try.prog Try.f5 Rows.curveXRow.domain false) (Rows.curveXSpec.post enc Try.prog Try.f5 false true false false) := by
  refine returnsInHanded_of_change (C := Try.checked) (by kernel_rfl) started (by kernel_rfl) Try.func5
    (ChangeSpec.witness6 (enc := enc) (C := Try.checked) false ⟨#[], #[.agg (ints .u8 (List.replicate 32 0)), .agg (ints .u8 (List.replicate 32 0))], []⟩ 8 (by kernel_rfl) (by kernel_rfl) (by kernel_rfl) (by kernel_rfl)) ?_
  intro W base args ds gs before hval0 hW hcnd _
  have hval : ∀ (j : Nat) t v, Try.f5.params[j]? = some t → args[j]? = some v → Value.okWide Try.prog W .any base t v := hval0
  have hW' := hW
  obtain ⟨p, q, hA0, hV, rfl, hfz, hnd⟩ := hW
  have hA : DataW.TrodAll enc Try.prog W 0 (fun _ => true) true Try.f5.params.toList args.toList ds p := hA0
  rw [Try.params5] at hA hval
  obtain ⟨v0, vs0, d0, ds0, p0, q0, hargs, rfl, rfl, h0, r0⟩ := trodAll_cons hA
  obtain ⟨v1, vs1, d1, ds1, p1, q1, rfl, rfl, rfl, h1, r1⟩ := trodAll_cons r0
  obtain ⟨rfl, rfl, rfl⟩ := trodAll_nil r1
  obtain rfl : args = #[v0, v1] := by cases args; simp_all
  obtain ⟨rfl, rfl⟩ := trodVars_none hV
  have k0 := h0
  have k1 := h1
  obtain ⟨a0, rfl, l0, w0, hp0⟩ := open_arr (k := .u8) (n := 32) Try.underlying46 Try.underlying5 (by kernel_rfl) (by kernel_rfl) (hval 0 46 v0 rfl rfl) h0
  obtain ⟨a1, rfl, l1, w1, hp1⟩ := open_arr (k := .u8) (n := 32) Try.underlying46 Try.underlying5 (by kernel_rfl) (by kernel_rfl) (hval 1 46 v1 rfl rfl) h1
  clear hA0 hval0
  subst hp0
  subst hp1
  refine (curveXlaw_walk a0 l0 w0 a1 l1 w1 W).mono fun e W' ⟨he, hg⟩ => ?_
  subst he
  exact ⟨_, rfl, _, _, _, [], [], [], hW', (trodAll_cons_mk (shut_bool Try.underlying4 _) trodAll_mk0), (trodAll_cons_mk (Below.trod Try.laidOut (by kernel_rfl) (of_decide_eq_true (by kernel_rfl)) k0 hg (by simp)) (trodAll_cons_mk (Below.trod Try.laidOut (by kernel_rfl) (of_decide_eq_true (by kernel_rfl)) k1 hg (by simp)) trodAll_mk0)), rfl_vars, hg.frame _, fun h => by cases h⟩

theorem CurveX_holds : Rows.CurveXSaid :=
  OpenClaim.holds_of_wide 5 Try.f5 rfl rfl rfl rfl rfl rfl rfl ⟨rfl, rfl, rfl, rfl, rfl⟩ rfl rfl rfl rfl rfl (by kernel_rfl) Try.func5 (by kernel_rfl)
    (of_decide_eq_true (by kernel_rfl)) (by unfold Func.isWrapper; first | (rw [if_pos (by decide +kernel)]; kernel_rfl) | (rw [if_neg (by decide +kernel)]; exact ⟨rfl, rfl⟩))
    (fun os started H enc _ => CurveX_lifted os started H enc)
#print axioms CurveX_holds

end Go.Proofs.Ytmchkfganpgheaa
