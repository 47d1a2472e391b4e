/-
  CurveThree: three share the same, in whichever order. No conditions.
-/
import Derived.Test.YtmchkfganpgheaaEdX
import Derived.Test.YtmchkfganpgheaaSh
namespace Go.Proofs.Ytmchkfganpgheaa
set_option linter.unusedSimpArgs false
set_option linter.unusedVariables false
open Go Go.RowKit

open Go.ChangeShapes Go.WideShapes Go.ChangeAt Sp F Low
namespace Sp
theorem eqlT {P : Program} {w0 : World} {mu : List Nat} {bs : Mem} {l : List Value} {dst : Option Tmp} {ty : TypeId} {pos : String} {af : Array Edge} {gd : Option (Nat × Bool)} {tab : Tab} (ht : TabOk P tab) {t t' : TypeId} {x y : Operand} {k : IntKind} {L L' : List Int} {n e sz : Nat} (hl : look tab t = some (.arr n e 1, sz)) {k' : IntKind} {sz' : Nat} (hle : look tab e = some (.int k', sz')) (hx : evL l x = .agg (ints k L)) (hy : evL l y = .agg (ints k L'))
    (hg : P.eqGuardType P.depth t = false) (hL : L.length = n) (hM : L'.length = n) (e : L = L') : ValO P w0 mu bs l ⟨dst, .binOp .eql t x y t', ty, pos, af, gd⟩ (.bool true) := by
  have h := ValO.eqlI (mu := mu) (dst := dst) (t' := t') (ty := ty) (pos := pos) (af := af) (gd := gd) (w0 := w0) (bs := bs) ht hl hle hx hy hg hL hM
  rwa [decide_eq_true e] at h
end Sp

set_option maxRecDepth 20000 in
set_option maxHeartbeats 1000000 in
theorem curveThree_walk (a : List Int) (la : a.length = 32) (wa : ∀ x ∈ a, (Lit.int .u8 x).wf = true) (b : List Int) (lb : b.length = 32) (wb : ∀ x ∈ b, (Lit.int .u8 x).wf = true) (c : List Int) (lc : c.length = 32) (wc : ∀ x ∈ c, (Lit.int .u8 x).wf = true) (w : World) :
    Calls Try.prog 11 #[.agg (ints .u8 (a)), .agg (ints .u8 (b)), .agg (ints .u8 (c))] w fun e w' => e = .returned (.bool true) ∧ Below w.heap.size w w' := by
  have hua := bytes32_of la wa
  have hka := byt_clamp hua
  have hPa := pub_any a la hka
  have lpa : (le32 (pubV a)).length = 32 := (Ed.pub_ok a).1
  have hub := bytes32_of lb wb
  have hkb := byt_clamp hub
  have hPb := pub_any b lb hkb
  have lpb : (le32 (pubV b)).length = 32 := (Ed.pub_ok b).1
  have huc := bytes32_of lc wc
  have hkc := byt_clamp huc
  have hPc := pub_any c lc hkc
  have lpc : (le32 (pubV c)).length = 32 := (Ed.pub_ok c).1
  have hX1 := shX_any b (le32 (pubV c)) lb (Ed.pub_ok c) hkb
  have hX2 := shX_any a (shX b (le32 (pubV c))) la (Ed.shX_ok _ _) hka
  have hX3 := shX_any c (le32 (pubV a)) lc (Ed.pub_ok a) hkc
  have hX4 := shX_any b (shX c (le32 (pubV a))) lb (Ed.shX_ok _ _) hkb
  have hX5 := shX_any a (le32 (pubV b)) la (Ed.pub_ok b) hka
  have hX6 := shX_any c (shX a (le32 (pubV b))) lc (Ed.shX_ok _ _) hkc
  rw [← Ed.three_eq hkb hkc hka, ← Ed.three_eq hka hkb hkc] at hX6
  rw [← Ed.three_eq hka hkb hkc] at hX4
  have ls : (shX a (shX b (le32 (pubV c)))).length = 32 := shX_length _ _
  have l1 : (shX b (le32 (pubV c))).length = 32 := shX_length _ _
  have l2 : (shX c (le32 (pubV a))).length = 32 := shX_length _ _
  have l3 : (shX a (le32 (pubV b))).length = 32 := shX_length _ _
  generalize shX a (shX b (le32 (pubV c))) = s at *
  generalize shX b (le32 (pubV c)) = s1 at *
  generalize shX c (le32 (pubV a)) = s2 at *
  generalize shX a (le32 (pubV b)) = s3 at *
  generalize le32 (pubV a) = pa at *
  generalize le32 (pubV b) = pb at *
  generalize le32 (pubV c) = pc at *
  clear wa hua hka wb hub hkb wc huc hkc
  have tok_ka : True := trivial
  have tok_kb : True := trivial
  have tok_kc : True := trivial
  have tok_xb : True := trivial
  have tok_yb : True := trivial
  have tok_zb : True := trivial
  refine pure_of_SP Try.func11 rfl [.agg (ints .u8 (a)), .agg (ints .u8 (b)), .agg (ints .u8 (c)), undef, undef, undef, undef, undef, undef, undef, undef, undef, undef, undef, undef, undef, undef, undef, undef, undef, undef, undef, undef, undef, undef, undef, undef, undef, undef, undef, undef, undef, undef, undef, undef, undef, undef, undef, undef] (by simp only [Try.ntmps11, List.size_toArray, List.length_cons, List.length_nil, Nat.reduceAdd, Nat.reduceSub, Array.replicate_succ, Array.replicate_zero, List.push_toArray, List.append_toArray, List.nil_append, List.cons_append]) _ Try.results11 _ ?_
  repeat (first | ((with_reducible refine SP.region (id := 0) ?_); refine SL.bx ?_; (first | (have _t := tok_ka; clear _t tok_ka; intro ka) | (have _t := tok_kb; clear _t tok_kb; intro kb) | (have _t := tok_kc; clear _t tok_kc; intro kc) | (have _t := tok_xb; clear _t tok_xb; intro xb) | (have _t := tok_yb; clear _t tok_yb; intro yb) | (have _t := tok_zb; clear _t tok_zb; intro zb) | intro _); refine SL.bx ?_; (first | (have _t := tok_ka; clear _t tok_ka; intro ka) | (have _t := tok_kb; clear _t tok_kb; intro kb) | (have _t := tok_kc; clear _t tok_kc; intro kc) | (have _t := tok_xb; clear _t tok_xb; intro xb) | (have _t := tok_yb; clear _t tok_yb; intro yb) | (have _t := tok_zb; clear _t tok_zb; intro zb) | intro _); refine SL.bx ?_; (first | (have _t := tok_ka; clear _t tok_ka; intro ka) | (have _t := tok_kb; clear _t tok_kb; intro kb) | (have _t := tok_kc; clear _t tok_kc; intro kc) | (have _t := tok_xb; clear _t tok_xb; intro xb) | (have _t := tok_yb; clear _t tok_yb; intro yb) | (have _t := tok_zb; clear _t tok_zb; intro zb) | intro _); refine SL.e tabOk ?_; (with_reducible refine SL.nil ?_)) | ((with_reducible refine SP.region (id := 4) ?_); refine SL.ldR tabOk ?_; refine SL.ldR tabOk ?_; refine SL.v (Sp.eqlT tabOk rfl rfl rfl rfl (by kernel_rfl) (by first | (simp [ints_size]; omega) | (simp; omega) | omega) (by first | (simp [ints_size]; omega) | (simp; omega) | omega) rfl) ?_; refine SL.e tabOk ?_; (first | (refine SL.gT ?_; refine SL.ldR tabOk ?_) | refine SL.gF ?_); (first | (refine SL.gT ?_; refine SL.ldR tabOk ?_) | refine SL.gF ?_); (first | (refine SL.gT ?_; refine SL.v (Sp.eqlT tabOk rfl rfl rfl rfl (by kernel_rfl) (by first | (simp [ints_size]; omega) | (simp; omega) | omega) (by first | (simp [ints_size]; omega) | (simp; omega) | omega) rfl) ?_) | refine SL.gF ?_); refine SL.e tabOk ?_; refine SL.e tabOk ?_; (first | (refine SL.gT ?_; refine SL.v (ValO.call ent_36 _ rfl _ (fun w _ => awake_any w)) ?_) | refine SL.gF ?_); refine SL.e tabOk ?_; refine SL.e tabOk ?_; (with_reducible refine SL.nil ?_)) | ((with_reducible show SP _ _ _ (Code.region _ _ true) _ _ _); first | (refine SP_any (id := 1) [7] [] ([]) [0, 1, 2, 3, 4, 5, 6, 7] follows (by kernel_rfl) (by first | (simp only [List.filterMap_cons, List.filterMap_nil, List.getElem?_cons_zero, List.getElem?_cons_succ, Option.map_some]; done) | (simp only [List.filterMap_cons, List.filterMap_nil, List.getElem?_cons_zero, List.getElem?_cons_succ, Option.map_some]; rfl)) (by first | exact Kept.nil | (simp [Kept]; done)) ?_; refine SF.ldR tabOk ?_; refine SF.ldR tabOk ?_; refine SF.ldR tabOk ?_; refine SF.v (ValO.call ent_32 _ rfl _ (fun w _ => hPc w)) ?_; refine SF.v (ValO.call ent_30 _ rfl _ (fun w _ => hX1 w)) ?_; refine SF.v (ValO.call ent_30 _ rfl _ (fun w _ => hX2 w)) ?_; refine SF.al zero_46 ?_; (first | (have _t := tok_ka; clear _t tok_ka; intro ka) | (have _t := tok_kb; clear _t tok_kb; intro kb) | (have _t := tok_kc; clear _t tok_kc; intro kc) | (have _t := tok_xb; clear _t tok_xb; intro xb) | (have _t := tok_yb; clear _t tok_yb; intro yb) | (have _t := tok_zb; clear _t tok_zb; intro zb) | intro _); refine SF.stR tabOk ?_; refine SF.done ?_) | (refine SP_any (id := 2) [7] [] ([]) [0, 1, 2, 3, 4, 5, 6, 7] follows (by kernel_rfl) (by first | (simp only [List.filterMap_cons, List.filterMap_nil, List.getElem?_cons_zero, List.getElem?_cons_succ, Option.map_some]; done) | (simp only [List.filterMap_cons, List.filterMap_nil, List.getElem?_cons_zero, List.getElem?_cons_succ, Option.map_some]; rfl)) (by first | exact Kept.nil | (simp [Kept]; done)) ?_; refine SF.ldR tabOk ?_; refine SF.ldR tabOk ?_; refine SF.ldR tabOk ?_; refine SF.v (ValO.call ent_32 _ rfl _ (fun w _ => hPa w)) ?_; refine SF.v (ValO.call ent_30 _ rfl _ (fun w _ => hX3 w)) ?_; refine SF.v (ValO.call ent_30 _ rfl _ (fun w _ => hX4 w)) ?_; refine SF.al zero_46 ?_; (first | (have _t := tok_ka; clear _t tok_ka; intro ka) | (have _t := tok_kb; clear _t tok_kb; intro kb) | (have _t := tok_kc; clear _t tok_kc; intro kc) | (have _t := tok_xb; clear _t tok_xb; intro xb) | (have _t := tok_yb; clear _t tok_yb; intro yb) | (have _t := tok_zb; clear _t tok_zb; intro zb) | intro _); refine SF.stR tabOk ?_; refine SF.done ?_) | (refine SP_any (id := 3) [7] [] ([]) [0, 1, 2, 3, 4, 5, 6, 7] follows (by kernel_rfl) (by first | (simp only [List.filterMap_cons, List.filterMap_nil, List.getElem?_cons_zero, List.getElem?_cons_succ, Option.map_some]; done) | (simp only [List.filterMap_cons, List.filterMap_nil, List.getElem?_cons_zero, List.getElem?_cons_succ, Option.map_some]; rfl)) (by first | exact Kept.nil | (simp [Kept]; done)) ?_; refine SF.ldR tabOk ?_; refine SF.ldR tabOk ?_; refine SF.ldR tabOk ?_; refine SF.v (ValO.call ent_32 _ rfl _ (fun w _ => hPb w)) ?_; refine SF.v (ValO.call ent_30 _ rfl _ (fun w _ => hX5 w)) ?_; refine SF.v (ValO.call ent_30 _ rfl _ (fun w _ => hX6 w)) ?_; refine SF.al zero_46 ?_; (first | (have _t := tok_ka; clear _t tok_ka; intro ka) | (have _t := tok_kb; clear _t tok_kb; intro kb) | (have _t := tok_kc; clear _t tok_kc; intro kc) | (have _t := tok_xb; clear _t tok_xb; intro xb) | (have _t := tok_yb; clear _t tok_yb; intro yb) | (have _t := tok_zb; clear _t tok_zb; intro zb) | intro _); refine SF.stR tabOk ?_; refine SF.done ?_)) | ((with_reducible refine SP.seqK ?_); intro _ _) | (with_reducible refine thenK_normal ?_) | (refine useK (by assumption) ?_) | (with_reducible refine SP.block ?_) | (with_reducible refine thenK_exit ?_) | (with_reducible refine thenK_ret ?_) | (with_reducible refine blockK_normal ?_) | (with_reducible refine blockK_ret ?_) | (with_reducible refine blockK_eq ?_) | (with_reducible refine blockK_ne rfl ?_) | (with_reducible refine SP.skip ?_) | (with_reducible refine SP.ret ?_) | (with_reducible refine SP.exit ?_) | ((with_reducible show SP _ _ _ (Code.cond _ _ _) _ _ _); first | (refine SP.condT rfl (by first | rfl | (simp only [decide_eq_true_eq, beq_iff_eq, bne_iff_ne]; omega)) ?_) | (refine SP.condF rfl (by first | rfl | (simp only [decide_eq_false_iff_not, beq_eq_false_iff_ne, bne_eq_false_iff_eq]; omega)) ?_)))
  exact doneK.mk rfl (ResO.tmp rfl) (by first | rfl | (simp; done) | (simp [nth]; done))

set_option maxRecDepth 100000 in
theorem CurveThree_lifted (os : Os) (started : os.Started) (H : Type) (enc : TypeId × Value → H) :
    ReturnsInHanded {} Try.checked os 11 .any (Rows.curveThreeSpec.pre6 enc Try.prog Try.f11 Rows.curveThreeRow.domain false) (Rows.curveThreeSpec.post enc Try.prog Try.f11 false true false false) := by
  refine returnsInHanded_of_change (C := Try.checked) (by kernel_rfl) started (by kernel_rfl) Try.func11
    (ChangeSpec.witness6 (enc := enc) (C := Try.checked) false ⟨#[], #[.agg (ints .u8 (List.replicate 32 0)), .agg (ints .u8 (List.replicate 32 0)), .agg (ints .u8 (List.replicate 32 0))], []⟩ 8 (by kernel_rfl) (by kernel_rfl) (by kernel_rfl) (by kernel_rfl)) ?_
  intro W base args ds gs before hval0 hW hcnd _
  have hval : ∀ (j : Nat) t v, Try.f11.params[j]? = some t → args[j]? = some v → Value.okWide Try.prog W .any base t v := hval0
  have hW' := hW
  obtain ⟨p, q, hA0, hV, rfl, hfz, hnd⟩ := hW
  have hA : DataW.TrodAll enc Try.prog W 0 (fun _ => true) true Try.f11.params.toList args.toList ds p := hA0
  rw [Try.params11] at hA hval
  obtain ⟨v0, vs0, d0, ds0, p0, q0, hargs, rfl, rfl, h0, r0⟩ := trodAll_cons hA
  obtain ⟨v1, vs1, d1, ds1, p1, q1, rfl, rfl, rfl, h1, r1⟩ := trodAll_cons r0
  obtain ⟨v2, vs2, d2, ds2, p2, q2, rfl, rfl, rfl, h2, r2⟩ := trodAll_cons r1
  obtain ⟨rfl, rfl, rfl⟩ := trodAll_nil r2
  obtain rfl : args = #[v0, v1, v2] := by cases args; simp_all
  obtain ⟨rfl, rfl⟩ := trodVars_none hV
  have k0 := h0
  have k1 := h1
  have k2 := h2
  obtain ⟨a0, rfl, l0, w0, hp0⟩ := open_arr (k := .u8) (n := 32) Try.underlying46 Try.underlying5 (by kernel_rfl) (by kernel_rfl) (hval 0 46 v0 rfl rfl) h0
  obtain ⟨a1, rfl, l1, w1, hp1⟩ := open_arr (k := .u8) (n := 32) Try.underlying46 Try.underlying5 (by kernel_rfl) (by kernel_rfl) (hval 1 46 v1 rfl rfl) h1
  obtain ⟨a2, rfl, l2, w2, hp2⟩ := open_arr (k := .u8) (n := 32) Try.underlying46 Try.underlying5 (by kernel_rfl) (by kernel_rfl) (hval 2 46 v2 rfl rfl) h2
  clear hA0 hval0
  subst hp0
  subst hp1
  subst hp2
  refine (curveThree_walk a0 l0 w0 a1 l1 w1 a2 l2 w2 W).mono fun e W' ⟨he, hg⟩ => ?_
  subst he
  exact ⟨_, rfl, _, _, _, [], [], [], hW', (trodAll_cons_mk (shut_bool Try.underlying4 _) trodAll_mk0), (trodAll_cons_mk (Below.trod Try.laidOut (by kernel_rfl) (of_decide_eq_true (by kernel_rfl)) k0 hg (by simp)) (trodAll_cons_mk (Below.trod Try.laidOut (by kernel_rfl) (of_decide_eq_true (by kernel_rfl)) k1 hg (by simp)) (trodAll_cons_mk (Below.trod Try.laidOut (by kernel_rfl) (of_decide_eq_true (by kernel_rfl)) k2 hg (by simp)) trodAll_mk0))), rfl_vars, hg.frame _, fun h => by cases h⟩

theorem CurveThree_holds : Rows.CurveThreeSaid :=
  OpenClaim.holds_of_wide 11 Try.f11 rfl rfl rfl rfl rfl rfl rfl ⟨rfl, rfl, rfl, rfl, rfl⟩ rfl rfl rfl rfl rfl (by kernel_rfl) Try.func11 (by kernel_rfl)
    (of_decide_eq_true (by kernel_rfl)) (by unfold Func.isWrapper; first | (rw [if_pos (by decide +kernel)]; kernel_rfl) | (rw [if_neg (by decide +kernel)]; exact ⟨rfl, rfl⟩))
    (fun os started H enc _ => CurveThree_lifted os started H enc)
#print axioms CurveThree_holds

end Go.Proofs.Ytmchkfganpgheaa
