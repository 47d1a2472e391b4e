/-
  PolyEmpty: without bytes the tag is s. No conditions.
-/
import Derived.Test.YtngbfamlhlhbmaaPolyS
import Derived.Test.YtngbfamlhlhbmaaLawS
namespace Go.Proofs.Ytngbfamlhlhbmaa
set_option linter.unusedSimpArgs false
set_option linter.unusedVariables false
open Go Go.RowKit

open Go.ChangeShapes Go.WideShapes Go.ChangeAt Sp F M

set_option maxRecDepth 20000 in
set_option maxHeartbeats 2000000 in
theorem polyEmpty_walk (K : List Int) (hK : K.length = 32) (hKb : Byts K) {w : World}  :
    Calls Try.prog 6 #[.agg (ints .u8 K)] w fun e w' => e = .returned (.bool true) ∧ Below w.heap.size w w' := by
  have hnil : tg K [] = digN 16 (sV K) := by unfold tg; congr 1; unfold tagV; show 0 + sV K = _; omega
  have hT : ∀ w1 : World, Calls Try.prog 15 #[.agg (ints .u8 K), .slice none 0 0] w1 fun e w' => e = .returned (.agg (ints .u8 (tg K []))) ∧ Below w1.heap.size w1 w' := fun w1 => ptag_h K hK hKb none 0 0 [] byts_nil w1 (Sl.nil w1 none 0) (by decide)
  have tok_kb : True := trivial
  have tok_pb : True := trivial
  refine pure_of_SP Try.func6 rfl [.agg (ints .u8 K), undef, undef, undef, undef, undef, undef, undef, undef, undef, undef, undef, undef, undef, undef, undef, undef, undef, undef] (by simp only [Try.ntmps6, List.size_toArray, List.length_cons, List.length_nil, Nat.reduceAdd, Nat.reduceSub, Array.replicate_succ, Array.replicate_zero, List.push_toArray, List.append_toArray, List.nil_append, List.cons_append]) _ Try.results6 _ ?_
  repeat (first | ((with_reducible refine SP.region (id := 0) ?_); refine SL.bx ?_; (first | (have _t := tok_kb; clear _t tok_kb; intro kb) | (have _t := tok_pb; clear _t tok_pb; intro pb) | intro _); refine SL.e tabOk ?_; (with_reducible refine SL.nil ?_)) | ((with_reducible show SP _ _ _ (Code.region _ _ true) _ _ _); first | (refine SP_any (id := 1) [10] [12] ([(kb, ints .u8 K, 23)]) [0, 1, 2, 3, 4, 5, 6, 7, 8, 9, 12, 10, 11, 13, 14, 15, 16] follows (by kernel_rfl) (by first | (simp only [List.filterMap_cons, List.filterMap_nil, List.getElem?_cons_zero, List.getElem?_cons_succ, Option.map_some]; done) | (simp only [List.filterMap_cons, List.filterMap_nil, List.getElem?_cons_zero, List.getElem?_cons_succ, Option.map_some]; rfl)) (by first | exact Kept.nil | (simp [Kept]; done)) ?_; refine SF.v (ValO.call ent_18 _ rfl _ (fun w1 hw1 => works_any w1)) ?_; refine SF.p tabOk ?_; (first | (refine SF.gT ?_; refine SF.ldR tabOk ?_) | refine SF.gF ?_); (first | (refine SF.gT ?_; refine SF.v (ValO.call ent_15 _ rfl _ (fun w1 hw1 => hT w1)) ?_) | refine SF.gF ?_); (first | (refine SF.gT ?_; refine SF.ldR tabOk ?_) | refine SF.gF ?_); (first | (refine SF.gT ?_; refine SF.v (ValO.call ent_22 _ rfl _ (fun w1 hw1 => tail_any K hK hKb w1)) ?_) | refine SF.gF ?_); (first | (refine SF.gT ?_; refine SF.v (Sp.eqlT tabOk rfl rfl rfl rfl (by kernel_rfl) (by simp) (by simp) (hnil)) ?_) | refine SF.gF ?_); refine SF.e tabOk ?_; refine SF.p tabOk ?_; (first | (refine SF.gT ?_; refine SF.ldR tabOk ?_) | refine SF.gF ?_); (first | (refine SF.gT ?_; refine SF.valK rfl rfl rfl rfl (fun m hm => ValO.ldRow tabOk _ rfl _ _ rfl rfl _ (by first | exact RdA.kept hm g0 | exact RdA.kept hm g1 | exact RdA.kept hm g2 | exact RdA.kept hm g3) (by first | (simp [ints_size]; done) | (simp [ints_size]; omega))) (by first | (dsimp only [putL, setNth, evL, nth, Nat.zero_add, Nat.add_zero, Nat.reduceAdd, Nat.reduceMul, Nat.reduceSub, Int.reduceToNat, Int.toNat_natCast, Nat.mul_one, Nat.one_mul, gi_c0, gi_c1, gi_c2, gi_c3]; rfl) | (dsimp only [putL, setNth, evL, nth, Nat.zero_add, Nat.add_zero, Nat.reduceAdd, Nat.reduceMul, Nat.reduceSub, Int.reduceToNat, Int.toNat_natCast, Nat.mul_one, Nat.one_mul, gi_c0, gi_c1, gi_c2, gi_c3]; done)) ?_) | refine SF.gF ?_); (first | (refine SF.gT ?_; refine SF.clN ent_19 rfl (fun w1 _ => pnew_h K hK w1) (fun pb => ?_)) | refine SF.gF ?_); (first | (refine SF.gT ?_; refine SF.v (ValO.call ent_21 _ rfl _ (fun w1 hw1 => psum_h hKb (ps0_holds K) pb _ _ w1 (hw1.block (List.mem_of_getElem? (show _ = some (pb, _, _) from (by first | exact g0 | exact g1 | exact g2 | exact g3 | exact g4 | exact g5 | exact g6 | exact g7 | exact g8 | exact g9 | exact g10 | exact g11 | exact g12 | exact g13 | exact g14 | exact g15)))))) ?_) | refine SF.gF ?_); (first | (refine SF.gT ?_; refine SF.v (ValO.call ent_22 _ rfl _ (fun w1 hw1 => tail_any K hK hKb w1)) ?_) | refine SF.gF ?_); (first | (refine SF.gT ?_; refine SF.v (Sp.eqlT tabOk rfl rfl rfl rfl (by kernel_rfl) (by simp) (by simp) (hnil)) ?_) | refine SF.gF ?_); refine SF.e tabOk ?_; refine SF.p tabOk ?_; refine SF.done ?_)) | ((with_reducible refine SP.seqK ?_); intro _ _) | (with_reducible refine thenK_normal ?_) | (refine useK (by assumption) ?_) | (with_reducible refine SP.block ?_) | (with_reducible refine thenK_exit ?_) | (with_reducible refine thenK_ret ?_) | (with_reducible refine blockK_normal ?_) | (with_reducible refine blockK_ret ?_) | (with_reducible refine blockK_eq ?_) | (with_reducible refine blockK_ne rfl ?_) | (with_reducible refine SP.skip ?_) | (with_reducible refine SP.ret ?_) | (with_reducible refine SP.exit ?_) | ((with_reducible show SP _ _ _ (Code.cond _ _ _) _ _ _); first | (refine SP.condT rfl (by first | rfl | (simp only [decide_eq_true_eq, beq_iff_eq, bne_iff_ne]; first | done | omega)) ?_) | (refine SP.condF rfl (by first | rfl | (simp only [decide_eq_false_iff_not, beq_eq_false_iff_ne, bne_eq_false_iff_eq]; first | done | omega)) ?_)))
  exact doneK.mk rfl (ResO.tmp rfl) rfl

set_option maxRecDepth 100000 in
theorem PolyEmpty_lifted (os : Os) (started : os.Started) (H : Type) (enc : TypeId × Value → H) :
    ReturnsInHanded {} Try.checked os 6 .any (Rows.polyEmptySpec.pre6 enc Try.prog Try.f6 Rows.polyEmptyRow.domain false) (Rows.polyEmptySpec.post enc Try.prog Try.f6 false true false false) := by
  refine returnsInHanded_of_change_sized (C := Try.checked) (by kernel_rfl) started (by kernel_rfl) Try.func6
    (ChangeSpec.witness6 (enc := enc) (C := Try.checked) false ⟨#[], #[.agg (ints .u8 (List.replicate 32 0))], []⟩ 8 (by kernel_rfl) (by kernel_rfl) (by kernel_rfl) (by kernel_rfl)) ?_
  intro W base args ds gs before hval0 hW hcnd hz0 _
  have hval : ∀ (j : Nat) t v, Try.f6.params[j]? = some t → args[j]? = some v → Value.okWide Try.prog W .any base t v := hval0
  have hW' := hW
  obtain ⟨p, q, hA0, hV, rfl, hfz, hnd⟩ := hW
  have hA : DataW.TrodAll enc Try.prog W 0 (fun _ => true) true Try.f6.params.toList args.toList ds p := hA0
  have hz : (DataW.weightsEach Try.prog (Try.f6.params.toList ++ []) (ds ++ gs)).all (· ≤ reachBytes) = true := hz0
  rw [Try.params6] at hA hval hz
  obtain ⟨v0, vs0, d0, ds0, p0, q0, hargs, rfl, rfl, h0, r0⟩ := trodAll_cons hA
  obtain ⟨rfl, rfl, rfl⟩ := trodAll_nil r0
  obtain rfl : args = #[v0] := by cases args; simp_all
  obtain ⟨rfl, rfl⟩ := trodVars_none hV
  have k0 := h0
  obtain ⟨a0, rfl, l0, w0, hp0⟩ := open_arr (k := .u8) (n := 32) Try.underlying23 Try.underlying5 (by kernel_rfl) (by kernel_rfl) (hval 0 23 v0 rfl rfl) h0
  clear hA0 hval0 hz0 hz
  refine (polyEmpty_walk a0 l0 (byts_of w0)).mono fun e W' ⟨he, hg⟩ => ?_
  subst he
  exact ⟨_, rfl, _, _, _, _, _, _, hW', (trodAll_cons_mk (shut_bool Try.underlying4 _) trodAll_mk0), (trodAll_cons_mk (Below.trod Try.laidOut (by kernel_rfl) (of_decide_eq_true (by kernel_rfl)) k0 hg (trod_lt' k0)) trodAll_mk0), rfl_vars, hg.frame _, fun h => by cases h⟩

theorem PolyEmpty_holds : Rows.PolyEmptySaid :=
  OpenClaim.holds_of_wide 6 Try.f6 rfl rfl rfl rfl rfl rfl rfl ⟨rfl, rfl, rfl, rfl, rfl⟩ rfl rfl rfl rfl rfl (by kernel_rfl) Try.func6 (by kernel_rfl)
    (of_decide_eq_true (by kernel_rfl)) (by unfold Func.isWrapper; first | (rw [if_pos (by decide +kernel)]; kernel_rfl) | (rw [if_neg (by decide +kernel)]; exact ⟨rfl, rfl⟩))
    (fun os started H enc _ => PolyEmpty_lifted os started H enc)
#print axioms PolyEmpty_holds

end Go.Proofs.Ytngbfamlhlhbmaa
