/-
  PolyTag: the program's tag is the document's, of all keys and bytes. No conditions.
-/
import Derived.Test.YtngbfamlhlhbmaaPolyPj
import Derived.Test.YtngbfamlhlhbmaaLawS
namespace Go.Proofs.Ytngbfamlhlhbmaa
set_option linter.unusedSimpArgs false
set_option linter.unusedVariables false
open Go Go.RowKit

open Go.ChangeShapes Go.WideShapes Go.ChangeAt Sp F M
attribute [simp] rtag_length
set_option maxRecDepth 20000 in
set_option maxHeartbeats 1000000 in
theorem polyTag_walk (K : List Int) (hK : K.length = 32) (hKb : Byts K) (p : Option Addr) (n c : Nat) (B : List Int) {w : World} (hS : Sl w p n c B) (hB : Byts B) (hn : n ≤ 140737488351232) :
    Calls Try.prog 3 #[.agg (ints .u8 K), .slice p n c] w fun e w' => e = .returned (.bool true) ∧ Below w.heap.size w w' := by
  by_cases h0 : n = 0
  · subst h0
    have hBn := List.eq_nil_of_length_eq_zero hS.len
    subst hBn
    have eqt0 : ∀ w1 : World, Calls Try.prog 17 #[.slice none 0 0, .slice p 0 c] w1 fun e w' => e = .returned (.bool true) ∧ Below w1.heap.size w1 w' := fun w1 => by
      have := eqb_any none p 0 0 0 c [] [] w1 (Sl.nil w1 none 0) (Sl.nil w1 p c) (by decide)
      rwa [decide_eq_true rfl] at this
    refine pure_of_SP Try.func3 rfl [.agg (ints .u8 K), .slice p 0 c, undef, undef, undef, undef, undef, undef, undef, undef, undef, undef, undef, undef, undef, undef, undef, undef, undef, undef, undef, undef, undef] (by simp only [Try.ntmps3, List.size_toArray, List.length_cons, List.length_nil, Nat.reduceAdd, Nat.reduceSub, Array.replicate_succ, Array.replicate_zero, List.push_toArray, List.append_toArray, List.nil_append, List.cons_append]) _ Try.results3 _ ?_
    repeat (first | ((with_reducible refine SP.region (id := 0) ?_); refine SL.bx ?_; (first | (have _t := tok_kb; clear _t tok_kb; intro kb) | intro _); refine SL.e tabOk ?_; (with_reducible refine SL.nil ?_)) | ((with_reducible refine SP.region (id := 1) ?_); refine SL.e tabOk ?_; refine SL.v (ValO.call ent_14 _ rfl _ (fun w1 hw1 => copy_any_nil p c w1)) ?_; refine SL.e tabOk ?_; (with_reducible refine SL.nil ?_)) | ((with_reducible show SP _ _ _ (Code.region _ _ true) _ _ _); first | (refine SP_any (id := 2) [] [] ([]) [0, 1, 2, 3, 4, 5, 6, 7, 8, 9, 10, 11, 12, 13, 14, 15] follows (by kernel_rfl) (by first | (simp only [List.filterMap_cons, List.filterMap_nil, List.getElem?_cons_zero, List.getElem?_cons_succ, Option.map_some]; done) | (simp only [List.filterMap_cons, List.filterMap_nil, List.getElem?_cons_zero, List.getElem?_cons_succ, Option.map_some]; rfl)) (by first | exact Kept.nil | (simp [Kept]; done)) ?_; refine SF.ldR tabOk ?_; refine SF.p tabOk ?_; refine SF.v (ValO.call ent_15 _ rfl _ (fun w1 hw1 => ptag_any K hK none 0 0 [] w1 (Sl.nil w1 none 0) (by decide))) ?_; refine SF.ldR tabOk ?_; refine SF.p tabOk ?_; refine SF.v (ValO.call ent_16 _ rfl _ (fun w1 hw1 => rtag_any K hK p 0 c [] w1 (Sl.nil w1 p c) (by decide))) ?_; refine SF.v (Sp.eqlT tabOk rfl rfl rfl rfl (by kernel_rfl) (by simp) (by simp [rtag_length]) (tags hKb hB)) ?_; refine SF.p tabOk ?_; (first | (refine SF.gT ?_; refine SF.p tabOk ?_) | refine SF.gF ?_); (first | (refine SF.gT ?_; refine SF.p tabOk ?_) | refine SF.gF ?_); (first | (refine SF.gT ?_; refine SF.v (ValO.call ent_17 _ rfl _ (fun w1 hw1 => eqt0 w1)) ?_) | refine SF.gF ?_); refine SF.e tabOk ?_; refine SF.p tabOk ?_; (first | (refine SF.gT ?_; refine SF.v (ValO.call ent_18 _ rfl _ (fun w _ => works_any w)) ?_) | refine SF.gF ?_); refine SF.e tabOk ?_; refine SF.p tabOk ?_; refine SF.done ?_)) | ((with_reducible refine SP.seqK ?_); intro _ _) | (with_reducible refine thenK_normal ?_) | (refine useK (by assumption) ?_) | (with_reducible refine SP.block ?_) | (with_reducible refine thenK_exit ?_) | (with_reducible refine thenK_ret ?_) | (with_reducible refine blockK_normal ?_) | (with_reducible refine blockK_ret ?_) | (with_reducible refine blockK_eq ?_) | (with_reducible refine blockK_ne rfl ?_) | (with_reducible refine SP.skip ?_) | (with_reducible refine SP.ret ?_) | (with_reducible refine SP.exit ?_) | ((with_reducible show SP _ _ _ (Code.cond _ _ _) _ _ _); first | (refine SP.condT rfl (by first | rfl | (simp only [decide_eq_true_eq, beq_iff_eq, bne_iff_ne]; first | done | omega)) ?_) | (refine SP.condF rfl (by first | rfl | (simp only [decide_eq_false_iff_not, beq_eq_false_iff_ne, bne_eq_false_iff_eq]; first | done | omega)) ?_)))
    exact doneK.mk rfl (ResO.tmp rfl) rfl
  · have eqt1 : ∀ (w1 : World) {q : Option Addr} (d : Nat), Sl w1 q n d B → Sl w1 p n c B → Calls Try.prog 17 #[.slice q n d, .slice p n c] w1 fun e w' => e = .returned (.bool true) ∧ Below w1.heap.size w1 w' := fun w1 q d h1 h2 => by
      have := eqb_any q p n n d c B B w1 h1 h2 (by omega)
      rwa [decide_eq_true rfl] at this
    refine pure_of_SP Try.func3 rfl [.agg (ints .u8 K), .slice p n c, undef, undef, undef, undef, undef, undef, undef, undef, undef, undef, undef, undef, undef, undef, undef, undef, undef, undef, undef, undef, undef] (by simp only [Try.ntmps3, List.size_toArray, List.length_cons, List.length_nil, Nat.reduceAdd, Nat.reduceSub, Array.replicate_succ, Array.replicate_zero, List.push_toArray, List.append_toArray, List.nil_append, List.cons_append]) _ Try.results3 _ ?_
    repeat (first | ((with_reducible refine SP.region (id := 0) ?_); refine SL.bx ?_; (first | (have _t := tok_kb; clear _t tok_kb; intro kb) | intro _); refine SL.e tabOk ?_; (with_reducible refine SL.nil ?_)) | ((with_reducible refine SP.region (id := 1) ?_); refine SL.e tabOk ?_; refine SL.clN2 ent_14 rfl (fun w1 hw1 => copy_any p n c B w1 (hS.old hw1.below) (by omega) (by omega)) (fun nb cap hcap => ?_); refine SL.e tabOk ?_; (with_reducible refine SL.nil ?_)) | ((with_reducible show SP _ _ _ (Code.region _ _ true) _ _ _); first | (refine SP_any (id := 2) [] [] ([]) [0, 1, 2, 3, 4, 5, 6, 7, 8, 9, 10, 11, 12, 13, 14, 15] follows (by kernel_rfl) (by first | (simp only [List.filterMap_cons, List.filterMap_nil, List.getElem?_cons_zero, List.getElem?_cons_succ, Option.map_some]; done) | (simp only [List.filterMap_cons, List.filterMap_nil, List.getElem?_cons_zero, List.getElem?_cons_succ, Option.map_some]; rfl)) (by first | exact Kept.nil | (simp [Kept]; done)) ?_; refine SF.ldR tabOk ?_; refine SF.p tabOk ?_; refine SF.v (ValO.call ent_15 _ rfl _ (fun w1 hw1 => ptag_any K hK _ _ _ B w1 (Sl.of hw1 (RdA.own g0) (Lies.row B _) hS.len hcap) (by omega))) ?_; refine SF.ldR tabOk ?_; refine SF.p tabOk ?_; refine SF.v (ValO.call ent_16 _ rfl _ (fun w1 hw1 => rtag_any K hK p n c B w1 (hS.old hw1.below) (by omega))) ?_; refine SF.v (Sp.eqlT tabOk rfl rfl rfl rfl (by kernel_rfl) (by simp) (by simp [rtag_length]) (tags hKb hB)) ?_; refine SF.p tabOk ?_; (first | (refine SF.gT ?_; refine SF.p tabOk ?_) | refine SF.gF ?_); (first | (refine SF.gT ?_; refine SF.p tabOk ?_) | refine SF.gF ?_); (first | (refine SF.gT ?_; refine SF.v (ValO.call ent_17 _ rfl _ (fun w1 hw1 => eqt1 w1 _ (Sl.of hw1 (RdA.own g0) (Lies.row B _) hS.len hcap) (hS.old hw1.below))) ?_) | refine SF.gF ?_); refine SF.e tabOk ?_; refine SF.p tabOk ?_; (first | (refine SF.gT ?_; refine SF.v (ValO.call ent_18 _ rfl _ (fun w _ => works_any w)) ?_) | refine SF.gF ?_); refine SF.e tabOk ?_; refine SF.p tabOk ?_; refine SF.done ?_)) | ((with_reducible refine SP.seqK ?_); intro _ _) | (with_reducible refine thenK_normal ?_) | (refine useK (by assumption) ?_) | (with_reducible refine SP.block ?_) | (with_reducible refine thenK_exit ?_) | (with_reducible refine thenK_ret ?_) | (with_reducible refine blockK_normal ?_) | (with_reducible refine blockK_ret ?_) | (with_reducible refine blockK_eq ?_) | (with_reducible refine blockK_ne rfl ?_) | (with_reducible refine SP.skip ?_) | (with_reducible refine SP.ret ?_) | (with_reducible refine SP.exit ?_) | ((with_reducible show SP _ _ _ (Code.cond _ _ _) _ _ _); first | (refine SP.condT rfl (by first | rfl | (simp only [decide_eq_true_eq, beq_iff_eq, bne_iff_ne]; first | done | omega)) ?_) | (refine SP.condF rfl (by first | rfl | (simp only [decide_eq_false_iff_not, beq_eq_false_iff_ne, bne_eq_false_iff_eq]; first | done | omega)) ?_)))
    exact doneK.mk rfl (ResO.tmp rfl) rfl

set_option maxRecDepth 100000 in
theorem PolyTag_lifted (os : Os) (started : os.Started) (H : Type) (enc : TypeId × Value → H) :
    ReturnsInHanded {} Try.checked os 3 .any (Rows.polyTagSpec.pre6 enc Try.prog Try.f3 Rows.polyTagRow.domain false) (Rows.polyTagSpec.post enc Try.prog Try.f3 false true false false) := by
  refine returnsInHanded_of_change_sized (C := Try.checked) (by kernel_rfl) started (by kernel_rfl) Try.func3
    (ChangeSpec.witness6 (enc := enc) (C := Try.checked) false ⟨#[], #[.agg (ints .u8 (List.replicate 32 0)), .slice none 0 0], []⟩ 8 (by kernel_rfl) (by kernel_rfl) (by kernel_rfl) (by kernel_rfl)) ?_
  intro W base args ds gs before hval0 hW hcnd hz0 _
  have hval : ∀ (j : Nat) t v, Try.f3.params[j]? = some t → args[j]? = some v → Value.okWide Try.prog W .any base t v := hval0
  have hW' := hW
  obtain ⟨p, q, hA0, hV, rfl, hfz, hnd⟩ := hW
  have hA : DataW.TrodAll enc Try.prog W 0 (fun _ => true) true Try.f3.params.toList args.toList ds p := hA0
  have hz : (DataW.weightsEach Try.prog (Try.f3.params.toList ++ []) (ds ++ gs)).all (· ≤ reachBytes) = true := hz0
  rw [Try.params3] at hA hval hz
  obtain ⟨v0, vs0, d0, ds0, p0, q0, hargs, rfl, rfl, h0, r0⟩ := trodAll_cons hA
  obtain ⟨v1, vs1, d1, ds1, p1, q1, rfl, rfl, rfl, h1, r1⟩ := trodAll_cons r0
  obtain ⟨rfl, rfl, rfl⟩ := trodAll_nil r1
  obtain rfl : args = #[v0, v1] := by cases args; simp_all
  obtain ⟨rfl, rfl⟩ := trodVars_none hV
  have k0 := h0
  have k1 := h1
  obtain ⟨a0, rfl, l0, w0, hp0⟩ := open_arr (k := .u8) (n := 32) Try.underlying23 Try.underlying5 (by kernel_rfl) (by kernel_rfl) (hval 0 23 v0 rfl rfl) h0
  obtain ⟨s1, n1, c1, B1, rfl, S1, b1, m1⟩ := open_bytes Try.underlying24 Try.underlying5 (by kernel_rfl) (hval 1 24 v1 rfl rfl) h1 (fun es sp he => sized_slice hz (j := 1) (by rfl) (by rw [he]; rfl) Try.underlying24)
  clear hA0 hval0 hz0 hz
  refine (polyTag_walk a0 l0 (byts_of w0) s1 n1 c1 B1 S1 b1 m1).mono fun e W' ⟨he, hg⟩ => ?_
  subst he
  exact ⟨_, rfl, _, _, _, _, _, _, hW', (trodAll_cons_mk (shut_bool Try.underlying4 _) trodAll_mk0), (trodAll_cons_mk (Below.trod Try.laidOut (by kernel_rfl) (of_decide_eq_true (by kernel_rfl)) k0 hg (trod_lt' k0)) (trodAll_cons_mk (Below.trod Try.laidOut (by kernel_rfl) (of_decide_eq_true (by kernel_rfl)) k1 hg (trod_lt' k1)) trodAll_mk0)), rfl_vars, hg.frame _, fun h => by cases h⟩

theorem PolyTag_holds : Rows.PolyTagSaid :=
  OpenClaim.holds_of_wide 3 Try.f3 rfl rfl rfl rfl rfl rfl rfl ⟨rfl, rfl, rfl, rfl, rfl⟩ rfl rfl rfl rfl rfl (by kernel_rfl) Try.func3 (by kernel_rfl)
    (of_decide_eq_true (by kernel_rfl)) (by unfold Func.isWrapper; first | (rw [if_pos (by decide +kernel)]; kernel_rfl) | (rw [if_neg (by decide +kernel)]; exact ⟨rfl, rfl⟩))
    (fun os started H enc _ => PolyTag_lifted os started H enc)
#print axioms PolyTag_holds

end Go.Proofs.Ytngbfamlhlhbmaa
