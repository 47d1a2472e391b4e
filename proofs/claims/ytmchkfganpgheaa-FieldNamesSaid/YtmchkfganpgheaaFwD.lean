/-
  The walks of FieldSwap.
-/
import Derived.Test.YtmchkfganpgheaaGuard
import Derived.Test.YtmchkfganpgheaaTab
import Derived.Test.YtmchkfganpgheaaSh
namespace Go.Proofs.Ytmchkfganpgheaa
set_option linter.unusedSimpArgs false
set_option linter.unusedVariables false
open Go Go.RowKit

open Go.ChangeShapes Go.WideShapes Go.ChangeAt Sp F

@[irreducible] def swapE1 (a b : List Int) (bit : Int) : List Int := (swapN a b (swapM bit) 5).1
@[irreducible] def swapE2 (a b : List Int) (bit : Int) : List Int := (swapN a b (swapM bit) 5).2
theorem swapE_any {a b : List Int} {v u : Int} (ha : IsE a v) (hb : IsE b u) (bit : Int) (w : World) :
    Calls Try.prog 14 #[.agg (ints .u64 a), .agg (ints .u64 b), .int .i64 bit] w fun e w' => e = .returned (.tuple #[.agg (ints .u64 (swapE1 a b bit)), .agg (ints .u64 (swapE2 a b bit))]) ∧ Below w.heap.size w w' := by
  unfold swapE1 swapE2
  exact swap_any a b bit ha.1 hb.1 w
theorem swapE1_is {a b : List Int} {v u : Int} (ha : IsE a v) (hb : IsE b u) (bit : Int) : IsE (swapE1 a b bit) (if bit % 2 = 0 then v else u) := by
  unfold swapE1
  rw [(swap_eq ha.1 hb.1 ha.allG hb.allG bit).1]
  split
  · exact ha
  · exact hb
theorem swapE2_is {a b : List Int} {v u : Int} (ha : IsE a v) (hb : IsE b u) (bit : Int) : IsE (swapE2 a b bit) (if bit % 2 = 0 then u else v) := by
  unfold swapE2
  rw [(swap_eq ha.1 hb.1 ha.allG hb.allG bit).2]
  split
  · exact hb
  · exact ha
set_option maxRecDepth 20000 in
set_option maxHeartbeats 1600000 in
theorem fieldSwap_walk (a : List Int) (la : a.length = 32) (wa : ∀ x ∈ a, (Lit.int .u8 x).wf = true) (b : List Int) (lb : b.length = 32) (wb : ∀ x ∈ b, (Lit.int .u8 x).wf = true) (bit : Int) (wbit : (Lit.int .i64 bit).wf = true) (w : World) :
    Calls Try.prog 3 #[.agg (ints .u8 a), .agg (ints .u8 b), .int .i64 bit] w fun e w' => e = .returned (.bool true) ∧ Below w.heap.size w w' := by
  have ha := bytes32_of la wa
  have hb := bytes32_of lb wb
  clear wa wb wbit
  have ea := fromE_is ha
  have na := rfromI_is ha
  have eb := fromE_is hb
  have nb := rfromI_is hb
  have s1 := swapE1_is ea eb bit
  have s2 := swapE2_is ea eb bit
  have hsw := swapE_any ea eb bit
  have h1l := s1.1
  have h2l := s2.1
  have nal := na.1
  have nbl := nb.1
  have hbit := i64_bit bit
  have hm : bit % 2 = 0 ∨ bit % 2 = 1 := by omega
  have hcall : ∀ {l x : List Int} {v u : Int}, IsE l v → IsN x u → v = u → ∀ w : World, Calls Try.prog 17 #[.agg (ints .u64 l), .agg (ints .i64 x)] w fun e w' => e = .returned (.bool true) ∧ Below w.heap.size w w' := by
    intro l x v u hl hx e w
    have := is_any hl hx w
    rwa [decide_eq_true (by rw [e])] at this

  refine pureE Try.func3 Try.ntmps3 Try.results3 ?_
  rcases hm with h0 | h0
  · rw [h0] at hbit
    rw [if_pos h0] at s1 s2
    have c1 := hcall s1 na rfl
    have c2 := hcall s2 nb rfl
    clear hcall
    repeat (first | ((with_reducible refine SP.region (id := 0) ?_); refine SL.bx ?_; intro _; refine SL.bx ?_; intro _; refine SL.e tabOk ?_; (with_reducible refine SL.nil ?_)) | ((with_reducible refine SP.region (id := 3) ?_); refine SL.e tabOk ?_; refine SL.e tabOk ?_; refine SL.e tabOk ?_; (with_reducible refine SL.nil ?_)) | ((with_reducible refine SP.region (id := 4) ?_); refine SL.ldR tabOk ?_; refine SL.ldR tabOk ?_; refine SL.v (ValO.call ent_17 _ rfl _ (fun w _ => c1 w)) ?_; refine SL.e tabOk ?_; (first | (refine SL.gT ?_; refine SL.ldR tabOk ?_) | refine SL.gF ?_); (first | (refine SL.gT ?_; refine SL.ldR tabOk ?_) | refine SL.gF ?_); (first | (refine SL.gT ?_; refine SL.v (ValO.call ent_17 _ rfl _ (fun w _ => c2 w)) ?_) | refine SL.gF ?_); refine SL.e tabOk ?_; refine SL.e tabOk ?_; (with_reducible refine SL.nil ?_)) | ((with_reducible refine SP.region (id := 5) ?_); refine SL.ldR tabOk ?_; refine SL.ldR tabOk ?_; refine SL.v (ValO.call ent_17 _ rfl _ (fun w _ => c1 w)) ?_; refine SL.e tabOk ?_; (first | (refine SL.gT ?_; refine SL.ldR tabOk ?_) | refine SL.gF ?_); (first | (refine SL.gT ?_; refine SL.ldR tabOk ?_) | refine SL.gF ?_); (first | (refine SL.gT ?_; refine SL.v (ValO.call ent_17 _ rfl _ (fun w _ => c2 w)) ?_) | refine SL.gF ?_); refine SL.e tabOk ?_; refine SL.e tabOk ?_; (with_reducible refine SL.nil ?_)) | ((with_reducible show SP _ _ _ (Code.region _ _ true) _ _ _); first | (refine SPa (id := 1) [11, 12] [] ([]) [0, 1, 2, 3, 4, 5, 6, 7, 8, 9, 10, 11, 12] follows ?_; refine SF.ldR tabOk ?_; refine SF.v (ValO.call ent_15 _ rfl _ (fun w _ => fromE_any a ha w)) ?_; refine SF.ldR tabOk ?_; refine SF.v (ValO.call ent_15 _ rfl _ (fun w _ => fromE_any b hb w)) ?_; refine SF.p tabOk ?_; refine SF.v (ValO.call ent_14 _ rfl _ (fun w _ => hsw w)) ?_; refine SF.p tabOk ?_; refine SF.p tabOk ?_; refine SF.p tabOk ?_; refine SF.al zero_26 ?_; intro _; refine SF.al zero_26 ?_; intro _; refine SF.stR tabOk ?_; refine SF.stR tabOk ?_; refine SF.done ?_) | (refine SPa (id := 2) [6, 7] [] ([]) [0, 1, 2, 3, 4, 5, 6, 7] follows ?_; refine SF.ldR tabOk ?_; refine SF.v (ValO.call ent_16 _ rfl _ (fun w _ => rfromI_any a ha w)) ?_; refine SF.ldR tabOk ?_; refine SF.v (ValO.call ent_16 _ rfl _ (fun w _ => rfromI_any b hb w)) ?_; refine SF.al zero_31 ?_; intro _; refine SF.al zero_31 ?_; intro _; refine SF.stR tabOk ?_; refine SF.stR tabOk ?_; refine SF.done ?_)) | ((with_reducible refine SP.seqK ?_); intro _ _) | (with_reducible refine thenK_normal ?_) | (refine useK (by assumption) ?_) | (with_reducible refine SP.block ?_) | (with_reducible refine thenK_exit ?_) | (with_reducible refine thenK_ret ?_) | (with_reducible refine blockK_normal ?_) | (with_reducible refine blockK_ret ?_) | (with_reducible refine blockK_eq ?_) | (with_reducible refine blockK_ne rfl ?_) | (with_reducible refine SP.skip ?_) | (with_reducible refine SP.ret ?_) | (with_reducible refine SP.exit ?_) | ((with_reducible show SP _ _ _ (Code.cond _ _ _) _ _ _); first | (refine SP.condT rfl (by first | rfl | (simp only [decide_eq_true_eq, beq_iff_eq, bne_iff_ne]; first | done | omega)) ?_) | (refine SP.condF rfl (by first | rfl | (simp only [decide_eq_false_iff_not, beq_eq_false_iff_ne, bne_eq_false_iff_eq]; first | done | omega)) ?_)))
    exact doneK.mk rfl (ResO.tmp rfl) rfl
  · rw [h0] at hbit
    rw [if_neg (by omega)] at s1 s2
    have c1 := hcall s1 nb rfl
    have c2 := hcall s2 na rfl
    clear hcall
    repeat (first | ((with_reducible refine SP.region (id := 0) ?_); refine SL.bx ?_; intro _; refine SL.bx ?_; intro _; refine SL.e tabOk ?_; (with_reducible refine SL.nil ?_)) | ((with_reducible refine SP.region (id := 3) ?_); refine SL.e tabOk ?_; refine SL.e tabOk ?_; refine SL.e tabOk ?_; (with_reducible refine SL.nil ?_)) | ((with_reducible refine SP.region (id := 4) ?_); refine SL.ldR tabOk ?_; refine SL.ldR tabOk ?_; refine SL.v (ValO.call ent_17 _ rfl _ (fun w _ => c1 w)) ?_; refine SL.e tabOk ?_; (first | (refine SL.gT ?_; refine SL.ldR tabOk ?_) | refine SL.gF ?_); (first | (refine SL.gT ?_; refine SL.ldR tabOk ?_) | refine SL.gF ?_); (first | (refine SL.gT ?_; refine SL.v (ValO.call ent_17 _ rfl _ (fun w _ => c2 w)) ?_) | refine SL.gF ?_); refine SL.e tabOk ?_; refine SL.e tabOk ?_; (with_reducible refine SL.nil ?_)) | ((with_reducible refine SP.region (id := 5) ?_); refine SL.ldR tabOk ?_; refine SL.ldR tabOk ?_; refine SL.v (ValO.call ent_17 _ rfl _ (fun w _ => c1 w)) ?_; refine SL.e tabOk ?_; (first | (refine SL.gT ?_; refine SL.ldR tabOk ?_) | refine SL.gF ?_); (first | (refine SL.gT ?_; refine SL.ldR tabOk ?_) | refine SL.gF ?_); (first | (refine SL.gT ?_; refine SL.v (ValO.call ent_17 _ rfl _ (fun w _ => c2 w)) ?_) | refine SL.gF ?_); refine SL.e tabOk ?_; refine SL.e tabOk ?_; (with_reducible refine SL.nil ?_)) | ((with_reducible show SP _ _ _ (Code.region _ _ true) _ _ _); first | (refine SPa (id := 1) [11, 12] [] ([]) [0, 1, 2, 3, 4, 5, 6, 7, 8, 9, 10, 11, 12] follows ?_; refine SF.ldR tabOk ?_; refine SF.v (ValO.call ent_15 _ rfl _ (fun w _ => fromE_any a ha w)) ?_; refine SF.ldR tabOk ?_; refine SF.v (ValO.call ent_15 _ rfl _ (fun w _ => fromE_any b hb w)) ?_; refine SF.p tabOk ?_; refine SF.v (ValO.call ent_14 _ rfl _ (fun w _ => hsw w)) ?_; refine SF.p tabOk ?_; refine SF.p tabOk ?_; refine SF.p tabOk ?_; refine SF.al zero_26 ?_; intro _; refine SF.al zero_26 ?_; intro _; refine SF.stR tabOk ?_; refine SF.stR tabOk ?_; refine SF.done ?_) | (refine SPa (id := 2) [6, 7] [] ([]) [0, 1, 2, 3, 4, 5, 6, 7] follows ?_; refine SF.ldR tabOk ?_; refine SF.v (ValO.call ent_16 _ rfl _ (fun w _ => rfromI_any a ha w)) ?_; refine SF.ldR tabOk ?_; refine SF.v (ValO.call ent_16 _ rfl _ (fun w _ => rfromI_any b hb w)) ?_; refine SF.al zero_31 ?_; intro _; refine SF.al zero_31 ?_; intro _; refine SF.stR tabOk ?_; refine SF.stR tabOk ?_; refine SF.done ?_)) | ((with_reducible refine SP.seqK ?_); intro _ _) | (with_reducible refine thenK_normal ?_) | (refine useK (by assumption) ?_) | (with_reducible refine SP.block ?_) | (with_reducible refine thenK_exit ?_) | (with_reducible refine thenK_ret ?_) | (with_reducible refine blockK_normal ?_) | (with_reducible refine blockK_ret ?_) | (with_reducible refine blockK_eq ?_) | (with_reducible refine blockK_ne rfl ?_) | (with_reducible refine SP.skip ?_) | (with_reducible refine SP.ret ?_) | (with_reducible refine SP.exit ?_) | ((with_reducible show SP _ _ _ (Code.cond _ _ _) _ _ _); first | (refine SP.condT rfl (by first | rfl | (simp only [decide_eq_true_eq, beq_iff_eq, bne_iff_ne]; first | done | omega)) ?_) | (refine SP.condF rfl (by first | rfl | (simp only [decide_eq_false_iff_not, beq_eq_false_iff_ne, bne_eq_false_iff_eq]; first | done | omega)) ?_)))
    exact doneK.mk rfl (ResO.tmp rfl) rfl

end Go.Proofs.Ytmchkfganpgheaa
