/-
  FieldFrom: of all bytes and small numbers. No conditions.
-/
import Derived.Test.YtgeflkgnabmacaaGuard
namespace Go.Proofs.Ytgeflkgnabmacaa
set_option linter.unusedSimpArgs false
set_option linter.unusedVariables false
open Go Go.RowKit

open Go.ChangeShapes Go.WideShapes Go.ChangeAt
set_option maxHeartbeats 800000 in
theorem fieldFrom_walk (a : List Int) (la : a.length = 32) (wa : ∀ x ∈ a, (Lit.int .u8 x).wf = true) (n : Int) (wn : (Lit.int .u32 n).wf = true) (w : World) :
    Calls Try.prog 5 #[.agg (ints .u8 a), .int .u32 n] w fun e w' => e = .returned (.bool true) ∧ Below w.heap.size w w' := by
  have hown := Own.start w
  have ha := bytes32_of la wa
  have hn := W64.toE wn
  clear wa wn
  have ea := fromE_is ha
  have na := rfromI_is ha
  have hel := ea.1
  have hnl := na.1
  have hz := zeroE_any ea
  have hrb := rbytes_any na
  have his : ∀ w : World, Calls Try.prog 22 #[.agg (ints .u64 (fromE a)), .agg (ints .i64 (rfromI a))] w fun e w' => e = .returned (.bool true) ∧ Below w.heap.size w w' := by
    intro w
    have := is_any ea na w
    rwa [decide_eq_true rfl] at this
  have his2 : ∀ w : World, Calls Try.prog 22 #[.agg (ints .u64 (smallE n)), .agg (ints .i64 (rsmallL n))] w fun e w' => e = .returned (.bool true) ∧ Below w.heap.size w w' := by
    intro w
    have := is_any (smallE_is hn) (rsmallI_is hn) w
    rwa [decide_eq_true rfl] at this
  have hz2 : ∀ w : World, Calls Try.prog 23 #[.agg (ints .u64 (smallE n))] w fun e w' => e = .returned (.bool (decide (n = 0))) ∧ Below w.heap.size w w' := by
    intro w
    have := zeroE_any (smallE_is hn) w
    rwa [show decide (n % PP = 0) = decide (n = 0) from by rw [decide_eq_decide]; unfold PP; omega] at this
  have hzero : decide (le32 (v32 a % H255 % PP) = List.replicate 32 0) = decide (v32 a % H255 % PP = 0) := decide_eq_decide.2 ((le32_p _).eq_iff zero_isB)
  have hse := smallE_any n hn
  have hsn := rsmallI_any n hn
  obtain ⟨V, hV⟩ : ∃ V, V = v32 a % H255 % PP := ⟨_, rfl⟩
  rw [← hV] at hz hrb hzero
  clear hV
  have hle := le32_length V
  go_enter Try.func5, Try.ntmps5

  have tok_b1 : True := trivial
  have tok_b2 : True := trivial
  have tok_b3 : True := trivial
  go_wp2_with (first | ((with_reducible show wpList _ _ _ (⟨_, .box _ _, _, _, _, _⟩ :: _) _ _); have _t := tok_b1; refine wpl_box hown rfl _ _ rfl _ rfl ?_; clear hown _t tok_b1; intro b1 _ hown; dsimp only [putL, setNth]))
  refine wp_region_grow 6 [0, 1, 2, 3, 4, 5] (by kernel_rfl) (by kernel_rfl) hown ?_; simp only [List.filterMap_cons, List.filterMap_nil, List.getElem?_cons_zero, List.getElem?_cons_succ, List.drop_succ_cons, List.drop_zero]
  (refine wpV_step rfl rfl _ (growAt_load_row 22 _ rfl _ rfl 0 _ _ rfl _ Try.underlying22 rfl (sz_b32 la)) ?_; dsimp only [putL, setNth])
  (refine wpV_step rfl rfl _ (growAt_call (args := #[.agg (ints .u8 a)]) (by intro w; go_simp) (fun w => fromE_any a ha w)) ?_; dsimp only [putL, setNth])
  (refine wpV_step rfl rfl _ (growAt_load_row 22 _ rfl _ rfl 0 _ _ rfl _ Try.underlying22 rfl (sz_b32 la)) ?_; dsimp only [putL, setNth])
  (refine wpV_step rfl rfl _ (growAt_call (args := #[.agg (ints .u8 a)]) (by intro w; go_simp) (fun w => rfromI_any a ha w)) ?_; dsimp only [putL, setNth])
  (have _t := tok_b2; refine wpV_alloc rfl _ rfl _ zero_elem ?_; clear _t tok_b2; intro b2; dsimp only [putL, setNth])
  (have _t := tok_b3; refine wpV_alloc rfl _ rfl _ zero_num ?_; clear _t tok_b3; intro b3; dsimp only [putL, setNth])
  refine wpV_nil ?_; clear hown; intro _ hown; simp only [List.nil_append, List.cons_append] at hown
  go_wp2_with (first | ((with_reducible show wpList _ _ _ (⟨_, _, _, _, _, some _⟩ :: _) _ _); refine wpl_unguard _ rfl (by rfl) ?_; dsimp only) | ((with_reducible show wpList _ _ _ (⟨_, .store _ _ _, _, _, _, _⟩ :: _) _ _); refine wpl_store_row hown rfl 35 _ _ rfl _ rfl _ rfl (ints_cell _ _) (sz_elem hel) 1 _ _ rfl (sz_eq (n := 5) rfl hel) ?_; clear hown; intro _ hown; dsimp only [putL]; simp only [List.set_cons_zero, List.set_cons_succ] at hown) | ((with_reducible show wpList _ _ _ (⟨_, .store _ _ _, _, _, _, _⟩ :: _) _ _); refine wpl_store_row hown rfl 38 _ _ rfl _ rfl _ rfl (ints_cell _ _) (sz_num hnl) 0 _ _ rfl (sz_eq (n := 16) rfl hnl) ?_; clear hown; intro _ hown; dsimp only [putL]; simp only [List.set_cons_zero, List.set_cons_succ] at hown) | ((with_reducible show wpList _ _ _ (⟨_, .load _ _, _, _, _, _⟩ :: _) _ _); refine wpl_load_row hown rfl 35 _ rfl _ rfl 1 _ _ rfl _ Try.underlying35 rfl (sz_elem hel) ?_; dsimp only [putL, setNth]) | ((with_reducible show wpList _ _ _ (⟨_, .load _ _, _, _, _, _⟩ :: _) _ _); refine wpl_load_row hown rfl 38 _ rfl _ rfl 0 _ _ rfl _ Try.underlying38 rfl (sz_num hnl) ?_; dsimp only [putL, setNth]) | (go_at_call 21; refine (hrb _).mono ?_; rintro e w' ⟨rfl, hb⟩; replace hown := hown.grow hb; clear hb) | (refine wpl_build rfl 22 _ rfl _ rfl (ints .u8 (List.replicate 32 0)) (by kernel_rfl) ?_; dsimp only [putL, setNth]) | (refine wpl_eql rfl 22 _ _ _ rfl _ _ (List.replicate 32 0) rfl rfl 5 _ _ Try.underlying22 Try.underlying5 size_u8 (by kernel_rfl) hle (by rfl) ?_; rw [hzero]; dsimp only [putL, setNth]) | (go_at_call 22; refine (his _).mono ?_; rintro e w' ⟨rfl, hb⟩; replace hown := hown.grow hb; clear hb) | (go_at_call 23; refine (hz _).mono ?_; rintro e w' ⟨rfl, hb⟩; replace hown := hown.grow hb; clear hb) | (go_at_call 24; refine (hse _).mono ?_; rintro e w' ⟨rfl, hb⟩; replace hown := hown.grow hb; clear hb) | (go_at_call 25; refine (hsn _).mono ?_; rintro e w' ⟨rfl, hb⟩; replace hown := hown.grow hb; clear hb) | (go_at_call 22; refine (his2 _).mono ?_; rintro e w' ⟨rfl, hb⟩; replace hown := hown.grow hb; clear hb) | (go_at_call 23; refine (hz2 _).mono ?_; rintro e w' ⟨rfl, hb⟩; replace hown := hown.grow hb; clear hb))
  go_ret
  exact ⟨by show Ending.returned (Value.bool (decide (n = 0) == (n == 0))) = _; by_cases h : n = 0 <;> simp [h], hown.below⟩
set_option maxRecDepth 100000 in
theorem FieldFrom_lifted (os : Os) (started : os.Started) (H : Type) (enc : TypeId × Value → H) :
    ReturnsInHanded {} Try.checked os 5 .any (Rows.fieldFromSpec.pre6 enc Try.prog Try.f5 Rows.fieldFromRow.domain false) (Rows.fieldFromSpec.post enc Try.prog Try.f5 false true false false) := by
  refine returnsInHanded_of_change (C := Try.checked) (by kernel_rfl) started (by kernel_rfl) Try.func5
    (ChangeSpec.witness6 (enc := enc) (C := Try.checked) false ⟨#[], #[.agg (ints .u8 (List.replicate 32 0)), .int .u32 0], []⟩ 8 (by kernel_rfl) (by kernel_rfl) (by kernel_rfl) (by kernel_rfl)) ?_
  intro W base args ds gs before hval0 hW hcnd _
  have hval : ∀ (j : Nat) t v, Try.f5.params[j]? = some t → args[j]? = some v → Value.okWide Try.prog W .any base t v := hval0
  have hW' := hW
  obtain ⟨p, q, hA0, hV, rfl, hfz, hnd⟩ := hW
  have hA : DataW.TrodAll enc Try.prog W 0 (fun _ => true) true Try.f5.params.toList args.toList ds p := hA0
  rw [Try.params5] at hA hval
  obtain ⟨v0, vs0, d0, ds0, p0, q0, hargs, rfl, rfl, h0, r0⟩ := trodAll_cons hA
  obtain ⟨v1, vs1, d1, ds1, p1, q1, rfl, rfl, rfl, h1, r1⟩ := trodAll_cons r0
  obtain ⟨rfl, rfl, rfl⟩ := trodAll_nil r1
  obtain rfl : args = #[v0, v1] := by cases args; simp_all
  obtain ⟨rfl, rfl⟩ := trodVars_none hV
  have k0 := h0
  have k1 := h1
  obtain ⟨a0, rfl, l0, w0, hp0⟩ := open_arr (k := .u8) (n := 32) Try.underlying22 Try.underlying5 (by kernel_rfl) (by kernel_rfl) (hval 0 22 v0 rfl rfl) h0
  obtain ⟨a1, rfl, _, hp1, w1⟩ := open_int Try.underlying31 (hval 1 31 v1 rfl rfl) h1
  clear hA0 hval0
  subst hp0
  subst hp1
  refine (fieldFrom_walk a0 l0 w0 a1 w1 W).mono fun e W' ⟨he, hg⟩ => ?_
  subst he
  exact ⟨_, rfl, _, _, _, [], [], [], hW', (trodAll_cons_mk (shut_bool Try.underlying4 _) trodAll_mk0), (trodAll_cons_mk (Below.trod Try.laidOut (by kernel_rfl) (of_decide_eq_true (by kernel_rfl)) k0 hg (by simp)) (trodAll_cons_mk (Below.trod Try.laidOut (by kernel_rfl) (of_decide_eq_true (by kernel_rfl)) k1 hg (by simp)) trodAll_mk0)), rfl_vars, hg.frame _, fun h => by cases h⟩

theorem FieldFrom_holds : Rows.FieldFromSaid :=
  OpenClaim.holds_of_wide 5 Try.f5 rfl rfl rfl rfl rfl rfl rfl ⟨rfl, rfl, rfl, rfl, rfl⟩ rfl rfl rfl rfl rfl (by kernel_rfl) Try.func5 (by kernel_rfl)
    (of_decide_eq_true (by kernel_rfl)) (by unfold Func.isWrapper; first | (rw [if_pos (by decide +kernel)]; kernel_rfl) | (rw [if_neg (by decide +kernel)]; exact ⟨rfl, rfl⟩))
    (fun os started H enc _ => FieldFrom_lifted os started H enc)
#print axioms FieldFrom_holds

end Go.Proofs.Ytgeflkgnabmacaa
