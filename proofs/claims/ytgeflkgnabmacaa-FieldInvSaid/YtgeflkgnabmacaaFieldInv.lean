/-
  FieldInv: of all numbers. No conditions.
-/
import Derived.Test.YtgeflkgnabmacaaLaw
namespace Go.Proofs.Ytgeflkgnabmacaa
set_option linter.unusedSimpArgs false
set_option linter.unusedVariables false
open Go Go.RowKit
open Go.ChangeShapes Go.WideShapes Go.ChangeAt
set_option maxHeartbeats 800000 in
theorem fieldInv_walk (a : List Int) (la : a.length = 32) (wa : ∀ x ∈ a, (Lit.int .u8 x).wf = true) (w : World) :
    Calls Try.prog 12 #[.agg (ints .u8 a)] w fun e w' => e = .returned (.bool true) ∧ Below w.heap.size w w' := by
  have hown := Own.start w
  have ha := bytes32_of la wa
  clear wa
  have ea := fromE_is ha
  have na := rfromI_is ha
  go_enter Try.func12, Try.ntmps12
  go_wp2_with (first | ((with_reducible show wpList _ _ _ (⟨_, .box _ _, _, _, _, _⟩ :: _) _ _); refine wpl_box hown rfl _ _ rfl _ rfl ?_; clear hown; intro _ _ hown; dsimp only [putL, setNth]))
  refine wp_region_grow 7 [0, 1, 2, 3, 4, 5, 6] (by kernel_rfl) (by kernel_rfl) hown ?_; simp only [List.filterMap_cons, List.filterMap_nil, List.getElem?_cons_zero, List.getElem?_cons_succ, List.drop_succ_cons, List.drop_zero]
  (refine wpV_step rfl rfl _ (growAt_load_row 22 _ rfl _ rfl 0 _ _ rfl _ Try.underlying22 rfl (sz_b32 la)) ?_; dsimp only [putL, setNth])
  (refine wpV_step rfl rfl _ (growAt_call (args := #[.agg (ints .u8 a)]) (by intro w; go_simp) (fun w => fromE_any a ha w)) ?_; dsimp only [putL, setNth])
  (refine wpV_step rfl rfl _ (growAt_call (args := #[.agg (ints .u64 (fromE a))]) (by intro w; go_simp) (fun w => invE_any (fromE a) ea w)) ?_; dsimp only [putL, setNth])
  (refine wpV_step rfl rfl _ (growAt_load_row 22 _ rfl _ rfl 0 _ _ rfl _ Try.underlying22 rfl (sz_b32 la)) ?_; dsimp only [putL, setNth])
  (refine wpV_step rfl rfl _ (growAt_call (args := #[.agg (ints .u8 a)]) (by intro w; go_simp) (fun w => rfromI_any a ha w)) ?_; dsimp only [putL, setNth])
  (refine wpV_step rfl rfl _ (growAt_call (args := #[.agg (ints .i64 (rfromI a))]) (by intro w; go_simp) (fun w => rinvI_any (rfromI a) na w)) ?_; dsimp only [putL, setNth])
  (refine wpV_step rfl rfl _ (growAt_call (args := #[.agg (ints .u64 (invE (fromE a))), .agg (ints .i64 (rinvI (rfromI a)))]) (by intro w; go_simp) (fun w => is_any (invE_is ea) (rinvI_is na) w)) ?_; dsimp only [putL, setNth])
  refine wpV_nil ?_; clear hown; intro _ hown; simp only [List.nil_append, List.cons_append] at hown
  go_wp2
  go_ret
  exact ⟨by first | rfl | simp, hown.below⟩
set_option maxRecDepth 100000 in
theorem FieldInv_lifted (os : Os) (started : os.Started) (H : Type) (enc : TypeId × Value → H) :
    ReturnsInHanded {} Try.checked os 12 .any (Rows.fieldInvSpec.pre6 enc Try.prog Try.f12 Rows.fieldInvRow.domain false) (Rows.fieldInvSpec.post enc Try.prog Try.f12 false true false false) := by
  refine returnsInHanded_of_change (C := Try.checked) (by kernel_rfl) started (by kernel_rfl) Try.func12
    (ChangeSpec.witness6 (enc := enc) (C := Try.checked) false ⟨#[], #[.agg (ints .u8 (List.replicate 32 0))], []⟩ 8 (by kernel_rfl) (by kernel_rfl) (by kernel_rfl) (by kernel_rfl)) ?_
  intro W base args ds gs before hval0 hW hcnd _
  have hval : ∀ (j : Nat) t v, Try.f12.params[j]? = some t → args[j]? = some v → Value.okWide Try.prog W .any base t v := hval0
  have hW' := hW
  obtain ⟨p, q, hA0, hV, rfl, hfz, hnd⟩ := hW
  have hA : DataW.TrodAll enc Try.prog W 0 (fun _ => true) true Try.f12.params.toList args.toList ds p := hA0
  rw [Try.params12] at hA hval
  obtain ⟨v0, vs0, d0, ds0, p0, q0, hargs, rfl, rfl, h0, r0⟩ := trodAll_cons hA
  obtain ⟨rfl, rfl, rfl⟩ := trodAll_nil r0
  obtain rfl : args = #[v0] := by cases args; simp_all
  obtain ⟨rfl, rfl⟩ := trodVars_none hV
  have k0 := h0
  obtain ⟨a0, rfl, l0, w0, hp0⟩ := open_arr (k := .u8) (n := 32) Try.underlying22 Try.underlying5 (by kernel_rfl) (by kernel_rfl) (hval 0 22 v0 rfl rfl) h0
  clear hA0 hval0
  subst hp0
  refine (fieldInv_walk a0 l0 w0 W).mono fun e W' ⟨he, hg⟩ => ?_
  subst he
  exact ⟨_, rfl, _, _, _, [], [], [], hW', (trodAll_cons_mk (shut_bool Try.underlying4 _) trodAll_mk0), (trodAll_cons_mk (Below.trod Try.laidOut (by kernel_rfl) (of_decide_eq_true (by kernel_rfl)) k0 hg (by simp)) trodAll_mk0), rfl_vars, hg.frame _, fun h => by cases h⟩

theorem FieldInv_holds : Rows.FieldInvSaid :=
  OpenClaim.holds_of_wide 12 Try.f12 rfl rfl rfl rfl rfl rfl rfl ⟨rfl, rfl, rfl, rfl, rfl⟩ rfl rfl rfl rfl rfl (by kernel_rfl) Try.func12 (by kernel_rfl)
    (of_decide_eq_true (by kernel_rfl)) (by unfold Func.isWrapper; first | (rw [if_pos (by decide +kernel)]; kernel_rfl) | (rw [if_neg (by decide +kernel)]; exact ⟨rfl, rfl⟩))
    (fun os started H enc _ => FieldInv_lifted os started H enc)
#print axioms FieldInv_holds

end Go.Proofs.Ytgeflkgnabmacaa
