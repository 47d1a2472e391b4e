/-
  CurveClamp: a key's number is the document's, of all keys. No conditions.
-/
import Derived.Test.YtgeflkgnabmacaaClamp
import Derived.Test.YtgeflkgnabmacaaEq
import Derived.Test.YtgeflkgnabmacaaOpen
namespace Go.Proofs.Ytgeflkgnabmacaa
set_option linter.unusedSimpArgs false
set_option linter.unusedVariables false
open Go Go.ChangeShapes Go.WideShapes Go.ChangeAt Go.RowKit
theorem Try.laidOut : laidOutB Try.prog = true := by kernel_rfl
theorem rfl_vars {H : Type} {enc : TypeId × Value → H} {W : World} {sp : Nat → Bool} : DataW.TrodVars enc Try.prog W sp [] [] [] := rfl
set_option maxHeartbeats 400000 in
theorem curveClamp_walk (L : List Int) (hL : L.length = 32) (_ : ∀ x ∈ L, (Lit.int .u8 x).wf = true) (w : World) :
    Calls Try.prog 3 #[.agg (ints .u8 L)] w fun e w' => e = .returned (.bool true) ∧ Below w.heap.size w w' := by
  have hown := Own.start w
  go_enter Try.func3, Try.ntmps3

  go_wp2_with (first | (refine wpl_box hown rfl _ _ rfl _ rfl ?_; clear hown; intro _ _ hown; simp only [Act.put, List.setIfInBounds_toArray, List.set_cons_zero, List.set_cons_succ, List.getElem?_cons_zero, List.getElem?_cons_succ, ints_set] at hown ⊢))
  refine wp_region_grow 5 [0, 1, 2, 3, 4] (by kernel_rfl) (by kernel_rfl) hown ?_; simp only [List.filterMap_cons, List.filterMap_nil, List.getElem?_cons_zero, List.getElem?_cons_succ, List.drop_succ_cons, List.drop_zero]
  (refine wpV_step rfl rfl _ (growAt_load_row 23 _ rfl _ rfl 0 _ _ rfl _ Try.underlying23 rfl (info_key_sz _ hL)) ?_; simp only [Act.put, List.setIfInBounds_toArray, List.set_cons_zero, List.set_cons_succ])
  (refine wpV_step rfl rfl _ (growAt_call (args := #[.agg (ints .u8 L)]) (by intro w; go_simp) (fun w => clamp_any L hL w)) ?_; simp only [Act.put, List.setIfInBounds_toArray, List.set_cons_zero, List.set_cons_succ])
  (refine wpV_step rfl rfl _ (growAt_load_row 23 _ rfl _ rfl 0 _ _ rfl _ Try.underlying23 rfl (info_key_sz _ hL)) ?_; simp only [Act.put, List.setIfInBounds_toArray, List.set_cons_zero, List.set_cons_succ])
  (refine wpV_step rfl rfl _ (growAt_call (args := #[.agg (ints .u8 L)]) (by intro w; go_simp) (fun w => rclamp_any L hL w)) ?_; simp only [Act.put, List.setIfInBounds_toArray, List.set_cons_zero, List.set_cons_succ])
  (refine wpV_step rfl rfl _ (growAt_eql 23 _ _ _ rfl _ _ _ rfl rfl 5 _ _ Try.underlying23 Try.underlying5 (size_u8) (by kernel_rfl) (by simp [clampL, hL]) (by simp [clampL, hL])) ?_; simp only [Act.put, List.setIfInBounds_toArray, List.set_cons_zero, List.set_cons_succ])
  refine wpV_nil ?_; clear hown; intro _ hown; simp only [List.nil_append, List.cons_append] at hown
  go_wp2
  go_ret
  exact ⟨by simp, hown.below⟩
set_option maxRecDepth 100000 in
theorem CurveClamp_lifted (os : Os) (started : os.Started) (H : Type) (enc : TypeId × Value → H) :
    ReturnsInHanded {} Try.checked os 3 .any (Rows.curveClampSpec.pre6 enc Try.prog Try.f3 Rows.curveClampRow.domain false) (Rows.curveClampSpec.post enc Try.prog Try.f3 false true false false) := by
  refine returnsInHanded_of_change (C := Try.checked) (by kernel_rfl) started (by kernel_rfl) Try.func3
    (ChangeSpec.witness6 (enc := enc) (C := Try.checked) false ⟨#[], #[.agg (ints .u8 (List.replicate 32 0))], []⟩ 8 (by kernel_rfl) (by kernel_rfl) (by kernel_rfl) (by kernel_rfl)) ?_
  intro W base args ds gs before hval0 hW hcnd _
  have hval : ∀ (j : Nat) t v, Try.f3.params[j]? = some t → args[j]? = some v → Value.okWide Try.prog W .any base t v := hval0
  have hW' := hW
  obtain ⟨p, q, hA0, hV, rfl, hfz, hnd⟩ := hW
  have hA : DataW.TrodAll enc Try.prog W 0 (fun _ => true) true Try.f3.params.toList args.toList ds p := hA0
  rw [Try.params3] at hA hval
  obtain ⟨v0, vs0, d0, ds0, p0, q0, hargs, rfl, rfl, h0, r0⟩ := trodAll_cons hA
  obtain ⟨rfl, rfl, rfl⟩ := trodAll_nil r0
  obtain rfl : args = #[v0] := by cases args; simp_all
  obtain ⟨rfl, rfl⟩ := trodVars_none hV
  have k0 := h0
  obtain ⟨a0, rfl, l0, w0, hp0⟩ := open_arr (k := .u8) (n := 32) Try.underlying23 Try.underlying5 (by kernel_rfl) (by kernel_rfl) (hval 0 23 v0 rfl rfl) h0
  clear hA0 hval0
  subst hp0
  refine (curveClamp_walk a0 l0 w0 W).mono fun e W' ⟨he, hg⟩ => ?_
  subst he
  exact ⟨_, rfl, _, _, _, [], [], [], hW', (trodAll_cons_mk (shut_bool Try.underlying4 _) trodAll_mk0), (trodAll_cons_mk (Below.trod Try.laidOut (by kernel_rfl) (of_decide_eq_true (by kernel_rfl)) k0 hg (by simp)) trodAll_mk0), rfl_vars, hg.frame _, fun h => by cases h⟩

theorem CurveClamp_holds : Rows.CurveClampSaid :=
  OpenClaim.holds_of_wide 3 Try.f3 rfl rfl rfl rfl rfl rfl rfl ⟨rfl, rfl, rfl, rfl, rfl⟩ rfl rfl rfl rfl rfl (by kernel_rfl) Try.func3 (by kernel_rfl)
    (of_decide_eq_true (by kernel_rfl)) (by unfold Func.isWrapper; first | (rw [if_pos (by decide +kernel)]; kernel_rfl) | (rw [if_neg (by decide +kernel)]; exact ⟨rfl, rfl⟩))
    (fun os started H enc _ => CurveClamp_lifted os started H enc)
#print axioms CurveClamp_holds
end Go.Proofs.Ytgeflkgnabmacaa
