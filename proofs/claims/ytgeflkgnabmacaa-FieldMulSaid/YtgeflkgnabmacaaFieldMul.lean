/-
  FieldMul: of all two numbers. No conditions.
-/
import Derived.Test.YtgeflkgnabmacaaLaw
namespace Go.Proofs.Ytgeflkgnabmacaa
set_option linter.unusedSimpArgs false
set_option linter.unusedVariables false
open Go Go.RowKit
open Go.ChangeShapes Go.WideShapes Go.ChangeAt
set_option maxHeartbeats 800000 in
theorem fieldMul_walk (a : List Int) (la : a.length = 32) (wa : ∀ x ∈ a, (Lit.int .u8 x).wf = true) (b : List Int) (lb : b.length = 32) (wb : ∀ x ∈ b, (Lit.int .u8 x).wf = true) (w : World) :
    Calls Try.prog 9 #[.agg (ints .u8 a), .agg (ints .u8 b)] w fun e w' => e = .returned (.bool true) ∧ Below w.heap.size w w' := by
  have hown := Own.start w
  have ha := bytes32_of la wa
  clear wa
  have hb := bytes32_of lb wb
  clear wb
  have ea := fromE_is ha
  have na := rfromI_is ha
  have eb := fromE_is hb
  have nb := rfromI_is hb
  go_enter Try.func9, Try.ntmps9
  go_wp2_with (first | ((with_reducible show wpList _ _ _ (⟨_, .box _ _, _, _, _, _⟩ :: _) _ _); refine wpl_box hown rfl _ _ rfl _ rfl ?_; clear hown; intro _ _ hown; dsimp only [putL, setNth]))
  refine wp_region_grow 11 [0, 1, 2, 3, 4, 5, 6, 7, 8, 9, 10] (by kernel_rfl) (by kernel_rfl) hown ?_; simp only [List.filterMap_cons, List.filterMap_nil, List.getElem?_cons_zero, List.getElem?_cons_succ, List.drop_succ_cons, List.drop_zero]
  (refine wpV_step rfl rfl _ (growAt_load_row 22 _ rfl _ rfl 1 _ _ rfl _ Try.underlying22 rfl (sz_b32 la)) ?_; dsimp only [putL, setNth])
  (refine wpV_step rfl rfl _ (growAt_call (args := #[.agg (ints .u8 a)]) (by intro w; go_simp) (fun w => fromE_any a ha w)) ?_; dsimp only [putL, setNth])
  (refine wpV_step rfl rfl _ (growAt_load_row 22 _ rfl _ rfl 0 _ _ rfl _ Try.underlying22 rfl (sz_b32 lb)) ?_; dsimp only [putL, setNth])
  (refine wpV_step rfl rfl _ (growAt_call (args := #[.agg (ints .u8 b)]) (by intro w; go_simp) (fun w => fromE_any b hb w)) ?_; dsimp only [putL, setNth])
  (refine wpV_step rfl rfl _ (growAt_call (args := #[.agg (ints .u64 (fromE a)), .agg (ints .u64 (fromE b))]) (by intro w; go_simp) (fun w => mulE_any (fromE a) (fromE b) ea eb w)) ?_; dsimp only [putL, setNth])
  (refine wpV_step rfl rfl _ (growAt_load_row 22 _ rfl _ rfl 1 _ _ rfl _ Try.underlying22 rfl (sz_b32 la)) ?_; dsimp only [putL, setNth])
  (refine wpV_step rfl rfl _ (growAt_call (args := #[.agg (ints .u8 a)]) (by intro w; go_simp) (fun w => rfromI_any a ha w)) ?_; dsimp only [putL, setNth])
  (refine wpV_step rfl rfl _ (growAt_load_row 22 _ rfl _ rfl 0 _ _ rfl _ Try.underlying22 rfl (sz_b32 lb)) ?_; dsimp only [putL, setNth])
  (refine wpV_step rfl rfl _ (growAt_call (args := #[.agg (ints .u8 b)]) (by intro w; go_simp) (fun w => rfromI_any b hb w)) ?_; dsimp only [putL, setNth])
  (refine wpV_step rfl rfl _ (growAt_call (args := #[.agg (ints .i64 (rfromI a)), .agg (ints .i64 (rfromI b))]) (by intro w; go_simp) (fun w => rmulI_any (rfromI a) (rfromI b) na nb w)) ?_; dsimp only [putL, setNth])
  (refine wpV_step rfl rfl _ (growAt_call (args := #[.agg (ints .u64 (mulE (fromE a) (fromE b))), .agg (ints .i64 (rmulI (rfromI a) (rfromI b)))]) (by intro w; go_simp) (fun w => is_any (mulE_is ea eb) (rmulI_is na nb) w)) ?_; dsimp only [putL, setNth])
  refine wpV_nil ?_; clear hown; intro _ hown; simp only [List.nil_append, List.cons_append] at hown
  go_wp2
  go_ret
  exact ⟨by first | rfl | simp, hown.below⟩
set_option maxRecDepth 100000 in
theorem FieldMul_lifted (os : Os) (started : os.Started) (H : Type) (enc : TypeId × Value → H) :
    ReturnsInHanded {} Try.checked os 9 .any (Rows.fieldMulSpec.pre6 enc Try.prog Try.f9 Rows.fieldMulRow.domain false) (Rows.fieldMulSpec.post enc Try.prog Try.f9 false true false false) := by
  refine returnsInHanded_of_change (C := Try.checked) (by kernel_rfl) started (by kernel_rfl) Try.func9
    (ChangeSpec.witness6 (enc := enc) (C := Try.checked) false ⟨#[], #[.agg (ints .u8 (List.replicate 32 0)), .agg (ints .u8 (List.replicate 32 0))], []⟩ 8 (by kernel_rfl) (by kernel_rfl) (by kernel_rfl) (by kernel_rfl)) ?_
  intro W base args ds gs before hval0 hW hcnd _
  have hval : ∀ (j : Nat) t v, Try.f9.params[j]? = some t → args[j]? = some v → Value.okWide Try.prog W .any base t v := hval0
  have hW' := hW
  obtain ⟨p, q, hA0, hV, rfl, hfz, hnd⟩ := hW
  have hA : DataW.TrodAll enc Try.prog W 0 (fun _ => true) true Try.f9.params.toList args.toList ds p := hA0
  rw [Try.params9] at hA hval
  obtain ⟨v0, vs0, d0, ds0, p0, q0, hargs, rfl, rfl, h0, r0⟩ := trodAll_cons hA
  obtain ⟨v1, vs1, d1, ds1, p1, q1, rfl, rfl, rfl, h1, r1⟩ := trodAll_cons r0
  obtain ⟨rfl, rfl, rfl⟩ := trodAll_nil r1
  obtain rfl : args = #[v0, v1] := by cases args; simp_all
  obtain ⟨rfl, rfl⟩ := trodVars_none hV
  have k0 := h0
  have k1 := h1
  obtain ⟨a0, rfl, l0, w0, hp0⟩ := open_arr (k := .u8) (n := 32) Try.underlying22 Try.underlying5 (by kernel_rfl) (by kernel_rfl) (hval 0 22 v0 rfl rfl) h0
  obtain ⟨a1, rfl, l1, w1, hp1⟩ := open_arr (k := .u8) (n := 32) Try.underlying22 Try.underlying5 (by kernel_rfl) (by kernel_rfl) (hval 1 22 v1 rfl rfl) h1
  clear hA0 hval0
  subst hp0
  subst hp1
  refine (fieldMul_walk a0 l0 w0 a1 l1 w1 W).mono fun e W' ⟨he, hg⟩ => ?_
  subst he
  exact ⟨_, rfl, _, _, _, [], [], [], hW', (trodAll_cons_mk (shut_bool Try.underlying4 _) trodAll_mk0), (trodAll_cons_mk (Below.trod Try.laidOut (by kernel_rfl) (of_decide_eq_true (by kernel_rfl)) k0 hg (by simp)) (trodAll_cons_mk (Below.trod Try.laidOut (by kernel_rfl) (of_decide_eq_true (by kernel_rfl)) k1 hg (by simp)) trodAll_mk0)), rfl_vars, hg.frame _, fun h => by cases h⟩

theorem FieldMul_holds : Rows.FieldMulSaid :=
  OpenClaim.holds_of_wide 9 Try.f9 rfl rfl rfl rfl rfl rfl rfl ⟨rfl, rfl, rfl, rfl, rfl⟩ rfl rfl rfl rfl rfl (by kernel_rfl) Try.func9 (by kernel_rfl)
    (of_decide_eq_true (by kernel_rfl)) (by unfold Func.isWrapper; first | (rw [if_pos (by decide +kernel)]; kernel_rfl) | (rw [if_neg (by decide +kernel)]; exact ⟨rfl, rfl⟩))
    (fun os started H enc _ => FieldMul_lifted os started H enc)
#print axioms FieldMul_holds

end Go.Proofs.Ytgeflkgnabmacaa
