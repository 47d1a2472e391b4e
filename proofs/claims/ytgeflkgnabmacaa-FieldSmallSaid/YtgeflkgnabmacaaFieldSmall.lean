/-
  FieldSmall: of all two small numbers. No conditions.
-/
import Derived.Test.YtgeflkgnabmacaaAwake
namespace Go.Proofs.Ytgeflkgnabmacaa
set_option linter.unusedSimpArgs false
set_option linter.unusedVariables false
open Go Go.RowKit

open Go.ChangeShapes Go.WideShapes Go.ChangeAt

set_option maxRecDepth 20000 in
set_option maxHeartbeats 4000000 in
theorem fieldSmall_walk (m : Int) (wm : (Lit.int .u16 m).wf = true) (n : Int) (wn : (Lit.int .u16 n).wf = true) (w : World) :
    Calls Try.prog 10 #[.int .u16 m, .int .u16 n] w fun e w' => e = .returned (.bool true) ∧ Below w.heap.size w w' := by
  have hown := Own.start w
  have bm : 0 ≤ m ∧ m < 65536 := by have := bounds_u16 wm; omega
  have bn : 0 ≤ n ∧ n < 65536 := by have := bounds_u16 wn; omega
  clear wm wn
  have c1 : IntKind.u32.wrap m = m := by rw [IntKind.wrap_u32]; omega
  have c2 : IntKind.u32.wrap n = n := by rw [IntKind.wrap_u32]; omega
  have hmn : 0 ≤ m * n ∧ m * n ≤ 4294836225 := mul_bound bm bn
  have c3 : IntKind.u32.wrap (m + n) = m + n := by rw [IntKind.wrap_u32]; omega
  have c4 : IntKind.u32.wrap (m * n) = m * n := by rw [IntKind.wrap_u32]; omega
  have em := smallE_is (n := m) ⟨by omega, by omega⟩
  have en := smallE_is (n := n) ⟨by omega, by omega⟩
  have am := smallE_any m ⟨by omega, by omega⟩
  have an := smallE_any n ⟨by omega, by omega⟩
  have asum := smallE_any (m + n) ⟨by omega, by omega⟩
  have ap := smallE_any (m * n) ⟨by omega, by omega⟩
  have es := smallE_is (n := m + n) ⟨by omega, by omega⟩
  have ep := smallE_is (n := m * n) ⟨by omega, by omega⟩
  have lm := em.1
  have ln := en.1
  have add := addE_any _ _ em en
  have mul := mulE_any _ _ em en
  have sub := subE_any _ _ em en
  have bus := subE_any _ _ en em
  have s1 := same_true (addE_is em en) es rfl
  have s2 := same_true (mulE_is em en) ep rfl
  have es1 := subE_is em en
  have es2 := subE_is en em
  have wk := awake_any
  go_enter Try.func10, Try.ntmps10

  have tok_q1 : True := trivial
  have tok_q2 : True := trivial
  go_upto_region 4 with (go_big_may; (first | ((with_reducible show wpList _ _ _ (⟨_, _, _, _, _, some _⟩ :: _) _ _); refine wpl_unguard _ rfl (by rfl) ?_; dsimp only) | (go_at_call 24; with_reducible refine (am _).mono ?_; rintro e w' ⟨rfl, hb'⟩; replace hown := hown.grow hb'; clear hb') | (go_at_call 24; with_reducible refine (an _).mono ?_; rintro e w' ⟨rfl, hb'⟩; replace hown := hown.grow hb'; clear hb') | ((with_reducible show wpList _ _ _ (⟨_, .alloc _, _, _, _, _⟩ :: _) _ _); have _t := tok_q1; refine wpl_alloc hown rfl _ rfl _ zero_elem ?_; clear hown _t tok_q1; intro q1 _ hown; dsimp only [putL, setNth]) | ((with_reducible show wpList _ _ _ (⟨_, .alloc _, _, _, _, _⟩ :: _) _ _); have _t := tok_q2; refine wpl_alloc hown rfl _ rfl _ zero_elem ?_; clear hown _t tok_q2; intro q2 _ hown; dsimp only [putL, setNth]) | ((with_reducible show wpList _ _ _ (⟨_, .store _ _ _, _, _, _, _⟩ :: _) _ _); refine wpl_store_row hown rfl 35 _ _ rfl _ rfl _ rfl (ints_cell _ _) (sz_elem lm) 1 _ _ rfl (sz_eq (n := 5) rfl lm) ?_; clear hown; intro _ hown; dsimp only [putL]; simp only [List.set_cons_zero, List.set_cons_succ] at hown) | ((with_reducible show wpList _ _ _ (⟨_, .store _ _ _, _, _, _, _⟩ :: _) _ _); refine wpl_store_row hown rfl 35 _ _ rfl _ rfl _ rfl (ints_cell _ _) (sz_elem ln) 0 _ _ rfl (sz_eq (n := 5) rfl ln) ?_; clear hown; intro _ hown; dsimp only [putL]; simp only [List.set_cons_zero, List.set_cons_succ] at hown) | ((with_reducible show wpList _ _ _ (⟨_, .load _ _, _, _, _, _⟩ :: _) _ _); refine wpl_load_row hown rfl 35 _ rfl _ rfl 1 _ _ rfl _ Try.underlying35 rfl (sz_elem lm) ?_; dsimp only [putL, setNth]) | ((with_reducible show wpList _ _ _ (⟨_, .load _ _, _, _, _, _⟩ :: _) _ _); refine wpl_load_row hown rfl 35 _ rfl _ rfl 0 _ _ rfl _ Try.underlying35 rfl (sz_elem ln) ?_; dsimp only [putL, setNth]) | (go_at_call 26; with_reducible refine (add _).mono ?_; rintro e w' ⟨rfl, hb'⟩; replace hown := hown.grow hb'; clear hb') | (go_at_call 31; with_reducible refine (mul _).mono ?_; rintro e w' ⟨rfl, hb'⟩; replace hown := hown.grow hb'; clear hb') | (go_at_call 28; with_reducible refine (sub _).mono ?_; rintro e w' ⟨rfl, hb'⟩; replace hown := hown.grow hb'; clear hb') | (go_at_call 28; with_reducible refine (bus _).mono ?_; rintro e w' ⟨rfl, hb'⟩; replace hown := hown.grow hb'; clear hb') | (go_at_call 24; with_reducible refine (asum _).mono ?_; rintro e w' ⟨rfl, hb'⟩; replace hown := hown.grow hb'; clear hb') | (go_at_call 24; with_reducible refine (ap _).mono ?_; rintro e w' ⟨rfl, hb'⟩; replace hown := hown.grow hb'; clear hb') | (go_at_call 33; with_reducible refine (s1 _).mono ?_; rintro e w' ⟨rfl, hb'⟩; replace hown := hown.grow hb'; clear hb') | (go_at_call 33; with_reducible refine (s2 _).mono ?_; rintro e w' ⟨rfl, hb'⟩; replace hown := hown.grow hb'; clear hb') | (go_at_call 34; with_reducible refine (wk _).mono ?_; rintro e w' ⟨rfl, hb'⟩; replace hown := hown.grow hb'; clear hb')))
  by_cases hge : m ≥ n
  · have c5 : IntKind.u32.wrap (m - n) = m - n := by rw [IntKind.wrap_u32]; omega
    have ad := smallE_any (m - n) ⟨by omega, by omega⟩
    have s3 := same_true es1 (smallE_is (n := m - n) ⟨by omega, by omega⟩) rfl
    go_wp2_with (first | ((with_reducible show wpList _ _ _ (⟨_, _, _, _, _, some _⟩ :: _) _ _); refine wpl_unguard _ rfl (by rfl) ?_; dsimp only) | (go_at_call 24; with_reducible refine (am _).mono ?_; rintro e w' ⟨rfl, hb'⟩; replace hown := hown.grow hb'; clear hb') | (go_at_call 24; with_reducible refine (an _).mono ?_; rintro e w' ⟨rfl, hb'⟩; replace hown := hown.grow hb'; clear hb') | ((with_reducible show wpList _ _ _ (⟨_, .alloc _, _, _, _, _⟩ :: _) _ _); have _t := tok_q1; refine wpl_alloc hown rfl _ rfl _ zero_elem ?_; clear hown _t tok_q1; intro q1 _ hown; dsimp only [putL, setNth]) | ((with_reducible show wpList _ _ _ (⟨_, .alloc _, _, _, _, _⟩ :: _) _ _); have _t := tok_q2; refine wpl_alloc hown rfl _ rfl _ zero_elem ?_; clear hown _t tok_q2; intro q2 _ hown; dsimp only [putL, setNth]) | ((with_reducible show wpList _ _ _ (⟨_, .store _ _ _, _, _, _, _⟩ :: _) _ _); refine wpl_store_row hown rfl 35 _ _ rfl _ rfl _ rfl (ints_cell _ _) (sz_elem lm) 1 _ _ rfl (sz_eq (n := 5) rfl lm) ?_; clear hown; intro _ hown; dsimp only [putL]; simp only [List.set_cons_zero, List.set_cons_succ] at hown) | ((with_reducible show wpList _ _ _ (⟨_, .store _ _ _, _, _, _, _⟩ :: _) _ _); refine wpl_store_row hown rfl 35 _ _ rfl _ rfl _ rfl (ints_cell _ _) (sz_elem ln) 0 _ _ rfl (sz_eq (n := 5) rfl ln) ?_; clear hown; intro _ hown; dsimp only [putL]; simp only [List.set_cons_zero, List.set_cons_succ] at hown) | ((with_reducible show wpList _ _ _ (⟨_, .load _ _, _, _, _, _⟩ :: _) _ _); refine wpl_load_row hown rfl 35 _ rfl _ rfl 1 _ _ rfl _ Try.underlying35 rfl (sz_elem lm) ?_; dsimp only [putL, setNth]) | ((with_reducible show wpList _ _ _ (⟨_, .load _ _, _, _, _, _⟩ :: _) _ _); refine wpl_load_row hown rfl 35 _ rfl _ rfl 0 _ _ rfl _ Try.underlying35 rfl (sz_elem ln) ?_; dsimp only [putL, setNth]) | (go_at_call 26; with_reducible refine (add _).mono ?_; rintro e w' ⟨rfl, hb'⟩; replace hown := hown.grow hb'; clear hb') | (go_at_call 31; with_reducible refine (mul _).mono ?_; rintro e w' ⟨rfl, hb'⟩; replace hown := hown.grow hb'; clear hb') | (go_at_call 28; with_reducible refine (sub _).mono ?_; rintro e w' ⟨rfl, hb'⟩; replace hown := hown.grow hb'; clear hb') | (go_at_call 28; with_reducible refine (bus _).mono ?_; rintro e w' ⟨rfl, hb'⟩; replace hown := hown.grow hb'; clear hb') | (go_at_call 24; with_reducible refine (asum _).mono ?_; rintro e w' ⟨rfl, hb'⟩; replace hown := hown.grow hb'; clear hb') | (go_at_call 24; with_reducible refine (ap _).mono ?_; rintro e w' ⟨rfl, hb'⟩; replace hown := hown.grow hb'; clear hb') | (go_at_call 33; with_reducible refine (s1 _).mono ?_; rintro e w' ⟨rfl, hb'⟩; replace hown := hown.grow hb'; clear hb') | (go_at_call 33; with_reducible refine (s2 _).mono ?_; rintro e w' ⟨rfl, hb'⟩; replace hown := hown.grow hb'; clear hb') | (go_at_call 34; with_reducible refine (wk _).mono ?_; rintro e w' ⟨rfl, hb'⟩; replace hown := hown.grow hb'; clear hb') | (go_at_call 24; with_reducible refine (ad _).mono ?_; rintro e w' ⟨rfl, hb'⟩; replace hown := hown.grow hb'; clear hb') | (go_at_call 33; with_reducible refine (s3 _).mono ?_; rintro e w' ⟨rfl, hb'⟩; replace hown := hown.grow hb'; clear hb'))
    go_ret
    exact ⟨rfl, hown.below⟩
  · have c5 : IntKind.u32.wrap (n - m) = n - m := by rw [IntKind.wrap_u32]; omega
    have ad := smallE_any (n - m) ⟨by omega, by omega⟩
    have s3 := same_true es2 (smallE_is (n := n - m) ⟨by omega, by omega⟩) rfl
    go_wp2_with (first | ((with_reducible show wpList _ _ _ (⟨_, _, _, _, _, some _⟩ :: _) _ _); refine wpl_unguard _ rfl (by rfl) ?_; dsimp only) | (go_at_call 24; with_reducible refine (am _).mono ?_; rintro e w' ⟨rfl, hb'⟩; replace hown := hown.grow hb'; clear hb') | (go_at_call 24; with_reducible refine (an _).mono ?_; rintro e w' ⟨rfl, hb'⟩; replace hown := hown.grow hb'; clear hb') | ((with_reducible show wpList _ _ _ (⟨_, .alloc _, _, _, _, _⟩ :: _) _ _); have _t := tok_q1; refine wpl_alloc hown rfl _ rfl _ zero_elem ?_; clear hown _t tok_q1; intro q1 _ hown; dsimp only [putL, setNth]) | ((with_reducible show wpList _ _ _ (⟨_, .alloc _, _, _, _, _⟩ :: _) _ _); have _t := tok_q2; refine wpl_alloc hown rfl _ rfl _ zero_elem ?_; clear hown _t tok_q2; intro q2 _ hown; dsimp only [putL, setNth]) | ((with_reducible show wpList _ _ _ (⟨_, .store _ _ _, _, _, _, _⟩ :: _) _ _); refine wpl_store_row hown rfl 35 _ _ rfl _ rfl _ rfl (ints_cell _ _) (sz_elem lm) 1 _ _ rfl (sz_eq (n := 5) rfl lm) ?_; clear hown; intro _ hown; dsimp only [putL]; simp only [List.set_cons_zero, List.set_cons_succ] at hown) | ((with_reducible show wpList _ _ _ (⟨_, .store _ _ _, _, _, _, _⟩ :: _) _ _); refine wpl_store_row hown rfl 35 _ _ rfl _ rfl _ rfl (ints_cell _ _) (sz_elem ln) 0 _ _ rfl (sz_eq (n := 5) rfl ln) ?_; clear hown; intro _ hown; dsimp only [putL]; simp only [List.set_cons_zero, List.set_cons_succ] at hown) | ((with_reducible show wpList _ _ _ (⟨_, .load _ _, _, _, _, _⟩ :: _) _ _); refine wpl_load_row hown rfl 35 _ rfl _ rfl 1 _ _ rfl _ Try.underlying35 rfl (sz_elem lm) ?_; dsimp only [putL, setNth]) | ((with_reducible show wpList _ _ _ (⟨_, .load _ _, _, _, _, _⟩ :: _) _ _); refine wpl_load_row hown rfl 35 _ rfl _ rfl 0 _ _ rfl _ Try.underlying35 rfl (sz_elem ln) ?_; dsimp only [putL, setNth]) | (go_at_call 26; with_reducible refine (add _).mono ?_; rintro e w' ⟨rfl, hb'⟩; replace hown := hown.grow hb'; clear hb') | (go_at_call 31; with_reducible refine (mul _).mono ?_; rintro e w' ⟨rfl, hb'⟩; replace hown := hown.grow hb'; clear hb') | (go_at_call 28; with_reducible refine (sub _).mono ?_; rintro e w' ⟨rfl, hb'⟩; replace hown := hown.grow hb'; clear hb') | (go_at_call 28; with_reducible refine (bus _).mono ?_; rintro e w' ⟨rfl, hb'⟩; replace hown := hown.grow hb'; clear hb') | (go_at_call 24; with_reducible refine (asum _).mono ?_; rintro e w' ⟨rfl, hb'⟩; replace hown := hown.grow hb'; clear hb') | (go_at_call 24; with_reducible refine (ap _).mono ?_; rintro e w' ⟨rfl, hb'⟩; replace hown := hown.grow hb'; clear hb') | (go_at_call 33; with_reducible refine (s1 _).mono ?_; rintro e w' ⟨rfl, hb'⟩; replace hown := hown.grow hb'; clear hb') | (go_at_call 33; with_reducible refine (s2 _).mono ?_; rintro e w' ⟨rfl, hb'⟩; replace hown := hown.grow hb'; clear hb') | (go_at_call 34; with_reducible refine (wk _).mono ?_; rintro e w' ⟨rfl, hb'⟩; replace hown := hown.grow hb'; clear hb') | (go_at_call 24; with_reducible refine (ad _).mono ?_; rintro e w' ⟨rfl, hb'⟩; replace hown := hown.grow hb'; clear hb') | (go_at_call 33; with_reducible refine (s3 _).mono ?_; rintro e w' ⟨rfl, hb'⟩; replace hown := hown.grow hb'; clear hb'))
    go_ret
    exact ⟨rfl, hown.below⟩
set_option maxRecDepth 100000 in
theorem FieldSmall_lifted (os : Os) (started : os.Started) (H : Type) (enc : TypeId × Value → H) :
    ReturnsInHanded {} Try.checked os 10 .any (Rows.fieldSmallSpec.pre6 enc Try.prog Try.f10 Rows.fieldSmallRow.domain false) (Rows.fieldSmallSpec.post enc Try.prog Try.f10 false true false false) := by
  refine returnsInHanded_of_change (C := Try.checked) (by kernel_rfl) started (by kernel_rfl) Try.func10
    (ChangeSpec.witness6 (enc := enc) (C := Try.checked) false ⟨#[], #[.int .u16 0, .int .u16 0], []⟩ 8 (by kernel_rfl) (by kernel_rfl) (by kernel_rfl) (by kernel_rfl)) ?_
  intro W base args ds gs before hval0 hW hcnd _
  have hval : ∀ (j : Nat) t v, Try.f10.params[j]? = some t → args[j]? = some v → Value.okWide Try.prog W .any base t v := hval0
  have hW' := hW
  obtain ⟨p, q, hA0, hV, rfl, hfz, hnd⟩ := hW
  have hA : DataW.TrodAll enc Try.prog W 0 (fun _ => true) true Try.f10.params.toList args.toList ds p := hA0
  rw [Try.params10] at hA hval
  obtain ⟨v0, vs0, d0, ds0, p0, q0, hargs, rfl, rfl, h0, r0⟩ := trodAll_cons hA
  obtain ⟨v1, vs1, d1, ds1, p1, q1, rfl, rfl, rfl, h1, r1⟩ := trodAll_cons r0
  obtain ⟨rfl, rfl, rfl⟩ := trodAll_nil r1
  obtain rfl : args = #[v0, v1] := by cases args; simp_all
  obtain ⟨rfl, rfl⟩ := trodVars_none hV
  have k0 := h0
  have k1 := h1
  obtain ⟨a0, rfl, _, hp0, w0⟩ := open_int Try.underlying52 (hval 0 52 v0 rfl rfl) h0
  obtain ⟨a1, rfl, _, hp1, w1⟩ := open_int Try.underlying52 (hval 1 52 v1 rfl rfl) h1
  clear hA0 hval0
  subst hp0
  subst hp1
  refine (fieldSmall_walk a0 w0 a1 w1 W).mono fun e W' ⟨he, hg⟩ => ?_
  subst he
  exact ⟨_, rfl, _, _, _, [], [], [], hW', (trodAll_cons_mk (shut_bool Try.underlying4 _) trodAll_mk0), (trodAll_cons_mk (Below.trod Try.laidOut (by kernel_rfl) (of_decide_eq_true (by kernel_rfl)) k0 hg (by simp)) (trodAll_cons_mk (Below.trod Try.laidOut (by kernel_rfl) (of_decide_eq_true (by kernel_rfl)) k1 hg (by simp)) trodAll_mk0)), rfl_vars, hg.frame _, fun h => by cases h⟩

theorem FieldSmall_holds : Rows.FieldSmallSaid :=
  OpenClaim.holds_of_wide 10 Try.f10 rfl rfl rfl rfl rfl rfl rfl ⟨rfl, rfl, rfl, rfl, rfl⟩ rfl rfl rfl rfl rfl (by kernel_rfl) Try.func10 (by kernel_rfl)
    (of_decide_eq_true (by kernel_rfl)) (by unfold Func.isWrapper; first | (rw [if_pos (by decide +kernel)]; kernel_rfl) | (rw [if_neg (by decide +kernel)]; exact ⟨rfl, rfl⟩))
    (fun os started H enc _ => FieldSmall_lifted os started H enc)
#print axioms FieldSmall_holds

end Go.Proofs.Ytgeflkgnabmacaa
