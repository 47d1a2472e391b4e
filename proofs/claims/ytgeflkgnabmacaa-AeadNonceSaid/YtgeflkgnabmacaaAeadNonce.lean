/-
  AeadNonce: of all numbers. No conditions.
-/
import Derived.Test.YtgeflkgnabmacaaNonce
namespace Go.Proofs.Ytgeflkgnabmacaa
set_option linter.unusedSimpArgs false
set_option linter.unusedVariables false
open Go Go.RowKit

open Go.ChangeShapes Go.WideShapes Go.ChangeAt

theorem nonceL_length (n : Int) : (nonceL n).length = 12 := by
  unfold nonceL
  split
  · exact nonN_length n 8
  · rfl
set_option maxHeartbeats 800000 in
theorem aeadNonce_walk (n : Int) (wn : (Lit.int .i64 n).wf = true) (w : World) :
    Calls Try.prog 4 #[.int .i64 n] w fun e w' => e = .returned (.bool true) ∧ Below w.heap.size w w' := by
  have hown := Own.start w
  have hn : -9223372036854775808 ≤ n ∧ n ≤ 9223372036854775807 := by have := bounds_i64 wn; omega
  clear wn
  have a1 := nonce_any n hn
  have a2 := rnonce_any n hn
  have hl := nonceL_length n
  obtain ⟨N, hN⟩ : ∃ N, N = nonceL n := ⟨_, rfl⟩
  obtain ⟨E, hE⟩ : ∃ E, E = nonceE n := ⟨_, rfl⟩
  rw [← hN, ← hE] at a1 a2
  rw [← hN] at hl
  clear hN hE hn
  have hdec : decide (N = N) = true := decide_eq_true rfl
  go_enter Try.func4, Try.ntmps4

  have tok_b1 : True := trivial
  have tok_b2 : True := trivial
  go_wp2_with (first | ((with_reducible show wpList _ _ _ (⟨_, _, _, _, _, some _⟩ :: _) _ _); refine wpl_unguard _ rfl (by rfl) ?_; dsimp only) | (go_at_call 17; with_reducible refine (a1 _).mono ?_; rintro e w' ⟨rfl, hb'⟩; replace hown := hown.grow hb'; clear hb') | (go_at_call 18; with_reducible refine (a2 _).mono ?_; rintro e w' ⟨rfl, hb'⟩; replace hown := hown.grow hb'; clear hb') | ((with_reducible show wpList _ _ _ (⟨_, .alloc _, _, _, _, _⟩ :: _) _ _); have _t := tok_b1; refine wpl_alloc hown rfl _ rfl _ zero_n12 ?_; clear hown _t tok_b1; intro b1 _ hown; dsimp only [putL, setNth]) | ((with_reducible show wpList _ _ _ (⟨_, .alloc _, _, _, _, _⟩ :: _) _ _); have _t := tok_b2; refine wpl_alloc hown rfl _ rfl _ zero_n12 ?_; clear hown _t tok_b2; intro b2 _ hown; dsimp only [putL, setNth]) | ((with_reducible show wpList _ _ _ (⟨_, .store _ _ _, _, _, _, _⟩ :: _) _ _); refine wpl_store_row hown rfl 26 _ _ rfl _ rfl _ rfl (ints_cell _ _) (sz_n12 hl) 0 _ _ rfl (sz_eq (n := 12) rfl hl) ?_; clear hown; intro _ hown; dsimp only [putL]; simp only [List.set_cons_zero, List.set_cons_succ] at hown) | ((with_reducible show wpList _ _ _ (⟨_, .load _ _, _, _, _, _⟩ :: _) _ _); refine wpl_load_row hown rfl 26 _ rfl _ rfl 1 _ _ rfl _ Try.underlying26 rfl (sz_n12 hl) ?_; dsimp only [putL, setNth]) | ((with_reducible show wpList _ _ _ (⟨_, .load _ _, _, _, _, _⟩ :: _) _ _); refine wpl_load_row hown rfl 26 _ rfl _ rfl 0 _ _ rfl _ Try.underlying26 rfl (sz_n12 hl) ?_; dsimp only [putL, setNth]) | (refine wpl_eql rfl 26 _ _ _ rfl _ _ N rfl rfl 5 _ _ Try.underlying26 Try.underlying5 size_u8 (by kernel_rfl) hl hl ?_; dsimp only [putL, setNth]; try simp only [decide_true]))
  go_ret
  exact ⟨by first | rfl | simp, hown.below⟩
set_option maxRecDepth 100000 in
theorem AeadNonce_lifted (os : Os) (started : os.Started) (H : Type) (enc : TypeId × Value → H) :
    ReturnsInHanded {} Try.checked os 4 .any (Rows.aeadNonceSpec.pre6 enc Try.prog Try.f4 Rows.aeadNonceRow.domain false) (Rows.aeadNonceSpec.post enc Try.prog Try.f4 false true false false) := by
  refine returnsInHanded_of_change (C := Try.checked) (by kernel_rfl) started (by kernel_rfl) Try.func4
    (ChangeSpec.witness6 (enc := enc) (C := Try.checked) false ⟨#[], #[.int .i64 0], []⟩ 8 (by kernel_rfl) (by kernel_rfl) (by kernel_rfl) (by kernel_rfl)) ?_
  intro W base args ds gs before hval0 hW hcnd _
  have hval : ∀ (j : Nat) t v, Try.f4.params[j]? = some t → args[j]? = some v → Value.okWide Try.prog W .any base t v := hval0
  have hW' := hW
  obtain ⟨p, q, hA0, hV, rfl, hfz, hnd⟩ := hW
  have hA : DataW.TrodAll enc Try.prog W 0 (fun _ => true) true Try.f4.params.toList args.toList ds p := hA0
  rw [Try.params4] at hA hval
  obtain ⟨v0, vs0, d0, ds0, p0, q0, hargs, rfl, rfl, h0, r0⟩ := trodAll_cons hA
  obtain ⟨rfl, rfl, rfl⟩ := trodAll_nil r0
  obtain rfl : args = #[v0] := by cases args; simp_all
  obtain ⟨rfl, rfl⟩ := trodVars_none hV
  have k0 := h0
  obtain ⟨a0, rfl, _, hp0, w0⟩ := open_int Try.underlying3 (hval 0 3 v0 rfl rfl) h0
  clear hA0 hval0
  subst hp0
  refine (aeadNonce_walk a0 w0 W).mono fun e W' ⟨he, hg⟩ => ?_
  subst he
  exact ⟨_, rfl, _, _, _, [], [], [], hW', (trodAll_cons_mk (shut_bool Try.underlying4 _) trodAll_mk0), (trodAll_cons_mk (Below.trod Try.laidOut (by kernel_rfl) (of_decide_eq_true (by kernel_rfl)) k0 hg (by simp)) trodAll_mk0), rfl_vars, hg.frame _, fun h => by cases h⟩

theorem AeadNonce_holds : Rows.AeadNonceSaid :=
  OpenClaim.holds_of_wide 4 Try.f4 rfl rfl rfl rfl rfl rfl rfl ⟨rfl, rfl, rfl, rfl, rfl⟩ rfl rfl rfl rfl rfl (by kernel_rfl) Try.func4 (by kernel_rfl)
    (of_decide_eq_true (by kernel_rfl)) (by unfold Func.isWrapper; first | (rw [if_pos (by decide +kernel)]; kernel_rfl) | (rw [if_neg (by decide +kernel)]; exact ⟨rfl, rfl⟩))
    (fun os started H enc _ => AeadNonce_lifted os started H enc)
#print axioms AeadNonce_holds

end Go.Proofs.Ytgeflkgnabmacaa
