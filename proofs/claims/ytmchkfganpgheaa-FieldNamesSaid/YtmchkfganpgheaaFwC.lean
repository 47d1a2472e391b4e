/-
  The walks of FieldInverse.
-/
import Derived.Test.YtmchkfganpgheaaAwake
import Derived.Test.YtmchkfganpgheaaPrime
namespace Go.Proofs.Ytmchkfganpgheaa
set_option linter.unusedSimpArgs false
set_option linter.unusedVariables false
open Go Go.RowKit

open Go.ChangeShapes Go.WideShapes Go.ChangeAt

def PN : Nat := 57896044618658097711785492504343953926634992332820282019728792003956564819949
theorem pn : (PN : Int) = PP := rfl
def expV : Nat → Nat
  | 0 => 0
  | k + 1 => if k = 252 ∨ k = 250 then 2 * expV k else 2 * expV k + 1
theorem invV_pow (v : Nat) : ∀ k, invV (v : Int) k = ((v ^ expV k : Nat) : Int)
  | 0 => by simp [invV, expV]
  | k + 1 => by
    have ih := invV_pow v k
    simp only [invV, expV]
    by_cases h : k = 252 ∨ k = 250
    · rw [if_pos h, if_pos h, ih, ← Int.natCast_mul, ← Nat.pow_add, Nat.two_mul]
    · rw [if_neg h, if_neg h, ih, ← Int.natCast_mul, ← Int.natCast_mul, ← Nat.pow_add, ← Nat.two_mul, ← Nat.pow_succ]
theorem expV_eq : expV 255 = PN - 2 := by decide +kernel
theorem invV_mod {v u : Int} (h : v % PP = u % PP) : ∀ k, invV v k % PP = invV u k % PP
  | 0 => rfl
  | k + 1 => by
    have ih := invV_mod h k
    have h2 : (invV v k * invV v k) % PP = (invV u k * invV u k) % PP := by rw [Int.mul_emod, ih, ← Int.mul_emod]
    simp only [invV]
    split
    · exact h2
    · rw [Int.mul_emod, h2, h, ← Int.mul_emod]
/-- What a number but 0 is multiplied with to be 1. -/
theorem inv_one {v : Int} (h : ¬ v % PP = 0) : (v * invV v 255) % PP = 1 % PP := by
  have hr := pp_range v
  obtain ⟨n, hn⟩ := Int.eq_ofNat_of_zero_le hr.1
  have h1 : v % PP = (n : Int) % PP := by rw [← hn, Int.emod_emod_of_dvd _ (Int.dvd_refl _)]
  rw [Int.mul_emod, h1, invV_mod h1 255, ← Int.mul_emod, invV_pow, expV_eq, ← Int.natCast_mul, ← Nat.pow_succ', show (PN - 2).succ = PN - 1 from rfl]
  have hd : ¬ PN ∣ n := by
    intro hd
    have h3 := Nat.eq_zero_of_dvd_of_lt hd (by have := hr.2.1; rw [hn, ← pn] at this; omega)
    subst h3
    exact h hn
  have hf := fermat (p := PN) pri_p hd
  rw [← pn]
  have : ((n ^ (PN - 1) : Nat) : Int) % (PN : Int) = ((n ^ (PN - 1) % PN : Nat) : Int) := by rw [Int.natCast_emod]
  rw [this, hf]
  rfl
theorem inv_zero {v : Int} (h : v % PP = 0) : invV v 255 % PP = 0 := by
  have h1 : v % PP = ((0 : Nat) : Int) % PP := by rw [h]; rfl
  rw [invV_mod h1 255, invV_pow, expV_eq, Nat.zero_pow (by decide)]
  rfl
theorem inv_inv {v : Int} (h : ¬ v % PP = 0) : invV (invV v 255) 255 % PP = v % PP := by
  have h1 := inv_one h
  obtain ⟨u, hu⟩ : ∃ u, u = invV v 255 := ⟨_, rfl⟩
  rw [← hu] at h1 ⊢
  have hne : ¬ u % PP = 0 := by
    intro h0
    rw [Int.mul_emod, h0, Int.mul_zero] at h1
    exact absurd h1 (by decide)
  have h2 := inv_one hne
  have e1 : (v * u * invV u 255) % PP = invV u 255 % PP := by rw [Int.mul_emod, h1, ← Int.mul_emod, Int.one_mul]
  have e2 : (v * (u * invV u 255)) % PP = v % PP := by rw [Int.mul_emod, h2, ← Int.mul_emod, Int.mul_one]
  rw [← e1, Int.mul_assoc, e2]
theorem mul_zero_mod {v u : Int} (h : v % PP = 0) : (v * u) % PP = 0 := by rw [Int.mul_emod, h, Int.zero_mul]; rfl

set_option maxHeartbeats 1600000 in
theorem fieldInverse_walk (b : List Int) (lb : b.length = 32) (wb : ∀ x ∈ b, (Lit.int .u8 x).wf = true) (w : World) :
    Calls Try.prog 23 #[.agg (ints .u8 b)] w fun e w' => e = .returned (.bool true) ∧ Below w.heap.size w w' := by
  have hown := Own.start w
  have hb := bytes32_of lb wb
  clear wb
  have ea := fromE_is hb
  have fa := fromE_any b hb
  obtain ⟨E, hE⟩ : ∃ E, E = fromE b := ⟨_, rfl⟩
  obtain ⟨V, hV⟩ : ∃ V, V = v32 b % H255 := ⟨_, rfl⟩
  rw [← hE] at ea fa
  rw [← hV] at ea
  clear hE hV
  have lea := ea.1
  have ei := invE_is ea
  have fi := invE_any E ea
  have ex := mulE_is ea ei
  have fx := mulE_any _ _ ea ei
  obtain ⟨J, hJ⟩ : ∃ J, J = invE E := ⟨_, rfl⟩
  rw [← hJ] at ei fi ex fx
  clear hJ
  have ejj := invE_is ei
  have fjj := invE_any J ei
  obtain ⟨X, hX⟩ : ∃ X, X = mulE E J := ⟨_, rfl⟩
  rw [← hX] at ex fx
  clear hX
  have lx := ex.1
  have o1 := smallE_is (n := 1) ⟨by omega, by omega⟩
  have fo := smallE_any 1 ⟨by omega, by omega⟩
  have wk := awake_any
  go_enter Try.func23, Try.ntmps23

  have tok_b1 : True := trivial
  have tok_q3 : True := trivial
  have tok_q4 : True := trivial
  go_upto_region 2 with (go_big_may; (first | ((with_reducible show wpList _ _ _ (⟨_, .box _ _, _, _, _, _⟩ :: _) _ _); have _t := tok_b1; refine wpl_box hown rfl _ _ rfl _ rfl ?_; clear hown _t tok_b1; intro b1 _ hown; dsimp only [putL, setNth]) | ((with_reducible show wpList _ _ _ (⟨_, .load _ _, _, _, _, _⟩ :: _) _ _); refine wpl_load_row hown rfl 22 _ rfl _ rfl 0 _ _ rfl _ Try.underlying22 rfl (sz_b32 lb) ?_; dsimp only [putL, setNth]) | (go_at_call 15; with_reducible refine (fa _).mono ?_; rintro e w' ⟨rfl, hb'⟩; replace hown := hown.grow hb'; clear hb') | ((with_reducible show wpList _ _ _ (⟨_, .alloc _, _, _, _, _⟩ :: _) _ _); have _t := tok_q3; refine wpl_alloc hown rfl _ rfl _ zero_elem ?_; clear hown _t tok_q3; intro q3 _ hown; dsimp only [putL, setNth]) | ((with_reducible show wpList _ _ _ (⟨_, .store _ _ _, _, _, _, _⟩ :: _) _ _); refine wpl_store_row hown rfl 26 _ _ rfl _ rfl _ rfl (ints_cell _ _) (sz_elem lea) 0 _ _ rfl (sz_eq (n := 5) rfl lea) ?_; clear hown; intro _ hown; dsimp only [putL]; simp only [List.set_cons_zero, List.set_cons_succ] at hown)))
  refine wp_region_grow 5 [0, 1, 2, 3, 4] (by kernel_rfl) (by kernel_rfl) hown ?_; simp only [List.filterMap_cons, List.filterMap_nil, List.getElem?_cons_zero, List.getElem?_cons_succ, List.drop_succ_cons, List.drop_zero]
  (refine wpV_step rfl rfl _ (growAt_load_row 26 _ rfl _ rfl 0 _ _ rfl _ Try.underlying26 rfl (sz_elem lea)) ?_; dsimp only [putL, setNth])
  (refine wpV_step rfl rfl _ (growAt_load_row 26 _ rfl _ rfl 0 _ _ rfl _ Try.underlying26 rfl (sz_elem lea)) ?_; dsimp only [putL, setNth])
  (refine wpV_step rfl rfl _ (growAt_call (args := #[.agg (ints .u64 E)]) (by intro w; go_simp) (fun w => fi w)) ?_; dsimp only [putL, setNth])
  (refine wpV_step rfl rfl _ (growAt_call (args := #[.agg (ints .u64 E), .agg (ints .u64 J)]) (by intro w; go_simp) (fun w => fx w)) ?_; dsimp only [putL, setNth])
  (have _t := tok_q4; refine wpV_alloc rfl _ rfl _ zero_elem ?_; clear _t tok_q4; intro q4; dsimp only [putL, setNth])
  refine wpV_nil ?_; clear hown; intro _ hown; simp only [List.nil_append, List.cons_append] at hown
  by_cases h0 : V % PP = 0
  · have z1 := zero_true ea h0
    have z2 := zero_true ex (mul_zero_mod h0)
    have z3 := zero_true ei (inv_zero h0)
    clear h0
    go_wp2_with (first | ((with_reducible show wpList _ _ _ (⟨_, _, _, _, _, some _⟩ :: _) _ _); refine wpl_unguard _ rfl (by rfl) ?_; dsimp only) | ((with_reducible show wpList _ _ _ (⟨_, .store _ _ _, _, _, _, _⟩ :: _) _ _); refine wpl_store_row hown rfl 26 _ _ rfl _ rfl _ rfl (ints_cell _ _) (sz_elem lx) 0 _ _ rfl (sz_eq (n := 5) rfl lx) ?_; clear hown; intro _ hown; dsimp only [putL]; simp only [List.set_cons_zero, List.set_cons_succ] at hown) | ((with_reducible show wpList _ _ _ (⟨_, .load _ _, _, _, _, _⟩ :: _) _ _); refine wpl_load_row hown rfl 26 _ rfl _ rfl 0 _ _ rfl _ Try.underlying26 rfl (sz_elem lx) ?_; dsimp only [putL, setNth]) | ((with_reducible show wpList _ _ _ (⟨_, .load _ _, _, _, _, _⟩ :: _) _ _); refine wpl_load_row hown rfl 26 _ rfl _ rfl 1 _ _ rfl _ Try.underlying26 rfl (sz_elem lea) ?_; dsimp only [putL, setNth]) | (go_at_call 28; with_reducible refine (z1 _).mono ?_; rintro e w' ⟨rfl, hb'⟩; replace hown := hown.grow hb'; clear hb') | (go_at_call 28; with_reducible refine (z2 _).mono ?_; rintro e w' ⟨rfl, hb'⟩; replace hown := hown.grow hb'; clear hb') | (go_at_call 28; with_reducible refine (z3 _).mono ?_; rintro e w' ⟨rfl, hb'⟩; replace hown := hown.grow hb'; clear hb') | (go_at_call 24; with_reducible refine (fi _).mono ?_; rintro e w' ⟨rfl, hb'⟩; replace hown := hown.grow hb'; clear hb') | (go_at_call 27; with_reducible refine (wk _).mono ?_; rintro e w' ⟨rfl, hb'⟩; replace hown := hown.grow hb'; clear hb'))
    go_ret
    exact ⟨rfl, hown.below⟩
  · have z1 := zero_false ea h0
    have s1 := same_true ex o1 (inv_one h0)
    have s2 := same_true ejj ea (inv_inv h0)
    clear h0
    go_upto_region 5 with (go_big_may; (first | ((with_reducible show wpList _ _ _ (⟨_, .store _ _ _, _, _, _, _⟩ :: _) _ _); refine wpl_store_row hown rfl 26 _ _ rfl _ rfl _ rfl (ints_cell _ _) (sz_elem lx) 0 _ _ rfl (sz_eq (n := 5) rfl lx) ?_; clear hown; intro _ hown; dsimp only [putL]; simp only [List.set_cons_zero, List.set_cons_succ] at hown) | ((with_reducible show wpList _ _ _ (⟨_, .load _ _, _, _, _, _⟩ :: _) _ _); refine wpl_load_row hown rfl 26 _ rfl _ rfl 1 _ _ rfl _ Try.underlying26 rfl (sz_elem lea) ?_; dsimp only [putL, setNth]) | (go_at_call 28; with_reducible refine (z1 _).mono ?_; rintro e w' ⟨rfl, hb'⟩; replace hown := hown.grow hb'; clear hb')))
    refine wp_region_grow 13 [0, 1, 2, 3, 4, 5, 6, 7, 8, 9, 10, 11, 12] (by kernel_rfl) (by kernel_rfl) hown ?_; simp only [List.filterMap_cons, List.filterMap_nil, List.getElem?_cons_zero, List.getElem?_cons_succ, List.drop_succ_cons, List.drop_zero]
    (refine wpV_step rfl rfl _ (growAt_load_row 26 _ rfl _ rfl 0 _ _ rfl _ Try.underlying26 rfl (sz_elem lx)) ?_; dsimp only [putL, setNth])
    (refine wpV_step rfl rfl _ (growAt_call (args := #[.int .u32 1]) (by intro w; go_simp) (fun w => fo w)) ?_; dsimp only [putL, setNth])
    (refine wpV_step rfl rfl _ (growAt_call (args := #[.agg (ints .u64 X), .agg (ints .u64 (smallE 1))]) (by intro w; go_simp) (fun w => s1 w)) ?_; dsimp only [putL, setNth])
    (first | (refine wpV_step rfl rfl _ (growAt_move _ rfl _ rfl) ?_; dsimp only [putL, setNth, evL, nth]) | (refine wpV_step rfl rfl _ (growAt_assign _ rfl _ rfl) ?_; dsimp only [putL, setNth, evL, nth]) | (refine wpV_step rfl rfl _ (growAt_bits _ _ _ _ _ rfl (by decide) _ _ _ rfl rfl) ?_; dsimp only [putL, setNth]) | (refine wpV_step rfl rfl _ (growAt_bin _ _ _ _ _ rfl _ _ rfl rfl _ (by intro w; go_simp; try rfl)) ?_; dsimp only [putL, setNth]) | (refine wpV_step rfl rfl _ (growAt_un _ _ _ rfl _ rfl _ (by intro w; go_simp; try rfl)) ?_; dsimp only [putL, setNth]) | (refine wpV_step rfl rfl _ (growAt_conv _ _ _ rfl _ rfl _ (by intro w; go_simp; try rfl)) ?_; dsimp only [putL, setNth]) | (refine wpV_step rfl rfl _ (growAt_fld _ _ _ rfl _ rfl _ (by intro w; go_simp; try rfl)) ?_; dsimp only [putL, setNth]) | (refine wpV_step rfl rfl _ (growAt_idx _ _ _ rfl _ _ rfl rfl _ (by intro w; go_simp; try rfl)) ?_; dsimp only [putL, setNth]) | (refine wpV_step rfl rfl _ (growAt_extract _ _ rfl _ rfl _ rfl) ?_; dsimp only [putL, setNth]) | (refine wpV_step rfl rfl _ (growAt_pick _ _ _ rfl _ rfl _ _ rfl rfl) ?_; dsimp only [putL, setNth]))
    (refine wpV_stepg (by rfl) rfl _ (growAt_load_row 26 _ rfl _ rfl 1 _ _ rfl _ Try.underlying26 rfl (sz_elem lea)) ?_; dsimp only [putL, setNth])
    (refine wpV_stepg (by rfl) rfl _ (growAt_call (args := #[.agg (ints .u64 E)]) (by intro w; go_simp) (fun w => fi w)) ?_; dsimp only [putL, setNth])
    (refine wpV_stepg (by rfl) rfl _ (growAt_call (args := #[.agg (ints .u64 J)]) (by intro w; go_simp) (fun w => fjj w)) ?_; dsimp only [putL, setNth])
    (refine wpV_stepg (by rfl) rfl _ (growAt_load_row 26 _ rfl _ rfl 1 _ _ rfl _ Try.underlying26 rfl (sz_elem lea)) ?_; dsimp only [putL, setNth])
    (refine wpV_stepg (by rfl) rfl _ (growAt_call (args := #[.agg (ints .u64 (invE J)), .agg (ints .u64 E)]) (by intro w; go_simp) (fun w => s2 w)) ?_; dsimp only [putL, setNth])
    (first | (refine wpV_step rfl rfl _ (growAt_move _ rfl _ rfl) ?_; dsimp only [putL, setNth, evL, nth]) | (refine wpV_step rfl rfl _ (growAt_assign _ rfl _ rfl) ?_; dsimp only [putL, setNth, evL, nth]) | (refine wpV_step rfl rfl _ (growAt_bits _ _ _ _ _ rfl (by decide) _ _ _ rfl rfl) ?_; dsimp only [putL, setNth]) | (refine wpV_step rfl rfl _ (growAt_bin _ _ _ _ _ rfl _ _ rfl rfl _ (by intro w; go_simp; try rfl)) ?_; dsimp only [putL, setNth]) | (refine wpV_step rfl rfl _ (growAt_un _ _ _ rfl _ rfl _ (by intro w; go_simp; try rfl)) ?_; dsimp only [putL, setNth]) | (refine wpV_step rfl rfl _ (growAt_conv _ _ _ rfl _ rfl _ (by intro w; go_simp; try rfl)) ?_; dsimp only [putL, setNth]) | (refine wpV_step rfl rfl _ (growAt_fld _ _ _ rfl _ rfl _ (by intro w; go_simp; try rfl)) ?_; dsimp only [putL, setNth]) | (refine wpV_step rfl rfl _ (growAt_idx _ _ _ rfl _ _ rfl rfl _ (by intro w; go_simp; try rfl)) ?_; dsimp only [putL, setNth]) | (refine wpV_step rfl rfl _ (growAt_extract _ _ rfl _ rfl _ rfl) ?_; dsimp only [putL, setNth]) | (refine wpV_step rfl rfl _ (growAt_pick _ _ _ rfl _ rfl _ _ rfl rfl) ?_; dsimp only [putL, setNth]))
    (first | (refine wpV_step rfl rfl _ (growAt_move _ rfl _ rfl) ?_; dsimp only [putL, setNth, evL, nth]) | (refine wpV_step rfl rfl _ (growAt_assign _ rfl _ rfl) ?_; dsimp only [putL, setNth, evL, nth]) | (refine wpV_step rfl rfl _ (growAt_bits _ _ _ _ _ rfl (by decide) _ _ _ rfl rfl) ?_; dsimp only [putL, setNth]) | (refine wpV_step rfl rfl _ (growAt_bin _ _ _ _ _ rfl _ _ rfl rfl _ (by intro w; go_simp; try rfl)) ?_; dsimp only [putL, setNth]) | (refine wpV_step rfl rfl _ (growAt_un _ _ _ rfl _ rfl _ (by intro w; go_simp; try rfl)) ?_; dsimp only [putL, setNth]) | (refine wpV_step rfl rfl _ (growAt_conv _ _ _ rfl _ rfl _ (by intro w; go_simp; try rfl)) ?_; dsimp only [putL, setNth]) | (refine wpV_step rfl rfl _ (growAt_fld _ _ _ rfl _ rfl _ (by intro w; go_simp; try rfl)) ?_; dsimp only [putL, setNth]) | (refine wpV_step rfl rfl _ (growAt_idx _ _ _ rfl _ _ rfl rfl _ (by intro w; go_simp; try rfl)) ?_; dsimp only [putL, setNth]) | (refine wpV_step rfl rfl _ (growAt_extract _ _ rfl _ rfl _ rfl) ?_; dsimp only [putL, setNth]) | (refine wpV_step rfl rfl _ (growAt_pick _ _ _ rfl _ rfl _ _ rfl rfl) ?_; dsimp only [putL, setNth]))
    (refine wpV_stepg (by rfl) rfl _ (growAt_call (args := #[]) (by intro w; go_simp) (fun w => wk w)) ?_; dsimp only [putL, setNth])
    (first | (refine wpV_step rfl rfl _ (growAt_move _ rfl _ rfl) ?_; dsimp only [putL, setNth, evL, nth]) | (refine wpV_step rfl rfl _ (growAt_assign _ rfl _ rfl) ?_; dsimp only [putL, setNth, evL, nth]) | (refine wpV_step rfl rfl _ (growAt_bits _ _ _ _ _ rfl (by decide) _ _ _ rfl rfl) ?_; dsimp only [putL, setNth]) | (refine wpV_step rfl rfl _ (growAt_bin _ _ _ _ _ rfl _ _ rfl rfl _ (by intro w; go_simp; try rfl)) ?_; dsimp only [putL, setNth]) | (refine wpV_step rfl rfl _ (growAt_un _ _ _ rfl _ rfl _ (by intro w; go_simp; try rfl)) ?_; dsimp only [putL, setNth]) | (refine wpV_step rfl rfl _ (growAt_conv _ _ _ rfl _ rfl _ (by intro w; go_simp; try rfl)) ?_; dsimp only [putL, setNth]) | (refine wpV_step rfl rfl _ (growAt_fld _ _ _ rfl _ rfl _ (by intro w; go_simp; try rfl)) ?_; dsimp only [putL, setNth]) | (refine wpV_step rfl rfl _ (growAt_idx _ _ _ rfl _ _ rfl rfl _ (by intro w; go_simp; try rfl)) ?_; dsimp only [putL, setNth]) | (refine wpV_step rfl rfl _ (growAt_extract _ _ rfl _ rfl _ rfl) ?_; dsimp only [putL, setNth]) | (refine wpV_step rfl rfl _ (growAt_pick _ _ _ rfl _ rfl _ _ rfl rfl) ?_; dsimp only [putL, setNth]))
    refine wpV_nil ?_; clear hown; intro _ hown; simp only [List.nil_append, List.cons_append] at hown
    go_wp2
    go_ret
    exact ⟨rfl, hown.below⟩

end Go.Proofs.Ytmchkfganpgheaa
