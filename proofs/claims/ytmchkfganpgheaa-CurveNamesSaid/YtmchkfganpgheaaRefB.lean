/-
  The document's answer for numbers, on: what its functions compute, in lists of integers.
-/
import Derived.Test.YtmchkfganpgheaaRefA
namespace Go.Proofs.Ytmchkfganpgheaa
set_option linter.unusedSimpArgs false
set_option linter.unusedVariables false
open Go Go.RowKit


/-- What is carried, not to be opened by a walk. -/
@[irreducible] def rcar (x : List Int) : List Int := rcarR x 4
theorem rcar_eq (x : List Int) : rcar x = rcarR x 4 := by unfold rcar; rfl
theorem rcar_length (x : List Int) (hx : x.length = 16) : (rcar x).length = 16 := by rw [rcar_eq]; exact rcarR_length x hx 4
theorem rcar_any (x : List Int) (hx : x.length = 16) (w : World) :
    Calls Try.prog 59 #[.agg (ints .i64 x)] w fun e w' => e = .returned (.agg (ints .i64 (rcar x))) ∧ Below w.heap.size w w' := by
  rw [rcar_eq]; exact rcarried_any x hx w


set_option maxHeartbeats 400000 in
theorem rsmall_any (n : Int) (h0 : 0 ≤ n) (h1 : n < 4294967296) (w : World) :
    Calls Try.prog 44 #[.int .u32 n] w fun e w' => e = .returned (.agg (ints .i64 (((List.replicate 16 0).set 0 (wrap64 (bits .and .u32 n 65535))).set 1 (n / 65536)))) ∧ Below w.heap.size w w' := by
  have hown := Own.start w
  go_enter Try.func44, Try.ntmps44
  have tok_b1 : True := trivial
  have tok_b2 : True := trivial
  go_wp2_with (first | ((with_reducible show wpList _ _ _ (⟨_, .alloc _, _, _, _, _⟩ :: _) _ _); have _t := tok_b1; refine wpl_alloc hown rfl _ rfl _ zero_num ?_; clear hown _t tok_b1; intro b1 _ hown; dsimp only [putL, setNth]) | ((with_reducible show wpList _ _ _ (⟨_, .alloc _, _, _, _, _⟩ :: _) _ _); have _t := tok_b2; refine wpl_alloc hown rfl _ rfl _ zero_num ?_; clear hown _t tok_b2; intro b2 _ hown; dsimp only [putL, setNth]) | ((with_reducible show wpList _ _ _ (⟨_, .store _ _ _, _, _, _, _⟩ :: _) _ _); refine wpl_store_int hown rfl 3 _ _ rfl _ _ rfl _ _ rfl size_int 0 _ _ rfl (by simp) ?_; clear hown; intro _ hown; dsimp only [putL]; simp only [List.set_cons_zero, List.set_cons_succ] at hown) | ((with_reducible show wpList _ _ _ (⟨_, .load _ _, _, _, _, _⟩ :: _) _ _); refine wpl_load_row hown rfl 31 _ rfl _ rfl 0 _ _ rfl _ Try.underlying31 rfl (sz_num (by simp)) ?_; dsimp only [putL, setNth]) | ((with_reducible show wpList _ _ _ (⟨_, .store _ _ _, _, _, _, _⟩ :: _) _ _); refine wpl_store_row hown rfl 31 _ _ rfl _ rfl _ rfl (ints_cell _ _) (sz_num (by simp)) 1 _ _ rfl (sz_eq (n := 16) rfl (by simp)) ?_; clear hown; intro _ hown; dsimp only [putL]; simp only [List.set_cons_zero, List.set_cons_succ] at hown))
  refine bodyPost_ret (results_own hown rfl _ rfl 1 _ _ rfl _ Try.underlying31 rfl (sz_num (by simp))) rfl ⟨rfl, hown.below⟩

def raddN (a b : List Int) : Nat → List Int
  | 0 => List.replicate 16 0
  | k + 1 => (raddN a b k).set k (IntKind.i64.wrap (gi a k + gi b k))
theorem raddN_length (a b : List Int) : ∀ k, (raddN a b k).length = 16
  | 0 => rfl
  | k + 1 => by simp [raddN, raddN_length a b k]
def raddR (a b : List Int) : List Int := raddN a b 16
theorem raddR_length (a b : List Int) : (raddR a b).length = 16 := by simp [raddR, raddN_length a b]
set_option maxRecDepth 20000 in
set_option maxHeartbeats 800000 in
theorem radd_any (a b : List Int) (ha : a.length = 16) (hb : b.length = 16) (w : World) :
    Calls Try.prog 46 #[.agg (ints .i64 a), .agg (ints .i64 b)] w fun e w' => e = .returned (.agg (ints .i64 (rcar (raddR a b)))) ∧ Below w.heap.size w w' := by
  have hown := Own.start w
  have hN := raddN_length a b
  have hR := raddR_length a b
  go_enter Try.func46, Try.ntmps46
  have tok_b1 : True := trivial
  have tok_b2 : True := trivial
  have tok_b3 : True := trivial
  have tok_b4 : True := trivial
  go_wp2_with (first | ((with_reducible show wpList _ _ _ (⟨_, .box _ _, _, _, _, _⟩ :: _) _ _); have _t := tok_b1; refine wpl_box hown rfl _ _ rfl _ rfl ?_; clear hown _t tok_b1; intro b1 _ hown; dsimp only [putL, setNth]) | ((with_reducible show wpList _ _ _ (⟨_, .box _ _, _, _, _, _⟩ :: _) _ _); have _t := tok_b2; refine wpl_box hown rfl _ _ rfl _ rfl ?_; clear hown _t tok_b2; intro b2 _ hown; dsimp only [putL, setNth]) | ((with_reducible show wpList _ _ _ (⟨_, .alloc _, _, _, _, _⟩ :: _) _ _); have _t := tok_b3; refine wpl_alloc hown rfl _ rfl _ zero_num ?_; clear hown _t tok_b3; intro b3 _ hown; dsimp only [putL, setNth]) | ((with_reducible show wpList _ _ _ (⟨_, .alloc _, _, _, _, _⟩ :: _) _ _); have _t := tok_b4; refine wpl_alloc hown rfl _ rfl _ zero_d16 ?_; clear hown _t tok_b4; intro b4 _ hown; dsimp only [putL, setNth]))
  go_loopw [6] (fun i wr => ∃ k : Nat, k ≤ 16 ∧ i = .int .i64 k ∧ Own w wr [(b4, ints .i64 (raddN a b k), 30), (b3, ints .i64 (List.replicate 16 0), 31), (b2, ints .i64 b, 31), (b1, ints .i64 a, 31)]) (fun i _ => 16 - (intOf i).toNat)
  case atStart => exact ⟨0, by omega, rfl, hown⟩
  case round =>
    clear hown
    obtain ⟨k, hk, rfl, hown⟩ := hrel
    have hNk := hN k
    clear hN
    by_cases hlt : k < 16
    · have f9 : ((k : Int)).toNat = k := by omega
      have f10 : (0 : Int) ≤ (k : Int) := by omega
      have f11 : (k : Int) < 16 := by omega
      go_upto_region 5 with (fail)
      refine wp_region_grow 9 [0, 1, 2, 3, 4, 5, 6, 7, 8] (by kernel_rfl) (by kernel_rfl) hown ?_; simp only [List.filterMap_cons, List.filterMap_nil, List.getElem?_cons_zero, List.getElem?_cons_succ, List.drop_succ_cons, List.drop_zero]
      repeat (first | (first | (refine wpV_step rfl rfl _ (growAt_load_int 3 _ rfl _ _ rfl _ Try.underlying3 2 _ _ rfl (by omega)) ?_; dsimp only [putL, setNth]) | (refine wpV_step rfl rfl _ (growAt_load_int 3 _ rfl _ _ rfl _ Try.underlying3 3 _ _ rfl (by omega)) ?_; dsimp only [putL, setNth])) | (refine wpV_step rfl rfl _ (growAt_idxA 31 _ _ rfl _ _ rfl _ _ rfl _ _ Try.underlying31 _ size_int (by omega) (by omega) _ (by go_simp; try rfl)) ?_; dsimp only [putL, setNth]) | (refine wpV_step rfl rfl _ (growAt_idxA 30 _ _ rfl _ _ rfl _ _ rfl _ _ Try.underlying30 _ size_int (by omega) (by omega) _ (by go_simp; try rfl)) ?_; dsimp only [putL, setNth]) | (first | (refine wpV_step rfl rfl _ (growAt_move _ rfl _ rfl) ?_; dsimp only [putL, setNth, evL, nth]) | (refine wpV_step rfl rfl _ (growAt_assign _ rfl _ rfl) ?_; dsimp only [putL, setNth, evL, nth]) | (refine wpV_step rfl rfl _ (growAt_bits _ _ _ _ _ rfl (by decide) _ _ _ rfl rfl) ?_; dsimp only [putL, setNth]) | (refine wpV_step rfl rfl _ (growAt_bin _ _ _ _ _ rfl _ _ rfl rfl _ (by intro w; go_simp; try rfl)) ?_; dsimp only [putL, setNth]) | (refine wpV_step rfl rfl _ (growAt_un _ _ _ rfl _ rfl _ (by intro w; go_simp; try rfl)) ?_; dsimp only [putL, setNth]) | (refine wpV_step rfl rfl _ (growAt_conv _ _ _ rfl _ rfl _ (by intro w; go_simp; try rfl)) ?_; dsimp only [putL, setNth]) | (refine wpV_step rfl rfl _ (growAt_fld _ _ _ rfl _ rfl _ (by intro w; go_simp; try rfl)) ?_; dsimp only [putL, setNth]) | (refine wpV_step rfl rfl _ (growAt_idx _ _ _ rfl _ _ rfl rfl _ (by intro w; go_simp; try rfl)) ?_; dsimp only [putL, setNth]) | (refine wpV_step rfl rfl _ (growAt_extract _ _ rfl _ rfl _ rfl) ?_; dsimp only [putL, setNth]) | (refine wpV_step rfl rfl _ (growAt_pick _ _ _ rfl _ rfl _ _ rfl rfl) ?_; dsimp only [putL, setNth])) | (refine wpV_step rfl rfl _ (growAt_pure (by intro w; go_simp; try rfl)) ?_; dsimp only [putL, setNth]))
      refine wpV_nil ?_; clear hown; intro _ hown; simp only [List.nil_append, List.cons_append] at hown
      go_wp2_with (first | ((with_reducible show wpList _ _ _ (⟨_, .store _ _ _, _, _, _, _⟩ :: _) _ _); refine wpl_store_int hown rfl 3 _ _ rfl _ _ rfl _ _ rfl size_int 0 _ _ rfl (by omega) ?_; clear hown; intro _ hown; dsimp only [putL]; simp only [List.set_cons_zero, List.set_cons_succ] at hown))
      go_roundw
      case rel => exact ⟨k + 1, by omega, by go_num, hown⟩
      case measure => simp [intOf]; omega
    · go_wp2_with (first | ((with_reducible show wpList _ _ _ (⟨_, .load _ _, _, _, _, _⟩ :: _) _ _); refine wpl_load_int hown rfl 3 _ rfl _ _ rfl _ Try.underlying3 0 _ _ rfl (by omega) ?_; dsimp only [putL, setNth]) | ((with_reducible show wpList _ _ _ (⟨_, .store _ _ _, _, _, _, _⟩ :: _) _ _); refine wpl_store_int hown rfl 3 _ _ rfl _ _ rfl _ _ rfl size_int 0 _ _ rfl (by omega) ?_; clear hown; intro _ hown; dsimp only [putL]; simp only [List.set_cons_zero, List.set_cons_succ] at hown) | ((with_reducible show wpList _ _ _ (⟨_, .load _ _, _, _, _, _⟩ :: _) _ _); refine wpl_load_row hown rfl 30 _ rfl _ rfl 0 _ _ rfl _ Try.underlying30 rfl (sz_d16 (by simp [hNk])) ?_; dsimp only [putL, setNth]) | (go_at_call 59; refine (rcar_any _ (by simp [hNk]) _).mono ?_; rintro e w' ⟨rfl, hb⟩; replace hown := hown.grow hb; clear hb) | ((with_reducible show wpList _ _ _ (⟨_, .store _ _ _, _, _, _, _⟩ :: _) _ _); refine wpl_store_row hown rfl 31 _ _ rfl _ rfl _ rfl (ints_cell _ _) (sz_num (rcar_length _ (by simp [hNk]))) 1 _ _ rfl (sz_eq (n := 16) rfl (rcar_length _ (by simp [hNk]))) ?_; clear hown; intro _ hown; dsimp only [putL]; simp only [List.set_cons_zero, List.set_cons_succ] at hown))
      obtain rfl : k = 16 := by omega
      refine bodyPost_ret (results_own hown rfl _ rfl 1 _ _ rfl _ Try.underlying31 rfl (sz_num (rcar_length _ (by simp [hNk])))) rfl ⟨rfl, hown.below⟩

def rsubN (a b : List Int) : Nat → List Int
  | 0 => List.replicate 16 0
  | k + 1 => (rsubN a b k).set k (IntKind.i64.wrap (IntKind.i64.wrap (gi a k - gi b k) + 65535))
theorem rsubN_length (a b : List Int) : ∀ k, (rsubN a b k).length = 16
  | 0 => rfl
  | k + 1 => by simp [rsubN, rsubN_length a b k]
def rsubR (a b : List Int) : List Int := (rsubN a b 16).set 0 (wrap64 (gi (rsubN a b 16) 0 - 37))
theorem rsubR_length (a b : List Int) : (rsubR a b).length = 16 := by simp [rsubR, rsubN_length a b]
set_option maxRecDepth 20000 in
set_option maxHeartbeats 800000 in
theorem rsub_any (a b : List Int) (ha : a.length = 16) (hb : b.length = 16) (w : World) :
    Calls Try.prog 47 #[.agg (ints .i64 a), .agg (ints .i64 b)] w fun e w' => e = .returned (.agg (ints .i64 (rcar (rsubR a b)))) ∧ Below w.heap.size w w' := by
  have hown := Own.start w
  have hN := rsubN_length a b
  have hR := rsubR_length a b
  go_enter Try.func47, Try.ntmps47
  have tok_b1 : True := trivial
  have tok_b2 : True := trivial
  have tok_b3 : True := trivial
  have tok_b4 : True := trivial
  go_wp2_with (first | ((with_reducible show wpList _ _ _ (⟨_, .box _ _, _, _, _, _⟩ :: _) _ _); have _t := tok_b1; refine wpl_box hown rfl _ _ rfl _ rfl ?_; clear hown _t tok_b1; intro b1 _ hown; dsimp only [putL, setNth]) | ((with_reducible show wpList _ _ _ (⟨_, .box _ _, _, _, _, _⟩ :: _) _ _); have _t := tok_b2; refine wpl_box hown rfl _ _ rfl _ rfl ?_; clear hown _t tok_b2; intro b2 _ hown; dsimp only [putL, setNth]) | ((with_reducible show wpList _ _ _ (⟨_, .alloc _, _, _, _, _⟩ :: _) _ _); have _t := tok_b3; refine wpl_alloc hown rfl _ rfl _ zero_num ?_; clear hown _t tok_b3; intro b3 _ hown; dsimp only [putL, setNth]) | ((with_reducible show wpList _ _ _ (⟨_, .alloc _, _, _, _, _⟩ :: _) _ _); have _t := tok_b4; refine wpl_alloc hown rfl _ rfl _ zero_d16 ?_; clear hown _t tok_b4; intro b4 _ hown; dsimp only [putL, setNth]))
  go_loopw [6] (fun i wr => ∃ k : Nat, k ≤ 16 ∧ i = .int .i64 k ∧ Own w wr [(b4, ints .i64 (rsubN a b k), 30), (b3, ints .i64 (List.replicate 16 0), 31), (b2, ints .i64 b, 31), (b1, ints .i64 a, 31)]) (fun i _ => 16 - (intOf i).toNat)
  case atStart => exact ⟨0, by omega, rfl, hown⟩
  case round =>
    clear hown
    obtain ⟨k, hk, rfl, hown⟩ := hrel
    have hNk := hN k
    clear hN
    by_cases hlt : k < 16
    · have f9 : ((k : Int)).toNat = k := by omega
      have f10 : (0 : Int) ≤ (k : Int) := by omega
      have f11 : (k : Int) < 16 := by omega
      go_upto_region 5 with (fail)
      refine wp_region_grow 10 [0, 1, 2, 3, 4, 5, 6, 7, 8, 9] (by kernel_rfl) (by kernel_rfl) hown ?_; simp only [List.filterMap_cons, List.filterMap_nil, List.getElem?_cons_zero, List.getElem?_cons_succ, List.drop_succ_cons, List.drop_zero]
      repeat (first | (first | (refine wpV_step rfl rfl _ (growAt_load_int 3 _ rfl _ _ rfl _ Try.underlying3 2 _ _ rfl (by omega)) ?_; dsimp only [putL, setNth]) | (refine wpV_step rfl rfl _ (growAt_load_int 3 _ rfl _ _ rfl _ Try.underlying3 3 _ _ rfl (by omega)) ?_; dsimp only [putL, setNth])) | (refine wpV_step rfl rfl _ (growAt_idxA 31 _ _ rfl _ _ rfl _ _ rfl _ _ Try.underlying31 _ size_int (by omega) (by omega) _ (by go_simp; try rfl)) ?_; dsimp only [putL, setNth]) | (refine wpV_step rfl rfl _ (growAt_idxA 30 _ _ rfl _ _ rfl _ _ rfl _ _ Try.underlying30 _ size_int (by omega) (by omega) _ (by go_simp; try rfl)) ?_; dsimp only [putL, setNth]) | (first | (refine wpV_step rfl rfl _ (growAt_move _ rfl _ rfl) ?_; dsimp only [putL, setNth, evL, nth]) | (refine wpV_step rfl rfl _ (growAt_assign _ rfl _ rfl) ?_; dsimp only [putL, setNth, evL, nth]) | (refine wpV_step rfl rfl _ (growAt_bits _ _ _ _ _ rfl (by decide) _ _ _ rfl rfl) ?_; dsimp only [putL, setNth]) | (refine wpV_step rfl rfl _ (growAt_bin _ _ _ _ _ rfl _ _ rfl rfl _ (by intro w; go_simp; try rfl)) ?_; dsimp only [putL, setNth]) | (refine wpV_step rfl rfl _ (growAt_un _ _ _ rfl _ rfl _ (by intro w; go_simp; try rfl)) ?_; dsimp only [putL, setNth]) | (refine wpV_step rfl rfl _ (growAt_conv _ _ _ rfl _ rfl _ (by intro w; go_simp; try rfl)) ?_; dsimp only [putL, setNth]) | (refine wpV_step rfl rfl _ (growAt_fld _ _ _ rfl _ rfl _ (by intro w; go_simp; try rfl)) ?_; dsimp only [putL, setNth]) | (refine wpV_step rfl rfl _ (growAt_idx _ _ _ rfl _ _ rfl rfl _ (by intro w; go_simp; try rfl)) ?_; dsimp only [putL, setNth]) | (refine wpV_step rfl rfl _ (growAt_extract _ _ rfl _ rfl _ rfl) ?_; dsimp only [putL, setNth]) | (refine wpV_step rfl rfl _ (growAt_pick _ _ _ rfl _ rfl _ _ rfl rfl) ?_; dsimp only [putL, setNth])) | (refine wpV_step rfl rfl _ (growAt_pure (by intro w; go_simp; try rfl)) ?_; dsimp only [putL, setNth]))
      refine wpV_nil ?_; clear hown; intro _ hown; simp only [List.nil_append, List.cons_append] at hown
      go_wp2_with (first | ((with_reducible show wpList _ _ _ (⟨_, .store _ _ _, _, _, _, _⟩ :: _) _ _); refine wpl_store_int hown rfl 3 _ _ rfl _ _ rfl _ _ rfl size_int 0 _ _ rfl (by omega) ?_; clear hown; intro _ hown; dsimp only [putL]; simp only [List.set_cons_zero, List.set_cons_succ] at hown))
      go_roundw
      case rel => exact ⟨k + 1, by omega, by go_num, hown⟩
      case measure => simp [intOf]; omega
    · go_wp2_with (first | ((with_reducible show wpList _ _ _ (⟨_, .load _ _, _, _, _, _⟩ :: _) _ _); refine wpl_load_int hown rfl 3 _ rfl _ _ rfl _ Try.underlying3 0 _ _ rfl (by omega) ?_; dsimp only [putL, setNth]) | ((with_reducible show wpList _ _ _ (⟨_, .store _ _ _, _, _, _, _⟩ :: _) _ _); refine wpl_store_int hown rfl 3 _ _ rfl _ _ rfl _ _ rfl size_int 0 _ _ rfl (by omega) ?_; clear hown; intro _ hown; dsimp only [putL]; simp only [List.set_cons_zero, List.set_cons_succ] at hown) | ((with_reducible show wpList _ _ _ (⟨_, .load _ _, _, _, _, _⟩ :: _) _ _); refine wpl_load_row hown rfl 30 _ rfl _ rfl 0 _ _ rfl _ Try.underlying30 rfl (sz_d16 (by simp [hNk])) ?_; dsimp only [putL, setNth]) | (go_at_call 59; refine (rcar_any _ (by simp [hNk]) _).mono ?_; rintro e w' ⟨rfl, hb⟩; replace hown := hown.grow hb; clear hb) | ((with_reducible show wpList _ _ _ (⟨_, .store _ _ _, _, _, _, _⟩ :: _) _ _); refine wpl_store_row hown rfl 31 _ _ rfl _ rfl _ rfl (ints_cell _ _) (sz_num (rcar_length _ (by simp [hNk]))) 1 _ _ rfl (sz_eq (n := 16) rfl (rcar_length _ (by simp [hNk]))) ?_; clear hown; intro _ hown; dsimp only [putL]; simp only [List.set_cons_zero, List.set_cons_succ] at hown))
      obtain rfl : k = 16 := by omega
      refine bodyPost_ret (results_own hown rfl _ rfl 1 _ _ rfl _ Try.underlying31 rfl (sz_num (rcar_length _ (by simp [hNk])))) rfl ⟨rfl, hown.below⟩

end Go.Proofs.Ytmchkfganpgheaa
