/-
  The document's answer for numbers, on: products and powers.
-/
import Derived.Test.YtmchkfganpgheaaRefB
import Derived.Lib.Hide
namespace Go.Proofs.Ytmchkfganpgheaa
set_option linter.unusedSimpArgs false
set_option linter.unusedVariables false
open Go Go.RowKit


def rmI (a b r : List Int) (i : Nat) : Nat → List Int
  | 0 => r
  | k + 1 => (rmI a b r i k).set (i + k) (IntKind.i64.wrap (gi (rmI a b r i k) (i + k) + IntKind.i64.wrap (gi a i * gi b k)))
def rmO (a b : List Int) : Nat → List Int
  | 0 => List.replicate 32 0
  | i + 1 => rmI a b (rmO a b i) i 16
def rmX (t : List Int) : Nat → List Int
  | 0 => List.replicate 16 0
  | k + 1 => (rmX t k).set k (IntKind.i64.wrap (gi t k + IntKind.i64.wrap (38 * gi t (k + 16))))
theorem rmI_length (a b r : List Int) (i : Nat) (h : r.length = 32) : ∀ k, (rmI a b r i k).length = 32
  | 0 => h
  | k + 1 => by simp [rmI, rmI_length a b r i h k]
theorem rmO_length (a b : List Int) : ∀ i, (rmO a b i).length = 32
  | 0 => rfl
  | i + 1 => rmI_length a b _ i (rmO_length a b i) 16
theorem rmX_length (t : List Int) : ∀ k, (rmX t k).length = 16
  | 0 => rfl
  | k + 1 => by simp [rmX, rmX_length t k]
@[irreducible] def rmul (a b : List Int) : List Int := rcar (rmX (rmO a b 16) 16)
theorem rmul_eq (a b : List Int) : rmul a b = rcar (rmX (rmO a b 16) 16) := by unfold rmul; rfl
theorem rmul_length (a b : List Int) : (rmul a b).length = 16 := by rw [rmul_eq]; exact rcar_length _ (rmX_length _ _)
set_option maxRecDepth 20000 in
set_option maxHeartbeats 1000000 in
theorem rmul_any (a b : List Int) (ha : a.length = 16) (hb : b.length = 16) (w : World) :
    Calls Try.prog 49 #[.agg (ints .i64 a), .agg (ints .i64 b)] w fun e w' => e = .returned (.agg (ints .i64 (rmul a b))) ∧ Below w.heap.size w w' := by
  have hown := Own.start w
  rw [rmul_eq]
  obtain ⟨O, hO⟩ : ∃ O, O = rmO a b := ⟨_, rfl⟩
  have hOl := rmO_length a b
  have hO0 : O 0 = List.replicate 32 0 := by rw [hO]; rfl
  have hOs : ∀ i, O (i + 1) = rmI a b (O i) i 16 := by intro i; rw [hO]; rfl
  rw [← hO] at hOl ⊢
  clear hO
  have HOs := Lib.hid hOs
  clear hOs
  go_enter Try.func49, Try.ntmps49

  have tok_b1 : True := trivial
  have tok_b2 : True := trivial
  have tok_b3 : True := trivial
  have tok_b4 : True := trivial
  have tok_b5 : True := trivial
  go_wp2_with (first | ((with_reducible show wpList _ _ _ (⟨_, .box _ _, _, _, _, _⟩ :: _) _ _); have _t := tok_b1; refine wpl_box hown rfl _ _ rfl _ rfl ?_; clear hown _t tok_b1; intro b1 _ hown; dsimp only [putL, setNth]) | ((with_reducible show wpList _ _ _ (⟨_, .box _ _, _, _, _, _⟩ :: _) _ _); have _t := tok_b2; refine wpl_box hown rfl _ _ rfl _ rfl ?_; clear hown _t tok_b2; intro b2 _ hown; dsimp only [putL, setNth]) | ((with_reducible show wpList _ _ _ (⟨_, .alloc _, _, _, _, _⟩ :: _) _ _); have _t := tok_b3; refine wpl_alloc hown rfl _ rfl _ zero_num ?_; clear hown _t tok_b3; intro b3 _ hown; dsimp only [putL, setNth]) | ((with_reducible show wpList _ _ _ (⟨_, .alloc _, _, _, _, _⟩ :: _) _ _); have _t := tok_b4; refine wpl_alloc hown rfl _ rfl _ zero_d32 ?_; clear hown _t tok_b4; intro b4 _ hown; dsimp only [putL, setNth]))
  go_loopw [6] (fun i wr => ∃ k : Nat, k ≤ 16 ∧ i = .int .i64 k ∧ Own w wr [(b4, ints .i64 (O k), 83), (b3, ints .i64 (List.replicate 16 0), 31), (b2, ints .i64 b, 31), (b1, ints .i64 a, 31)]) (fun i _ => 16 - (intOf i).toNat)
  case atStart => exact ⟨0, by omega, rfl, by rw [hO0]; exact hown⟩
  case round =>
    clear hown
    obtain ⟨m, hm, rfl, hown⟩ := hrel
    have hOm := hOl m
    by_cases hltm : m < 16
    · clear hOl hO0
      have HOm := Lib.hid (HOs.out m)
      clear HOs
      go_wp2_with fail
      have hI := rmI_length a b (O m) m hOm
      go_loopw [7] (fun i wr => ∃ k : Nat, k ≤ 16 ∧ i = .int .i64 k ∧ Own w wr [(b4, ints .i64 (rmI a b (O m) m k), 83), (b3, ints .i64 (List.replicate 16 0), 31), (b2, ints .i64 b, 31), (b1, ints .i64 a, 31)]) (fun i _ => 16 - (intOf i).toNat)
      case atStart => exact ⟨0, by omega, rfl, hown⟩
      case round =>
        clear hown
        obtain ⟨k, hk, rfl, hown⟩ := hrel
        have hIk := hI k
        clear hI
        by_cases hlt : k < 16
        · have f1 : ((k : Int)).toNat = k := by omega
          have f2 : ((m : Int)).toNat = m := by omega
          have f3 : (0 : Int) ≤ (k : Int) := by omega
          have f4 : (k : Int) < 16 := by omega
          have f5 : (0 : Int) ≤ (m : Int) := by omega
          have f6 : (m : Int) < 16 := by omega
          have f7 : IntKind.i64.wrap ((m : Int) + (k : Int)) = (m : Int) + (k : Int) := IntWalk.i64_in _ (by omega)
          have f8 : ((m : Int) + (k : Int)).toNat = m + k := by omega
          have f9 : (0 : Int) ≤ (m : Int) + (k : Int) := by omega
          have f10 : (m : Int) + (k : Int) < 32 := by omega
          go_upto_region 8 with (fail)
          refine wp_region_grow 17 [0, 1, 2, 3, 4, 5, 6, 7, 8, 9, 10, 11, 12, 13, 14, 15, 16] (by kernel_rfl) (by kernel_rfl) hown ?_; simp only [List.filterMap_cons, List.filterMap_nil, List.getElem?_cons_zero, List.getElem?_cons_succ, List.drop_succ_cons, List.drop_zero]
          repeat (first | (first | (refine wpV_step rfl rfl _ (growAt_load_int 3 _ rfl _ _ rfl _ Try.underlying3 0 _ _ rfl (by omega)) ?_; dsimp only [putL, setNth]) | (refine wpV_step rfl rfl _ (growAt_load_int 3 _ rfl _ _ rfl _ Try.underlying3 2 _ _ rfl (by omega)) ?_; dsimp only [putL, setNth]) | (refine wpV_step rfl rfl _ (growAt_load_int 3 _ rfl _ _ rfl _ Try.underlying3 3 _ _ rfl (by omega)) ?_; dsimp only [putL, setNth])) | (refine wpV_step rfl rfl _ (growAt_idxA 31 _ _ rfl _ _ rfl _ _ rfl _ _ Try.underlying31 _ size_int (by omega) (by omega) _ (by go_simp; try rfl)) ?_; dsimp only [putL, setNth]) | (refine wpV_step rfl rfl _ (growAt_idxA 83 _ _ rfl _ _ rfl _ _ rfl _ _ Try.underlying83 _ size_int (by omega) (by omega) _ (by go_simp; try rfl)) ?_; dsimp only [putL, setNth]) | (first | (refine wpV_step rfl rfl _ (growAt_move _ rfl _ rfl) ?_; dsimp only [putL, setNth, evL, nth]) | (refine wpV_step rfl rfl _ (growAt_assign _ rfl _ rfl) ?_; dsimp only [putL, setNth, evL, nth]) | (refine wpV_step rfl rfl _ (growAt_bits _ _ _ _ _ rfl (by decide) _ _ _ rfl rfl) ?_; dsimp only [putL, setNth]) | (refine wpV_step rfl rfl _ (growAt_bin _ _ _ _ _ rfl _ _ rfl rfl _ (by intro w; go_simp; try rfl)) ?_; dsimp only [putL, setNth]) | (refine wpV_step rfl rfl _ (growAt_un _ _ _ rfl _ rfl _ (by intro w; go_simp; try rfl)) ?_; dsimp only [putL, setNth]) | (refine wpV_step rfl rfl _ (growAt_conv _ _ _ rfl _ rfl _ (by intro w; go_simp; try rfl)) ?_; dsimp only [putL, setNth]) | (refine wpV_step rfl rfl _ (growAt_fld _ _ _ rfl _ rfl _ (by intro w; go_simp; try rfl)) ?_; dsimp only [putL, setNth]) | (refine wpV_step rfl rfl _ (growAt_idx _ _ _ rfl _ _ rfl rfl _ (by intro w; go_simp; try rfl)) ?_; dsimp only [putL, setNth]) | (refine wpV_step rfl rfl _ (growAt_extract _ _ rfl _ rfl _ rfl) ?_; dsimp only [putL, setNth]) | (refine wpV_step rfl rfl _ (growAt_pick _ _ _ rfl _ rfl _ _ rfl rfl) ?_; dsimp only [putL, setNth])) | (refine wpV_step rfl rfl _ (growAt_pure (by intro w; go_simp; try rfl)) ?_; dsimp only [putL, setNth]))
          refine wpV_nil ?_; clear hown; intro _ hown; simp only [List.nil_append, List.cons_append] at hown
          go_wp2_with (first | ((with_reducible show wpList _ _ _ (⟨_, .store _ _ _, _, _, _, _⟩ :: _) _ _); refine wpl_store_int hown rfl 3 _ _ rfl _ _ rfl _ _ rfl size_int 0 _ _ rfl (by omega) ?_; clear hown; intro _ hown; dsimp only [putL]; simp only [List.set_cons_zero, List.set_cons_succ] at hown))
          go_roundw
          case rel => exact ⟨k + 1, by omega, by go_num, hown⟩
          case measure => simp [intOf]; omega
        · go_wp2_with fail
          obtain rfl : k = 16 := by omega
          go_roundw
          case rel => exact ⟨m + 1, by omega, by go_num, by rw [HOm.out]; exact hown⟩
          case measure => simp [intOf]; omega
    · obtain rfl : m = 16 := by omega
      clear hOl hO0 HOs
      go_wp2_with (first | ((with_reducible show wpList _ _ _ (⟨_, .alloc _, _, _, _, _⟩ :: _) _ _); have _t := tok_b5; refine wpl_alloc hown rfl _ rfl _ zero_d16 ?_; clear hown _t tok_b5; intro b5 _ hown; dsimp only [putL, setNth]))
      have hX := rmX_length (O 16)
      go_loopw [9] (fun i wr => ∃ k : Nat, k ≤ 16 ∧ i = .int .i64 k ∧ Own w wr [(b5, ints .i64 (rmX (O 16) k), 30), (b4, ints .i64 (O 16), 83), (b3, ints .i64 (List.replicate 16 0), 31), (b2, ints .i64 b, 31), (b1, ints .i64 a, 31)]) (fun i _ => 16 - (intOf i).toNat)
      case atStart => exact ⟨0, by omega, rfl, hown⟩
      case round =>
        clear hown
        obtain ⟨k, hk, rfl, hown⟩ := hrel
        have hXk := hX k
        clear hX
        by_cases hlt : k < 16
        · have f1 : ((k : Int)).toNat = k := by omega
          have f3 : (0 : Int) ≤ (k : Int) := by omega
          have f4 : (k : Int) < 16 := by omega
          have f7 : IntKind.i64.wrap ((k : Int) + 16) = (k : Int) + 16 := IntWalk.i64_in _ (by omega)
          have f8 : ((k : Int) + 16).toNat = k + 16 := by omega
          have f9 : (0 : Int) ≤ (k : Int) + 16 := by omega
          have f10 : (k : Int) + 16 < 32 := by omega
          have f11 : (k : Int) < 32 := by omega
          go_upto_region 13 with (fail)
          refine wp_region_grow 11 [0, 1, 2, 3, 4, 5, 6, 7, 8, 9, 10] (by kernel_rfl) (by kernel_rfl) hown ?_; simp only [List.filterMap_cons, List.filterMap_nil, List.getElem?_cons_zero, List.getElem?_cons_succ, List.drop_succ_cons, List.drop_zero]
          repeat (first | (first | (refine wpV_step rfl rfl _ (growAt_load_int 3 _ rfl _ _ rfl _ Try.underlying3 1 _ _ rfl (by omega)) ?_; dsimp only [putL, setNth])) | (refine wpV_step rfl rfl _ (growAt_idxA 30 _ _ rfl _ _ rfl _ _ rfl _ _ Try.underlying30 _ size_int (by omega) (by omega) _ (by go_simp; try rfl)) ?_; dsimp only [putL, setNth]) | (refine wpV_step rfl rfl _ (growAt_idxA 83 _ _ rfl _ _ rfl _ _ rfl _ _ Try.underlying83 _ size_int (by omega) (by omega) _ (by go_simp; try rfl)) ?_; dsimp only [putL, setNth]) | (first | (refine wpV_step rfl rfl _ (growAt_move _ rfl _ rfl) ?_; dsimp only [putL, setNth, evL, nth]) | (refine wpV_step rfl rfl _ (growAt_assign _ rfl _ rfl) ?_; dsimp only [putL, setNth, evL, nth]) | (refine wpV_step rfl rfl _ (growAt_bits _ _ _ _ _ rfl (by decide) _ _ _ rfl rfl) ?_; dsimp only [putL, setNth]) | (refine wpV_step rfl rfl _ (growAt_bin _ _ _ _ _ rfl _ _ rfl rfl _ (by intro w; go_simp; try rfl)) ?_; dsimp only [putL, setNth]) | (refine wpV_step rfl rfl _ (growAt_un _ _ _ rfl _ rfl _ (by intro w; go_simp; try rfl)) ?_; dsimp only [putL, setNth]) | (refine wpV_step rfl rfl _ (growAt_conv _ _ _ rfl _ rfl _ (by intro w; go_simp; try rfl)) ?_; dsimp only [putL, setNth]) | (refine wpV_step rfl rfl _ (growAt_fld _ _ _ rfl _ rfl _ (by intro w; go_simp; try rfl)) ?_; dsimp only [putL, setNth]) | (refine wpV_step rfl rfl _ (growAt_idx _ _ _ rfl _ _ rfl rfl _ (by intro w; go_simp; try rfl)) ?_; dsimp only [putL, setNth]) | (refine wpV_step rfl rfl _ (growAt_extract _ _ rfl _ rfl _ rfl) ?_; dsimp only [putL, setNth]) | (refine wpV_step rfl rfl _ (growAt_pick _ _ _ rfl _ rfl _ _ rfl rfl) ?_; dsimp only [putL, setNth])) | (refine wpV_step rfl rfl _ (growAt_pure (by intro w; go_simp; try rfl)) ?_; dsimp only [putL, setNth]))
          refine wpV_nil ?_; clear hown; intro _ hown; simp only [List.nil_append, List.cons_append] at hown
          go_wp2_with (first | ((with_reducible show wpList _ _ _ (⟨_, .store _ _ _, _, _, _, _⟩ :: _) _ _); refine wpl_store_int hown rfl 3 _ _ rfl _ _ rfl _ _ rfl size_int 0 _ _ rfl (by omega) ?_; clear hown; intro _ hown; dsimp only [putL]; simp only [List.set_cons_zero, List.set_cons_succ] at hown))
          go_roundw
          case rel => exact ⟨k + 1, by omega, by go_num, hown⟩
          case measure => simp [intOf]; omega
        · go_wp2_with (first | ((with_reducible show wpList _ _ _ (⟨_, .load _ _, _, _, _, _⟩ :: _) _ _); refine wpl_load_row hown rfl 30 _ rfl _ rfl 0 _ _ rfl _ Try.underlying30 rfl (sz_d16 hXk) ?_; dsimp only [putL, setNth]) | (go_at_call 59; refine (rcar_any _ hXk _).mono ?_; rintro e w' ⟨rfl, hb⟩; replace hown := hown.grow hb; clear hb) | ((with_reducible show wpList _ _ _ (⟨_, .store _ _ _, _, _, _, _⟩ :: _) _ _); refine wpl_store_row hown rfl 31 _ _ rfl _ rfl _ rfl (ints_cell _ _) (sz_num (rcar_length _ hXk)) 2 _ _ rfl (sz_eq (n := 16) rfl (rcar_length _ hXk)) ?_; clear hown; intro _ hown; dsimp only [putL]; simp only [List.set_cons_zero, List.set_cons_succ] at hown))
          obtain rfl : k = 16 := by omega
          refine bodyPost_ret (results_own hown rfl _ rfl 2 _ _ rfl _ Try.underlying31 rfl (sz_num (rcar_length _ hXk))) rfl ⟨rfl, hown.below⟩

end Go.Proofs.Ytmchkfganpgheaa
