/-
  The element of bytes, a small one's: what the code computes, in lists of integers.
-/
import Derived.Test.YtmchkfganpgheaaRows
import Derived.Test.YtmchkfganpgheaaEq
import Derived.Deep.Cut
import Derived.Deep.LoopGhost
namespace Go.Proofs.Ytmchkfganpgheaa
set_option linter.unusedSimpArgs false
set_option linter.unusedVariables false
open Go Go.RowKit

theorem info_b32 : (Try.prog.info? 22).map (·.size) = some 32 := by kernel_rfl
theorem zero_b32 : (Try.prog.info? 22).map (·.zero) = some (some (.agg (ints .u8 (List.replicate 32 0)))) := by kernel_rfl
theorem sz_b32 {k : IntKind} {L : List Int} (h : L.length = 32) : (Try.prog.info? 22).map (·.size) = some (ints k L).size := by rw [ints_size, h]; exact info_b32
theorem info_elem : (Try.prog.info? 26).map (·.size) = some 5 := by kernel_rfl
theorem zero_elem : (Try.prog.info? 26).map (·.zero) = some (some (.agg (ints .u64 (List.replicate 5 0)))) := by kernel_rfl
theorem sz_elem {k : IntKind} {L : List Int} (h : L.length = 5) : (Try.prog.info? 26).map (·.size) = some (ints k L).size := by rw [ints_size, h]; exact info_elem
theorem info_l5 : (Try.prog.info? 24).map (·.size) = some 5 := by kernel_rfl
theorem zero_l5 : (Try.prog.info? 24).map (·.zero) = some (some (.agg (ints .u64 (List.replicate 5 0)))) := by kernel_rfl
theorem sz_l5 {k : IntKind} {L : List Int} (h : L.length = 5) : (Try.prog.info? 24).map (·.size) = some (ints k L).size := by rw [ints_size, h]; exact info_l5
theorem info_num : (Try.prog.info? 31).map (·.size) = some 16 := by kernel_rfl
theorem zero_num : (Try.prog.info? 31).map (·.zero) = some (some (.agg (ints .i64 (List.replicate 16 0)))) := by kernel_rfl
theorem sz_num {k : IntKind} {L : List Int} (h : L.length = 16) : (Try.prog.info? 31).map (·.size) = some (ints k L).size := by rw [ints_size, h]; exact info_num
theorem info_d16 : (Try.prog.info? 30).map (·.size) = some 16 := by kernel_rfl
theorem zero_d16 : (Try.prog.info? 30).map (·.zero) = some (some (.agg (ints .i64 (List.replicate 16 0)))) := by kernel_rfl
theorem sz_d16 {k : IntKind} {L : List Int} (h : L.length = 16) : (Try.prog.info? 30).map (·.size) = some (ints k L).size := by rw [ints_size, h]; exact info_d16
theorem info_d32 : (Try.prog.info? 83).map (·.size) = some 32 := by kernel_rfl
theorem zero_d32 : (Try.prog.info? 83).map (·.zero) = some (some (.agg (ints .i64 (List.replicate 32 0)))) := by kernel_rfl
theorem sz_d32 {k : IntKind} {L : List Int} (h : L.length = 32) : (Try.prog.info? 83).map (·.size) = some (ints k L).size := by rw [ints_size, h]; exact info_d32
theorem size_u8 : (Try.prog.info? 5).map (·.size) = some 1 := by kernel_rfl
theorem size_u64 : (Try.prog.info? 23).map (·.size) = some 1 := by kernel_rfl
theorem size_u32 : (Try.prog.info? 38).map (·.size) = some 1 := by kernel_rfl
theorem size_int : (Try.prog.info? 3).map (·.size) = some 1 := by kernel_rfl

/-- What carried computes, limb by limb, as the code has it. -/
def carriedL (l : List Int) : List Int := [
  IntKind.u64.wrap (bits .and .u64 (gi l 0) 2251799813685247 + IntKind.u64.wrap (19 * (gi l 4 / 2251799813685248))),
  IntKind.u64.wrap (bits .and .u64 (gi l 1) 2251799813685247 + gi l 0 / 2251799813685248),
  IntKind.u64.wrap (bits .and .u64 (gi l 2) 2251799813685247 + gi l 1 / 2251799813685248),
  IntKind.u64.wrap (bits .and .u64 (gi l 3) 2251799813685247 + gi l 2 / 2251799813685248),
  IntKind.u64.wrap (bits .and .u64 (gi l 4) 2251799813685247 + gi l 3 / 2251799813685248)]
theorem carriedL_length (l : List Int) : (carriedL l).length = 5 := rfl

set_option maxHeartbeats 400000 in
theorem carried_any (L : List Int) (hL : L.length = 5) (w : World) :
    Calls Try.prog 42 #[.agg (ints .u64 L)] w fun e w' => e = .returned (.agg (ints .u64 (carriedL L))) ∧ Below w.heap.size w w' := by
  have hown := Own.start w
  go_enter Try.func42, Try.ntmps42
  go_wp2_with (first | (refine wpl_box hown rfl _ _ rfl _ rfl ?_; clear hown; intro _ _ hown; dsimp only [putL, setNth]) | (refine wpl_alloc hown rfl _ rfl _ zero_elem ?_; clear hown; intro _ _ hown; dsimp only [putL, setNth]) | (refine wpl_load_int hown rfl 23 _ rfl _ _ rfl _ Try.underlying23 1 _ _ rfl (by simp [hL]) ?_; dsimp only [putL, setNth]) | (refine wpl_store_row hown rfl 26 _ _ rfl _ rfl (ints .u64 (carriedL L)) rfl (ints_cell _ _) (sz_elem rfl) 0 _ _ rfl (rfl) ?_; clear hown; intro _ hown; dsimp only [putL]; simp only [List.set_cons_zero, List.set_cons_succ] at hown))
  refine bodyPost_ret (results_own hown rfl _ rfl 0 _ _ rfl _ Try.underlying26 rfl (sz_elem rfl)) rfl ⟨rfl, hown.below⟩

/-- The limbs of the first k bits. -/
def fromN (L : List Int) : Nat → List Int
  | 0 => List.replicate 5 0
  | k + 1 => (fromN L k).set (k / 51) (bits .or .u64 (gi (fromN L k) (k / 51))
      (IntKind.u64.wrap (IntKind.u64.wrap (bits .and .u8 ((gi L (k / 8)).fdiv (2 ^ min ((k : Int).tmod 8).toNat 8)) 1) * 2 ^ min ((k : Int).tmod 51).toNat 64)))
theorem fromN_length (L : List Int) : ∀ k, (fromN L k).length = 5
  | 0 => rfl
  | k + 1 => by simp [fromN, fromN_length L k]
set_option maxRecDepth 20000 in
set_option maxHeartbeats 400000 in
theorem from_any (L : List Int) (hL : L.length = 32) (w : World) :
    Calls Try.prog 15 #[.agg (ints .u8 L)] w fun e w' => e = .returned (.agg (ints .u64 (carriedL (fromN L 255)))) ∧ Below w.heap.size w w' := by
  have hown := Own.start w
  go_enter Try.func15, Try.ntmps15
  have tok_b1 : True := trivial
  have tok_b2 : True := trivial
  have tok_b3 : True := trivial
  go_wp2_with (first | (have _t := tok_b1; refine wpl_box hown rfl _ _ rfl _ rfl ?_; clear hown _t tok_b1; intro b1 _ hown; dsimp only [putL, setNth]) | (have _t := tok_b2; refine wpl_alloc hown rfl _ rfl _ zero_elem ?_; clear hown _t tok_b2; intro b2 _ hown; dsimp only [putL, setNth]) | (have _t := tok_b3; refine wpl_alloc hown rfl _ rfl _ zero_l5 ?_; clear hown _t tok_b3; intro b3 _ hown; dsimp only [putL, setNth]))
  go_loopw [5] (fun i wr => ∃ k : Nat, k ≤ 255 ∧ i = .int .i64 k ∧ Own w wr [(b3, ints .u64 (fromN L k), 24), (b2, ints .u64 (List.replicate 5 0), 26), (b1, ints .u8 L, 22)]) (fun i _ => 255 - (intOf i).toNat)
  case atStart => exact ⟨0, by omega, rfl, hown⟩
  case round =>
    clear hown
    obtain ⟨k, hk, rfl, hown⟩ := hrel
    by_cases hlt : k < 255
    · have f1 : IntKind.i64.wrap ((k : Int) / 51) = (k : Int) / 51 := IntWalk.i64_in _ (by omega)
      have f2 : IntKind.i64.wrap ((k : Int) / 8) = (k : Int) / 8 := IntWalk.i64_in _ (by omega)
      have f3 : ((k : Int) / 51).toNat = k / 51 := by omega
      have f4 : ((k : Int) / 8).toNat = k / 8 := by omega
      have f5 : (0 : Int) ≤ (k : Int) / 51 := by omega
      have f6 : (k : Int) / 51 < 5 := by omega
      have f7 : (0 : Int) ≤ (k : Int) / 8 := by omega
      have f8 : (k : Int) / 8 < 32 := by omega
      go_upto_region 5 with (fail)
      refine wp_region_grow 18 [0, 1, 2, 3, 4, 5, 6, 7, 8, 9, 10, 11, 12, 13, 14, 15, 16, 17] (by kernel_rfl) (by kernel_rfl) hown ?_; simp only [List.filterMap_cons, List.filterMap_nil, List.getElem?_cons_zero, List.getElem?_cons_succ, List.drop_succ_cons, List.drop_zero]
      repeat (first | (refine wpV_step rfl rfl _ (growAt_load_int 23 _ rfl _ _ rfl _ Try.underlying23 0 _ _ rfl (by rw [fromN_length]; omega)) ?_; dsimp only [putL, setNth]) | (refine wpV_step rfl rfl _ (growAt_load_int 5 _ rfl _ _ rfl _ Try.underlying5 2 _ _ rfl (by omega)) ?_; dsimp only [putL, setNth]) | (first | (refine wpV_step rfl rfl _ (growAt_move _ rfl _ rfl) ?_; dsimp only [putL, setNth, evL, nth]) | (refine wpV_step rfl rfl _ (growAt_assign _ rfl _ rfl) ?_; dsimp only [putL, setNth, evL, nth]) | (refine wpV_step rfl rfl _ (growAt_bits _ _ _ _ _ rfl (by decide) _ _ _ rfl rfl) ?_; dsimp only [putL, setNth]) | (refine wpV_step rfl rfl _ (growAt_bin _ _ _ _ _ rfl _ _ rfl rfl _ (by intro w; go_simp; try rfl)) ?_; dsimp only [putL, setNth]) | (refine wpV_step rfl rfl _ (growAt_un _ _ _ rfl _ rfl _ (by intro w; go_simp; try rfl)) ?_; dsimp only [putL, setNth]) | (refine wpV_step rfl rfl _ (growAt_conv _ _ _ rfl _ rfl _ (by intro w; go_simp; try rfl)) ?_; dsimp only [putL, setNth]) | (refine wpV_step rfl rfl _ (growAt_fld _ _ _ rfl _ rfl _ (by intro w; go_simp; try rfl)) ?_; dsimp only [putL, setNth]) | (refine wpV_step rfl rfl _ (growAt_idx _ _ _ rfl _ _ rfl rfl _ (by intro w; go_simp; try rfl)) ?_; dsimp only [putL, setNth]) | (refine wpV_step rfl rfl _ (growAt_extract _ _ rfl _ rfl _ rfl) ?_; dsimp only [putL, setNth]) | (refine wpV_step rfl rfl _ (growAt_pick _ _ _ rfl _ rfl _ _ rfl rfl) ?_; dsimp only [putL, setNth])) | (refine wpV_step rfl rfl _ (growAt_pure (by intro w; go_simp; try rfl)) ?_; dsimp only [putL, setNth]))
      refine wpV_nil ?_; clear hown; intro _ hown; simp only [List.nil_append, List.cons_append] at hown
      go_wp2_with (first | (refine wpl_store_int hown rfl 23 _ _ rfl _ _ rfl _ _ rfl size_u64 0 _ _ rfl (by rw [fromN_length]; omega) ?_; clear hown; intro _ hown; dsimp only [putL]; simp only [List.set_cons_zero, List.set_cons_succ] at hown))
      go_roundw
      case rel => exact ⟨k + 1, by omega, by go_num, hown⟩
      case measure => simp [intOf]; omega
    · go_wp2_with (first | (refine wpl_load_row hown rfl 24 _ rfl _ rfl 0 _ _ rfl _ Try.underlying24 rfl (sz_l5 (fromN_length L k)) ?_; dsimp only [putL, setNth]) | (go_at_call 42; refine (carried_any _ (fromN_length L k) _).mono ?_; rintro e w' ⟨rfl, hb⟩; replace hown := hown.grow hb; clear hb) | (refine wpl_store_row hown rfl 26 _ _ rfl _ rfl _ rfl (ints_cell _ _) (sz_elem (carriedL_length _)) 1 _ _ rfl (by simp [ints_size, carriedL_length]) ?_; clear hown; intro _ hown; dsimp only [putL]; simp only [List.set_cons_zero, List.set_cons_succ] at hown))
      obtain rfl : k = 255 := by omega
      refine bodyPost_ret (results_own hown rfl _ rfl 1 _ _ rfl _ Try.underlying26 rfl (sz_elem (carriedL_length _))) rfl ⟨rfl, hown.below⟩

theorem small_any (n : Int) (h0 : 0 ≤ n) (h1 : n < 4294967296) (w : World) :
    Calls Try.prog 25 #[.int .u32 n] w fun e w' => e = .returned (.agg (ints .u64 [n, 0, 0, 0, 0])) ∧ Below w.heap.size w w' := by
  have hown := Own.start w
  go_enter Try.func25, Try.ntmps25
  go_wp2_with (first | (refine wpl_alloc hown rfl _ rfl _ zero_elem ?_; clear hown; intro _ _ hown; dsimp only [putL, setNth]) | (refine wpl_store_row hown rfl 26 _ _ rfl _ rfl (ints .u64 [n, 0, 0, 0, 0]) rfl (ints_cell _ _) (sz_elem rfl) 0 _ _ rfl (rfl) ?_; clear hown; intro _ hown; dsimp only [putL]; simp only [List.set_cons_zero, List.set_cons_succ] at hown))
  refine bodyPost_ret (results_own hown rfl _ rfl 0 _ _ rfl _ Try.underlying26 rfl (sz_elem rfl)) rfl ⟨rfl, hown.below⟩

def addN (a b : List Int) : Nat → List Int
  | 0 => a
  | k + 1 => (addN a b k).set k (IntKind.u64.wrap (gi (addN a b k) k + gi b k))
theorem addN_length (a b : List Int) (ha : a.length = 5) : ∀ k, (addN a b k).length = 5
  | 0 => ha
  | k + 1 => by simp [addN, addN_length a b ha k]
set_option maxRecDepth 20000 in
set_option maxHeartbeats 400000 in
theorem add_any (a b : List Int) (ha : a.length = 5) (hb : b.length = 5) (w : World) :
    Calls Try.prog 45 #[.agg (ints .u64 a), .agg (ints .u64 b)] w fun e w' => e = .returned (.agg (ints .u64 (carriedL (addN a b 5)))) ∧ Below w.heap.size w w' := by
  have hown := Own.start w
  go_enter Try.func45, Try.ntmps45
  have tok_b1 : True := trivial
  have tok_b2 : True := trivial
  have tok_b3 : True := trivial
  go_wp2_with (first | (have _t := tok_b1; refine wpl_box hown rfl _ _ rfl _ rfl ?_; clear hown _t tok_b1; intro b1 _ hown; dsimp only [putL, setNth]) | (have _t := tok_b2; refine wpl_box hown rfl _ _ rfl _ rfl ?_; clear hown _t tok_b2; intro b2 _ hown; dsimp only [putL, setNth]) | (have _t := tok_b3; refine wpl_alloc hown rfl _ rfl _ zero_elem ?_; clear hown _t tok_b3; intro b3 _ hown; dsimp only [putL, setNth]) | (refine wpl_load_row hown rfl 24 _ rfl _ rfl 1 _ _ rfl _ Try.underlying24 rfl (sz_l5 hb) ?_; dsimp only [putL, setNth]))
  go_loopw [9] (fun i wr => ∃ k : Nat, k ≤ 5 ∧ i = .int .i64 k ∧ Own w wr [(b3, ints .u64 (List.replicate 5 0), 26), (b2, ints .u64 b, 26), (b1, ints .u64 (addN a b k), 26)]) (fun i _ => 5 - (intOf i).toNat)
  case atStart => exact ⟨0, by omega, rfl, hown⟩
  case round =>
    clear hown
    obtain ⟨k, hk, rfl, hown⟩ := hrel
    by_cases hlt : k < 5
    · go_wp2_with (first | (refine wpl_index rfl 24 _ _ rfl _ _ rfl _ _ rfl _ _ _ Try.underlying24 Try.underlying23 size_u64 (hb) (by omega) (by omega) ?_; dsimp only [putL, setNth]) | (refine wpl_load_int hown rfl 23 _ rfl _ _ rfl _ Try.underlying23 2 _ _ rfl (by rw [addN_length a b ha]; omega) ?_; dsimp only [putL, setNth]) | (refine wpl_store_int hown rfl 23 _ _ rfl _ _ rfl _ _ rfl size_u64 2 _ _ rfl (by rw [addN_length a b ha]; omega) ?_; clear hown; intro _ hown; dsimp only [putL]; simp only [List.set_cons_zero, List.set_cons_succ] at hown))
      go_roundw
      case rel => exact ⟨k + 1, by omega, by go_num, hown⟩
      case measure => simp [intOf]; omega
    · have hl := addN_length a b ha k
      go_wp2_with (first | (refine wpl_load_row hown rfl 24 _ rfl _ rfl 2 _ _ rfl _ Try.underlying24 rfl (sz_l5 (by simp [addN_length a b ha])) ?_; dsimp only [putL, setNth]) | (refine wpl_load_int hown rfl 23 _ rfl _ _ rfl _ Try.underlying23 2 _ _ rfl (by simp [addN_length a b ha]) ?_; dsimp only [putL, setNth]) | (refine wpl_store_int hown rfl 23 _ _ rfl _ _ rfl _ _ rfl size_u64 2 _ _ rfl (by simp [addN_length a b ha]) ?_; clear hown; intro _ hown; dsimp only [putL]; simp only [List.set_cons_zero, List.set_cons_succ] at hown) | (go_at_call 42; refine (carried_any _ (by simp [addN_length a b ha]) _).mono ?_; rintro e w' ⟨rfl, hb⟩; replace hown := hown.grow hb; clear hb) | (refine wpl_store_row hown rfl 26 _ _ rfl _ rfl _ rfl (ints_cell _ _) (sz_elem (carriedL_length _)) 0 _ _ rfl (by simp [ints_size, carriedL_length]) ?_; clear hown; intro _ hown; dsimp only [putL]; simp only [List.set_cons_zero, List.set_cons_succ] at hown))
      obtain rfl : k = 5 := by omega
      refine bodyPost_ret (results_own hown rfl _ rfl 0 _ _ rfl _ Try.underlying26 rfl (sz_elem (carriedL_length _))) rfl ⟨rfl, hown.below⟩

def subN (a b : List Int) : Nat → List Int
  | 0 => a
  | k + 1 => (subN a b k).set k (IntKind.u64.wrap (gi (subN a b k) k + IntKind.u64.wrap (9007199254740988 - gi b k)))
theorem subN_length (a b : List Int) (ha : a.length = 5) : ∀ k, (subN a b k).length = 5
  | 0 => ha
  | k + 1 => by simp [subN, subN_length a b ha k]
set_option maxRecDepth 20000 in
set_option maxHeartbeats 400000 in
theorem sub_any (a b : List Int) (ha : a.length = 5) (hb : b.length = 5) (w : World) :
    Calls Try.prog 38 #[.agg (ints .u64 a), .agg (ints .u64 b)] w fun e w' => e = .returned (.agg (ints .u64 (carriedL ((subN a b 5).set 0 (IntKind.u64.wrap (gi (subN a b 5) 0 - 72)))))) ∧ Below w.heap.size w w' := by
  have hown := Own.start w
  go_enter Try.func38, Try.ntmps38
  have tok_b1 : True := trivial
  have tok_b2 : True := trivial
  have tok_b3 : True := trivial
  go_wp2_with (first | (have _t := tok_b1; refine wpl_box hown rfl _ _ rfl _ rfl ?_; clear hown _t tok_b1; intro b1 _ hown; dsimp only [putL, setNth]) | (have _t := tok_b2; refine wpl_box hown rfl _ _ rfl _ rfl ?_; clear hown _t tok_b2; intro b2 _ hown; dsimp only [putL, setNth]) | (have _t := tok_b3; refine wpl_alloc hown rfl _ rfl _ zero_elem ?_; clear hown _t tok_b3; intro b3 _ hown; dsimp only [putL, setNth]) | (refine wpl_load_row hown rfl 24 _ rfl _ rfl 1 _ _ rfl _ Try.underlying24 rfl (sz_l5 hb) ?_; dsimp only [putL, setNth]))
  go_loopw [9] (fun i wr => ∃ k : Nat, k ≤ 5 ∧ i = .int .i64 k ∧ Own w wr [(b3, ints .u64 (List.replicate 5 0), 26), (b2, ints .u64 b, 26), (b1, ints .u64 (subN a b k), 26)]) (fun i _ => 5 - (intOf i).toNat)
  case atStart => exact ⟨0, by omega, rfl, hown⟩
  case round =>
    clear hown
    obtain ⟨k, hk, rfl, hown⟩ := hrel
    by_cases hlt : k < 5
    · go_wp2_with (first | (refine wpl_index rfl 24 _ _ rfl _ _ rfl _ _ rfl _ _ _ Try.underlying24 Try.underlying23 size_u64 (hb) (by omega) (by omega) ?_; dsimp only [putL, setNth]) | (refine wpl_load_int hown rfl 23 _ rfl _ _ rfl _ Try.underlying23 2 _ _ rfl (by rw [subN_length a b ha]; omega) ?_; dsimp only [putL, setNth]) | (refine wpl_store_int hown rfl 23 _ _ rfl _ _ rfl _ _ rfl size_u64 2 _ _ rfl (by rw [subN_length a b ha]; omega) ?_; clear hown; intro _ hown; dsimp only [putL]; simp only [List.set_cons_zero, List.set_cons_succ] at hown))
      go_roundw
      case rel => exact ⟨k + 1, by omega, by go_num, hown⟩
      case measure => simp [intOf]; omega
    · have hl := subN_length a b ha k
      go_wp2_with (first | (refine wpl_load_row hown rfl 24 _ rfl _ rfl 2 _ _ rfl _ Try.underlying24 rfl (sz_l5 (by simp [subN_length a b ha])) ?_; dsimp only [putL, setNth]) | (refine wpl_load_int hown rfl 23 _ rfl _ _ rfl _ Try.underlying23 2 _ _ rfl (by simp [subN_length a b ha]) ?_; dsimp only [putL, setNth]) | (refine wpl_store_int hown rfl 23 _ _ rfl _ _ rfl _ _ rfl size_u64 2 _ _ rfl (by simp [subN_length a b ha]) ?_; clear hown; intro _ hown; dsimp only [putL]; simp only [List.set_cons_zero, List.set_cons_succ] at hown) | (go_at_call 42; refine (carried_any _ (by simp [subN_length a b ha]) _).mono ?_; rintro e w' ⟨rfl, hb⟩; replace hown := hown.grow hb; clear hb) | (refine wpl_store_row hown rfl 26 _ _ rfl _ rfl _ rfl (ints_cell _ _) (sz_elem (carriedL_length _)) 0 _ _ rfl (by simp [ints_size, carriedL_length]) ?_; clear hown; intro _ hown; dsimp only [putL]; simp only [List.set_cons_zero, List.set_cons_succ] at hown))
      obtain rfl : k = 5 := by omega
      refine bodyPost_ret (results_own hown rfl _ rfl 0 _ _ rfl _ Try.underlying26 rfl (sz_elem (carriedL_length _))) rfl ⟨rfl, hown.below⟩

end Go.Proofs.Ytmchkfganpgheaa
