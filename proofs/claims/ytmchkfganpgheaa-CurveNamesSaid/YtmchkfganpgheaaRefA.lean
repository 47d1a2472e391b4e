/-
  The document's answer for numbers: what its functions compute, in lists of integers.
-/
import Derived.Test.YtmchkfganpgheaaFieldA
import Derived.Lib.Hide
namespace Go.Proofs.Ytmchkfganpgheaa
set_option linter.unusedSimpArgs false
set_option linter.unusedVariables false
open Go Go.RowKit


/-- One digit more is carried. -/
def rcarN (x : List Int) : Nat → List Int × Int
  | 0 => (x, 0)
  | k + 1 =>
    let p := rcarN x k
    let v := wrap64 (gi p.1 k + p.2)
    (p.1.set k (bits .and .i64 v 65535), v / 65536)
theorem rcarN_length (x : List Int) (hx : x.length = 16) : ∀ k, (rcarN x k).1.length = 16
  | 0 => hx
  | k + 1 => by simp [rcarN, rcarN_length x hx k]
/-- One round more. -/
def rcarR (x : List Int) : Nat → List Int
  | 0 => x
  | r + 1 =>
    let p := rcarN (rcarR x r) 16
    p.1.set 0 (wrap64 (gi p.1 0 + wrap64 (38 * p.2)))
theorem rcarR_length (x : List Int) (hx : x.length = 16) : ∀ r, (rcarR x r).length = 16
  | 0 => hx
  | r + 1 => by simp [rcarR, rcarN_length _ (rcarR_length x hx r) 16]
set_option maxRecDepth 20000 in
set_option maxHeartbeats 800000 in
theorem rcarried_any (x : List Int) (hx : x.length = 16) (w : World) :
    Calls Try.prog 59 #[.agg (ints .i64 x)] w fun e w' => e = .returned (.agg (ints .i64 (rcarR x 4))) ∧ Below w.heap.size w w' := by
  have hown := Own.start w
  have hR := rcarR_length x hx
  go_enter Try.func59, Try.ntmps59
  have tok_b1 : True := trivial
  have tok_b2 : True := trivial
  go_wp2_with (first | (have _t := tok_b1; refine wpl_box hown rfl _ _ rfl _ rfl ?_; clear hown _t tok_b1; intro b1 _ hown; dsimp only [putL, setNth]) | (have _t := tok_b2; refine wpl_alloc hown rfl _ rfl _ zero_num ?_; clear hown _t tok_b2; intro b2 _ hown; dsimp only [putL, setNth]))
  go_loopw [3] (fun i wr => ∃ r : Nat, r ≤ 4 ∧ i = .int .i64 r ∧ Own w wr [(b2, ints .i64 (List.replicate 16 0), 31), (b1, ints .i64 (rcarR x r), 30)]) (fun i _ => 4 - (intOf i).toNat)
  case atStart => exact ⟨0, by omega, rfl, hown⟩
  case round =>
    clear hown
    obtain ⟨r, hr, rfl, hown⟩ := hrel
    have hRr := hR r
    clear hR
    by_cases hlr : r < 4
    · go_wp2_with fail
      have hN := rcarN_length _ hRr
      go_loopw [4, 5] (fun c i wr => ∃ k : Nat, k ≤ 16 ∧ i = .int .i64 k ∧ c = .int .i64 (rcarN (rcarR x r) k).2 ∧ Own w wr [(b2, ints .i64 (List.replicate 16 0), 31), (b1, ints .i64 (rcarN (rcarR x r) k).1, 30)]) (fun _ i _ => 16 - (intOf i).toNat)
      case atStart => exact ⟨0, by omega, rfl, rfl, hown⟩
      case round =>
        clear hown
        obtain ⟨k, hk, rfl, rfl, hown⟩ := hrel
        have hNk := hN k
        clear hN
        by_cases hlt : k < 16
        · go_wp2_with (first | (refine wpl_load_int hown rfl 3 _ rfl _ _ rfl _ Try.underlying3 1 _ _ rfl (by rw [hNk]; omega) ?_; dsimp only [putL, setNth]) | (refine wpl_store_int hown rfl 3 _ _ rfl _ _ rfl _ _ rfl size_int 1 _ _ rfl (by rw [hNk]; omega) ?_; clear hown; intro _ hown; dsimp only [putL]; simp only [List.set_cons_zero, List.set_cons_succ] at hown))
          go_roundw
          case rel => exact ⟨k + 1, by omega, by go_num, rfl, hown⟩
          case measure => simp [intOf]; omega
        · go_wp2_with (first | (refine wpl_load_int hown rfl 3 _ rfl _ _ rfl _ Try.underlying3 1 _ _ rfl (by rw [hNk]; omega) ?_; dsimp only [putL, setNth]) | (refine wpl_store_int hown rfl 3 _ _ rfl _ _ rfl _ _ rfl size_int 1 _ _ rfl (by rw [hNk]; omega) ?_; clear hown; intro _ hown; dsimp only [putL]; simp only [List.set_cons_zero, List.set_cons_succ] at hown))
          obtain rfl : k = 16 := by omega
          go_roundw
          case rel => exact ⟨r + 1, by omega, by go_num, hown⟩
          case measure => simp [intOf]; omega
    · go_wp2_with (first | (refine wpl_load_row hown rfl 30 _ rfl _ rfl 1 _ _ rfl _ Try.underlying30 rfl (sz_d16 hRr) ?_; dsimp only [putL, setNth]) | (refine wpl_store_row hown rfl 31 _ _ rfl _ rfl _ rfl (ints_cell _ _) (sz_num hRr) 0 _ _ rfl (sz_eq (n := 16) rfl hRr) ?_; clear hown; intro _ hown; dsimp only [putL]; simp only [List.set_cons_zero, List.set_cons_succ] at hown))
      obtain rfl : r = 4 := by omega
      refine bodyPost_ret (results_own hown rfl _ rfl 0 _ _ rfl _ Try.underlying31 rfl (sz_num hRr)) rfl ⟨rfl, hown.below⟩

def primeN : Nat → List Int
  | 0 => List.replicate 32 0
  | k + 1 => (primeN k).set k 255
theorem primeN_length : ∀ k, (primeN k).length = 32
  | 0 => rfl
  | k + 1 => by simp [primeN, primeN_length k]
def primeL : List Int := ((primeN 32).set 0 237).set 31 127
theorem primeL_length : primeL.length = 32 := by simp [primeL, primeN_length]
set_option maxRecDepth 20000 in
set_option maxHeartbeats 800000 in
theorem rprime_any (w : World) :
    Calls Try.prog 56 #[] w fun e w' => e = .returned (.agg (ints .u8 primeL)) ∧ Below w.heap.size w w' := by
  have hown := Own.start w
  go_enter Try.func56, Try.ntmps56
  have tok_b1 : True := trivial
  have tok_b2 : True := trivial
  go_wp2_with (first | (have _t := tok_b1; refine wpl_alloc hown rfl _ rfl _ zero_b32 ?_; clear hown _t tok_b1; intro b1 _ hown; dsimp only [putL, setNth]) | (have _t := tok_b2; refine wpl_alloc hown rfl _ rfl _ zero_b32 ?_; clear hown _t tok_b2; intro b2 _ hown; dsimp only [putL, setNth]))
  go_loopw [2] (fun i wr => ∃ k : Nat, k ≤ 32 ∧ i = .int .i64 k ∧ Own w wr [(b2, ints .u8 (primeN k), 22), (b1, ints .u8 (List.replicate 32 0), 22)]) (fun i _ => 32 - (intOf i).toNat)
  case atStart => exact ⟨0, by omega, rfl, hown⟩
  case round =>
    clear hown
    obtain ⟨k, hk, rfl, hown⟩ := hrel
    by_cases hlt : k < 32
    · go_wp2_with (first | (refine wpl_store_int hown rfl 5 _ _ rfl _ _ rfl _ _ rfl size_u8 0 _ _ rfl (by rw [primeN_length]; omega) ?_; clear hown; intro _ hown; dsimp only [putL]; simp only [List.set_cons_zero, List.set_cons_succ] at hown))
      go_roundw
      case rel => exact ⟨k + 1, by omega, by go_num, hown⟩
      case measure => simp [intOf]; omega
    · obtain rfl : k = 32 := by omega
      clear hk hlt
      go_wp2_with (first | (refine wpl_store_int hown rfl 5 _ _ rfl _ _ rfl _ _ rfl size_u8 0 _ _ rfl (by simp [primeN_length]) ?_; clear hown; intro _ hown; dsimp only [putL]; simp only [List.set_cons_zero, List.set_cons_succ] at hown) | (refine wpl_load_row hown rfl 22 _ rfl _ rfl 0 _ _ rfl _ Try.underlying22 rfl (sz_b32 primeL_length) ?_; dsimp only [putL, setNth]) | (refine wpl_store_row hown rfl 22 _ _ rfl _ rfl _ rfl (ints_cell _ _) (sz_b32 primeL_length) 1 _ _ rfl (sz_eq (n := 32) rfl primeL_length) ?_; clear hown; intro _ hown; dsimp only [putL]; simp only [List.set_cons_zero, List.set_cons_succ] at hown))
      refine bodyPost_ret (results_own hown rfl _ rfl 1 _ _ rfl _ Try.underlying22 rfl (sz_b32 primeL_length)) rfl ⟨rfl, hown.below⟩

/-- Below, in bytes: from the highest of n down. -/
def rlessN (a b : List Int) : Nat → Bool
  | 0 => false
  | n + 1 => if gi a n = gi b n then rlessN a b n else decide (gi a n < gi b n)
set_option maxRecDepth 20000 in
set_option maxHeartbeats 800000 in
theorem rless_any (a b : List Int) (ha : a.length = 32) (hb : b.length = 32) (w : World) :
    Calls Try.prog 57 #[.agg (ints .u8 a), .agg (ints .u8 b)] w fun e w' => e = .returned (.bool (rlessN a b 32)) ∧ Below w.heap.size w w' := by
  have hown := Own.start w
  go_enter Try.func57, Try.ntmps57
  have tok_b1 : True := trivial
  have tok_b2 : True := trivial
  go_wp2_with (first | (have _t := tok_b1; refine wpl_box hown rfl _ _ rfl _ rfl ?_; clear hown _t tok_b1; intro b1 _ hown; dsimp only [putL, setNth]) | (have _t := tok_b2; refine wpl_box hown rfl _ _ rfl _ rfl ?_; clear hown _t tok_b2; intro b2 _ hown; dsimp only [putL, setNth]))
  go_loopw [5] (fun i wr => ∃ k : Nat, k ≤ 32 ∧ i = .int .i64 ((k : Int) - 1) ∧ rlessN a b 32 = rlessN a b k ∧ Own w wr [(b2, ints .u8 b, 22), (b1, ints .u8 a, 22)]) (fun i _ => (intOf i + 1).toNat)
  case atStart => exact ⟨32, by omega, rfl, rfl, hown⟩
  case round =>
    clear hown
    obtain ⟨k, hk, rfl, hR, hown⟩ := hrel
    have HR := Lib.hid hR
    clear hR
    cases k with
    | zero =>
      go_wp2_with fail
      go_ret
      exact ⟨by rw [HR.out]; rfl, hown.below⟩
    | succ n =>
      have e0 : (((n + 1 : Nat) : Int) - 1) = (n : Int) := by omega
      rw [e0]
      have f1 : ((n : Int)).toNat = n := by omega
      have f2 : (0 : Int) ≤ (n : Int) := by omega
      have f3 : (n : Int) < 32 := by omega
      have f4 : n < 32 := by omega
      clear e0
      go_upto_region 4 with (fail)
      refine wp_region_grow 6 [0, 1, 2, 3, 4, 5] (by kernel_rfl) (by kernel_rfl) hown ?_; simp only [List.filterMap_cons, List.filterMap_nil, List.getElem?_cons_zero, List.getElem?_cons_succ, List.drop_succ_cons, List.drop_zero]
      repeat (first | (first | (refine wpV_step rfl rfl _ (growAt_load_int 5 _ rfl _ _ rfl _ Try.underlying5 0 _ _ rfl (by omega)) ?_; dsimp only [putL, setNth]) | (refine wpV_step rfl rfl _ (growAt_load_int 5 _ rfl _ _ rfl _ Try.underlying5 1 _ _ rfl (by omega)) ?_; dsimp only [putL, setNth])) | (first | (refine wpV_step rfl rfl _ (growAt_move _ rfl _ rfl) ?_; dsimp only [putL, setNth, evL, nth]) | (refine wpV_step rfl rfl _ (growAt_assign _ rfl _ rfl) ?_; dsimp only [putL, setNth, evL, nth]) | (refine wpV_step rfl rfl _ (growAt_bits _ _ _ _ _ rfl (by decide) _ _ _ rfl rfl) ?_; dsimp only [putL, setNth]) | (refine wpV_step rfl rfl _ (growAt_bin _ _ _ _ _ rfl _ _ rfl rfl _ (by intro w; go_simp; try rfl)) ?_; dsimp only [putL, setNth]) | (refine wpV_step rfl rfl _ (growAt_un _ _ _ rfl _ rfl _ (by intro w; go_simp; try rfl)) ?_; dsimp only [putL, setNth]) | (refine wpV_step rfl rfl _ (growAt_conv _ _ _ rfl _ rfl _ (by intro w; go_simp; try rfl)) ?_; dsimp only [putL, setNth]) | (refine wpV_step rfl rfl _ (growAt_fld _ _ _ rfl _ rfl _ (by intro w; go_simp; try rfl)) ?_; dsimp only [putL, setNth]) | (refine wpV_step rfl rfl _ (growAt_idx _ _ _ rfl _ _ rfl rfl _ (by intro w; go_simp; try rfl)) ?_; dsimp only [putL, setNth]) | (refine wpV_step rfl rfl _ (growAt_extract _ _ rfl _ rfl _ rfl) ?_; dsimp only [putL, setNth]) | (refine wpV_step rfl rfl _ (growAt_pick _ _ _ rfl _ rfl _ _ rfl rfl) ?_; dsimp only [putL, setNth])) | (refine wpV_step rfl rfl _ (growAt_pure (by intro w; go_simp; try rfl)) ?_; dsimp only [putL, setNth]))
      refine wpV_nil ?_; clear hown; intro _ hown; simp only [List.nil_append, List.cons_append] at hown
      by_cases hc : gi a n = gi b n
      · have hb1 : (gi a n != gi b n) = false := by simp [hc]
        have HC := Lib.hid hc
        clear hc
        go_wp2_with fail
        go_roundw
        case rel => exact ⟨n, by omega, rfl, by rw [HR.out]; exact if_pos HC.out, hown⟩
        case measure => simp [intOf]
      · have hb1 : (gi a n != gi b n) = true := by simp [hc]
        have HC := Lib.hid hc
        clear hc
        go_upto_region 5 with (fail)
        refine wp_region_grow 7 [0, 1, 2, 3, 4, 5, 6] (by kernel_rfl) (by kernel_rfl) hown ?_; simp only [List.filterMap_cons, List.filterMap_nil, List.getElem?_cons_zero, List.getElem?_cons_succ, List.drop_succ_cons, List.drop_zero]
        repeat (first | (first | (refine wpV_step rfl rfl _ (growAt_load_int 5 _ rfl _ _ rfl _ Try.underlying5 0 _ _ rfl (by omega)) ?_; dsimp only [putL, setNth]) | (refine wpV_step rfl rfl _ (growAt_load_int 5 _ rfl _ _ rfl _ Try.underlying5 1 _ _ rfl (by omega)) ?_; dsimp only [putL, setNth])) | (first | (refine wpV_step rfl rfl _ (growAt_move _ rfl _ rfl) ?_; dsimp only [putL, setNth, evL, nth]) | (refine wpV_step rfl rfl _ (growAt_assign _ rfl _ rfl) ?_; dsimp only [putL, setNth, evL, nth]) | (refine wpV_step rfl rfl _ (growAt_bits _ _ _ _ _ rfl (by decide) _ _ _ rfl rfl) ?_; dsimp only [putL, setNth]) | (refine wpV_step rfl rfl _ (growAt_bin _ _ _ _ _ rfl _ _ rfl rfl _ (by intro w; go_simp; try rfl)) ?_; dsimp only [putL, setNth]) | (refine wpV_step rfl rfl _ (growAt_un _ _ _ rfl _ rfl _ (by intro w; go_simp; try rfl)) ?_; dsimp only [putL, setNth]) | (refine wpV_step rfl rfl _ (growAt_conv _ _ _ rfl _ rfl _ (by intro w; go_simp; try rfl)) ?_; dsimp only [putL, setNth]) | (refine wpV_step rfl rfl _ (growAt_fld _ _ _ rfl _ rfl _ (by intro w; go_simp; try rfl)) ?_; dsimp only [putL, setNth]) | (refine wpV_step rfl rfl _ (growAt_idx _ _ _ rfl _ _ rfl rfl _ (by intro w; go_simp; try rfl)) ?_; dsimp only [putL, setNth]) | (refine wpV_step rfl rfl _ (growAt_extract _ _ rfl _ rfl _ rfl) ?_; dsimp only [putL, setNth]) | (refine wpV_step rfl rfl _ (growAt_pick _ _ _ rfl _ rfl _ _ rfl rfl) ?_; dsimp only [putL, setNth])) | (refine wpV_step rfl rfl _ (growAt_pure (by intro w; go_simp; try rfl)) ?_; dsimp only [putL, setNth]))
        refine wpV_nil ?_; clear hown; intro _ hown; simp only [List.nil_append, List.cons_append] at hown
        go_wp2_with fail
        go_ret
        refine ⟨?_, hown.below⟩
        rw [HR.out, show rlessN a b (n + 1) = decide (gi a n < gi b n) from if_neg HC.out]
        rfl

/-- A difference, a byte at a time: what is left of one, the bytes, and what is borrowed. -/
def rminV (x y c : Int) : Int := IntKind.i64.wrap (IntKind.i64.wrap (IntKind.i64.wrap x - IntKind.i64.wrap y) - c)
def rminN (a b : List Int) : Nat → List Int × Int
  | 0 => (a, 0)
  | k + 1 =>
    if rminV (gi (rminN a b k).1 k) (gi b k) (rminN a b k).2 < 0 then ((rminN a b k).1.set k (IntKind.u8.wrap (wrap64 (rminV (gi (rminN a b k).1 k) (gi b k) (rminN a b k).2 + 256))), 1)
    else ((rminN a b k).1.set k (IntKind.u8.wrap (rminV (gi (rminN a b k).1 k) (gi b k) (rminN a b k).2)), 0)
theorem rminN_length (a b : List Int) (ha : a.length = 32) : ∀ k, (rminN a b k).1.length = 32
  | 0 => ha
  | k + 1 => by
    have := rminN_length a b ha k
    simp only [rminN]
    split <;> simp [this]
set_option maxRecDepth 20000 in
set_option maxHeartbeats 800000 in
theorem rminus_any (a b : List Int) (ha : a.length = 32) (hb : b.length = 32) (w : World) :
    Calls Try.prog 58 #[.agg (ints .u8 a), .agg (ints .u8 b)] w fun e w' => e = .returned (.agg (ints .u8 (rminN a b 32).1)) ∧ Below w.heap.size w w' := by
  have hown := Own.start w
  have hN := rminN_length a b ha
  go_enter Try.func58, Try.ntmps58
  have tok_b1 : True := trivial
  have tok_b2 : True := trivial
  have tok_b3 : True := trivial
  go_wp2_with (first | (have _t := tok_b1; refine wpl_box hown rfl _ _ rfl _ rfl ?_; clear hown _t tok_b1; intro b1 _ hown; dsimp only [putL, setNth]) | (have _t := tok_b2; refine wpl_box hown rfl _ _ rfl _ rfl ?_; clear hown _t tok_b2; intro b2 _ hown; dsimp only [putL, setNth]) | (have _t := tok_b3; refine wpl_alloc hown rfl _ rfl _ zero_b32 ?_; clear hown _t tok_b3; intro b3 _ hown; dsimp only [putL, setNth]))
  go_loopw [5, 6] (fun c i wr => ∃ k : Nat, k ≤ 32 ∧ i = .int .i64 k ∧ c = .int .i64 (rminN a b k).2 ∧ Own w wr [(b3, ints .u8 (List.replicate 32 0), 22), (b2, ints .u8 b, 22), (b1, ints .u8 (rminN a b k).1, 22)]) (fun _ i _ => 32 - (intOf i).toNat)
  case atStart => exact ⟨0, by omega, rfl, rfl, hown⟩
  case round =>
    clear hown
    obtain ⟨k, hk, rfl, rfl, hown⟩ := hrel
    have hNk := hN k
    by_cases hlt : k < 32
    · clear hN
      have f1 : ((k : Int)).toNat = k := by omega
      have f2 : (0 : Int) ≤ (k : Int) := by omega
      have f3 : (k : Int) < 32 := by omega
      go_upto_region 5 with (fail)
      refine wp_region_grow 11 [0, 1, 2, 3, 4, 5, 6, 7, 8, 9, 10] (by kernel_rfl) (by kernel_rfl) hown ?_; simp only [List.filterMap_cons, List.filterMap_nil, List.getElem?_cons_zero, List.getElem?_cons_succ, List.drop_succ_cons, List.drop_zero]
      repeat (first | (first | (refine wpV_step rfl rfl _ (growAt_load_int 5 _ rfl _ _ rfl _ Try.underlying5 1 _ _ rfl (by omega)) ?_; dsimp only [putL, setNth]) | (refine wpV_step rfl rfl _ (growAt_load_int 5 _ rfl _ _ rfl _ Try.underlying5 2 _ _ rfl (by omega)) ?_; dsimp only [putL, setNth])) | (first | (refine wpV_step rfl rfl _ (growAt_move _ rfl _ rfl) ?_; dsimp only [putL, setNth, evL, nth]) | (refine wpV_step rfl rfl _ (growAt_assign _ rfl _ rfl) ?_; dsimp only [putL, setNth, evL, nth]) | (refine wpV_step rfl rfl _ (growAt_bits _ _ _ _ _ rfl (by decide) _ _ _ rfl rfl) ?_; dsimp only [putL, setNth]) | (refine wpV_step rfl rfl _ (growAt_bin _ _ _ _ _ rfl _ _ rfl rfl _ (by intro w; go_simp; try rfl)) ?_; dsimp only [putL, setNth]) | (refine wpV_step rfl rfl _ (growAt_un _ _ _ rfl _ rfl _ (by intro w; go_simp; try rfl)) ?_; dsimp only [putL, setNth]) | (refine wpV_step rfl rfl _ (growAt_conv _ _ _ rfl _ rfl _ (by intro w; go_simp; try rfl)) ?_; dsimp only [putL, setNth]) | (refine wpV_step rfl rfl _ (growAt_fld _ _ _ rfl _ rfl _ (by intro w; go_simp; try rfl)) ?_; dsimp only [putL, setNth]) | (refine wpV_step rfl rfl _ (growAt_idx _ _ _ rfl _ _ rfl rfl _ (by intro w; go_simp; try rfl)) ?_; dsimp only [putL, setNth]) | (refine wpV_step rfl rfl _ (growAt_extract _ _ rfl _ rfl _ rfl) ?_; dsimp only [putL, setNth]) | (refine wpV_step rfl rfl _ (growAt_pick _ _ _ rfl _ rfl _ _ rfl rfl) ?_; dsimp only [putL, setNth])) | (refine wpV_step rfl rfl _ (growAt_pure (by intro w; go_simp; try rfl)) ?_; dsimp only [putL, setNth]))
      refine wpV_nil ?_; clear hown; intro _ hown; simp only [List.nil_append, List.cons_append] at hown
      obtain ⟨v, hv⟩ : ∃ v, v = rminV (gi (rminN a b k).1 k) (gi b k) (rminN a b k).2 := ⟨_, rfl⟩
      have e0 : IntKind.i64.wrap (IntKind.i64.wrap (IntKind.i64.wrap (gi (rminN a b k).1 k) - IntKind.i64.wrap (gi b k)) - (rminN a b k).2) = v := hv.symm
      rw [e0]
      clear e0
      have HV := Lib.hid hv
      clear hv
      by_cases hneg : v < 0
      · go_wp2_with (first | (refine wpl_store_int hown rfl 5 _ _ rfl _ _ rfl _ _ rfl size_u8 2 _ _ rfl (by omega) ?_; clear hown; intro _ hown; dsimp only [putL]; simp only [List.set_cons_zero, List.set_cons_succ] at hown))
        have e1 : rminN a b (k + 1) = ((rminN a b k).1.set k (IntKind.u8.wrap (wrap64 (v + 256))), 1) := by
          simp only [rminN]
          rw [← HV.out, if_pos hneg]
        go_roundw
        case rel => exact ⟨k + 1, by omega, by go_num, by rw [e1], by rw [e1]; exact hown⟩
        case measure => simp [intOf]; omega
      · go_wp2_with (first | (refine wpl_store_int hown rfl 5 _ _ rfl _ _ rfl _ _ rfl size_u8 2 _ _ rfl (by omega) ?_; clear hown; intro _ hown; dsimp only [putL]; simp only [List.set_cons_zero, List.set_cons_succ] at hown))
        have e1 : rminN a b (k + 1) = ((rminN a b k).1.set k (IntKind.u8.wrap v), 0) := by
          simp only [rminN]
          rw [← HV.out, if_neg hneg]
        go_roundw
        case rel => exact ⟨k + 1, by omega, by go_num, by rw [e1], by rw [e1]; exact hown⟩
        case measure => simp [intOf]; omega
    · go_wp2_with (first | (refine wpl_load_row hown rfl 22 _ rfl _ rfl 2 _ _ rfl _ Try.underlying22 rfl (sz_b32 hNk) ?_; dsimp only [putL, setNth]) | (refine wpl_store_row hown rfl 22 _ _ rfl _ rfl _ rfl (ints_cell _ _) (sz_b32 hNk) 0 _ _ rfl (sz_eq (n := 32) rfl hNk) ?_; clear hown; intro _ hown; dsimp only [putL]; simp only [List.set_cons_zero, List.set_cons_succ] at hown))
      obtain rfl : k = 32 := by omega
      refine bodyPost_ret (results_own hown rfl _ rfl 0 _ _ rfl _ Try.underlying22 rfl (sz_b32 hNk)) rfl ⟨rfl, hown.below⟩

def rfromN (b : List Int) : Nat → List Int
  | 0 => List.replicate 16 0
  | k + 1 => (rfromN b k).set k (IntKind.i64.wrap (IntKind.i64.wrap (gi b (2 * k)) + IntKind.i64.wrap (256 * IntKind.i64.wrap (gi b (2 * k + 1)))))
theorem rfromN_length (b : List Int) : ∀ k, (rfromN b k).length = 16
  | 0 => rfl
  | k + 1 => by simp [rfromN, rfromN_length b k]
def rfromR (b : List Int) : List Int := (rfromN b 16).set 15 (bits .and .i64 (gi (rfromN b 16) 15) 32767)
set_option maxRecDepth 20000 in
set_option maxHeartbeats 800000 in
theorem rfrom_any (b : List Int) (hb : b.length = 32) (w : World) :
    Calls Try.prog 16 #[.agg (ints .u8 b)] w fun e w' => e = .returned (.agg (ints .i64 (rfromR b))) ∧ Below w.heap.size w w' := by
  have hown := Own.start w
  have hN := rfromN_length b
  go_enter Try.func16, Try.ntmps16
  have tok_b1 : True := trivial
  have tok_b2 : True := trivial
  have tok_b3 : True := trivial
  go_wp2_with (first | (have _t := tok_b1; refine wpl_box hown rfl _ _ rfl _ rfl ?_; clear hown _t tok_b1; intro b1 _ hown; dsimp only [putL, setNth]) | (have _t := tok_b2; refine wpl_alloc hown rfl _ rfl _ zero_num ?_; clear hown _t tok_b2; intro b2 _ hown; dsimp only [putL, setNth]) | (have _t := tok_b3; refine wpl_alloc hown rfl _ rfl _ zero_d16 ?_; clear hown _t tok_b3; intro b3 _ hown; dsimp only [putL, setNth]))
  go_loopw [4] (fun i wr => ∃ k : Nat, k ≤ 16 ∧ i = .int .i64 k ∧ Own w wr [(b3, ints .i64 (rfromN b k), 30), (b2, ints .i64 (List.replicate 16 0), 31), (b1, ints .u8 b, 22)]) (fun i _ => 16 - (intOf i).toNat)
  case atStart => exact ⟨0, by omega, rfl, hown⟩
  case round =>
    clear hown
    obtain ⟨k, hk, rfl, hown⟩ := hrel
    have hNk := hN k
    clear hN
    by_cases hlt : k < 16
    · have f1 : IntKind.i64.wrap (2 * (k : Int)) = 2 * (k : Int) := IntWalk.i64_in _ (by omega)
      have f2 : IntKind.i64.wrap (2 * (k : Int) + 1) = 2 * (k : Int) + 1 := IntWalk.i64_in _ (by omega)
      have f3 : (2 * (k : Int)).toNat = 2 * k := by omega
      have f4 : (2 * (k : Int) + 1).toNat = 2 * k + 1 := by omega
      have f5 : (0 : Int) ≤ 2 * (k : Int) := by omega
      have f6 : 2 * (k : Int) < 32 := by omega
      have f7 : (0 : Int) ≤ 2 * (k : Int) + 1 := by omega
      have f8 : 2 * (k : Int) + 1 < 32 := by omega
      have f9 : ((k : Int)).toNat = k := by omega
      have f10 : (0 : Int) ≤ (k : Int) := by omega
      have f11 : (k : Int) < 16 := by omega
      go_upto_region 5 with (fail)
      refine wp_region_grow 15 [0, 1, 2, 3, 4, 5, 6, 7, 8, 9, 10, 11, 12, 13, 14] (by kernel_rfl) (by kernel_rfl) hown ?_; simp only [List.filterMap_cons, List.filterMap_nil, List.getElem?_cons_zero, List.getElem?_cons_succ, List.drop_succ_cons, List.drop_zero]
      repeat (first | (refine wpV_step rfl rfl _ (growAt_load_int 5 _ rfl _ _ rfl _ Try.underlying5 2 _ _ rfl (by omega)) ?_; dsimp only [putL, setNth]) | (refine wpV_step rfl rfl _ (growAt_idxA 22 _ _ rfl _ _ rfl _ _ rfl _ _ Try.underlying22 _ size_u8 (by omega) (by omega) _ (by go_simp; try rfl)) ?_; dsimp only [putL, setNth]) | (refine wpV_step rfl rfl _ (growAt_idxA 30 _ _ rfl _ _ rfl _ _ rfl _ _ Try.underlying30 _ size_int (by omega) (by omega) _ (by go_simp; try rfl)) ?_; dsimp only [putL, setNth]) | (first | (refine wpV_step rfl rfl _ (growAt_move _ rfl _ rfl) ?_; dsimp only [putL, setNth, evL, nth]) | (refine wpV_step rfl rfl _ (growAt_assign _ rfl _ rfl) ?_; dsimp only [putL, setNth, evL, nth]) | (refine wpV_step rfl rfl _ (growAt_bits _ _ _ _ _ rfl (by decide) _ _ _ rfl rfl) ?_; dsimp only [putL, setNth]) | (refine wpV_step rfl rfl _ (growAt_bin _ _ _ _ _ rfl _ _ rfl rfl _ (by intro w; go_simp; try rfl)) ?_; dsimp only [putL, setNth]) | (refine wpV_step rfl rfl _ (growAt_un _ _ _ rfl _ rfl _ (by intro w; go_simp; try rfl)) ?_; dsimp only [putL, setNth]) | (refine wpV_step rfl rfl _ (growAt_conv _ _ _ rfl _ rfl _ (by intro w; go_simp; try rfl)) ?_; dsimp only [putL, setNth]) | (refine wpV_step rfl rfl _ (growAt_fld _ _ _ rfl _ rfl _ (by intro w; go_simp; try rfl)) ?_; dsimp only [putL, setNth]) | (refine wpV_step rfl rfl _ (growAt_idx _ _ _ rfl _ _ rfl rfl _ (by intro w; go_simp; try rfl)) ?_; dsimp only [putL, setNth]) | (refine wpV_step rfl rfl _ (growAt_extract _ _ rfl _ rfl _ rfl) ?_; dsimp only [putL, setNth]) | (refine wpV_step rfl rfl _ (growAt_pick _ _ _ rfl _ rfl _ _ rfl rfl) ?_; dsimp only [putL, setNth])) | (refine wpV_step rfl rfl _ (growAt_pure (by intro w; go_simp; try rfl)) ?_; dsimp only [putL, setNth]))
      refine wpV_nil ?_; clear hown; intro _ hown; simp only [List.nil_append, List.cons_append] at hown
      go_wp2_with (first | (refine wpl_store_int hown rfl 3 _ _ rfl _ _ rfl _ _ rfl size_int 0 _ _ rfl (by omega) ?_; clear hown; intro _ hown; dsimp only [putL]; simp only [List.set_cons_zero, List.set_cons_succ] at hown))
      go_roundw
      case rel => exact ⟨k + 1, by omega, by go_num, hown⟩
      case measure => simp [intOf]; omega
    · go_wp2_with (first | (refine wpl_load_int hown rfl 3 _ rfl _ _ rfl _ Try.underlying3 0 _ _ rfl (by omega) ?_; dsimp only [putL, setNth]) | (refine wpl_store_int hown rfl 3 _ _ rfl _ _ rfl _ _ rfl size_int 0 _ _ rfl (by omega) ?_; clear hown; intro _ hown; dsimp only [putL]; simp only [List.set_cons_zero, List.set_cons_succ] at hown) | (refine wpl_load_row hown rfl 30 _ rfl _ rfl 0 _ _ rfl _ Try.underlying30 rfl (sz_d16 (by simp [hNk])) ?_; dsimp only [putL, setNth]) | (refine wpl_store_row hown rfl 31 _ _ rfl _ rfl _ rfl (ints_cell _ _) (sz_num (by simp [hNk])) 1 _ _ rfl (sz_eq (n := 16) rfl (by simp [hNk])) ?_; clear hown; intro _ hown; dsimp only [putL]; simp only [List.set_cons_zero, List.set_cons_succ] at hown))
      obtain rfl : k = 16 := by omega
      refine bodyPost_ret (results_own hown rfl _ rfl 1 _ _ rfl _ Try.underlying31 rfl (sz_num (by simp [hNk]))) rfl ⟨rfl, hown.below⟩

end Go.Proofs.Ytmchkfganpgheaa
