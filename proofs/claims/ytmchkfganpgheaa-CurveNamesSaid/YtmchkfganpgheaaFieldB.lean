/-
  Swap, Bytes and Zero of elements: what the code computes.
-/
import Derived.Test.YtmchkfganpgheaaFieldA
import Derived.Test.YtmchkfganpgheaaRet2
namespace Go.Proofs.Ytmchkfganpgheaa
set_option linter.unusedSimpArgs false
set_option linter.unusedVariables false
open Go Go.RowKit


theorem results_own2 {P : Program} {w0 W : World} {bs : List (Nat × Array Value × TypeId)} (hown : Own w0 W bs) {fn : Func} {p p' : Tmp} {ty ty' : TypeId} (hr : fn.results = #[.cell p ty, .cell p' ty']) (tmps : Array Value)
    (b b' : Nat) (hp : tmps.getD p undef = .pointer (some ⟨b, 0, none⟩)) (hp' : tmps.getD p' undef = .pointer (some ⟨b', 0, none⟩))
    (i i' : Nat) (A A' : Array Value) (T T' : TypeId) (hi : bs[i]? = some (b, A, T)) (hi' : bs[i']? = some (b', A', T'))
    (d d' : TypeDesc) (hu : P.underlying ty = some d) (hu' : P.underlying ty' = some d') (hd : (match d with | .struct _ | .array _ _ => true | _ => false) = true) (hd' : (match d' with | .struct _ | .array _ _ => true | _ => false) = true)
    (hs : (P.info? ty).map (·.size) = some A.size) (hs' : (P.info? ty').map (·.size) = some A'.size) :
    (results fn tmps).run P W = .ok (.tuple #[.agg A, .agg A']) W := by
  have h1 := run_loadVar_row (P := P) W b T ty A (0, 0) d (hown.block i hi) hu hd hs
  have h2 := run_loadVar_row (P := P) W b' T' ty' A' (0, 0) d' (hown.block i' hi') hu' hd' hs'
  have e1 : tmps[p]?.getD undef = .pointer (some ⟨b, 0, none⟩) := by simpa using hp
  have e2 : tmps[p']?.getD undef = .pointer (some ⟨b', 0, none⟩) := by simpa using hp'
  simp [results, hr, e1, e2, asAddr, h1, h2]

/-- The mask of a bit. -/
def swapM (bit : Int) : Int := IntKind.u64.wrap (-(IntKind.u64.wrap (bits .and .i64 bit 1)))
def swapN (a b : List Int) (m : Int) : Nat → List Int × List Int
  | 0 => (a, b)
  | k + 1 =>
    let p := swapN a b m k
    let x := bits .and .u64 m (bits .xor .u64 (gi p.1 k) (gi p.2 k))
    (p.1.set k (bits .xor .u64 (gi p.1 k) x), p.2.set k (bits .xor .u64 (gi p.2 k) x))
theorem swapN_length (a b : List Int) (m : Int) (ha : a.length = 5) (hb : b.length = 5) : ∀ k, (swapN a b m k).1.length = 5 ∧ (swapN a b m k).2.length = 5
  | 0 => ⟨ha, hb⟩
  | k + 1 => by have := swapN_length a b m ha hb k; simp [swapN, this]
set_option maxRecDepth 20000 in
set_option maxHeartbeats 400000 in
theorem swap_any (a b : List Int) (bit : Int) (ha : a.length = 5) (hb : b.length = 5) (w : World) :
    Calls Try.prog 14 #[.agg (ints .u64 a), .agg (ints .u64 b), .int .i64 bit] w fun e w' => e = .returned (.tuple #[.agg (ints .u64 (swapN a b (swapM bit) 5).1), .agg (ints .u64 (swapN a b (swapM bit) 5).2)]) ∧ Below w.heap.size w w' := by
  have hown := Own.start w
  have hsl := swapN_length a b (swapM bit) ha hb
  obtain ⟨sw, hsw⟩ : ∃ sw, sw = swapN a b (swapM bit) := ⟨_, rfl⟩
  go_enter Try.func14, Try.ntmps14
  have tok_b1 : True := trivial
  have tok_b2 : True := trivial
  have tok_b3 : True := trivial
  have tok_b4 : True := trivial
  go_wp2_with (first | (have _t := tok_b1; refine wpl_box hown rfl _ _ rfl _ rfl ?_; clear hown _t tok_b1; intro b1 _ hown; dsimp only [putL, setNth]) | (have _t := tok_b2; refine wpl_box hown rfl _ _ rfl _ rfl ?_; clear hown _t tok_b2; intro b2 _ hown; dsimp only [putL, setNth]) | (have _t := tok_b3; refine wpl_alloc hown rfl _ rfl _ zero_elem ?_; clear hown _t tok_b3; intro b3 _ hown; dsimp only [putL, setNth]) | (have _t := tok_b4; refine wpl_alloc hown rfl _ rfl _ zero_elem ?_; clear hown _t tok_b4; intro b4 _ hown; dsimp only [putL, setNth]))
  go_loopw [15] (fun i wr => ∃ k : Nat, k ≤ 5 ∧ i = .int .i64 k ∧ Own w wr [(b4, ints .u64 (List.replicate 5 0), 26), (b3, ints .u64 (List.replicate 5 0), 26), (b2, ints .u64 (swapN a b (swapM bit) k).2, 26), (b1, ints .u64 (swapN a b (swapM bit) k).1, 26)]) (fun i _ => 5 - (intOf i).toNat)
  case atStart => exact ⟨0, by omega, rfl, hown⟩
  case round =>
    clear hown
    obtain ⟨k, hk, rfl, hown⟩ := hrel
    have hl := hsl k
    by_cases hlt : k < 5
    · go_upto_region 5 with (fail)
      
      refine wp_region_grow 11 [0, 1, 2, 3, 4, 5, 6, 7, 8, 9, 10] (by kernel_rfl) (by kernel_rfl) hown ?_; simp only [List.filterMap_cons, List.filterMap_nil, List.getElem?_cons_zero, List.getElem?_cons_succ, List.drop_succ_cons, List.drop_zero]
      repeat (first | (first | (refine wpV_step rfl rfl _ (growAt_load_int 23 _ rfl _ _ rfl _ Try.underlying23 2 _ _ rfl (by omega)) ?_; dsimp only [putL, setNth]) | (refine wpV_step rfl rfl _ (growAt_load_int 23 _ rfl _ _ rfl _ Try.underlying23 3 _ _ rfl (by omega)) ?_; dsimp only [putL, setNth])) | (first | (refine wpV_step rfl rfl _ (growAt_move _ rfl _ rfl) ?_; dsimp only [putL, setNth, evL, nth]) | (refine wpV_step rfl rfl _ (growAt_assign _ rfl _ rfl) ?_; dsimp only [putL, setNth, evL, nth]) | (refine wpV_step rfl rfl _ (growAt_bits _ _ _ _ _ rfl (by decide) _ _ _ rfl rfl) ?_; dsimp only [putL, setNth]) | (refine wpV_step rfl rfl _ (growAt_bin _ _ _ _ _ rfl _ _ rfl rfl _ (by intro w; go_simp; try rfl)) ?_; dsimp only [putL, setNth]) | (refine wpV_step rfl rfl _ (growAt_un _ _ _ rfl _ rfl _ (by intro w; go_simp; try rfl)) ?_; dsimp only [putL, setNth]) | (refine wpV_step rfl rfl _ (growAt_conv _ _ _ rfl _ rfl _ (by intro w; go_simp; try rfl)) ?_; dsimp only [putL, setNth]) | (refine wpV_step rfl rfl _ (growAt_fld _ _ _ rfl _ rfl _ (by intro w; go_simp; try rfl)) ?_; dsimp only [putL, setNth]) | (refine wpV_step rfl rfl _ (growAt_idx _ _ _ rfl _ _ rfl rfl _ (by intro w; go_simp; try rfl)) ?_; dsimp only [putL, setNth]) | (refine wpV_step rfl rfl _ (growAt_extract _ _ rfl _ rfl _ rfl) ?_; dsimp only [putL, setNth]) | (refine wpV_step rfl rfl _ (growAt_pick _ _ _ rfl _ rfl _ _ rfl rfl) ?_; dsimp only [putL, setNth])) | (refine wpV_step rfl rfl _ (growAt_pure (by intro w; go_simp; try rfl)) ?_; dsimp only [putL, setNth]))
      refine wpV_nil ?_; clear hown; intro _ hown; simp only [List.nil_append, List.cons_append] at hown
      go_wp2_with (first | (first | (refine wpl_load_int hown rfl 23 _ rfl _ _ rfl _ Try.underlying23 2 _ _ rfl (by omega) ?_; dsimp only [putL, setNth]) | (refine wpl_load_int hown rfl 23 _ rfl _ _ rfl _ Try.underlying23 3 _ _ rfl (by omega) ?_; dsimp only [putL, setNth])) | (first | (refine wpl_store_int hown rfl 23 _ _ rfl _ _ rfl _ _ rfl size_u64 2 _ _ rfl (by omega) ?_; clear hown; intro _ hown; dsimp only [putL]; simp only [List.set_cons_zero, List.set_cons_succ] at hown) | (refine wpl_store_int hown rfl 23 _ _ rfl _ _ rfl _ _ rfl size_u64 3 _ _ rfl (by omega) ?_; clear hown; intro _ hown; dsimp only [putL]; simp only [List.set_cons_zero, List.set_cons_succ] at hown)))
      go_roundw
      case rel => exact ⟨k + 1, by omega, by go_num, hown⟩
      case measure => simp [intOf]; omega
    · obtain rfl : k = 5 := by omega
      go_upto_region 9 with (fail)
      refine wp_region_ret2 (by kernel_rfl) (by kernel_rfl) hown ⟨rfl, rfl, rfl, rfl⟩ _ _ _ _ _ _ _ _ _ _ rfl rfl rfl rfl _ _ _ _ 3 2 1 0 (by decide) _ _ _ _ _ _ _ _ rfl rfl rfl rfl rfl rfl rfl rfl rfl rfl _ _ Try.underlying26 Try.underlying26 rfl rfl (sz_elem (by omega)) (sz_elem (by omega)) (sz_elem (by omega)) (sz_elem (by omega)) (sz_eq (n := 5) (by simp) (by omega)) (sz_eq (n := 5) (by simp) (by omega)) (ints_cell _ _) (ints_cell _ _) (fun _ _ _ h => h) (fun _ _ _ h => h) ?_; clear hown; intro _ hown; dsimp only [putL]; simp only [List.set_cons_zero, List.set_cons_succ] at hown
      go_wp2_with (first | fail)
      exact bodyPost_ret (results_own2 hown rfl _ _ _ rfl rfl 1 0 _ _ _ _ rfl rfl _ _ Try.underlying26 Try.underlying26 rfl rfl (sz_elem (by omega)) (sz_elem (by omega))) rfl ⟨rfl, hown.below⟩

/-- How often p is in it: carried through the limbs. -/
def quotN (l : List Int) : Nat → Int
  | 0 => 19
  | k + 1 => IntKind.u64.wrap (gi l k + quotN l k) / 2251799813685248
/-- The limbs cut, with what is carried. -/
def cutN (l : List Int) (c : Int) : Nat → List Int × Int
  | 0 => (l, c)
  | k + 1 =>
    let p := cutN l c k
    let l1 := p.1.set k (IntKind.u64.wrap (gi p.1 k + p.2))
    (l1.set k (bits .and .u64 (gi l1 k) 2251799813685247), gi l1 k / 2251799813685248)
theorem cutN_length (l : List Int) (c : Int) (hl : l.length = 5) : ∀ k, (cutN l c k).1.length = 5
  | 0 => hl
  | k + 1 => by simp [cutN, cutN_length l c hl k]
/-- The bytes of the first k bits. -/
def outN (l : List Int) : Nat → List Int
  | 0 => List.replicate 32 0
  | k + 1 => (outN l k).set (k / 8) (bits .or .u8 (gi (outN l k) (k / 8))
      (IntKind.u8.wrap (IntKind.u8.wrap (bits .and .u64 ((gi l (k / 51)).fdiv (2 ^ min ((k : Int).tmod 51).toNat 64)) 1) * 2 ^ min ((k : Int).tmod 8).toNat 8)))
theorem outN_length (l : List Int) : ∀ k, (outN l k).length = 32
  | 0 => rfl
  | k + 1 => by simp [outN, outN_length l k]
def bytesC (a : List Int) : List Int := carriedL (carriedL a)
def bytesL (a : List Int) : List Int := (cutN (bytesC a) (IntKind.u64.wrap (19 * quotN (bytesC a) 5)) 5).1
theorem bytesC_length (a : List Int) : (bytesC a).length = 5 := rfl
theorem bytesL_length (a : List Int) : (bytesL a).length = 5 := cutN_length _ _ (bytesC_length a) 5
def bytesR (a : List Int) : List Int := outN (bytesL a) 255
theorem bytesR_length (a : List Int) : (bytesR a).length = 32 := outN_length _ _
set_option maxRecDepth 20000 in
set_option maxHeartbeats 800000 in
theorem bytes_any (a : List Int) (ha : a.length = 5) (w : World) :
    Calls Try.prog 26 #[.agg (ints .u64 a)] w fun e w' => e = .returned (.agg (ints .u8 (bytesR a))) ∧ Below w.heap.size w w' := by
  have hown := Own.start w
  go_enter Try.func26, Try.ntmps26
  have tok_b1 : True := trivial
  have tok_b2 : True := trivial
  have tok_b3 : True := trivial
  go_wp2_with (first | (have _t := tok_b1; refine wpl_box hown rfl _ _ rfl _ rfl ?_; clear hown _t tok_b1; intro b1 _ hown; dsimp only [putL, setNth]) | (have _t := tok_b2; refine wpl_alloc hown rfl _ rfl _ zero_b32 ?_; clear hown _t tok_b2; intro b2 _ hown; dsimp only [putL, setNth]) | (have _t := tok_b3; refine wpl_alloc hown rfl _ rfl _ zero_l5 ?_; clear hown _t tok_b3; intro b3 _ hown; dsimp only [putL, setNth]) | (first | (refine wpl_load_row hown rfl 24 _ rfl _ rfl 0 _ _ rfl _ Try.underlying24 rfl (sz_l5 rfl) ?_; dsimp only [putL, setNth]) | (refine wpl_load_row hown rfl 24 _ rfl _ rfl 1 _ _ rfl _ Try.underlying24 rfl (sz_l5 ha) ?_; dsimp only [putL, setNth])) | (refine wpl_field rfl 26 _ _ rfl _ _ rfl _ Try.underlying26 _ rfl _ Try.underlying24 rfl 5 info_l5 _ rfl ?_; dsimp only [putL, setNth]) | (go_at_call 42; refine (carried_any _ (by first | exact ha | rfl) _).mono ?_; rintro e w' ⟨rfl, hb⟩; replace hown := hown.grow hb; clear hb) | (refine wpl_store_row hown rfl 24 _ _ rfl _ rfl (ints .u64 (bytesC a)) rfl (ints_cell _ _) (sz_l5 rfl) 0 _ _ rfl (rfl) ?_; clear hown; intro _ hown; dsimp only [putL]; simp only [List.set_cons_zero, List.set_cons_succ] at hown))
  go_loopw [4, 17] (fun q i wr => ∃ k : Nat, k ≤ 5 ∧ i = .int .i64 k ∧ q = .int .u64 (quotN (bytesC a) k) ∧ Own w wr [(b3, ints .u64 (bytesC a), 24), (b2, ints .u8 (List.replicate 32 0), 22), (b1, ints .u64 a, 26)]) (fun _ i _ => 5 - (intOf i).toNat)
  case atStart => exact ⟨0, by omega, rfl, rfl, hown⟩
  case round =>
    clear hown
    obtain ⟨k, hk, rfl, rfl, hown⟩ := hrel
    by_cases hlt : k < 5
    · go_wp2_with (first | (refine wpl_index rfl 24 _ _ rfl _ _ rfl _ _ rfl _ _ _ Try.underlying24 Try.underlying23 size_u64 (rfl) (by omega) (by omega) ?_; dsimp only [putL, setNth]))
      go_roundw
      case rel => exact ⟨k + 1, by omega, by go_num, rfl, hown⟩
      case measure => simp [intOf]; omega
    · obtain rfl : k = 5 := by omega
      clear hk hlt
      go_wp2_with (first | fail)
      go_loopw [7, 27] (fun c i wr => ∃ k : Nat, k ≤ 5 ∧ i = .int .i64 k ∧ c = .int .u64 (cutN (bytesC a) (IntKind.u64.wrap (19 * quotN (bytesC a) 5)) k).2 ∧ Own w wr [(b3, ints .u64 (cutN (bytesC a) (IntKind.u64.wrap (19 * quotN (bytesC a) 5)) k).1, 24), (b2, ints .u8 (List.replicate 32 0), 22), (b1, ints .u64 a, 26)]) (fun _ i _ => 5 - (intOf i).toNat)
      case atStart => exact ⟨0, by omega, rfl, rfl, hown⟩
      case round =>
        clear hown
        obtain ⟨k, hk, rfl, rfl, hown⟩ := hrel
        have hl := cutN_length (bytesC a) (IntKind.u64.wrap (19 * quotN (bytesC a) 5)) rfl k
        by_cases hlt : k < 5
        · go_wp2_with (first | (refine wpl_load_int hown rfl 23 _ rfl _ _ rfl _ Try.underlying23 0 _ _ rfl (by simp [hl, hlt]) ?_; dsimp only [putL, setNth]) | (refine wpl_store_int hown rfl 23 _ _ rfl _ _ rfl _ _ rfl size_u64 0 _ _ rfl (by simp [hl, hlt]) ?_; clear hown; intro _ hown; dsimp only [putL]; simp only [List.set_cons_zero, List.set_cons_succ] at hown))
          go_roundw
          case rel => exact ⟨k + 1, by omega, by go_num, rfl, hown⟩
          case measure => simp [intOf]; omega
        · obtain rfl : k = 5 := by omega
          clear hk hlt hl
          go_wp2_with (first | fail)
          go_loopw [46] (fun i wr => ∃ k : Nat, k ≤ 255 ∧ i = .int .i64 k ∧ Own w wr [(b3, ints .u64 (bytesL a), 24), (b2, ints .u8 (outN (bytesL a) k), 22), (b1, ints .u64 a, 26)]) (fun i _ => 255 - (intOf i).toNat)
          case atStart => exact ⟨0, by omega, rfl, hown⟩
          case round =>
            clear hown
            obtain ⟨k, hk, rfl, hown⟩ := hrel
            by_cases hlt : k < 255
            · have f1 : IntKind.i64.wrap ((k : Int) / 51) = (k : Int) / 51 := IntWalk.i64_in _ (by omega)
              have f2 : IntKind.i64.wrap ((k : Int) / 8) = (k : Int) / 8 := IntWalk.i64_in _ (by omega)
              have f3 : ((k : Int) / 51).toNat = k / 51 := by omega
              have f4 : ((k : Int) / 8).toNat = k / 8 := by omega
              have f5 : (0 : Int) ≤ (k : Int) / 51 := by omega
              have f6 : (k : Int) / 51 < 5 := by omega
              have f7 : (0 : Int) ≤ (k : Int) / 8 := by omega
              have f8 : (k : Int) / 8 < 32 := by omega
              go_upto_region 19 with (fail)
              refine wp_region_grow 18 [0, 1, 2, 3, 4, 5, 6, 7, 8, 9, 10, 11, 12, 13, 14, 15, 16, 17] (by kernel_rfl) (by kernel_rfl) hown ?_; simp only [List.filterMap_cons, List.filterMap_nil, List.getElem?_cons_zero, List.getElem?_cons_succ, List.drop_succ_cons, List.drop_zero]
              repeat (first | (refine wpV_step rfl rfl _ (growAt_load_int 23 _ rfl _ _ rfl _ Try.underlying23 0 _ _ rfl (by rw [bytesL_length]; omega)) ?_; dsimp only [putL, setNth]) | (refine wpV_step rfl rfl _ (growAt_load_int 5 _ rfl _ _ rfl _ Try.underlying5 1 _ _ rfl (by rw [outN_length]; omega)) ?_; dsimp only [putL, setNth]) | (first | (refine wpV_step rfl rfl _ (growAt_move _ rfl _ rfl) ?_; dsimp only [putL, setNth, evL, nth]) | (refine wpV_step rfl rfl _ (growAt_assign _ rfl _ rfl) ?_; dsimp only [putL, setNth, evL, nth]) | (refine wpV_step rfl rfl _ (growAt_bits _ _ _ _ _ rfl (by decide) _ _ _ rfl rfl) ?_; dsimp only [putL, setNth]) | (refine wpV_step rfl rfl _ (growAt_bin _ _ _ _ _ rfl _ _ rfl rfl _ (by intro w; go_simp; try rfl)) ?_; dsimp only [putL, setNth]) | (refine wpV_step rfl rfl _ (growAt_un _ _ _ rfl _ rfl _ (by intro w; go_simp; try rfl)) ?_; dsimp only [putL, setNth]) | (refine wpV_step rfl rfl _ (growAt_conv _ _ _ rfl _ rfl _ (by intro w; go_simp; try rfl)) ?_; dsimp only [putL, setNth]) | (refine wpV_step rfl rfl _ (growAt_fld _ _ _ rfl _ rfl _ (by intro w; go_simp; try rfl)) ?_; dsimp only [putL, setNth]) | (refine wpV_step rfl rfl _ (growAt_idx _ _ _ rfl _ _ rfl rfl _ (by intro w; go_simp; try rfl)) ?_; dsimp only [putL, setNth]) | (refine wpV_step rfl rfl _ (growAt_extract _ _ rfl _ rfl _ rfl) ?_; dsimp only [putL, setNth]) | (refine wpV_step rfl rfl _ (growAt_pick _ _ _ rfl _ rfl _ _ rfl rfl) ?_; dsimp only [putL, setNth])) | (refine wpV_step rfl rfl _ (growAt_pure (by intro w; go_simp; try rfl)) ?_; dsimp only [putL, setNth]))
              refine wpV_nil ?_; clear hown; intro _ hown; simp only [List.nil_append, List.cons_append] at hown
              go_wp2_with (first | (refine wpl_store_int hown rfl 5 _ _ rfl _ _ rfl _ _ rfl size_u8 1 _ _ rfl (by rw [outN_length]; omega) ?_; clear hown; intro _ hown; dsimp only [putL]; simp only [List.set_cons_zero, List.set_cons_succ] at hown))
              go_roundw
              case rel => exact ⟨k + 1, by omega, by go_num, hown⟩
              case measure => simp [intOf]; omega
            · obtain rfl : k = 255 := by omega
              clear hk hlt
              go_wp2_with (first | (refine wpl_load_row hown rfl 22 _ rfl _ rfl 1 _ _ rfl _ Try.underlying22 rfl (sz_b32 (outN_length _ _)) ?_; dsimp only [putL, setNth]) | (refine wpl_store_row hown rfl 22 _ _ rfl _ rfl _ rfl (ints_cell _ _) (sz_b32 (outN_length _ _)) 1 _ _ rfl (rfl) ?_; clear hown; intro _ hown; dsimp only [putL]; simp only [List.set_cons_zero, List.set_cons_succ] at hown))
              refine bodyPost_ret (results_own hown rfl _ rfl 1 _ _ rfl _ Try.underlying22 rfl (sz_b32 (outN_length _ _))) rfl ⟨rfl, hown.below⟩

theorem zero_any (a : List Int) (ha : a.length = 5) (w : World) :
    Calls Try.prog 28 #[.agg (ints .u64 a)] w fun e w' => e = .returned (.bool (decide (bytesR a = List.replicate 32 0))) ∧ Below w.heap.size w w' := by
  have hown := Own.start w
  go_enter Try.func28, Try.ntmps28
  go_wp2_with (first | (refine wpl_box hown rfl _ _ rfl _ rfl ?_; clear hown; intro _ _ hown; dsimp only [putL, setNth]) | (refine wpl_load_row hown rfl 26 _ rfl _ rfl 0 _ _ rfl _ Try.underlying26 rfl (sz_elem ha) ?_; dsimp only [putL, setNth]) | (refine wpl_eql rfl 22 _ _ _ rfl _ _ (List.replicate 32 0) rfl rfl 5 _ _ Try.underlying22 Try.underlying5 size_u8 (by kernel_rfl) (bytesR_length _) (by rfl) ?_; dsimp only [putL, setNth]) | (go_at_call 26; refine (bytes_any _ ha _).mono ?_; rintro e w' ⟨rfl, hb⟩; replace hown := hown.grow hb; clear hb))
  go_ret
  exact ⟨rfl, hown.below⟩

end Go.Proofs.Ytmchkfganpgheaa
