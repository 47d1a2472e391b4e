/-
  The nonce of a number: both sides.
-/
import Derived.Test.YtgeflkgnabmacaaAwake
namespace Go.Proofs.Ytgeflkgnabmacaa
set_option linter.unusedSimpArgs false
set_option linter.unusedVariables false
open Go Go.RowKit


theorem results_cell_tmp {P : Program} {w0 W : World} {bs : List (Nat × Array Value × TypeId)} (hown : Own w0 W bs) {fn : Func} {p q : Tmp} {ty : TypeId} (hr : fn.results = #[.cell p ty, .tmp q]) (tmps : Array Value)
    (b : Nat) (hp : tmps.getD p undef = .pointer (some ⟨b, 0, none⟩)) (v : Value) (hq : tmps.getD q undef = v)
    (i : Nat) (A : Array Value) (T : TypeId) (hi : bs[i]? = some (b, A, T))
    (d : TypeDesc) (hu : P.underlying ty = some d) (hd : (match d with | .struct _ | .array _ _ => true | _ => false) = true)
    (hs : (P.info? ty).map (·.size) = some A.size) :
    (results fn tmps).run P W = .ok (.tuple #[.agg A, v]) W := by
  have h1 := run_loadVar_row (P := P) W b T ty A (0, 0) d (hown.block i hi) hu hd hs
  have e1 : tmps[p]?.getD undef = .pointer (some ⟨b, 0, none⟩) := by simpa using hp
  have e2 : tmps[q]?.getD undef = v := by simpa using hq
  simp [results, hr, e1, e2, asAddr, h1]

theorem info_n12 : (Try.prog.info? 26).map (·.size) = some 12 := by kernel_rfl
theorem zero_n12 : (Try.prog.info? 26).map (·.zero) = some (some (.agg (ints .u8 (List.replicate 12 0)))) := by kernel_rfl
theorem sz_n12 {k : IntKind} {L : List Int} (h : L.length = 12) : (Try.prog.info? 26).map (·.size) = some (ints k L).size := by rw [ints_size, h]; exact info_n12

def nonN (n : Int) : Nat → List Int
  | 0 => List.replicate 12 0
  | k + 1 => (nonN n k).set (4 + k) (IntKind.u8.wrap (n / 2 ^ (8 * k)))
theorem nonN_length (n : Int) : ∀ k, (nonN n k).length = 12
  | 0 => rfl
  | k + 1 => by simp [nonN, nonN_length n k]
def nonceL (n : Int) : List Int := if 0 ≤ n ∧ n ≤ 9007199254740991 then nonN n 8 else List.replicate 12 0
def nonceE (n : Int) : Int := if 0 ≤ n ∧ n ≤ 9007199254740991 then 0 else 9
set_option maxHeartbeats 800000 in
theorem nonce_any (n : Int) (hn : -9223372036854775808 ≤ n ∧ n ≤ 9223372036854775807) (w : World) :
    Calls Try.prog 17 #[.int .i64 n] w fun e w' => e = .returned (.tuple #[.agg (ints .u8 (nonceL n)), .int .i64 (nonceE n)]) ∧ Below w.heap.size w w' := by
  have hown := Own.start w
  have hN := nonN_length n
  unfold nonceL nonceE
  go_enter Try.func17, Try.ntmps17

  have tok_b1 : True := trivial
  by_cases hg : 0 ≤ n ∧ n ≤ 9007199254740991
  · rw [if_pos hg, if_pos hg]
    obtain ⟨h0, h1⟩ := hg
    have h2 : ¬ n < 0 := by omega
    have h3 : ¬ n > 9007199254740991 := by omega
    go_wp2_with (first | ((with_reducible show wpList _ _ _ (⟨_, _, _, _, _, some _⟩ :: _) _ _); refine wpl_unguard _ rfl (by rfl) ?_; dsimp only) | ((with_reducible show wpList _ _ _ (⟨_, .alloc _, _, _, _, _⟩ :: _) _ _); have _t := tok_b1; refine wpl_alloc hown rfl _ rfl _ zero_n12 ?_; clear hown _t tok_b1; intro b1 _ hown; dsimp only [putL, setNth]))
    go_loopw [0, 4] (fun x i wr => ∃ k : Nat, k ≤ 8 ∧ i = .int .i64 (4 + (k : Int)) ∧ x = .int .i64 (n / 2 ^ (8 * k)) ∧ Own w wr [(b1, ints .u8 (nonN n k), 26)]) (fun _ i _ => 12 - (intOf i).toNat)
    case atStart => exact ⟨0, by omega, rfl, by simp, hown⟩
    case round =>
      clear hown
      obtain ⟨k, hk, rfl, rfl, hown⟩ := hrel
      have hNk := hN k
      clear hN
      by_cases hlt : k < 8
      · have f1 : (4 + (k : Int)).toNat = 4 + k := by omega
        have f2 : (0 : Int) ≤ 4 + (k : Int) := by omega
        have f3 : 4 + (k : Int) < 12 := by omega
        have f4 : IntKind.i64.wrap (4 + (k : Int) + 1) = 4 + (k : Int) + 1 := IntWalk.i64_in _ (by omega)
        go_wp2_with (first | ((with_reducible show wpList _ _ _ (⟨_, .store _ _ _, _, _, _, _⟩ :: _) _ _); refine wpl_store_int hown rfl 5 _ _ rfl _ _ rfl _ _ rfl size_u8 0 _ _ rfl (by omega) ?_; clear hown; intro _ hown; dsimp only [putL]; simp only [List.set_cons_zero, List.set_cons_succ] at hown))
        go_roundw
        case rel => exact ⟨k + 1, by omega, by go_num, by rw [show 8 * (k + 1) = 8 * k + 8 by omega, Int.pow_add, ← Int.ediv_ediv_of_nonneg (Int.le_of_lt (pow_pos' (by omega) _))]; rfl, hown⟩
        case measure => simp [intOf]; omega
      · obtain rfl : k = 8 := by omega
        go_wp2_with (first | ((with_reducible show wpList _ _ _ (⟨_, .load _ _, _, _, _, _⟩ :: _) _ _); refine wpl_load_row hown rfl 26 _ rfl _ rfl 0 _ _ rfl _ Try.underlying26 rfl (sz_n12 hNk) ?_; dsimp only [putL, setNth]) | ((with_reducible show wpList _ _ _ (⟨_, .store _ _ _, _, _, _, _⟩ :: _) _ _); refine wpl_store_row hown rfl 26 _ _ rfl _ rfl _ rfl (ints_cell _ _) (sz_n12 hNk) 0 _ _ rfl (by rfl) ?_; clear hown; intro _ hown; dsimp only [putL]; simp only [List.set_cons_zero, List.set_cons_succ] at hown))
        refine bodyPost_ret (results_cell_tmp hown rfl _ _ rfl _ rfl 0 _ _ rfl _ Try.underlying26 rfl (sz_n12 hNk)) rfl ⟨rfl, hown.below⟩
  · rw [if_neg hg, if_neg hg]
    by_cases hneg : n < 0
    · go_wp2_with (first | ((with_reducible show wpList _ _ _ (⟨_, _, _, _, _, some _⟩ :: _) _ _); refine wpl_unguard _ rfl (by rfl) ?_; dsimp only) | ((with_reducible show wpList _ _ _ (⟨_, .alloc _, _, _, _, _⟩ :: _) _ _); have _t := tok_b1; refine wpl_alloc hown rfl _ rfl _ zero_n12 ?_; clear hown _t tok_b1; intro b1 _ hown; dsimp only [putL, setNth]) | ((with_reducible show wpList _ _ _ (⟨_, .load _ _, _, _, _, _⟩ :: _) _ _); refine wpl_load_row hown rfl 26 _ rfl _ rfl 0 _ _ rfl _ Try.underlying26 rfl (sz_n12 (by simp)) ?_; dsimp only [putL, setNth]) | ((with_reducible show wpList _ _ _ (⟨_, .store _ _ _, _, _, _, _⟩ :: _) _ _); refine wpl_store_row hown rfl 26 _ _ rfl _ rfl _ rfl (ints_cell _ _) (sz_n12 (by simp)) 0 _ _ rfl (by rfl) ?_; clear hown; intro _ hown; dsimp only [putL]; simp only [List.set_cons_zero, List.set_cons_succ] at hown))
      refine bodyPost_ret (results_cell_tmp hown rfl _ _ rfl _ rfl 0 _ _ rfl _ Try.underlying26 rfl (sz_n12 (by simp))) rfl ⟨rfl, hown.below⟩
    · have hbig : n > 9007199254740991 := by omega
      go_wp2_with (first | ((with_reducible show wpList _ _ _ (⟨_, _, _, _, _, some _⟩ :: _) _ _); refine wpl_unguard _ rfl (by rfl) ?_; dsimp only) | ((with_reducible show wpList _ _ _ (⟨_, .alloc _, _, _, _, _⟩ :: _) _ _); have _t := tok_b1; refine wpl_alloc hown rfl _ rfl _ zero_n12 ?_; clear hown _t tok_b1; intro b1 _ hown; dsimp only [putL, setNth]) | ((with_reducible show wpList _ _ _ (⟨_, .load _ _, _, _, _, _⟩ :: _) _ _); refine wpl_load_row hown rfl 26 _ rfl _ rfl 0 _ _ rfl _ Try.underlying26 rfl (sz_n12 (by simp)) ?_; dsimp only [putL, setNth]) | ((with_reducible show wpList _ _ _ (⟨_, .store _ _ _, _, _, _, _⟩ :: _) _ _); refine wpl_store_row hown rfl 26 _ _ rfl _ rfl _ rfl (ints_cell _ _) (sz_n12 (by simp)) 0 _ _ rfl (by rfl) ?_; clear hown; intro _ hown; dsimp only [putL]; simp only [List.set_cons_zero, List.set_cons_succ] at hown))
      refine bodyPost_ret (results_cell_tmp hown rfl _ _ rfl _ rfl 0 _ _ rfl _ Try.underlying26 rfl (sz_n12 (by simp))) rfl ⟨rfl, hown.below⟩

set_option maxHeartbeats 800000 in
theorem rnonce_any (n : Int) (hn : -9223372036854775808 ≤ n ∧ n ≤ 9223372036854775807) (w : World) :
    Calls Try.prog 18 #[.int .i64 n] w fun e w' => e = .returned (.tuple #[.agg (ints .u8 (nonceL n)), .int .i64 (nonceE n)]) ∧ Below w.heap.size w w' := by
  have hown := Own.start w
  have hN := nonN_length n
  unfold nonceL nonceE
  go_enter Try.func18, Try.ntmps18

  have tok_b1 : True := trivial
  have tok_b2 : True := trivial
  by_cases hg : 0 ≤ n ∧ n ≤ 9007199254740991
  · rw [if_pos hg, if_pos hg]
    obtain ⟨h0, h1⟩ := hg
    have h2 : ¬ n < 0 := by omega
    have h3 : ¬ n > 9007199254740991 := by omega
    go_wp2_with (first | ((with_reducible show wpList _ _ _ (⟨_, _, _, _, _, some _⟩ :: _) _ _); refine wpl_unguard _ rfl (by rfl) ?_; dsimp only) | ((with_reducible show wpList _ _ _ (⟨_, .alloc _, _, _, _, _⟩ :: _) _ _); have _t := tok_b1; refine wpl_alloc hown rfl _ rfl _ zero_n12 ?_; clear hown _t tok_b1; intro b1 _ hown; dsimp only [putL, setNth]) | ((with_reducible show wpList _ _ _ (⟨_, .alloc _, _, _, _, _⟩ :: _) _ _); have _t := tok_b2; refine wpl_alloc hown rfl _ rfl _ zero_n12 ?_; clear hown _t tok_b2; intro b2 _ hown; dsimp only [putL, setNth]))
    go_loopw [5] (fun i wr => ∃ k : Nat, k ≤ 8 ∧ i = .int .i64 k ∧ Own w wr [(b2, ints .u8 (nonN n k), 26), (b1, ints .u8 (List.replicate 12 0), 26)]) (fun i _ => 12 - (intOf i).toNat)
    case atStart => exact ⟨0, by omega, rfl, hown⟩
    case round =>
      clear hown
      obtain ⟨k, hk, rfl, hown⟩ := hrel
      have hNk := hN k
      clear hN
      by_cases hlt : k < 8
      · have f1 : (4 + (k : Int)).toNat = 4 + k := by omega
        have f2 : (0 : Int) ≤ 4 + (k : Int) := by omega
        have f3 : 4 + (k : Int) < 12 := by omega
        have f4 : IntKind.i64.wrap (4 + (k : Int)) = 4 + (k : Int) := IntWalk.i64_in _ (by omega)
        have f5 : IntKind.i64.wrap (8 * (k : Int)) = 8 * (k : Int) := IntWalk.i64_in _ (by omega)
        have f6 : (8 * (k : Int)).toNat = 8 * k := by omega
        have f7 : (0 : Int) ≤ 8 * (k : Int) := by omega
        have f8 : ¬ 8 * (k : Int) < 0 := by omega
        have f9 : min (8 * k) 64 = 8 * k := by omega
        go_wp2_with (first | ((with_reducible show wpList _ _ _ (⟨_, .store _ _ _, _, _, _, _⟩ :: _) _ _); refine wpl_store_int hown rfl 5 _ _ rfl _ _ rfl _ _ rfl size_u8 0 _ _ rfl (by omega) ?_; clear hown; intro _ hown; dsimp only [putL]; simp only [List.set_cons_zero, List.set_cons_succ] at hown))
        skip
        go_roundw
        case rel => exact ⟨k + 1, by omega, by go_num, hown⟩
        case measure => simp [intOf]; omega
      · obtain rfl : k = 8 := by omega
        go_wp2_with (first | ((with_reducible show wpList _ _ _ (⟨_, .load _ _, _, _, _, _⟩ :: _) _ _); refine wpl_load_row hown rfl 26 _ rfl _ rfl 0 _ _ rfl _ Try.underlying26 rfl (sz_n12 hNk) ?_; dsimp only [putL, setNth]) | ((with_reducible show wpList _ _ _ (⟨_, .store _ _ _, _, _, _, _⟩ :: _) _ _); refine wpl_store_row hown rfl 26 _ _ rfl _ rfl _ rfl (ints_cell _ _) (sz_n12 hNk) 1 _ _ rfl (sz_eq (n := 12) rfl hNk) ?_; clear hown; intro _ hown; dsimp only [putL]; simp only [List.set_cons_zero, List.set_cons_succ] at hown))
        refine bodyPost_ret (results_cell_tmp hown rfl _ _ rfl _ rfl 1 _ _ rfl _ Try.underlying26 rfl (sz_n12 hNk)) rfl ⟨rfl, hown.below⟩
  · rw [if_neg hg, if_neg hg]
    by_cases hneg : n < 0
    · go_wp2_with (first | ((with_reducible show wpList _ _ _ (⟨_, _, _, _, _, some _⟩ :: _) _ _); refine wpl_unguard _ rfl (by rfl) ?_; dsimp only) | ((with_reducible show wpList _ _ _ (⟨_, .alloc _, _, _, _, _⟩ :: _) _ _); have _t := tok_b1; refine wpl_alloc hown rfl _ rfl _ zero_n12 ?_; clear hown _t tok_b1; intro b1 _ hown; dsimp only [putL, setNth]) | ((with_reducible show wpList _ _ _ (⟨_, .alloc _, _, _, _, _⟩ :: _) _ _); have _t := tok_b2; refine wpl_alloc hown rfl _ rfl _ zero_n12 ?_; clear hown _t tok_b2; intro b2 _ hown; dsimp only [putL, setNth]) | ((with_reducible show wpList _ _ _ (⟨_, .load _ _, _, _, _, _⟩ :: _) _ _); refine wpl_load_row hown rfl 26 _ rfl _ rfl 0 _ _ rfl _ Try.underlying26 rfl (sz_n12 (by simp)) ?_; dsimp only [putL, setNth]) | ((with_reducible show wpList _ _ _ (⟨_, .store _ _ _, _, _, _, _⟩ :: _) _ _); refine wpl_store_row hown rfl 26 _ _ rfl _ rfl _ rfl (ints_cell _ _) (sz_n12 (by simp)) 1 _ _ rfl (by rfl) ?_; clear hown; intro _ hown; dsimp only [putL]; simp only [List.set_cons_zero, List.set_cons_succ] at hown))
      refine bodyPost_ret (results_cell_tmp hown rfl _ _ rfl _ rfl 1 _ _ rfl _ Try.underlying26 rfl (sz_n12 (by simp))) rfl ⟨rfl, hown.below⟩
    · have hbig : n > 9007199254740991 := by omega
      go_wp2_with (first | ((with_reducible show wpList _ _ _ (⟨_, _, _, _, _, some _⟩ :: _) _ _); refine wpl_unguard _ rfl (by rfl) ?_; dsimp only) | ((with_reducible show wpList _ _ _ (⟨_, .alloc _, _, _, _, _⟩ :: _) _ _); have _t := tok_b1; refine wpl_alloc hown rfl _ rfl _ zero_n12 ?_; clear hown _t tok_b1; intro b1 _ hown; dsimp only [putL, setNth]) | ((with_reducible show wpList _ _ _ (⟨_, .alloc _, _, _, _, _⟩ :: _) _ _); have _t := tok_b2; refine wpl_alloc hown rfl _ rfl _ zero_n12 ?_; clear hown _t tok_b2; intro b2 _ hown; dsimp only [putL, setNth]) | ((with_reducible show wpList _ _ _ (⟨_, .load _ _, _, _, _, _⟩ :: _) _ _); refine wpl_load_row hown rfl 26 _ rfl _ rfl 0 _ _ rfl _ Try.underlying26 rfl (sz_n12 (by simp)) ?_; dsimp only [putL, setNth]) | ((with_reducible show wpList _ _ _ (⟨_, .store _ _ _, _, _, _, _⟩ :: _) _ _); refine wpl_store_row hown rfl 26 _ _ rfl _ rfl _ rfl (ints_cell _ _) (sz_n12 (by simp)) 1 _ _ rfl (by rfl) ?_; clear hown; intro _ hown; dsimp only [putL]; simp only [List.set_cons_zero, List.set_cons_succ] at hown))
      refine bodyPost_ret (results_cell_tmp hown rfl _ _ rfl _ rfl 1 _ _ rfl _ Try.underlying26 rfl (sz_n12 (by simp))) rfl ⟨rfl, hown.below⟩

end Go.Proofs.Ytgeflkgnabmacaa
