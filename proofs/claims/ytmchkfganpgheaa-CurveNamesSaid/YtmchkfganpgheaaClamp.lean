/-
  The two Clamps: the same 32 bytes. No conditions.
-/
import Derived.Test.YtmchkfganpgheaaRows
import Derived.Test.YtmchkfganpgheaaLib
namespace Go.Proofs.Ytmchkfganpgheaa
set_option linter.unusedSimpArgs false
set_option linter.unusedVariables false
open Go Go.RowKit
def clampL (L : List Int) : List Int :=
  let L1 := L.set 0 (bits .and .u8 (gi L 0) 248)
  L1.set 31 (bits .or .u8 (bits .and .u8 (gi L1 31) 127) 64)
theorem info_key : (Try.prog.info? 46).map (·.size) = some 32 := by kernel_rfl
theorem zero_key : (Try.prog.info? 46).map (·.zero) = some (some (.agg (ints .u8 (List.replicate 32 0)))) := by kernel_rfl
theorem info_key_sz {k : IntKind} (L : List Int) (h : L.length = 32) : (Try.prog.info? 46).map (·.size) = some (ints k L).size := by rw [ints_size, h]; exact info_key
theorem size_u8 : (Try.prog.info? 5).map (·.size) = some 1 := by kernel_rfl

set_option maxHeartbeats 400000 in
theorem clamp_any (L : List Int) (hL : L.length = 32) (w : World) :
    Calls Try.prog 37 #[.agg (ints .u8 L)] w fun e w' => e = .returned (.agg (ints .u8 (clampL L))) ∧ Below w.heap.size w w' := by
  have hown := Own.start w
  go_enter Try.func37, Try.ntmps37
  go_wp2_with (first | (refine wpl_box hown rfl _ _ rfl _ rfl ?_; clear hown; intro _ _ hown; dsimp only [putL, setNth]) | (refine wpl_alloc hown rfl _ rfl _ zero_key ?_; clear hown; intro _ _ hown; dsimp only [putL, setNth]) | (refine wpl_load_int hown rfl 5 _ rfl _ _ rfl _ Try.underlying5 1 _ _ rfl (by simp [ints_size, List.length_set, hL]) ?_; dsimp only [putL, setNth]) | (refine wpl_store_int hown rfl 5 _ _ rfl _ _ rfl _ _ rfl size_u8 1 _ _ rfl (by simp [ints_size, List.length_set, hL]) ?_; clear hown; intro _ hown; dsimp only [putL]; simp only [List.set_cons_zero, List.set_cons_succ] at hown) | (refine wpl_load_row hown rfl 46 _ rfl _ rfl 1 _ _ rfl _ Try.underlying46 rfl (info_key_sz _ (by simp [hL])) ?_; dsimp only [putL, setNth]) | (refine wpl_store_row hown rfl 46 _ _ rfl _ rfl _ rfl (ints_cell _ _) (info_key_sz _ (by simp [hL])) 0 _ _ rfl (by simp [ints_size, List.length_set, hL]) ?_; clear hown; intro _ hown; dsimp only [putL]; simp only [List.set_cons_zero, List.set_cons_succ] at hown))
  refine bodyPost_ret (results_own hown rfl _ rfl 0 _ _ rfl _ Try.underlying46 rfl (info_key_sz _ (by simp [hL]))) rfl ⟨rfl, hown.below⟩

set_option maxHeartbeats 400000 in
theorem rclamp_any (L : List Int) (hL : L.length = 32) (w : World) :
    Calls Try.prog 53 #[.agg (ints .u8 L)] w fun e w' => e = .returned (.agg (ints .u8 (clampL L))) ∧ Below w.heap.size w w' := by
  have hown := Own.start w
  go_enter Try.func53, Try.ntmps53
  go_wp2_with (first | (refine wpl_box hown rfl _ _ rfl _ rfl ?_; clear hown; intro _ _ hown; dsimp only [putL, setNth]) | (refine wpl_alloc hown rfl _ rfl _ zero_key ?_; clear hown; intro _ _ hown; dsimp only [putL, setNth]) | (refine wpl_load_int hown rfl 5 _ rfl _ _ rfl _ Try.underlying5 1 _ _ rfl (by simp [ints_size, List.length_set, hL]) ?_; dsimp only [putL, setNth]) | (refine wpl_store_int hown rfl 5 _ _ rfl _ _ rfl _ _ rfl size_u8 1 _ _ rfl (by simp [ints_size, List.length_set, hL]) ?_; clear hown; intro _ hown; dsimp only [putL]; simp only [List.set_cons_zero, List.set_cons_succ] at hown) | (refine wpl_load_row hown rfl 46 _ rfl _ rfl 1 _ _ rfl _ Try.underlying46 rfl (info_key_sz _ (by simp [hL])) ?_; dsimp only [putL, setNth]) | (refine wpl_store_row hown rfl 46 _ _ rfl _ rfl _ rfl (ints_cell _ _) (info_key_sz _ (by simp [hL])) 0 _ _ rfl (by simp [ints_size, List.length_set, hL]) ?_; clear hown; intro _ hown; dsimp only [putL]; simp only [List.set_cons_zero, List.set_cons_succ] at hown))
  refine bodyPost_ret (results_own hown rfl _ rfl 0 _ _ rfl _ Try.underlying46 rfl (info_key_sz _ (by simp [hL]))) rfl ⟨rfl, hown.below⟩

end Go.Proofs.Ytmchkfganpgheaa
