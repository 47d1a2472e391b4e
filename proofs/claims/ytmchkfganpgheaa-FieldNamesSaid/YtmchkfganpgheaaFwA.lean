/-
  The walks of FieldFrom, FieldAdd, FieldSub, FieldMul.
-/
import Derived.Test.YtmchkfganpgheaaGuard
import Derived.Test.YtmchkfganpgheaaLaw
namespace Go.Proofs.Ytmchkfganpgheaa
set_option linter.unusedSimpArgs false
set_option linter.unusedVariables false
open Go Go.RowKit

open Go.ChangeShapes Go.WideShapes Go.ChangeAt
set_option maxHeartbeats 800000 in
theorem fieldFrom_walk (a : List Int) (la : a.length = 32) (wa : ∀ x ∈ a, (Lit.int .u8 x).wf = true) (n : Int) (wn : (Lit.int .u32 n).wf = true) (w : World) :
    Calls Try.prog 18 #[.agg (ints .u8 a), .int .u32 n] w fun e w' => e = .returned (.bool true) ∧ Below w.heap.size w w' := by
  have hown := Own.start w
  have ha := bytes32_of la wa
  have hn := W64.toE wn
  clear wa wn
  have ea := fromE_is ha
  have na := rfromI_is ha
  have hel := ea.1
  have hnl := na.1
  have hz := zeroE_any ea
  have hrb := rbytes_any na
  have his : ∀ w : World, Calls Try.prog 17 #[.agg (ints .u64 (fromE a)), .agg (ints .i64 (rfromI a))] w fun e w' => e = .returned (.bool true) ∧ Below w.heap.size w w' := by
    intro w
    have := is_any ea na w
    rwa [decide_eq_true rfl] at this
  have his2 : ∀ w : World, Calls Try.prog 17 #[.agg (ints .u64 (smallE n)), .agg (ints .i64 (rsmallL n))] w fun e w' => e = .returned (.bool true) ∧ Below w.heap.size w w' := by
    intro w
    have := is_any (smallE_is hn) (rsmallI_is hn) w
    rwa [decide_eq_true rfl] at this
  have hz2 : ∀ w : World, Calls Try.prog 28 #[.agg (ints .u64 (smallE n))] w fun e w' => e = .returned (.bool (decide (n = 0))) ∧ Below w.heap.size w w' := by
    intro w
    have := zeroE_any (smallE_is hn) w
    rwa [show decide (n % PP = 0) = decide (n = 0) from by rw [decide_eq_decide]; unfold PP; omega] at this
  have hzero : decide (le32 (v32 a % H255 % PP) = List.replicate 32 0) = decide (v32 a % H255 % PP = 0) := decide_eq_decide.2 ((le32_p _).eq_iff zero_isB)
  have hse := smallE_any n hn
  have hsn := rsmallI_any n hn
  obtain ⟨V, hV⟩ : ∃ V, V = v32 a % H255 % PP := ⟨_, rfl⟩
  rw [← hV] at hz hrb hzero
  clear hV
  have hle := le32_length V
  go_enter Try.func18, Try.ntmps18

  have tok_b1 : True := trivial
  have tok_b2 : True := trivial
  have tok_b3 : True := trivial
  go_wp2_with (first | ((with_reducible show wpList _ _ _ (⟨_, .box _ _, _, _, _, _⟩ :: _) _ _); have _t := tok_b1; refine wpl_box hown rfl _ _ rfl _ rfl ?_; clear hown _t tok_b1; intro b1 _ hown; dsimp only [putL, setNth]))
  refine wp_region_grow 6 [0, 1, 2, 3, 4, 5] (by kernel_rfl) (by kernel_rfl) hown ?_; simp only [List.filterMap_cons, List.filterMap_nil, List.getElem?_cons_zero, List.getElem?_cons_succ, List.drop_succ_cons, List.drop_zero]
  (refine wpV_step rfl rfl _ (growAt_load_row 22 _ rfl _ rfl 0 _ _ rfl _ Try.underlying22 rfl (sz_b32 la)) ?_; dsimp only [putL, setNth])
  (refine wpV_step rfl rfl _ (growAt_call (args := #[.agg (ints .u8 a)]) (by intro w; go_simp) (fun w => fromE_any a ha w)) ?_; dsimp only [putL, setNth])
  (refine wpV_step rfl rfl _ (growAt_load_row 22 _ rfl _ rfl 0 _ _ rfl _ Try.underlying22 rfl (sz_b32 la)) ?_; dsimp only [putL, setNth])
  (refine wpV_step rfl rfl _ (growAt_call (args := #[.agg (ints .u8 a)]) (by intro w; go_simp) (fun w => rfromI_any a ha w)) ?_; dsimp only [putL, setNth])
  (have _t := tok_b2; refine wpV_alloc rfl _ rfl _ zero_elem ?_; clear _t tok_b2; intro b2; dsimp only [putL, setNth])
  (have _t := tok_b3; refine wpV_alloc rfl _ rfl _ zero_num ?_; clear _t tok_b3; intro b3; dsimp only [putL, setNth])
  refine wpV_nil ?_; clear hown; intro _ hown; simp only [List.nil_append, List.cons_append] at hown
  go_wp2_with (first | ((with_reducible show wpList _ _ _ (⟨_, _, _, _, _, some _⟩ :: _) _ _); refine wpl_unguard _ rfl (by rfl) ?_; dsimp only) | ((with_reducible show wpList _ _ _ (⟨_, .store _ _ _, _, _, _, _⟩ :: _) _ _); refine wpl_store_row hown rfl 26 _ _ rfl _ rfl _ rfl (ints_cell _ _) (sz_elem hel) 1 _ _ rfl (sz_eq (n := 5) rfl hel) ?_; clear hown; intro _ hown; dsimp only [putL]; simp only [List.set_cons_zero, List.set_cons_succ] at hown) | ((with_reducible show wpList _ _ _ (⟨_, .store _ _ _, _, _, _, _⟩ :: _) _ _); refine wpl_store_row hown rfl 31 _ _ rfl _ rfl _ rfl (ints_cell _ _) (sz_num hnl) 0 _ _ rfl (sz_eq (n := 16) rfl hnl) ?_; clear hown; intro _ hown; dsimp only [putL]; simp only [List.set_cons_zero, List.set_cons_succ] at hown) | ((with_reducible show wpList _ _ _ (⟨_, .load _ _, _, _, _, _⟩ :: _) _ _); refine wpl_load_row hown rfl 26 _ rfl _ rfl 1 _ _ rfl _ Try.underlying26 rfl (sz_elem hel) ?_; dsimp only [putL, setNth]) | ((with_reducible show wpList _ _ _ (⟨_, .load _ _, _, _, _, _⟩ :: _) _ _); refine wpl_load_row hown rfl 31 _ rfl _ rfl 0 _ _ rfl _ Try.underlying31 rfl (sz_num hnl) ?_; dsimp only [putL, setNth]) | (go_at_call 43; refine (hrb _).mono ?_; rintro e w' ⟨rfl, hb⟩; replace hown := hown.grow hb; clear hb) | (refine wpl_build rfl 22 _ rfl _ rfl (ints .u8 (List.replicate 32 0)) (by kernel_rfl) ?_; dsimp only [putL, setNth]) | (refine wpl_eql rfl 22 _ _ _ rfl _ _ (List.replicate 32 0) rfl rfl 5 _ _ Try.underlying22 Try.underlying5 size_u8 (by kernel_rfl) hle (by rfl) ?_; rw [hzero]; dsimp only [putL, setNth]) | (go_at_call 17; refine (his _).mono ?_; rintro e w' ⟨rfl, hb⟩; replace hown := hown.grow hb; clear hb) | (go_at_call 28; refine (hz _).mono ?_; rintro e w' ⟨rfl, hb⟩; replace hown := hown.grow hb; clear hb) | (go_at_call 25; refine (hse _).mono ?_; rintro e w' ⟨rfl, hb⟩; replace hown := hown.grow hb; clear hb) | (go_at_call 44; refine (hsn _).mono ?_; rintro e w' ⟨rfl, hb⟩; replace hown := hown.grow hb; clear hb) | (go_at_call 17; refine (his2 _).mono ?_; rintro e w' ⟨rfl, hb⟩; replace hown := hown.grow hb; clear hb) | (go_at_call 28; refine (hz2 _).mono ?_; rintro e w' ⟨rfl, hb⟩; replace hown := hown.grow hb; clear hb))
  go_ret
  exact ⟨by show Ending.returned (Value.bool (decide (n = 0) == (n == 0))) = _; by_cases h : n = 0 <;> simp [h], hown.below⟩

end Go.Proofs.Ytmchkfganpgheaa

namespace Go.Proofs.Ytmchkfganpgheaa
set_option linter.unusedSimpArgs false
set_option linter.unusedVariables false
open Go Go.RowKit
open Go.ChangeShapes Go.WideShapes Go.ChangeAt
set_option maxHeartbeats 800000 in
theorem fieldAdd_walk (a : List Int) (la : a.length = 32) (wa : ∀ x ∈ a, (Lit.int .u8 x).wf = true) (b : List Int) (lb : b.length = 32) (wb : ∀ x ∈ b, (Lit.int .u8 x).wf = true) (w : World) :
    Calls Try.prog 19 #[.agg (ints .u8 a), .agg (ints .u8 b)] w fun e w' => e = .returned (.bool true) ∧ Below w.heap.size w w' := by
  have hown := Own.start w
  have ha := bytes32_of la wa
  clear wa
  have hb := bytes32_of lb wb
  clear wb
  have ea := fromE_is ha
  have na := rfromI_is ha
  have eb := fromE_is hb
  have nb := rfromI_is hb
  go_enter Try.func19, Try.ntmps19
  go_wp2_with (first | ((with_reducible show wpList _ _ _ (⟨_, .box _ _, _, _, _, _⟩ :: _) _ _); refine wpl_box hown rfl _ _ rfl _ rfl ?_; clear hown; intro _ _ hown; dsimp only [putL, setNth]))
  refine wp_region_grow 11 [0, 1, 2, 3, 4, 5, 6, 7, 8, 9, 10] (by kernel_rfl) (by kernel_rfl) hown ?_; simp only [List.filterMap_cons, List.filterMap_nil, List.getElem?_cons_zero, List.getElem?_cons_succ, List.drop_succ_cons, List.drop_zero]
  (refine wpV_step rfl rfl _ (growAt_load_row 22 _ rfl _ rfl 1 _ _ rfl _ Try.underlying22 rfl (sz_b32 la)) ?_; dsimp only [putL, setNth])
  (refine wpV_step rfl rfl _ (growAt_call (args := #[.agg (ints .u8 a)]) (by intro w; go_simp) (fun w => fromE_any a ha w)) ?_; dsimp only [putL, setNth])
  (refine wpV_step rfl rfl _ (growAt_load_row 22 _ rfl _ rfl 0 _ _ rfl _ Try.underlying22 rfl (sz_b32 lb)) ?_; dsimp only [putL, setNth])
  (refine wpV_step rfl rfl _ (growAt_call (args := #[.agg (ints .u8 b)]) (by intro w; go_simp) (fun w => fromE_any b hb w)) ?_; dsimp only [putL, setNth])
  (refine wpV_step rfl rfl _ (growAt_call (args := #[.agg (ints .u64 (fromE a)), .agg (ints .u64 (fromE b))]) (by intro w; go_simp) (fun w => addE_any (fromE a) (fromE b) ea eb w)) ?_; dsimp only [putL, setNth])
  (refine wpV_step rfl rfl _ (growAt_load_row 22 _ rfl _ rfl 1 _ _ rfl _ Try.underlying22 rfl (sz_b32 la)) ?_; dsimp only [putL, setNth])
  (refine wpV_step rfl rfl _ (growAt_call (args := #[.agg (ints .u8 a)]) (by intro w; go_simp) (fun w => rfromI_any a ha w)) ?_; dsimp only [putL, setNth])
  (refine wpV_step rfl rfl _ (growAt_load_row 22 _ rfl _ rfl 0 _ _ rfl _ Try.underlying22 rfl (sz_b32 lb)) ?_; dsimp only [putL, setNth])
  (refine wpV_step rfl rfl _ (growAt_call (args := #[.agg (ints .u8 b)]) (by intro w; go_simp) (fun w => rfromI_any b hb w)) ?_; dsimp only [putL, setNth])
  (refine wpV_step rfl rfl _ (growAt_call (args := #[.agg (ints .i64 (rfromI a)), .agg (ints .i64 (rfromI b))]) (by intro w; go_simp) (fun w => raddI_any (rfromI a) (rfromI b) na nb w)) ?_; dsimp only [putL, setNth])
  (refine wpV_step rfl rfl _ (growAt_call (args := #[.agg (ints .u64 (addE (fromE a) (fromE b))), .agg (ints .i64 (raddI (rfromI a) (rfromI b)))]) (by intro w; go_simp) (fun w => is_any (addE_is ea eb) (raddI_is na nb) w)) ?_; dsimp only [putL, setNth])
  refine wpV_nil ?_; clear hown; intro _ hown; simp only [List.nil_append, List.cons_append] at hown
  go_wp2
  go_ret
  exact ⟨by first | rfl | simp, hown.below⟩

end Go.Proofs.Ytmchkfganpgheaa

namespace Go.Proofs.Ytmchkfganpgheaa
set_option linter.unusedSimpArgs false
set_option linter.unusedVariables false
open Go Go.RowKit
open Go.ChangeShapes Go.WideShapes Go.ChangeAt
set_option maxHeartbeats 800000 in
theorem fieldSub_walk (a : List Int) (la : a.length = 32) (wa : ∀ x ∈ a, (Lit.int .u8 x).wf = true) (b : List Int) (lb : b.length = 32) (wb : ∀ x ∈ b, (Lit.int .u8 x).wf = true) (w : World) :
    Calls Try.prog 20 #[.agg (ints .u8 a), .agg (ints .u8 b)] w fun e w' => e = .returned (.bool true) ∧ Below w.heap.size w w' := by
  have hown := Own.start w
  have ha := bytes32_of la wa
  clear wa
  have hb := bytes32_of lb wb
  clear wb
  have ea := fromE_is ha
  have na := rfromI_is ha
  have eb := fromE_is hb
  have nb := rfromI_is hb
  go_enter Try.func20, Try.ntmps20
  go_wp2_with (first | ((with_reducible show wpList _ _ _ (⟨_, .box _ _, _, _, _, _⟩ :: _) _ _); refine wpl_box hown rfl _ _ rfl _ rfl ?_; clear hown; intro _ _ hown; dsimp only [putL, setNth]))
  refine wp_region_grow 11 [0, 1, 2, 3, 4, 5, 6, 7, 8, 9, 10] (by kernel_rfl) (by kernel_rfl) hown ?_; simp only [List.filterMap_cons, List.filterMap_nil, List.getElem?_cons_zero, List.getElem?_cons_succ, List.drop_succ_cons, List.drop_zero]
  (refine wpV_step rfl rfl _ (growAt_load_row 22 _ rfl _ rfl 1 _ _ rfl _ Try.underlying22 rfl (sz_b32 la)) ?_; dsimp only [putL, setNth])
  (refine wpV_step rfl rfl _ (growAt_call (args := #[.agg (ints .u8 a)]) (by intro w; go_simp) (fun w => fromE_any a ha w)) ?_; dsimp only [putL, setNth])
  (refine wpV_step rfl rfl _ (growAt_load_row 22 _ rfl _ rfl 0 _ _ rfl _ Try.underlying22 rfl (sz_b32 lb)) ?_; dsimp only [putL, setNth])
  (refine wpV_step rfl rfl _ (growAt_call (args := #[.agg (ints .u8 b)]) (by intro w; go_simp) (fun w => fromE_any b hb w)) ?_; dsimp only [putL, setNth])
  (refine wpV_step rfl rfl _ (growAt_call (args := #[.agg (ints .u64 (fromE a)), .agg (ints .u64 (fromE b))]) (by intro w; go_simp) (fun w => subE_any (fromE a) (fromE b) ea eb w)) ?_; dsimp only [putL, setNth])
  (refine wpV_step rfl rfl _ (growAt_load_row 22 _ rfl _ rfl 1 _ _ rfl _ Try.underlying22 rfl (sz_b32 la)) ?_; dsimp only [putL, setNth])
  (refine wpV_step rfl rfl _ (growAt_call (args := #[.agg (ints .u8 a)]) (by intro w; go_simp) (fun w => rfromI_any a ha w)) ?_; dsimp only [putL, setNth])
  (refine wpV_step rfl rfl _ (growAt_load_row 22 _ rfl _ rfl 0 _ _ rfl _ Try.underlying22 rfl (sz_b32 lb)) ?_; dsimp only [putL, setNth])
  (refine wpV_step rfl rfl _ (growAt_call (args := #[.agg (ints .u8 b)]) (by intro w; go_simp) (fun w => rfromI_any b hb w)) ?_; dsimp only [putL, setNth])
  (refine wpV_step rfl rfl _ (growAt_call (args := #[.agg (ints .i64 (rfromI a)), .agg (ints .i64 (rfromI b))]) (by intro w; go_simp) (fun w => rsubI_any (rfromI a) (rfromI b) na nb w)) ?_; dsimp only [putL, setNth])
  (refine wpV_step rfl rfl _ (growAt_call (args := #[.agg (ints .u64 (subE (fromE a) (fromE b))), .agg (ints .i64 (rsubI (rfromI a) (rfromI b)))]) (by intro w; go_simp) (fun w => is_any (subE_is ea eb) (rsubI_is na nb) w)) ?_; dsimp only [putL, setNth])
  refine wpV_nil ?_; clear hown; intro _ hown; simp only [List.nil_append, List.cons_append] at hown
  go_wp2
  go_ret
  exact ⟨by first | rfl | simp, hown.below⟩

end Go.Proofs.Ytmchkfganpgheaa

namespace Go.Proofs.Ytmchkfganpgheaa
set_option linter.unusedSimpArgs false
set_option linter.unusedVariables false
open Go Go.RowKit
open Go.ChangeShapes Go.WideShapes Go.ChangeAt
set_option maxHeartbeats 800000 in
theorem fieldMul_walk (a : List Int) (la : a.length = 32) (wa : ∀ x ∈ a, (Lit.int .u8 x).wf = true) (b : List Int) (lb : b.length = 32) (wb : ∀ x ∈ b, (Lit.int .u8 x).wf = true) (w : World) :
    Calls Try.prog 21 #[.agg (ints .u8 a), .agg (ints .u8 b)] w fun e w' => e = .returned (.bool true) ∧ Below w.heap.size w w' := by
  have hown := Own.start w
  have ha := bytes32_of la wa
  clear wa
  have hb := bytes32_of lb wb
  clear wb
  have ea := fromE_is ha
  have na := rfromI_is ha
  have eb := fromE_is hb
  have nb := rfromI_is hb
  go_enter Try.func21, Try.ntmps21
  go_wp2_with (first | ((with_reducible show wpList _ _ _ (⟨_, .box _ _, _, _, _, _⟩ :: _) _ _); refine wpl_box hown rfl _ _ rfl _ rfl ?_; clear hown; intro _ _ hown; dsimp only [putL, setNth]))
  refine wp_region_grow 11 [0, 1, 2, 3, 4, 5, 6, 7, 8, 9, 10] (by kernel_rfl) (by kernel_rfl) hown ?_; simp only [List.filterMap_cons, List.filterMap_nil, List.getElem?_cons_zero, List.getElem?_cons_succ, List.drop_succ_cons, List.drop_zero]
  (refine wpV_step rfl rfl _ (growAt_load_row 22 _ rfl _ rfl 1 _ _ rfl _ Try.underlying22 rfl (sz_b32 la)) ?_; dsimp only [putL, setNth])
  (refine wpV_step rfl rfl _ (growAt_call (args := #[.agg (ints .u8 a)]) (by intro w; go_simp) (fun w => fromE_any a ha w)) ?_; dsimp only [putL, setNth])
  (refine wpV_step rfl rfl _ (growAt_load_row 22 _ rfl _ rfl 0 _ _ rfl _ Try.underlying22 rfl (sz_b32 lb)) ?_; dsimp only [putL, setNth])
  (refine wpV_step rfl rfl _ (growAt_call (args := #[.agg (ints .u8 b)]) (by intro w; go_simp) (fun w => fromE_any b hb w)) ?_; dsimp only [putL, setNth])
  (refine wpV_step rfl rfl _ (growAt_call (args := #[.agg (ints .u64 (fromE a)), .agg (ints .u64 (fromE b))]) (by intro w; go_simp) (fun w => mulE_any (fromE a) (fromE b) ea eb w)) ?_; dsimp only [putL, setNth])
  (refine wpV_step rfl rfl _ (growAt_load_row 22 _ rfl _ rfl 1 _ _ rfl _ Try.underlying22 rfl (sz_b32 la)) ?_; dsimp only [putL, setNth])
  (refine wpV_step rfl rfl _ (growAt_call (args := #[.agg (ints .u8 a)]) (by intro w; go_simp) (fun w => rfromI_any a ha w)) ?_; dsimp only [putL, setNth])
  (refine wpV_step rfl rfl _ (growAt_load_row 22 _ rfl _ rfl 0 _ _ rfl _ Try.underlying22 rfl (sz_b32 lb)) ?_; dsimp only [putL, setNth])
  (refine wpV_step rfl rfl _ (growAt_call (args := #[.agg (ints .u8 b)]) (by intro w; go_simp) (fun w => rfromI_any b hb w)) ?_; dsimp only [putL, setNth])
  (refine wpV_step rfl rfl _ (growAt_call (args := #[.agg (ints .i64 (rfromI a)), .agg (ints .i64 (rfromI b))]) (by intro w; go_simp) (fun w => rmulI_any (rfromI a) (rfromI b) na nb w)) ?_; dsimp only [putL, setNth])
  (refine wpV_step rfl rfl _ (growAt_call (args := #[.agg (ints .u64 (mulE (fromE a) (fromE b))), .agg (ints .i64 (rmulI (rfromI a) (rfromI b)))]) (by intro w; go_simp) (fun w => is_any (mulE_is ea eb) (rmulI_is na nb) w)) ?_; dsimp only [putL, setNth])
  refine wpV_nil ?_; clear hown; intro _ hown; simp only [List.nil_append, List.cons_append] at hown
  go_wp2
  go_ret
  exact ⟨by first | rfl | simp, hown.below⟩

end Go.Proofs.Ytmchkfganpgheaa
