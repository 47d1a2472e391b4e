/-
  FieldRing: of all three numbers. No conditions.
-/
import Derived.Test.YtgeflkgnabmacaaAwake
namespace Go.Proofs.Ytgeflkgnabmacaa
set_option linter.unusedSimpArgs false
set_option linter.unusedVariables false
open Go Go.RowKit

open Go.ChangeShapes Go.WideShapes Go.ChangeAt
set_option maxRecDepth 20000 in
set_option maxHeartbeats 4000000 in
theorem fieldRing_walk (a : List Int) (la : a.length = 32) (wa : ∀ x ∈ a, (Lit.int .u8 x).wf = true) (b : List Int) (lb : b.length = 32) (wb : ∀ x ∈ b, (Lit.int .u8 x).wf = true) (c : List Int) (lc : c.length = 32) (wc : ∀ x ∈ c, (Lit.int .u8 x).wf = true) (w : World) :
    Calls Try.prog 13 #[.agg (ints .u8 a), .agg (ints .u8 b), .agg (ints .u8 c)] w fun e w' => e = .returned (.bool true) ∧ Below w.heap.size w w' := by
  have hown := Own.start w
  have ha := bytes32_of la wa
  clear wa
  have ea := fromE_is ha
  have fa := fromE_any a ha
  obtain ⟨Ea, hEa⟩ : ∃ E, E = fromE a := ⟨_, rfl⟩
  obtain ⟨Va, hVa⟩ : ∃ V, V = v32 a % H255 := ⟨_, rfl⟩
  rw [← hEa] at ea fa
  rw [← hVa] at ea
  clear hEa hVa
  have ela := ea.1
  have hb := bytes32_of lb wb
  clear wb
  have eb := fromE_is hb
  have fb := fromE_any b hb
  obtain ⟨Eb, hEb⟩ : ∃ E, E = fromE b := ⟨_, rfl⟩
  obtain ⟨Vb, hVb⟩ : ∃ V, V = v32 b % H255 := ⟨_, rfl⟩
  rw [← hEb] at eb fb
  rw [← hVb] at eb
  clear hEb hVb
  have elb := eb.1
  have hc := bytes32_of lc wc
  clear wc
  have ec := fromE_is hc
  have fc := fromE_any c hc
  obtain ⟨Ec, hEc⟩ : ∃ E, E = fromE c := ⟨_, rfl⟩
  obtain ⟨Vc, hVc⟩ : ∃ V, V = v32 c % H255 := ⟨_, rfl⟩
  rw [← hEc] at ec fc
  rw [← hVc] at ec
  clear hEc hVc
  have elc := ec.1
  go_enter Try.func13, Try.ntmps13
  have tok_b1 : True := trivial
  have tok_b2 : True := trivial
  have tok_b3 : True := trivial
  have tok_q7 : True := trivial
  have tok_q8 : True := trivial
  have tok_q9 : True := trivial
  go_wp2_with (first | ((with_reducible show wpList _ _ _ (⟨_, .box _ _, _, _, _, _⟩ :: _) _ _); have _t := tok_b1; refine wpl_box hown rfl _ _ rfl _ rfl ?_; clear hown _t tok_b1; intro b1 _ hown; dsimp only [putL, setNth]) | ((with_reducible show wpList _ _ _ (⟨_, .box _ _, _, _, _, _⟩ :: _) _ _); have _t := tok_b2; refine wpl_box hown rfl _ _ rfl _ rfl ?_; clear hown _t tok_b2; intro b2 _ hown; dsimp only [putL, setNth]) | ((with_reducible show wpList _ _ _ (⟨_, .box _ _, _, _, _, _⟩ :: _) _ _); have _t := tok_b3; refine wpl_box hown rfl _ _ rfl _ rfl ?_; clear hown _t tok_b3; intro b3 _ hown; dsimp only [putL, setNth]))
  refine wp_region_grow 9 [0, 1, 2, 3, 4, 5, 6, 7, 8] (by kernel_rfl) (by kernel_rfl) hown ?_; simp only [List.filterMap_cons, List.filterMap_nil, List.getElem?_cons_zero, List.getElem?_cons_succ, List.drop_succ_cons, List.drop_zero]
  (refine wpV_step rfl rfl _ (growAt_load_row 22 _ rfl _ rfl 2 _ _ rfl _ Try.underlying22 rfl (sz_b32 la)) ?_; dsimp only [putL, setNth])
  (refine wpV_step rfl rfl _ (growAt_call (args := #[.agg (ints .u8 a)]) (by intro w; go_simp) (fun w => fa w)) ?_; dsimp only [putL, setNth])
  (refine wpV_step rfl rfl _ (growAt_load_row 22 _ rfl _ rfl 1 _ _ rfl _ Try.underlying22 rfl (sz_b32 lb)) ?_; dsimp only [putL, setNth])
  (refine wpV_step rfl rfl _ (growAt_call (args := #[.agg (ints .u8 b)]) (by intro w; go_simp) (fun w => fb w)) ?_; dsimp only [putL, setNth])
  (refine wpV_step rfl rfl _ (growAt_load_row 22 _ rfl _ rfl 0 _ _ rfl _ Try.underlying22 rfl (sz_b32 lc)) ?_; dsimp only [putL, setNth])
  (refine wpV_step rfl rfl _ (growAt_call (args := #[.agg (ints .u8 c)]) (by intro w; go_simp) (fun w => fc w)) ?_; dsimp only [putL, setNth])
  (have _t := tok_q7; refine wpV_alloc rfl _ rfl _ zero_elem ?_; clear _t tok_q7; intro q7; dsimp only [putL, setNth])
  (have _t := tok_q8; refine wpV_alloc rfl _ rfl _ zero_elem ?_; clear _t tok_q8; intro q8; dsimp only [putL, setNth])
  (have _t := tok_q9; refine wpV_alloc rfl _ rfl _ zero_elem ?_; clear _t tok_q9; intro q9; dsimp only [putL, setNth])
  refine wpV_nil ?_; clear hown; intro _ hown; simp only [List.nil_append, List.cons_append] at hown
  go_upto_region 2 with (go_big_may; (first | ((with_reducible show wpList _ _ _ (⟨_, .store _ _ _, _, _, _, _⟩ :: _) _ _); refine wpl_store_row hown rfl 35 _ _ rfl _ rfl _ rfl (ints_cell _ _) (sz_elem ela) 2 _ _ rfl (sz_eq (n := 5) rfl ela) ?_; clear hown; intro _ hown; dsimp only [putL]; simp only [List.set_cons_zero, List.set_cons_succ] at hown) | ((with_reducible show wpList _ _ _ (⟨_, .store _ _ _, _, _, _, _⟩ :: _) _ _); refine wpl_store_row hown rfl 35 _ _ rfl _ rfl _ rfl (ints_cell _ _) (sz_elem elb) 1 _ _ rfl (sz_eq (n := 5) rfl elb) ?_; clear hown; intro _ hown; dsimp only [putL]; simp only [List.set_cons_zero, List.set_cons_succ] at hown) | ((with_reducible show wpList _ _ _ (⟨_, .store _ _ _, _, _, _, _⟩ :: _) _ _); refine wpl_store_row hown rfl 35 _ _ rfl _ rfl _ rfl (ints_cell _ _) (sz_elem elc) 0 _ _ rfl (sz_eq (n := 5) rfl elc) ?_; clear hown; intro _ hown; dsimp only [putL]; simp only [List.set_cons_zero, List.set_cons_succ] at hown)))
  refine wp_region_grow 17 [0, 1, 2, 3, 4, 5, 6, 7, 8, 9, 10, 11, 12, 13, 14, 15, 16] (by kernel_rfl) (by kernel_rfl) hown ?_; simp only [List.filterMap_cons, List.filterMap_nil, List.getElem?_cons_zero, List.getElem?_cons_succ, List.drop_succ_cons, List.drop_zero]
  (refine wpV_step rfl rfl _ (growAt_load_row 35 _ rfl _ rfl 2 _ _ rfl _ Try.underlying35 rfl (sz_elem (ea).1)) ?_; dsimp only [putL, setNth])
  (refine wpV_step rfl rfl _ (growAt_load_row 35 _ rfl _ rfl 1 _ _ rfl _ Try.underlying35 rfl (sz_elem (eb).1)) ?_; dsimp only [putL, setNth])
  (refine wpV_step rfl rfl _ (growAt_call (args := #[.agg (ints .u64 Ea), .agg (ints .u64 Eb)]) (by intro w; go_simp) (fun w => addE_any Ea Eb ea eb w)) ?_; dsimp only [putL, setNth])
  (refine wpV_step rfl rfl _ (growAt_load_row 35 _ rfl _ rfl 1 _ _ rfl _ Try.underlying35 rfl (sz_elem (eb).1)) ?_; dsimp only [putL, setNth])
  (refine wpV_step rfl rfl _ (growAt_load_row 35 _ rfl _ rfl 2 _ _ rfl _ Try.underlying35 rfl (sz_elem (ea).1)) ?_; dsimp only [putL, setNth])
  (refine wpV_step rfl rfl _ (growAt_call (args := #[.agg (ints .u64 Eb), .agg (ints .u64 Ea)]) (by intro w; go_simp) (fun w => addE_any Eb Ea eb ea w)) ?_; dsimp only [putL, setNth])
  (refine wpV_step rfl rfl _ (growAt_call (args := #[.agg (ints .u64 (addE Ea Eb)), .agg (ints .u64 (addE Eb Ea))]) (by intro w; go_simp) (fun w => same_true (addE_is ea eb) (addE_is eb ea) (congrArg (· % PP) (by grind)) w)) ?_; dsimp only [putL, setNth])
  (first | (refine wpV_step rfl rfl _ (growAt_move _ rfl _ rfl) ?_; dsimp only [putL, setNth, evL, nth]) | (refine wpV_step rfl rfl _ (growAt_assign _ rfl _ rfl) ?_; dsimp only [putL, setNth, evL, nth]) | (refine wpV_step rfl rfl _ (growAt_bits _ _ _ _ _ rfl (by decide) _ _ _ rfl rfl) ?_; dsimp only [putL, setNth]) | (refine wpV_step rfl rfl _ (growAt_bin _ _ _ _ _ rfl _ _ rfl rfl _ (by intro w; go_simp; try rfl)) ?_; dsimp only [putL, setNth]) | (refine wpV_step rfl rfl _ (growAt_un _ _ _ rfl _ rfl _ (by intro w; go_simp; try rfl)) ?_; dsimp only [putL, setNth]) | (refine wpV_step rfl rfl _ (growAt_conv _ _ _ rfl _ rfl _ (by intro w; go_simp; try rfl)) ?_; dsimp only [putL, setNth]) | (refine wpV_step rfl rfl _ (growAt_fld _ _ _ rfl _ rfl _ (by intro w; go_simp; try rfl)) ?_; dsimp only [putL, setNth]) | (refine wpV_step rfl rfl _ (growAt_idx _ _ _ rfl _ _ rfl rfl _ (by intro w; go_simp; try rfl)) ?_; dsimp only [putL, setNth]) | (refine wpV_step rfl rfl _ (growAt_extract _ _ rfl _ rfl _ rfl) ?_; dsimp only [putL, setNth]) | (refine wpV_step rfl rfl _ (growAt_pick _ _ _ rfl _ rfl _ _ rfl rfl) ?_; dsimp only [putL, setNth]))
  (first | (refine wpV_step rfl rfl _ (growAt_move _ rfl _ rfl) ?_; dsimp only [putL, setNth, evL, nth]) | (refine wpV_step rfl rfl _ (growAt_assign _ rfl _ rfl) ?_; dsimp only [putL, setNth, evL, nth]) | (refine wpV_step rfl rfl _ (growAt_bits _ _ _ _ _ rfl (by decide) _ _ _ rfl rfl) ?_; dsimp only [putL, setNth]) | (refine wpV_step rfl rfl _ (growAt_bin _ _ _ _ _ rfl _ _ rfl rfl _ (by intro w; go_simp; try rfl)) ?_; dsimp only [putL, setNth]) | (refine wpV_step rfl rfl _ (growAt_un _ _ _ rfl _ rfl _ (by intro w; go_simp; try rfl)) ?_; dsimp only [putL, setNth]) | (refine wpV_step rfl rfl _ (growAt_conv _ _ _ rfl _ rfl _ (by intro w; go_simp; try rfl)) ?_; dsimp only [putL, setNth]) | (refine wpV_step rfl rfl _ (growAt_fld _ _ _ rfl _ rfl _ (by intro w; go_simp; try rfl)) ?_; dsimp only [putL, setNth]) | (refine wpV_step rfl rfl _ (growAt_idx _ _ _ rfl _ _ rfl rfl _ (by intro w; go_simp; try rfl)) ?_; dsimp only [putL, setNth]) | (refine wpV_step rfl rfl _ (growAt_extract _ _ rfl _ rfl _ rfl) ?_; dsimp only [putL, setNth]) | (refine wpV_step rfl rfl _ (growAt_pick _ _ _ rfl _ rfl _ _ rfl rfl) ?_; dsimp only [putL, setNth]))
  (refine wpV_stepg (by rfl) rfl _ (growAt_load_row 35 _ rfl _ rfl 2 _ _ rfl _ Try.underlying35 rfl (sz_elem (ea).1)) ?_; dsimp only [putL, setNth])
  (refine wpV_stepg (by rfl) rfl _ (growAt_load_row 35 _ rfl _ rfl 1 _ _ rfl _ Try.underlying35 rfl (sz_elem (eb).1)) ?_; dsimp only [putL, setNth])
  (refine wpV_stepg (by rfl) rfl _ (growAt_call (args := #[.agg (ints .u64 Ea), .agg (ints .u64 Eb)]) (by intro w; go_simp) (fun w => mulE_any Ea Eb ea eb w)) ?_; dsimp only [putL, setNth])
  (refine wpV_stepg (by rfl) rfl _ (growAt_load_row 35 _ rfl _ rfl 1 _ _ rfl _ Try.underlying35 rfl (sz_elem (eb).1)) ?_; dsimp only [putL, setNth])
  (refine wpV_stepg (by rfl) rfl _ (growAt_load_row 35 _ rfl _ rfl 2 _ _ rfl _ Try.underlying35 rfl (sz_elem (ea).1)) ?_; dsimp only [putL, setNth])
  (refine wpV_stepg (by rfl) rfl _ (growAt_call (args := #[.agg (ints .u64 Eb), .agg (ints .u64 Ea)]) (by intro w; go_simp) (fun w => mulE_any Eb Ea eb ea w)) ?_; dsimp only [putL, setNth])
  (refine wpV_stepg (by rfl) rfl _ (growAt_call (args := #[.agg (ints .u64 (mulE Ea Eb)), .agg (ints .u64 (mulE Eb Ea))]) (by intro w; go_simp) (fun w => same_true (mulE_is ea eb) (mulE_is eb ea) (congrArg (· % PP) (by grind)) w)) ?_; dsimp only [putL, setNth])
  (first | (refine wpV_stepg (by rfl) rfl _ (growAt_move _ rfl _ rfl) ?_; dsimp only [putL, setNth, evL, nth]) | (refine wpV_stepg (by rfl) rfl _ (growAt_assign _ rfl _ rfl) ?_; dsimp only [putL, setNth, evL, nth]) | (refine wpV_stepg (by rfl) rfl _ (growAt_bits _ _ _ _ _ rfl (by decide) _ _ _ rfl rfl) ?_; dsimp only [putL, setNth]) | (refine wpV_stepg (by rfl) rfl _ (growAt_bin _ _ _ _ _ rfl _ _ rfl rfl _ (by intro w; go_simp; try rfl)) ?_; dsimp only [putL, setNth]) | (refine wpV_stepg (by rfl) rfl _ (growAt_un _ _ _ rfl _ rfl _ (by intro w; go_simp; try rfl)) ?_; dsimp only [putL, setNth]) | (refine wpV_stepg (by rfl) rfl _ (growAt_conv _ _ _ rfl _ rfl _ (by intro w; go_simp; try rfl)) ?_; dsimp only [putL, setNth]) | (refine wpV_stepg (by rfl) rfl _ (growAt_fld _ _ _ rfl _ rfl _ (by intro w; go_simp; try rfl)) ?_; dsimp only [putL, setNth]) | (refine wpV_stepg (by rfl) rfl _ (growAt_idx _ _ _ rfl _ _ rfl rfl _ (by intro w; go_simp; try rfl)) ?_; dsimp only [putL, setNth]) | (refine wpV_stepg (by rfl) rfl _ (growAt_extract _ _ rfl _ rfl _ rfl) ?_; dsimp only [putL, setNth]) | (refine wpV_stepg (by rfl) rfl _ (growAt_pick _ _ _ rfl _ rfl _ _ rfl rfl) ?_; dsimp only [putL, setNth]))
  refine wpV_nil ?_; clear hown; intro _ hown; simp only [List.nil_append, List.cons_append] at hown
  go_upto_region 4 with (fail)
  refine wp_region_grow 25 [0, 1, 2, 3, 4, 5, 6, 7, 8, 9, 10, 11, 12, 13, 14, 15, 16, 17, 18, 19, 20, 21, 22, 23, 24] (by kernel_rfl) (by kernel_rfl) hown ?_; simp only [List.filterMap_cons, List.filterMap_nil, List.getElem?_cons_zero, List.getElem?_cons_succ, List.drop_succ_cons, List.drop_zero]
  (refine wpV_step rfl rfl _ (growAt_load_row 35 _ rfl _ rfl 2 _ _ rfl _ Try.underlying35 rfl (sz_elem (ea).1)) ?_; dsimp only [putL, setNth])
  (refine wpV_step rfl rfl _ (growAt_load_row 35 _ rfl _ rfl 1 _ _ rfl _ Try.underlying35 rfl (sz_elem (eb).1)) ?_; dsimp only [putL, setNth])
  (refine wpV_step rfl rfl _ (growAt_call (args := #[.agg (ints .u64 Ea), .agg (ints .u64 Eb)]) (by intro w; go_simp) (fun w => addE_any Ea Eb ea eb w)) ?_; dsimp only [putL, setNth])
  (refine wpV_step rfl rfl _ (growAt_load_row 35 _ rfl _ rfl 0 _ _ rfl _ Try.underlying35 rfl (sz_elem (ec).1)) ?_; dsimp only [putL, setNth])
  (refine wpV_step rfl rfl _ (growAt_call (args := #[.agg (ints .u64 (addE Ea Eb)), .agg (ints .u64 Ec)]) (by intro w; go_simp) (fun w => addE_any (addE Ea Eb) Ec (addE_is ea eb) ec w)) ?_; dsimp only [putL, setNth])
  (refine wpV_step rfl rfl _ (growAt_load_row 35 _ rfl _ rfl 2 _ _ rfl _ Try.underlying35 rfl (sz_elem (ea).1)) ?_; dsimp only [putL, setNth])
  (refine wpV_step rfl rfl _ (growAt_load_row 35 _ rfl _ rfl 1 _ _ rfl _ Try.underlying35 rfl (sz_elem (eb).1)) ?_; dsimp only [putL, setNth])
  (refine wpV_step rfl rfl _ (growAt_load_row 35 _ rfl _ rfl 0 _ _ rfl _ Try.underlying35 rfl (sz_elem (ec).1)) ?_; dsimp only [putL, setNth])
  (refine wpV_step rfl rfl _ (growAt_call (args := #[.agg (ints .u64 Eb), .agg (ints .u64 Ec)]) (by intro w; go_simp) (fun w => addE_any Eb Ec eb ec w)) ?_; dsimp only [putL, setNth])
  (refine wpV_step rfl rfl _ (growAt_call (args := #[.agg (ints .u64 Ea), .agg (ints .u64 (addE Eb Ec))]) (by intro w; go_simp) (fun w => addE_any Ea (addE Eb Ec) ea (addE_is eb ec) w)) ?_; dsimp only [putL, setNth])
  (refine wpV_step rfl rfl _ (growAt_call (args := #[.agg (ints .u64 (addE (addE Ea Eb) Ec)), .agg (ints .u64 (addE Ea (addE Eb Ec)))]) (by intro w; go_simp) (fun w => same_true (addE_is (addE_is ea eb) ec) (addE_is ea (addE_is eb ec)) (congrArg (· % PP) (by grind)) w)) ?_; dsimp only [putL, setNth])
  (first | (refine wpV_step rfl rfl _ (growAt_move _ rfl _ rfl) ?_; dsimp only [putL, setNth, evL, nth]) | (refine wpV_step rfl rfl _ (growAt_assign _ rfl _ rfl) ?_; dsimp only [putL, setNth, evL, nth]) | (refine wpV_step rfl rfl _ (growAt_bits _ _ _ _ _ rfl (by decide) _ _ _ rfl rfl) ?_; dsimp only [putL, setNth]) | (refine wpV_step rfl rfl _ (growAt_bin _ _ _ _ _ rfl _ _ rfl rfl _ (by intro w; go_simp; try rfl)) ?_; dsimp only [putL, setNth]) | (refine wpV_step rfl rfl _ (growAt_un _ _ _ rfl _ rfl _ (by intro w; go_simp; try rfl)) ?_; dsimp only [putL, setNth]) | (refine wpV_step rfl rfl _ (growAt_conv _ _ _ rfl _ rfl _ (by intro w; go_simp; try rfl)) ?_; dsimp only [putL, setNth]) | (refine wpV_step rfl rfl _ (growAt_fld _ _ _ rfl _ rfl _ (by intro w; go_simp; try rfl)) ?_; dsimp only [putL, setNth]) | (refine wpV_step rfl rfl _ (growAt_idx _ _ _ rfl _ _ rfl rfl _ (by intro w; go_simp; try rfl)) ?_; dsimp only [putL, setNth]) | (refine wpV_step rfl rfl _ (growAt_extract _ _ rfl _ rfl _ rfl) ?_; dsimp only [putL, setNth]) | (refine wpV_step rfl rfl _ (growAt_pick _ _ _ rfl _ rfl _ _ rfl rfl) ?_; dsimp only [putL, setNth]))
  (first | (refine wpV_step rfl rfl _ (growAt_move _ rfl _ rfl) ?_; dsimp only [putL, setNth, evL, nth]) | (refine wpV_step rfl rfl _ (growAt_assign _ rfl _ rfl) ?_; dsimp only [putL, setNth, evL, nth]) | (refine wpV_step rfl rfl _ (growAt_bits _ _ _ _ _ rfl (by decide) _ _ _ rfl rfl) ?_; dsimp only [putL, setNth]) | (refine wpV_step rfl rfl _ (growAt_bin _ _ _ _ _ rfl _ _ rfl rfl _ (by intro w; go_simp; try rfl)) ?_; dsimp only [putL, setNth]) | (refine wpV_step rfl rfl _ (growAt_un _ _ _ rfl _ rfl _ (by intro w; go_simp; try rfl)) ?_; dsimp only [putL, setNth]) | (refine wpV_step rfl rfl _ (growAt_conv _ _ _ rfl _ rfl _ (by intro w; go_simp; try rfl)) ?_; dsimp only [putL, setNth]) | (refine wpV_step rfl rfl _ (growAt_fld _ _ _ rfl _ rfl _ (by intro w; go_simp; try rfl)) ?_; dsimp only [putL, setNth]) | (refine wpV_step rfl rfl _ (growAt_idx _ _ _ rfl _ _ rfl rfl _ (by intro w; go_simp; try rfl)) ?_; dsimp only [putL, setNth]) | (refine wpV_step rfl rfl _ (growAt_extract _ _ rfl _ rfl _ rfl) ?_; dsimp only [putL, setNth]) | (refine wpV_step rfl rfl _ (growAt_pick _ _ _ rfl _ rfl _ _ rfl rfl) ?_; dsimp only [putL, setNth]))
  (refine wpV_stepg (by rfl) rfl _ (growAt_load_row 35 _ rfl _ rfl 2 _ _ rfl _ Try.underlying35 rfl (sz_elem (ea).1)) ?_; dsimp only [putL, setNth])
  (refine wpV_stepg (by rfl) rfl _ (growAt_load_row 35 _ rfl _ rfl 1 _ _ rfl _ Try.underlying35 rfl (sz_elem (eb).1)) ?_; dsimp only [putL, setNth])
  (refine wpV_stepg (by rfl) rfl _ (growAt_call (args := #[.agg (ints .u64 Ea), .agg (ints .u64 Eb)]) (by intro w; go_simp) (fun w => mulE_any Ea Eb ea eb w)) ?_; dsimp only [putL, setNth])
  (refine wpV_stepg (by rfl) rfl _ (growAt_load_row 35 _ rfl _ rfl 0 _ _ rfl _ Try.underlying35 rfl (sz_elem (ec).1)) ?_; dsimp only [putL, setNth])
  (refine wpV_stepg (by rfl) rfl _ (growAt_call (args := #[.agg (ints .u64 (mulE Ea Eb)), .agg (ints .u64 Ec)]) (by intro w; go_simp) (fun w => mulE_any (mulE Ea Eb) Ec (mulE_is ea eb) ec w)) ?_; dsimp only [putL, setNth])
  (refine wpV_stepg (by rfl) rfl _ (growAt_load_row 35 _ rfl _ rfl 2 _ _ rfl _ Try.underlying35 rfl (sz_elem (ea).1)) ?_; dsimp only [putL, setNth])
  (refine wpV_stepg (by rfl) rfl _ (growAt_load_row 35 _ rfl _ rfl 1 _ _ rfl _ Try.underlying35 rfl (sz_elem (eb).1)) ?_; dsimp only [putL, setNth])
  (refine wpV_stepg (by rfl) rfl _ (growAt_load_row 35 _ rfl _ rfl 0 _ _ rfl _ Try.underlying35 rfl (sz_elem (ec).1)) ?_; dsimp only [putL, setNth])
  (refine wpV_stepg (by rfl) rfl _ (growAt_call (args := #[.agg (ints .u64 Eb), .agg (ints .u64 Ec)]) (by intro w; go_simp) (fun w => mulE_any Eb Ec eb ec w)) ?_; dsimp only [putL, setNth])
  (refine wpV_stepg (by rfl) rfl _ (growAt_call (args := #[.agg (ints .u64 Ea), .agg (ints .u64 (mulE Eb Ec))]) (by intro w; go_simp) (fun w => mulE_any Ea (mulE Eb Ec) ea (mulE_is eb ec) w)) ?_; dsimp only [putL, setNth])
  (refine wpV_stepg (by rfl) rfl _ (growAt_call (args := #[.agg (ints .u64 (mulE (mulE Ea Eb) Ec)), .agg (ints .u64 (mulE Ea (mulE Eb Ec)))]) (by intro w; go_simp) (fun w => same_true (mulE_is (mulE_is ea eb) ec) (mulE_is ea (mulE_is eb ec)) (congrArg (· % PP) (by grind)) w)) ?_; dsimp only [putL, setNth])
  (first | (refine wpV_stepg (by rfl) rfl _ (growAt_move _ rfl _ rfl) ?_; dsimp only [putL, setNth, evL, nth]) | (refine wpV_stepg (by rfl) rfl _ (growAt_assign _ rfl _ rfl) ?_; dsimp only [putL, setNth, evL, nth]) | (refine wpV_stepg (by rfl) rfl _ (growAt_bits _ _ _ _ _ rfl (by decide) _ _ _ rfl rfl) ?_; dsimp only [putL, setNth]) | (refine wpV_stepg (by rfl) rfl _ (growAt_bin _ _ _ _ _ rfl _ _ rfl rfl _ (by intro w; go_simp; try rfl)) ?_; dsimp only [putL, setNth]) | (refine wpV_stepg (by rfl) rfl _ (growAt_un _ _ _ rfl _ rfl _ (by intro w; go_simp; try rfl)) ?_; dsimp only [putL, setNth]) | (refine wpV_stepg (by rfl) rfl _ (growAt_conv _ _ _ rfl _ rfl _ (by intro w; go_simp; try rfl)) ?_; dsimp only [putL, setNth]) | (refine wpV_stepg (by rfl) rfl _ (growAt_fld _ _ _ rfl _ rfl _ (by intro w; go_simp; try rfl)) ?_; dsimp only [putL, setNth]) | (refine wpV_stepg (by rfl) rfl _ (growAt_idx _ _ _ rfl _ _ rfl rfl _ (by intro w; go_simp; try rfl)) ?_; dsimp only [putL, setNth]) | (refine wpV_stepg (by rfl) rfl _ (growAt_extract _ _ rfl _ rfl _ rfl) ?_; dsimp only [putL, setNth]) | (refine wpV_stepg (by rfl) rfl _ (growAt_pick _ _ _ rfl _ rfl _ _ rfl rfl) ?_; dsimp only [putL, setNth]))
  refine wpV_nil ?_; clear hown; intro _ hown; simp only [List.nil_append, List.cons_append] at hown
  go_upto_region 6 with (fail)
  refine wp_region_grow 13 [0, 1, 2, 3, 4, 5, 6, 7, 8, 9, 10, 11, 12] (by kernel_rfl) (by kernel_rfl) hown ?_; simp only [List.filterMap_cons, List.filterMap_nil, List.getElem?_cons_zero, List.getElem?_cons_succ, List.drop_succ_cons, List.drop_zero]
  (refine wpV_step rfl rfl _ (growAt_load_row 35 _ rfl _ rfl 2 _ _ rfl _ Try.underlying35 rfl (sz_elem (ea).1)) ?_; dsimp only [putL, setNth])
  (refine wpV_step rfl rfl _ (growAt_load_row 35 _ rfl _ rfl 1 _ _ rfl _ Try.underlying35 rfl (sz_elem (eb).1)) ?_; dsimp only [putL, setNth])
  (refine wpV_step rfl rfl _ (growAt_load_row 35 _ rfl _ rfl 0 _ _ rfl _ Try.underlying35 rfl (sz_elem (ec).1)) ?_; dsimp only [putL, setNth])
  (refine wpV_step rfl rfl _ (growAt_call (args := #[.agg (ints .u64 Eb), .agg (ints .u64 Ec)]) (by intro w; go_simp) (fun w => addE_any Eb Ec eb ec w)) ?_; dsimp only [putL, setNth])
  (refine wpV_step rfl rfl _ (growAt_call (args := #[.agg (ints .u64 Ea), .agg (ints .u64 (addE Eb Ec))]) (by intro w; go_simp) (fun w => mulE_any Ea (addE Eb Ec) ea (addE_is eb ec) w)) ?_; dsimp only [putL, setNth])
  (refine wpV_step rfl rfl _ (growAt_load_row 35 _ rfl _ rfl 2 _ _ rfl _ Try.underlying35 rfl (sz_elem (ea).1)) ?_; dsimp only [putL, setNth])
  (refine wpV_step rfl rfl _ (growAt_load_row 35 _ rfl _ rfl 1 _ _ rfl _ Try.underlying35 rfl (sz_elem (eb).1)) ?_; dsimp only [putL, setNth])
  (refine wpV_step rfl rfl _ (growAt_call (args := #[.agg (ints .u64 Ea), .agg (ints .u64 Eb)]) (by intro w; go_simp) (fun w => mulE_any Ea Eb ea eb w)) ?_; dsimp only [putL, setNth])
  (refine wpV_step rfl rfl _ (growAt_load_row 35 _ rfl _ rfl 2 _ _ rfl _ Try.underlying35 rfl (sz_elem (ea).1)) ?_; dsimp only [putL, setNth])
  (refine wpV_step rfl rfl _ (growAt_load_row 35 _ rfl _ rfl 0 _ _ rfl _ Try.underlying35 rfl (sz_elem (ec).1)) ?_; dsimp only [putL, setNth])
  (refine wpV_step rfl rfl _ (growAt_call (args := #[.agg (ints .u64 Ea), .agg (ints .u64 Ec)]) (by intro w; go_simp) (fun w => mulE_any Ea Ec ea ec w)) ?_; dsimp only [putL, setNth])
  (refine wpV_step rfl rfl _ (growAt_call (args := #[.agg (ints .u64 (mulE Ea Eb)), .agg (ints .u64 (mulE Ea Ec))]) (by intro w; go_simp) (fun w => addE_any (mulE Ea Eb) (mulE Ea Ec) (mulE_is ea eb) (mulE_is ea ec) w)) ?_; dsimp only [putL, setNth])
  (refine wpV_step rfl rfl _ (growAt_call (args := #[.agg (ints .u64 (mulE Ea (addE Eb Ec))), .agg (ints .u64 (addE (mulE Ea Eb) (mulE Ea Ec)))]) (by intro w; go_simp) (fun w => same_true (mulE_is ea (addE_is eb ec)) (addE_is (mulE_is ea eb) (mulE_is ea ec)) (congrArg (· % PP) (by grind)) w)) ?_; dsimp only [putL, setNth])
  refine wpV_nil ?_; clear hown; intro _ hown; simp only [List.nil_append, List.cons_append] at hown
  go_upto_region 8 with (fail)
  refine wp_region_grow 30 [0, 1, 2, 3, 4, 5, 6, 7, 8, 9, 10, 11, 12, 13, 14, 15, 16, 17, 18, 19, 20, 21, 22, 23, 24, 25, 26, 27, 28, 29] (by kernel_rfl) (by kernel_rfl) hown ?_; simp only [List.filterMap_cons, List.filterMap_nil, List.getElem?_cons_zero, List.getElem?_cons_succ, List.drop_succ_cons, List.drop_zero]
  (refine wpV_step rfl rfl _ (growAt_load_row 35 _ rfl _ rfl 2 _ _ rfl _ Try.underlying35 rfl (sz_elem (ea).1)) ?_; dsimp only [putL, setNth])
  (refine wpV_step rfl rfl _ (growAt_load_row 35 _ rfl _ rfl 1 _ _ rfl _ Try.underlying35 rfl (sz_elem (eb).1)) ?_; dsimp only [putL, setNth])
  (refine wpV_step rfl rfl _ (growAt_call (args := #[.agg (ints .u64 Ea), .agg (ints .u64 Eb)]) (by intro w; go_simp) (fun w => subE_any Ea Eb ea eb w)) ?_; dsimp only [putL, setNth])
  (refine wpV_step rfl rfl _ (growAt_load_row 35 _ rfl _ rfl 1 _ _ rfl _ Try.underlying35 rfl (sz_elem (eb).1)) ?_; dsimp only [putL, setNth])
  (refine wpV_step rfl rfl _ (growAt_call (args := #[.agg (ints .u64 (subE Ea Eb)), .agg (ints .u64 Eb)]) (by intro w; go_simp) (fun w => addE_any (subE Ea Eb) Eb (subE_is ea eb) eb w)) ?_; dsimp only [putL, setNth])
  (refine wpV_step rfl rfl _ (growAt_load_row 35 _ rfl _ rfl 2 _ _ rfl _ Try.underlying35 rfl (sz_elem (ea).1)) ?_; dsimp only [putL, setNth])
  (refine wpV_step rfl rfl _ (growAt_call (args := #[.agg (ints .u64 (addE (subE Ea Eb) Eb)), .agg (ints .u64 Ea)]) (by intro w; go_simp) (fun w => same_true (addE_is (subE_is ea eb) eb) ea (congrArg (· % PP) (by grind)) w)) ?_; dsimp only [putL, setNth])
  (first | (refine wpV_step rfl rfl _ (growAt_move _ rfl _ rfl) ?_; dsimp only [putL, setNth, evL, nth]) | (refine wpV_step rfl rfl _ (growAt_assign _ rfl _ rfl) ?_; dsimp only [putL, setNth, evL, nth]) | (refine wpV_step rfl rfl _ (growAt_bits _ _ _ _ _ rfl (by decide) _ _ _ rfl rfl) ?_; dsimp only [putL, setNth]) | (refine wpV_step rfl rfl _ (growAt_bin _ _ _ _ _ rfl _ _ rfl rfl _ (by intro w; go_simp; try rfl)) ?_; dsimp only [putL, setNth]) | (refine wpV_step rfl rfl _ (growAt_un _ _ _ rfl _ rfl _ (by intro w; go_simp; try rfl)) ?_; dsimp only [putL, setNth]) | (refine wpV_step rfl rfl _ (growAt_conv _ _ _ rfl _ rfl _ (by intro w; go_simp; try rfl)) ?_; dsimp only [putL, setNth]) | (refine wpV_step rfl rfl _ (growAt_fld _ _ _ rfl _ rfl _ (by intro w; go_simp; try rfl)) ?_; dsimp only [putL, setNth]) | (refine wpV_step rfl rfl _ (growAt_idx _ _ _ rfl _ _ rfl rfl _ (by intro w; go_simp; try rfl)) ?_; dsimp only [putL, setNth]) | (refine wpV_step rfl rfl _ (growAt_extract _ _ rfl _ rfl _ rfl) ?_; dsimp only [putL, setNth]) | (refine wpV_step rfl rfl _ (growAt_pick _ _ _ rfl _ rfl _ _ rfl rfl) ?_; dsimp only [putL, setNth]))
  (refine wpV_stepg (by rfl) rfl _ (growAt_load_row 35 _ rfl _ rfl 2 _ _ rfl _ Try.underlying35 rfl (sz_elem (ea).1)) ?_; dsimp only [putL, setNth])
  (refine wpV_stepg (by rfl) rfl _ (growAt_load_row 35 _ rfl _ rfl 2 _ _ rfl _ Try.underlying35 rfl (sz_elem (ea).1)) ?_; dsimp only [putL, setNth])
  (refine wpV_stepg (by rfl) rfl _ (growAt_call (args := #[.agg (ints .u64 Ea), .agg (ints .u64 Ea)]) (by intro w; go_simp) (fun w => subE_any Ea Ea ea ea w)) ?_; dsimp only [putL, setNth])
  (refine wpV_stepg (by rfl) rfl _ (growAt_call (args := #[.agg (ints .u64 (subE Ea Ea))]) (by intro w; go_simp) (fun w => zero_true (subE_is ea ea) (by rw [Int.sub_self]; rfl) w)) ?_; dsimp only [putL, setNth])
  (first | (refine wpV_step rfl rfl _ (growAt_move _ rfl _ rfl) ?_; dsimp only [putL, setNth, evL, nth]) | (refine wpV_step rfl rfl _ (growAt_assign _ rfl _ rfl) ?_; dsimp only [putL, setNth, evL, nth]) | (refine wpV_step rfl rfl _ (growAt_bits _ _ _ _ _ rfl (by decide) _ _ _ rfl rfl) ?_; dsimp only [putL, setNth]) | (refine wpV_step rfl rfl _ (growAt_bin _ _ _ _ _ rfl _ _ rfl rfl _ (by intro w; go_simp; try rfl)) ?_; dsimp only [putL, setNth]) | (refine wpV_step rfl rfl _ (growAt_un _ _ _ rfl _ rfl _ (by intro w; go_simp; try rfl)) ?_; dsimp only [putL, setNth]) | (refine wpV_step rfl rfl _ (growAt_conv _ _ _ rfl _ rfl _ (by intro w; go_simp; try rfl)) ?_; dsimp only [putL, setNth]) | (refine wpV_step rfl rfl _ (growAt_fld _ _ _ rfl _ rfl _ (by intro w; go_simp; try rfl)) ?_; dsimp only [putL, setNth]) | (refine wpV_step rfl rfl _ (growAt_idx _ _ _ rfl _ _ rfl rfl _ (by intro w; go_simp; try rfl)) ?_; dsimp only [putL, setNth]) | (refine wpV_step rfl rfl _ (growAt_extract _ _ rfl _ rfl _ rfl) ?_; dsimp only [putL, setNth]) | (refine wpV_step rfl rfl _ (growAt_pick _ _ _ rfl _ rfl _ _ rfl rfl) ?_; dsimp only [putL, setNth]))
  (first | (refine wpV_step rfl rfl _ (growAt_move _ rfl _ rfl) ?_; dsimp only [putL, setNth, evL, nth]) | (refine wpV_step rfl rfl _ (growAt_assign _ rfl _ rfl) ?_; dsimp only [putL, setNth, evL, nth]) | (refine wpV_step rfl rfl _ (growAt_bits _ _ _ _ _ rfl (by decide) _ _ _ rfl rfl) ?_; dsimp only [putL, setNth]) | (refine wpV_step rfl rfl _ (growAt_bin _ _ _ _ _ rfl _ _ rfl rfl _ (by intro w; go_simp; try rfl)) ?_; dsimp only [putL, setNth]) | (refine wpV_step rfl rfl _ (growAt_un _ _ _ rfl _ rfl _ (by intro w; go_simp; try rfl)) ?_; dsimp only [putL, setNth]) | (refine wpV_step rfl rfl _ (growAt_conv _ _ _ rfl _ rfl _ (by intro w; go_simp; try rfl)) ?_; dsimp only [putL, setNth]) | (refine wpV_step rfl rfl _ (growAt_fld _ _ _ rfl _ rfl _ (by intro w; go_simp; try rfl)) ?_; dsimp only [putL, setNth]) | (refine wpV_step rfl rfl _ (growAt_idx _ _ _ rfl _ _ rfl rfl _ (by intro w; go_simp; try rfl)) ?_; dsimp only [putL, setNth]) | (refine wpV_step rfl rfl _ (growAt_extract _ _ rfl _ rfl _ rfl) ?_; dsimp only [putL, setNth]) | (refine wpV_step rfl rfl _ (growAt_pick _ _ _ rfl _ rfl _ _ rfl rfl) ?_; dsimp only [putL, setNth]))
  (refine wpV_stepg (by rfl) rfl _ (growAt_load_row 35 _ rfl _ rfl 2 _ _ rfl _ Try.underlying35 rfl (sz_elem (ea).1)) ?_; dsimp only [putL, setNth])
  (refine wpV_stepg (by rfl) rfl _ (growAt_call (args := #[.int .u32 1]) (by intro w; go_simp) (fun w => smallE_any 1 ⟨by omega, by omega⟩ w)) ?_; dsimp only [putL, setNth])
  (refine wpV_stepg (by rfl) rfl _ (growAt_call (args := #[.agg (ints .u64 Ea), .agg (ints .u64 (smallE 1))]) (by intro w; go_simp) (fun w => mulE_any Ea (smallE 1) ea (smallE_is (n := 1) ⟨by omega, by omega⟩) w)) ?_; dsimp only [putL, setNth])
  (refine wpV_stepg (by rfl) rfl _ (growAt_load_row 35 _ rfl _ rfl 2 _ _ rfl _ Try.underlying35 rfl (sz_elem (ea).1)) ?_; dsimp only [putL, setNth])
  (refine wpV_stepg (by rfl) rfl _ (growAt_call (args := #[.agg (ints .u64 (mulE Ea (smallE 1))), .agg (ints .u64 Ea)]) (by intro w; go_simp) (fun w => same_true (mulE_is ea (smallE_is (n := 1) ⟨by omega, by omega⟩)) ea (congrArg (· % PP) (by grind)) w)) ?_; dsimp only [putL, setNth])
  (first | (refine wpV_step rfl rfl _ (growAt_move _ rfl _ rfl) ?_; dsimp only [putL, setNth, evL, nth]) | (refine wpV_step rfl rfl _ (growAt_assign _ rfl _ rfl) ?_; dsimp only [putL, setNth, evL, nth]) | (refine wpV_step rfl rfl _ (growAt_bits _ _ _ _ _ rfl (by decide) _ _ _ rfl rfl) ?_; dsimp only [putL, setNth]) | (refine wpV_step rfl rfl _ (growAt_bin _ _ _ _ _ rfl _ _ rfl rfl _ (by intro w; go_simp; try rfl)) ?_; dsimp only [putL, setNth]) | (refine wpV_step rfl rfl _ (growAt_un _ _ _ rfl _ rfl _ (by intro w; go_simp; try rfl)) ?_; dsimp only [putL, setNth]) | (refine wpV_step rfl rfl _ (growAt_conv _ _ _ rfl _ rfl _ (by intro w; go_simp; try rfl)) ?_; dsimp only [putL, setNth]) | (refine wpV_step rfl rfl _ (growAt_fld _ _ _ rfl _ rfl _ (by intro w; go_simp; try rfl)) ?_; dsimp only [putL, setNth]) | (refine wpV_step rfl rfl _ (growAt_idx _ _ _ rfl _ _ rfl rfl _ (by intro w; go_simp; try rfl)) ?_; dsimp only [putL, setNth]) | (refine wpV_step rfl rfl _ (growAt_extract _ _ rfl _ rfl _ rfl) ?_; dsimp only [putL, setNth]) | (refine wpV_step rfl rfl _ (growAt_pick _ _ _ rfl _ rfl _ _ rfl rfl) ?_; dsimp only [putL, setNth]))
  (first | (refine wpV_step rfl rfl _ (growAt_move _ rfl _ rfl) ?_; dsimp only [putL, setNth, evL, nth]) | (refine wpV_step rfl rfl _ (growAt_assign _ rfl _ rfl) ?_; dsimp only [putL, setNth, evL, nth]) | (refine wpV_step rfl rfl _ (growAt_bits _ _ _ _ _ rfl (by decide) _ _ _ rfl rfl) ?_; dsimp only [putL, setNth]) | (refine wpV_step rfl rfl _ (growAt_bin _ _ _ _ _ rfl _ _ rfl rfl _ (by intro w; go_simp; try rfl)) ?_; dsimp only [putL, setNth]) | (refine wpV_step rfl rfl _ (growAt_un _ _ _ rfl _ rfl _ (by intro w; go_simp; try rfl)) ?_; dsimp only [putL, setNth]) | (refine wpV_step rfl rfl _ (growAt_conv _ _ _ rfl _ rfl _ (by intro w; go_simp; try rfl)) ?_; dsimp only [putL, setNth]) | (refine wpV_step rfl rfl _ (growAt_fld _ _ _ rfl _ rfl _ (by intro w; go_simp; try rfl)) ?_; dsimp only [putL, setNth]) | (refine wpV_step rfl rfl _ (growAt_idx _ _ _ rfl _ _ rfl rfl _ (by intro w; go_simp; try rfl)) ?_; dsimp only [putL, setNth]) | (refine wpV_step rfl rfl _ (growAt_extract _ _ rfl _ rfl _ rfl) ?_; dsimp only [putL, setNth]) | (refine wpV_step rfl rfl _ (growAt_pick _ _ _ rfl _ rfl _ _ rfl rfl) ?_; dsimp only [putL, setNth]))
  (refine wpV_stepg (by rfl) rfl _ (growAt_load_row 35 _ rfl _ rfl 2 _ _ rfl _ Try.underlying35 rfl (sz_elem (ea).1)) ?_; dsimp only [putL, setNth])
  (refine wpV_stepg (by rfl) rfl _ (growAt_call (args := #[.int .u32 0]) (by intro w; go_simp) (fun w => smallE_any 0 ⟨by omega, by omega⟩ w)) ?_; dsimp only [putL, setNth])
  (refine wpV_stepg (by rfl) rfl _ (growAt_call (args := #[.agg (ints .u64 Ea), .agg (ints .u64 (smallE 0))]) (by intro w; go_simp) (fun w => addE_any Ea (smallE 0) ea (smallE_is (n := 0) ⟨by omega, by omega⟩) w)) ?_; dsimp only [putL, setNth])
  (refine wpV_stepg (by rfl) rfl _ (growAt_load_row 35 _ rfl _ rfl 2 _ _ rfl _ Try.underlying35 rfl (sz_elem (ea).1)) ?_; dsimp only [putL, setNth])
  (refine wpV_stepg (by rfl) rfl _ (growAt_call (args := #[.agg (ints .u64 (addE Ea (smallE 0))), .agg (ints .u64 Ea)]) (by intro w; go_simp) (fun w => same_true (addE_is ea (smallE_is (n := 0) ⟨by omega, by omega⟩)) ea (congrArg (· % PP) (by grind)) w)) ?_; dsimp only [putL, setNth])
  (first | (refine wpV_step rfl rfl _ (growAt_move _ rfl _ rfl) ?_; dsimp only [putL, setNth, evL, nth]) | (refine wpV_step rfl rfl _ (growAt_assign _ rfl _ rfl) ?_; dsimp only [putL, setNth, evL, nth]) | (refine wpV_step rfl rfl _ (growAt_bits _ _ _ _ _ rfl (by decide) _ _ _ rfl rfl) ?_; dsimp only [putL, setNth]) | (refine wpV_step rfl rfl _ (growAt_bin _ _ _ _ _ rfl _ _ rfl rfl _ (by intro w; go_simp; try rfl)) ?_; dsimp only [putL, setNth]) | (refine wpV_step rfl rfl _ (growAt_un _ _ _ rfl _ rfl _ (by intro w; go_simp; try rfl)) ?_; dsimp only [putL, setNth]) | (refine wpV_step rfl rfl _ (growAt_conv _ _ _ rfl _ rfl _ (by intro w; go_simp; try rfl)) ?_; dsimp only [putL, setNth]) | (refine wpV_step rfl rfl _ (growAt_fld _ _ _ rfl _ rfl _ (by intro w; go_simp; try rfl)) ?_; dsimp only [putL, setNth]) | (refine wpV_step rfl rfl _ (growAt_idx _ _ _ rfl _ _ rfl rfl _ (by intro w; go_simp; try rfl)) ?_; dsimp only [putL, setNth]) | (refine wpV_step rfl rfl _ (growAt_extract _ _ rfl _ rfl _ rfl) ?_; dsimp only [putL, setNth]) | (refine wpV_step rfl rfl _ (growAt_pick _ _ _ rfl _ rfl _ _ rfl rfl) ?_; dsimp only [putL, setNth]))
  (first | (refine wpV_step rfl rfl _ (growAt_move _ rfl _ rfl) ?_; dsimp only [putL, setNth, evL, nth]) | (refine wpV_step rfl rfl _ (growAt_assign _ rfl _ rfl) ?_; dsimp only [putL, setNth, evL, nth]) | (refine wpV_step rfl rfl _ (growAt_bits _ _ _ _ _ rfl (by decide) _ _ _ rfl rfl) ?_; dsimp only [putL, setNth]) | (refine wpV_step rfl rfl _ (growAt_bin _ _ _ _ _ rfl _ _ rfl rfl _ (by intro w; go_simp; try rfl)) ?_; dsimp only [putL, setNth]) | (refine wpV_step rfl rfl _ (growAt_un _ _ _ rfl _ rfl _ (by intro w; go_simp; try rfl)) ?_; dsimp only [putL, setNth]) | (refine wpV_step rfl rfl _ (growAt_conv _ _ _ rfl _ rfl _ (by intro w; go_simp; try rfl)) ?_; dsimp only [putL, setNth]) | (refine wpV_step rfl rfl _ (growAt_fld _ _ _ rfl _ rfl _ (by intro w; go_simp; try rfl)) ?_; dsimp only [putL, setNth]) | (refine wpV_step rfl rfl _ (growAt_idx _ _ _ rfl _ _ rfl rfl _ (by intro w; go_simp; try rfl)) ?_; dsimp only [putL, setNth]) | (refine wpV_step rfl rfl _ (growAt_extract _ _ rfl _ rfl _ rfl) ?_; dsimp only [putL, setNth]) | (refine wpV_step rfl rfl _ (growAt_pick _ _ _ rfl _ rfl _ _ rfl rfl) ?_; dsimp only [putL, setNth]))
  (refine wpV_stepg (by rfl) rfl _ (growAt_call (args := #[]) (by intro w; go_simp) (fun w => awake_any w)) ?_; dsimp only [putL, setNth])
  (first | (refine wpV_step rfl rfl _ (growAt_move _ rfl _ rfl) ?_; dsimp only [putL, setNth, evL, nth]) | (refine wpV_step rfl rfl _ (growAt_assign _ rfl _ rfl) ?_; dsimp only [putL, setNth, evL, nth]) | (refine wpV_step rfl rfl _ (growAt_bits _ _ _ _ _ rfl (by decide) _ _ _ rfl rfl) ?_; dsimp only [putL, setNth]) | (refine wpV_step rfl rfl _ (growAt_bin _ _ _ _ _ rfl _ _ rfl rfl _ (by intro w; go_simp; try rfl)) ?_; dsimp only [putL, setNth]) | (refine wpV_step rfl rfl _ (growAt_un _ _ _ rfl _ rfl _ (by intro w; go_simp; try rfl)) ?_; dsimp only [putL, setNth]) | (refine wpV_step rfl rfl _ (growAt_conv _ _ _ rfl _ rfl _ (by intro w; go_simp; try rfl)) ?_; dsimp only [putL, setNth]) | (refine wpV_step rfl rfl _ (growAt_fld _ _ _ rfl _ rfl _ (by intro w; go_simp; try rfl)) ?_; dsimp only [putL, setNth]) | (refine wpV_step rfl rfl _ (growAt_idx _ _ _ rfl _ _ rfl rfl _ (by intro w; go_simp; try rfl)) ?_; dsimp only [putL, setNth]) | (refine wpV_step rfl rfl _ (growAt_extract _ _ rfl _ rfl _ rfl) ?_; dsimp only [putL, setNth]) | (refine wpV_step rfl rfl _ (growAt_pick _ _ _ rfl _ rfl _ _ rfl rfl) ?_; dsimp only [putL, setNth]))
  refine wpV_nil ?_; clear hown; intro _ hown; simp only [List.nil_append, List.cons_append] at hown
  go_wp2
  go_ret
  exact ⟨rfl, hown.below⟩
set_option maxRecDepth 100000 in
theorem FieldRing_lifted (os : Os) (started : os.Started) (H : Type) (enc : TypeId × Value → H) :
    ReturnsInHanded {} Try.checked os 13 .any (Rows.fieldRingSpec.pre6 enc Try.prog Try.f13 Rows.fieldRingRow.domain false) (Rows.fieldRingSpec.post enc Try.prog Try.f13 false true false false) := by
  refine returnsInHanded_of_change (C := Try.checked) (by kernel_rfl) started (by kernel_rfl) Try.func13
    (ChangeSpec.witness6 (enc := enc) (C := Try.checked) false ⟨#[], #[.agg (ints .u8 (List.replicate 32 0)), .agg (ints .u8 (List.replicate 32 0)), .agg (ints .u8 (List.replicate 32 0))], []⟩ 8 (by kernel_rfl) (by kernel_rfl) (by kernel_rfl) (by kernel_rfl)) ?_
  intro W base args ds gs before hval0 hW hcnd _
  have hval : ∀ (j : Nat) t v, Try.f13.params[j]? = some t → args[j]? = some v → Value.okWide Try.prog W .any base t v := hval0
  have hW' := hW
  obtain ⟨p, q, hA0, hV, rfl, hfz, hnd⟩ := hW
  have hA : DataW.TrodAll enc Try.prog W 0 (fun _ => true) true Try.f13.params.toList args.toList ds p := hA0
  rw [Try.params13] at hA hval
  obtain ⟨v0, vs0, d0, ds0, p0, q0, hargs, rfl, rfl, h0, r0⟩ := trodAll_cons hA
  obtain ⟨v1, vs1, d1, ds1, p1, q1, rfl, rfl, rfl, h1, r1⟩ := trodAll_cons r0
  obtain ⟨v2, vs2, d2, ds2, p2, q2, rfl, rfl, rfl, h2, r2⟩ := trodAll_cons r1
  obtain ⟨rfl, rfl, rfl⟩ := trodAll_nil r2
  obtain rfl : args = #[v0, v1, v2] := by cases args; simp_all
  obtain ⟨rfl, rfl⟩ := trodVars_none hV
  have k0 := h0
  have k1 := h1
  have k2 := h2
  obtain ⟨a0, rfl, l0, w0, hp0⟩ := open_arr (k := .u8) (n := 32) Try.underlying22 Try.underlying5 (by kernel_rfl) (by kernel_rfl) (hval 0 22 v0 rfl rfl) h0
  obtain ⟨a1, rfl, l1, w1, hp1⟩ := open_arr (k := .u8) (n := 32) Try.underlying22 Try.underlying5 (by kernel_rfl) (by kernel_rfl) (hval 1 22 v1 rfl rfl) h1
  obtain ⟨a2, rfl, l2, w2, hp2⟩ := open_arr (k := .u8) (n := 32) Try.underlying22 Try.underlying5 (by kernel_rfl) (by kernel_rfl) (hval 2 22 v2 rfl rfl) h2
  clear hA0 hval0
  subst hp0
  subst hp1
  subst hp2
  refine (fieldRing_walk a0 l0 w0 a1 l1 w1 a2 l2 w2 W).mono fun e W' ⟨he, hg⟩ => ?_
  subst he
  exact ⟨_, rfl, _, _, _, [], [], [], hW', (trodAll_cons_mk (shut_bool Try.underlying4 _) trodAll_mk0), (trodAll_cons_mk (Below.trod Try.laidOut (by kernel_rfl) (of_decide_eq_true (by kernel_rfl)) k0 hg (by simp)) (trodAll_cons_mk (Below.trod Try.laidOut (by kernel_rfl) (of_decide_eq_true (by kernel_rfl)) k1 hg (by simp)) (trodAll_cons_mk (Below.trod Try.laidOut (by kernel_rfl) (of_decide_eq_true (by kernel_rfl)) k2 hg (by simp)) trodAll_mk0))), rfl_vars, hg.frame _, fun h => by cases h⟩

theorem FieldRing_holds : Rows.FieldRingSaid :=
  OpenClaim.holds_of_wide 13 Try.f13 rfl rfl rfl rfl rfl rfl rfl ⟨rfl, rfl, rfl, rfl, rfl⟩ rfl rfl rfl rfl rfl (by kernel_rfl) Try.func13 (by kernel_rfl)
    (of_decide_eq_true (by kernel_rfl)) (by unfold Func.isWrapper; first | (rw [if_pos (by decide +kernel)]; kernel_rfl) | (rw [if_neg (by decide +kernel)]; exact ⟨rfl, rfl⟩))
    (fun os started H enc _ => FieldRing_lifted os started H enc)
#print axioms FieldRing_holds

end Go.Proofs.Ytgeflkgnabmacaa
