/-
  Products of elements: what the code computes.
-/
import Derived.Test.YtmchkfganpgheaaFieldB
import Derived.Test.YtmchkfganpgheaaBits
import Derived.OpenShut
import Derived.Deep.Cut
namespace Go.Proofs.Ytmchkfganpgheaa
set_option linter.unusedSimpArgs false
set_option linter.unusedVariables false
open Go Go.RowKit

theorem info_wide : (Try.prog.info? 78).map (·.size) = some 2 := by kernel_rfl
theorem zero_wide : (Try.prog.info? 78).map (·.zero) = some (some (.agg (ints .u64 (List.replicate 2 0)))) := by kernel_rfl
theorem sz_wide {k : IntKind} {L : List Int} (h : L.length = 2) : (Try.prog.info? 78).map (·.size) = some (ints k L).size := by rw [ints_size, h]; exact info_wide
theorem info_w5 : (Try.prog.info? 80).map (·.size) = some 10 := by kernel_rfl
theorem zero_w5 : (Try.prog.info? 80).map (·.zero) = some (some (.agg (ints .u64 (List.replicate 10 0)))) := by kernel_rfl
theorem sz_w5 {k : IntKind} {L : List Int} (h : L.length = 10) : (Try.prog.info? 80).map (·.size) = some (ints k L).size := by rw [ints_size, h]; exact info_w5

/-- A number of 128 bits, and a product. -/
def plusHi (hi lo x y : Int) : Int := addLo (mulHi x y) hi (addHi (mulLo x y) lo 0)
def plusLo (hi lo x y : Int) : Int := addLo (mulLo x y) lo 0
set_option maxHeartbeats 400000 in
theorem plus_any (hi lo x y : Int) (hh : W64 hi) (hl : W64 lo) (hx : W64 x) (hy : W64 y) (w : World) :
    Calls Try.prog 60 #[.agg (ints .u64 [hi, lo]), .int .u64 x, .int .u64 y] w fun e w' => e = .returned (.agg (ints .u64 [plusHi hi lo x y, plusLo hi lo x y])) ∧ Below w.heap.size w w' := by
  have hown := Own.start w
  go_enter Try.func60, Try.ntmps60

  go_wp2_with (first | ((with_reducible show wpList _ _ _ (⟨_, .box _ _, _, _, _, _⟩ :: _) _ _); refine wpl_box hown rfl _ _ rfl _ rfl ?_; clear hown; intro _ _ hown; dsimp only [putL, setNth]) | ((with_reducible show wpList _ _ _ (⟨_, .alloc _, _, _, _, _⟩ :: _) _ _); refine wpl_alloc hown rfl _ rfl _ zero_wide ?_; clear hown; intro _ _ hown; dsimp only [putL, setNth]) | ((with_reducible show wpList _ _ _ (⟨_, .load _ _, _, _, _, _⟩ :: _) _ _); refine wpl_load_int hown rfl 23 _ rfl _ _ rfl _ Try.underlying23 1 _ _ rfl (by simp) ?_; dsimp only [putL, setNth]) | (go_at_call 63; refine (mul64_any x y hx hy _).mono ?_; rintro e w' ⟨rfl, rfl⟩) | (refine wpl_add64 rfl _ _ _ _ rfl _ _ _ rfl rfl rfl (W64.lo _ _) (hl) (Bit.zero) ?_; dsimp only [putL, setNth]) | (refine wpl_add64 rfl _ _ _ _ rfl _ _ _ rfl rfl rfl (W64.hi hx hy) (hh) (Bit.addHi (W64.lo _ _) hl Bit.zero) ?_; dsimp only [putL, setNth]) | ((with_reducible show wpList _ _ _ (⟨_, .store _ _ _, _, _, _, _⟩ :: _) _ _); refine wpl_store_row hown rfl 78 _ _ rfl _ rfl (ints .u64 [plusHi hi lo x y, plusLo hi lo x y]) rfl (ints_cell _ _) (sz_wide rfl) 0 _ _ rfl (rfl) ?_; clear hown; intro _ hown; dsimp only [putL]; simp only [List.set_cons_zero, List.set_cons_succ] at hown))
  refine bodyPost_ret (results_own hown rfl _ rfl 0 _ _ rfl _ Try.underlying78 rfl (sz_wide rfl)) rfl ⟨rfl, hown.below⟩

/-- A row of products, summed: the last one first. -/
def accR : List (Int × Int) → Int × Int
  | [] => (0, 0)
  | (x, y) :: l => (plusHi (accR l).1 (accR l).2 x y, plusLo (accR l).1 (accR l).2 x y)
def acc2 (l : List (Int × Int)) : List Int := [(accR l).1, (accR l).2]
def AllW (l : List (Int × Int)) : Prop := ∀ p ∈ l, W64 p.1 ∧ W64 p.2
theorem AllW.nil : AllW [] := by intro p hp; simp at hp
theorem AllW.cons {x y : Int} {l : List (Int × Int)} (hx : W64 x) (hy : W64 y) (h : AllW l) : AllW ((x, y) :: l) := by
  intro p hp
  rcases List.mem_cons.1 hp with rfl | hp
  · exact ⟨hx, hy⟩
  · exact h p hp
theorem W64.zero : W64 0 := by unfold W64 M64; omega
theorem accR_W : ∀ l : List (Int × Int), W64 (accR l).1 ∧ W64 (accR l).2
  | [] => ⟨W64.zero, W64.zero⟩
  | (x, y) :: l => ⟨W64.addLo _ _ _, W64.addLo _ _ _⟩
theorem plus_acc (l : List (Int × Int)) (x y : Int) (hx : W64 x) (hy : W64 y) (w : World) :
    Calls Try.prog 60 #[.agg (ints .u64 (acc2 l)), .int .u64 x, .int .u64 y] w fun e w' => e = .returned (.agg (ints .u64 (acc2 ((x, y) :: l)))) ∧ Below w.heap.size w w' :=
  plus_any _ _ x y (accR_W l).1 (accR_W l).2 hx hy w
theorem plus_acc0 (x y : Int) (hx : W64 x) (hy : W64 y) (w : World) :
    Calls Try.prog 60 #[.agg #[.int .u64 0, .int .u64 0], .int .u64 x, .int .u64 y] w fun e w' => e = .returned (.agg (ints .u64 (acc2 [(x, y)]))) ∧ Below w.heap.size w w' :=
  plus_acc [] x y hx hy w
theorem W64.wrap (x : Int) : W64 (IntKind.u64.wrap x) := by unfold W64 M64; rw [IntKind.wrap_u64]; omega
def z19 (b : List Int) (i : Nat) : Int := IntKind.u64.wrap (19 * gi b i)
theorem W64.z19 (b : List Int) (i : Nat) : W64 (z19 b i) := W64.wrap _
/-- The five rows. -/
def mulW (a b : List Int) : List Int :=
  acc2 [(gi a 4, z19 b 1), (gi a 3, z19 b 2), (gi a 2, z19 b 3), (gi a 1, z19 b 4), (gi a 0, gi b 0)] ++
  (acc2 [(gi a 4, z19 b 2), (gi a 3, z19 b 3), (gi a 2, z19 b 4), (gi a 1, gi b 0), (gi a 0, gi b 1)] ++
  (acc2 [(gi a 4, z19 b 3), (gi a 3, z19 b 4), (gi a 2, gi b 0), (gi a 1, gi b 1), (gi a 0, gi b 2)] ++
  (acc2 [(gi a 4, z19 b 4), (gi a 3, gi b 0), (gi a 2, gi b 1), (gi a 1, gi b 2), (gi a 0, gi b 3)] ++
  acc2 [(gi a 4, gi b 0), (gi a 3, gi b 1), (gi a 2, gi b 2), (gi a 1, gi b 3), (gi a 0, gi b 4)])))
def AllG (a : List Int) : Prop := ∀ i, W64 (gi a i)

/-- The rows brought to limbs: the rows, the limbs, what is carried. -/
def mulS (a b : List Int) : Nat → List Int × List Int × Int
  | 0 => (mulW a b, List.replicate 5 0, 0)
  | k + 1 =>
    let s := mulS a b k
    let w1 := s.1.set (k * 2 + 1) (addLo (gi s.1 (k * 2 + 1)) s.2.2 0)
    let w2 := w1.set (k * 2) (IntKind.u64.wrap (gi w1 (k * 2) + addHi (gi s.1 (k * 2 + 1)) s.2.2 0))
    (w2, s.2.1.set k (bits .and .u64 (gi w2 (k * 2 + 1)) 2251799813685247), bits .or .u64 (IntKind.u64.wrap (gi w2 (k * 2) * 8192)) (gi w2 (k * 2 + 1) / 2251799813685248))
def mulR (a b : List Int) : List Int := carriedL ((mulS a b 5).2.1.set 0 (IntKind.u64.wrap (gi (mulS a b 5).2.1 0 + IntKind.u64.wrap (19 * (mulS a b 5).2.2))))
theorem shl13 (x : Int) : x * 2 ^ min (Int.toNat 13) IntKind.u64.bits = x * 8192 := rfl
theorem fdiv51 (x : Int) : x.fdiv (2 ^ min (Int.toNat 51) IntKind.u64.bits) = x / 2251799813685248 := by
  show x.fdiv 2251799813685248 = _
  exact Int.fdiv_eq_ediv_of_nonneg _ (by omega)
theorem W64.wf {x : Int} (h : (Lit.int .u64 x).wf = true) : W64 x := by have := bounds_u64 h; unfold W64 M64; omega
theorem gi_set (l : List Int) (i j : Nat) (v : Int) : gi (l.set i v) j = if i = j ∧ i < l.length then v else gi l j := by
  unfold gi
  by_cases h : i = j
  · subst h
    by_cases hl : i < l.length
    · simp [hl]
    · simp [hl, List.getElem?_eq_none (by omega : l.length ≤ i)]
  · simp [h, List.getElem?_set_ne h]
theorem AllG.set {l : List Int} {i : Nat} {v : Int} (h : AllG l) (hv : W64 v) : AllG (l.set i v) := by
  intro j
  rw [gi_set]
  split
  · exact hv
  · exact h j
theorem mulW_ok (a b : List Int) : AllG (mulW a b) := by
  intro i
  have h0 := fun l : List (Int × Int) => accR_W l
  unfold mulW acc2
  match i with
  | 0 | 1 | 2 | 3 | 4 | 5 | 6 | 7 | 8 | 9 => first | exact (h0 _).1 | exact (h0 _).2
  | n + 10 => exact W64.zero
theorem mulS_ok (a b : List Int) : ∀ k, (mulS a b k).1.length = 10 ∧ (mulS a b k).2.1.length = 5 ∧ AllG (mulS a b k).1 ∧ W64 (mulS a b k).2.2
  | 0 => ⟨rfl, rfl, mulW_ok a b, W64.zero⟩
  | k + 1 => by
    obtain ⟨h1, h2, h3, h4⟩ := mulS_ok a b k
    refine ⟨by simp [mulS, h1], by simp [mulS, h2], (h3.set (W64.addLo _ _ _)).set (W64.wrap _), W64.wf (wf_bits .or .u64 _ _)⟩
set_option maxRecDepth 100000 in
set_option maxHeartbeats 20000000 in
theorem mul_any (a b : List Int) (ha : a.length = 5) (hb : b.length = 5) (wa : AllG a) (wb : AllG b) (w : World) :
    Calls Try.prog 48 #[.agg (ints .u64 a), .agg (ints .u64 b)] w fun e w' => e = .returned (.agg (ints .u64 (mulR a b))) ∧ Below w.heap.size w w' := by
  have hown := Own.start w
  go_enter Try.func48, Try.ntmps48

  have tok_b1 : True := trivial
  have tok_b2 : True := trivial
  have tok_b3 : True := trivial
  have tok_b4 : True := trivial
  have tok_b5 : True := trivial
  go_upto_region 1 with (go_big_may; (first | ((with_reducible show wpList _ _ _ (⟨_, .box _ _, _, _, _, _⟩ :: _) _ _); have _t := tok_b1; refine wpl_box hown rfl _ _ rfl _ rfl ?_; clear hown _t tok_b1; intro b1 _ hown; dsimp only [putL, setNth]) | ((with_reducible show wpList _ _ _ (⟨_, .box _ _, _, _, _, _⟩ :: _) _ _); have _t := tok_b2; refine wpl_box hown rfl _ _ rfl _ rfl ?_; clear hown _t tok_b2; intro b2 _ hown; dsimp only [putL, setNth]) | ((with_reducible show wpList _ _ _ (⟨_, .alloc _, _, _, _, _⟩ :: _) _ _); have _t := tok_b3; refine wpl_alloc hown rfl _ rfl _ zero_elem ?_; clear hown _t tok_b3; intro b3 _ hown; dsimp only [putL, setNth])))
  refine wp_region_grow 19 [0, 1, 2, 3, 4, 5, 6, 7, 8, 9, 10, 11, 12, 13, 14, 15, 16, 17, 18] (by kernel_rfl) (by kernel_rfl) hown ?_; simp only [List.filterMap_cons, List.filterMap_nil, List.getElem?_cons_zero, List.getElem?_cons_succ, List.drop_succ_cons, List.drop_zero]
  repeat (first | (first | (refine wpV_step rfl rfl _ (growAt_load_int 23 _ rfl _ _ rfl _ Try.underlying23 1 _ _ rfl (by omega)) ?_; dsimp only [putL, setNth]) | (refine wpV_step rfl rfl _ (growAt_load_int 23 _ rfl _ _ rfl _ Try.underlying23 2 _ _ rfl (by omega)) ?_; dsimp only [putL, setNth])) | (refine wpV_step rfl rfl _ (growAt_idxA 24 _ _ rfl _ _ rfl _ _ rfl _ _ Try.underlying24 _ size_u64 (by omega) (by omega) _ (by go_simp; try rfl)) ?_; dsimp only [putL, setNth]) | (first | (refine wpV_step rfl rfl _ (growAt_move _ rfl _ rfl) ?_; dsimp only [putL, setNth, evL, nth]) | (refine wpV_step rfl rfl _ (growAt_assign _ rfl _ rfl) ?_; dsimp only [putL, setNth, evL, nth]) | (refine wpV_step rfl rfl _ (growAt_bits _ _ _ _ _ rfl (by decide) _ _ _ rfl rfl) ?_; dsimp only [putL, setNth]) | (refine wpV_step rfl rfl _ (growAt_bin _ _ _ _ _ rfl _ _ rfl rfl _ (by intro w; go_simp; try rfl)) ?_; dsimp only [putL, setNth]) | (refine wpV_step rfl rfl _ (growAt_un _ _ _ rfl _ rfl _ (by intro w; go_simp; try rfl)) ?_; dsimp only [putL, setNth]) | (refine wpV_step rfl rfl _ (growAt_conv _ _ _ rfl _ rfl _ (by intro w; go_simp; try rfl)) ?_; dsimp only [putL, setNth]) | (refine wpV_step rfl rfl _ (growAt_fld _ _ _ rfl _ rfl _ (by intro w; go_simp; try rfl)) ?_; dsimp only [putL, setNth]) | (refine wpV_step rfl rfl _ (growAt_idx _ _ _ rfl _ _ rfl rfl _ (by intro w; go_simp; try rfl)) ?_; dsimp only [putL, setNth]) | (refine wpV_step rfl rfl _ (growAt_extract _ _ rfl _ rfl _ rfl) ?_; dsimp only [putL, setNth]) | (refine wpV_step rfl rfl _ (growAt_pick _ _ _ rfl _ rfl _ _ rfl rfl) ?_; dsimp only [putL, setNth])) | (refine wpV_step rfl rfl _ (growAt_pure (by intro w; go_simp; try rfl)) ?_; dsimp only [putL, setNth]))
  refine wpV_nil ?_; clear hown; intro _ hown; simp only [List.nil_append, List.cons_append] at hown
  go_upto_region 2 with (fail)
  refine wp_region_grow 19 [0, 1, 2, 3, 4, 5, 6, 7, 8, 9, 10, 11, 12, 13, 14, 15, 16, 17, 18] (by kernel_rfl) (by kernel_rfl) hown ?_; simp only [List.filterMap_cons, List.filterMap_nil, List.getElem?_cons_zero, List.getElem?_cons_succ, List.drop_succ_cons, List.drop_zero]
  repeat (first | (first | (refine wpV_step rfl rfl _ (growAt_load_int 23 _ rfl _ _ rfl _ Try.underlying23 1 _ _ rfl (by omega)) ?_; dsimp only [putL, setNth]) | (refine wpV_step rfl rfl _ (growAt_load_int 23 _ rfl _ _ rfl _ Try.underlying23 2 _ _ rfl (by omega)) ?_; dsimp only [putL, setNth])) | (refine wpV_step rfl rfl _ (growAt_idxA 24 _ _ rfl _ _ rfl _ _ rfl _ _ Try.underlying24 _ size_u64 (by omega) (by omega) _ (by go_simp; try rfl)) ?_; dsimp only [putL, setNth]) | (first | (refine wpV_step rfl rfl _ (growAt_move _ rfl _ rfl) ?_; dsimp only [putL, setNth, evL, nth]) | (refine wpV_step rfl rfl _ (growAt_assign _ rfl _ rfl) ?_; dsimp only [putL, setNth, evL, nth]) | (refine wpV_step rfl rfl _ (growAt_bits _ _ _ _ _ rfl (by decide) _ _ _ rfl rfl) ?_; dsimp only [putL, setNth]) | (refine wpV_step rfl rfl _ (growAt_bin _ _ _ _ _ rfl _ _ rfl rfl _ (by intro w; go_simp; try rfl)) ?_; dsimp only [putL, setNth]) | (refine wpV_step rfl rfl _ (growAt_un _ _ _ rfl _ rfl _ (by intro w; go_simp; try rfl)) ?_; dsimp only [putL, setNth]) | (refine wpV_step rfl rfl _ (growAt_conv _ _ _ rfl _ rfl _ (by intro w; go_simp; try rfl)) ?_; dsimp only [putL, setNth]) | (refine wpV_step rfl rfl _ (growAt_fld _ _ _ rfl _ rfl _ (by intro w; go_simp; try rfl)) ?_; dsimp only [putL, setNth]) | (refine wpV_step rfl rfl _ (growAt_idx _ _ _ rfl _ _ rfl rfl _ (by intro w; go_simp; try rfl)) ?_; dsimp only [putL, setNth]) | (refine wpV_step rfl rfl _ (growAt_extract _ _ rfl _ rfl _ rfl) ?_; dsimp only [putL, setNth]) | (refine wpV_step rfl rfl _ (growAt_pick _ _ _ rfl _ rfl _ _ rfl rfl) ?_; dsimp only [putL, setNth])) | (refine wpV_step rfl rfl _ (growAt_pure (by intro w; go_simp; try rfl)) ?_; dsimp only [putL, setNth]))
  refine wpV_nil ?_; clear hown; intro _ hown; simp only [List.nil_append, List.cons_append] at hown
  go_upto_region 6 with (go_big_may; (first | (go_at_call 60; (first | with_reducible refine (plus_acc _ _ _ ?_ ?_ _).mono ?_ | refine (plus_acc0 _ _ ?_ ?_ _).mono ?_); (first | exact wa _ | exact wb _ | exact W64.wrap _); (first | exact wa _ | exact wb _ | exact W64.wrap _); rintro e w' ⟨rfl, hb⟩; replace hown := hown.grow hb; clear hb) | (refine wpl_build rfl 80 _ rfl _ rfl (ints .u64 (mulW a b)) (by kernel_rfl) ?_; dsimp only [putL, setNth]) | ((with_reducible show wpList _ _ _ (⟨_, .alloc _, _, _, _, _⟩ :: _) _ _); have _t := tok_b4; refine wpl_alloc hown rfl _ rfl _ zero_w5 ?_; clear hown _t tok_b4; intro b4 _ hown; dsimp only [putL, setNth]) | ((with_reducible show wpList _ _ _ (⟨_, .store _ _ _, _, _, _, _⟩ :: _) _ _); refine wpl_store_row hown rfl 80 _ _ rfl _ rfl _ rfl (ints_cell _ _) (sz_w5 rfl) 0 _ _ rfl (rfl) ?_; clear hown; intro _ hown; dsimp only [putL]; simp only [List.set_cons_zero, List.set_cons_succ] at hown) | ((with_reducible show wpList _ _ _ (⟨_, .alloc _, _, _, _, _⟩ :: _) _ _); have _t := tok_b5; refine wpl_alloc hown rfl _ rfl _ zero_l5 ?_; clear hown _t tok_b5; intro b5 _ hown; dsimp only [putL, setNth])))
  go_cut [21] from 24 (fun c wc => c = .int .u64 0 ∧ Own w wc [(b5, ints .u64 (List.replicate 5 0), 24), (b4, ints .u64 (mulW a b), 80), (b3, ints .u64 (List.replicate 5 0), 26), (b2, ints .u64 b, 26), (b1, ints .u64 a, 26)])
  case first =>
    go_wp2_with fail
    go_meet
    case rel => exact ⟨rfl, hown⟩
  case rest =>
    clear hown
    obtain ⟨rfl, hown⟩ := hcut
    go_wp2_with fail
    have hst := mulS_ok a b
    go_loopw [21, 143] (fun c i wr => ∃ k : Nat, k ≤ 5 ∧ i = .int .i64 k ∧ c = .int .u64 (mulS a b k).2.2 ∧ Own w wr [(b5, ints .u64 (mulS a b k).2.1, 24), (b4, ints .u64 (mulS a b k).1, 80), (b3, ints .u64 (List.replicate 5 0), 26), (b2, ints .u64 b, 26), (b1, ints .u64 a, 26)]) (fun _ i _ => 5 - (intOf i).toNat)
    case atStart => exact ⟨0, by omega, rfl, rfl, hown⟩
    case round =>
      clear hown
      obtain ⟨k, hk, rfl, rfl, hown⟩ := hrel
      obtain ⟨hs1, hs2, hs3, hs4⟩ := hst k
      clear hst
      by_cases hlt : k < 5
      · go_upto_region 14 with (go_big_may; (first | (first | ((with_reducible show wpList _ _ _ (⟨_, .load _ _, _, _, _, _⟩ :: _) _ _); refine wpl_load_int hown rfl 23 _ rfl _ _ rfl _ Try.underlying23 0 _ _ rfl (by simp [hs1, hs2]; omega) ?_; dsimp only [putL, setNth]) | ((with_reducible show wpList _ _ _ (⟨_, .load _ _, _, _, _, _⟩ :: _) _ _); refine wpl_load_int hown rfl 23 _ rfl _ _ rfl _ Try.underlying23 1 _ _ rfl (by simp [hs1, hs2]; omega) ?_; dsimp only [putL, setNth])) | (first | ((with_reducible show wpList _ _ _ (⟨_, .store _ _ _, _, _, _, _⟩ :: _) _ _); refine wpl_store_int hown rfl 23 _ _ rfl _ _ rfl _ _ rfl size_u64 0 _ _ rfl (by simp [hs1, hs2]; omega) ?_; clear hown; intro _ hown; dsimp only [putL]; simp only [List.set_cons_zero, List.set_cons_succ] at hown) | ((with_reducible show wpList _ _ _ (⟨_, .store _ _ _, _, _, _, _⟩ :: _) _ _); refine wpl_store_int hown rfl 23 _ _ rfl _ _ rfl _ _ rfl size_u64 1 _ _ rfl (by simp [hs1, hs2]; omega) ?_; clear hown; intro _ hown; dsimp only [putL]; simp only [List.set_cons_zero, List.set_cons_succ] at hown)) | (refine wpl_add64 rfl _ _ _ _ rfl _ _ _ rfl rfl rfl (hs3 _) (hs4) (Bit.zero) ?_; dsimp only [putL, setNth])))
        have f9 : ((k : Int)).toNat = k := by omega
        have f10 : (0 : Int) ≤ (k : Int) := by omega
        have f11 : (k : Int) < 5 := by omega
        refine wp_region_grow 11 [0, 1, 2, 3, 4, 5, 6, 7, 8, 9, 10] (by kernel_rfl) (by kernel_rfl) hown ?_; simp only [List.filterMap_cons, List.filterMap_nil, List.getElem?_cons_zero, List.getElem?_cons_succ, List.drop_succ_cons, List.drop_zero]
        repeat (first | (first | (refine wpV_step rfl rfl _ (growAt_load_int 23 _ rfl _ _ rfl _ Try.underlying23 0 _ _ rfl (by simp [hs1, hs2]; omega)) ?_; dsimp only [putL, setNth]) | (refine wpV_step rfl rfl _ (growAt_load_int 23 _ rfl _ _ rfl _ Try.underlying23 1 _ _ rfl (by simp [hs1, hs2]; omega)) ?_; dsimp only [putL, setNth])) | (refine wpV_step rfl rfl _ (growAt_idxA 80 _ _ rfl _ _ rfl _ _ rfl _ _ Try.underlying80 _ info_wide (by omega) (by omega) _ (by go_simp; try rfl)) ?_; dsimp only [putL, setNth]) | (first | (refine wpV_step rfl rfl _ (growAt_move _ rfl _ rfl) ?_; dsimp only [putL, setNth, evL, nth]) | (refine wpV_step rfl rfl _ (growAt_assign _ rfl _ rfl) ?_; dsimp only [putL, setNth, evL, nth]) | (refine wpV_step rfl rfl _ (growAt_bits _ _ _ _ _ rfl (by decide) _ _ _ rfl rfl) ?_; dsimp only [putL, setNth]) | (refine wpV_step rfl rfl _ (growAt_bin _ _ _ _ _ rfl _ _ rfl rfl _ (by intro w; go_simp; try rfl)) ?_; dsimp only [putL, setNth]) | (refine wpV_step rfl rfl _ (growAt_un _ _ _ rfl _ rfl _ (by intro w; go_simp; try rfl)) ?_; dsimp only [putL, setNth]) | (refine wpV_step rfl rfl _ (growAt_conv _ _ _ rfl _ rfl _ (by intro w; go_simp; try rfl)) ?_; dsimp only [putL, setNth]) | (refine wpV_step rfl rfl _ (growAt_fld _ _ _ rfl _ rfl _ (by intro w; go_simp; try rfl)) ?_; dsimp only [putL, setNth]) | (refine wpV_step rfl rfl _ (growAt_idx _ _ _ rfl _ _ rfl rfl _ (by intro w; go_simp; try rfl)) ?_; dsimp only [putL, setNth]) | (refine wpV_step rfl rfl _ (growAt_extract _ _ rfl _ rfl _ rfl) ?_; dsimp only [putL, setNth]) | (refine wpV_step rfl rfl _ (growAt_pick _ _ _ rfl _ rfl _ _ rfl rfl) ?_; dsimp only [putL, setNth])) | (refine wpV_step rfl rfl _ (growAt_pure (by intro w; go_simp; try rfl)) ?_; dsimp only [putL, setNth]))
        refine wpV_nil ?_; clear hown; intro _ hown; simp only [List.nil_append, List.cons_append] at hown
        go_wp2_with fail
        go_roundw
        case rel => exact ⟨k + 1, by omega, by go_num, by rw [shl13, fdiv51]; rfl, hown⟩
        case measure => simp [intOf]; omega
      · obtain rfl : k = 5 := by omega
        go_wp2_with (first | ((with_reducible show wpList _ _ _ (⟨_, .load _ _, _, _, _, _⟩ :: _) _ _); refine wpl_load_int hown rfl 23 _ rfl _ _ rfl _ Try.underlying23 0 _ _ rfl (by simp [hs1, hs2]) ?_; dsimp only [putL, setNth]) | ((with_reducible show wpList _ _ _ (⟨_, .store _ _ _, _, _, _, _⟩ :: _) _ _); refine wpl_store_int hown rfl 23 _ _ rfl _ _ rfl _ _ rfl size_u64 0 _ _ rfl (by simp [hs1, hs2]) ?_; clear hown; intro _ hown; dsimp only [putL]; simp only [List.set_cons_zero, List.set_cons_succ] at hown) | ((with_reducible show wpList _ _ _ (⟨_, .load _ _, _, _, _, _⟩ :: _) _ _); refine wpl_load_row hown rfl 24 _ rfl _ rfl 0 _ _ rfl _ Try.underlying24 rfl (sz_l5 (by simp [hs2])) ?_; dsimp only [putL, setNth]) | (go_at_call 42; refine (carried_any _ (by simp [hs2]) _).mono ?_; rintro e w' ⟨rfl, hb⟩; replace hown := hown.grow hb; clear hb) | ((with_reducible show wpList _ _ _ (⟨_, .store _ _ _, _, _, _, _⟩ :: _) _ _); refine wpl_store_row hown rfl 26 _ _ rfl _ rfl (ints .u64 (mulR a b)) rfl (ints_cell _ _) (sz_elem rfl) 2 _ _ rfl (rfl) ?_; clear hown; intro _ hown; dsimp only [putL]; simp only [List.set_cons_zero, List.set_cons_succ] at hown))
        refine bodyPost_ret (results_own hown rfl _ rfl 2 _ _ rfl _ Try.underlying26 rfl (sz_elem rfl)) rfl ⟨rfl, hown.below⟩

end Go.Proofs.Ytmchkfganpgheaa
