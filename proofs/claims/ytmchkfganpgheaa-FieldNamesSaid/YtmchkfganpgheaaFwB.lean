/-
  The walks of FieldBytes.
-/
import Derived.Test.YtmchkfganpgheaaAwake
namespace Go.Proofs.Ytmchkfganpgheaa
set_option linter.unusedSimpArgs false
set_option linter.unusedVariables false
open Go Go.RowKit

open Go.ChangeShapes Go.WideShapes Go.ChangeAt

set_option maxHeartbeats 400000 in
theorem bring19_any (x : Int) (h0 : 0 ≤ x) (h1 : x < 256) (w : World) :
    Calls Try.prog 50 #[.int .i64 x, .int .i64 19] w fun e w' => e = .returned (.int .i64 (x % 19)) ∧ Below w.heap.size w w' := by
  have hown := Own.start w
  have e0 : x.tmod 19 = x % 19 := Int.tmod_eq_emod_of_nonneg h0
  have e1 : IntKind.i64.wrap (x % 19) = x % 19 := i64_in' (by omega) (by omega)
  have e2 : ¬ x % 19 < 0 := by omega
  go_enter Try.func50, Try.ntmps50
  go_wp2
  go_ret
  exact ⟨rfl, hown.below⟩

theorem Bytes32.set {b : List Int} (h : Bytes32 b) {i : Nat} {v : Int} (h0 : 0 ≤ v) (h1 : v < 256) : Bytes32 (b.set i v) := by
  refine ⟨by simp [h.1], fun j hj => ?_⟩
  by_cases e : j = i
  · subst e
    rw [gi_same _ _ _ (by rw [h.1]; omega)]
    exact ⟨h0, h1⟩
  · rw [gi_upd _ _ _ _ e]
    exact h.2 j hj
theorem Bytes32.gi {b : List Int} (h : Bytes32 b) {i : Nat} (hi : i < 32) : 0 ≤ Go.Proofs.Ytmchkfganpgheaa.gi b i ∧ Go.Proofs.Ytmchkfganpgheaa.gi b i < 256 := h.2 i hi
theorem v32_set {b : List Int} (h : b.length = 32) {i : Nat} (hi : i < 32) (v : Int) : v32 (b.set i v) = v32 b + (v - gi b i) * 256 ^ i := sumN_set hi (by omega)
/-- The highest bit counts nothing. -/
theorem top_bit {b : List Int} (h : Bytes32 b) : Bytes32 (b.set 31 (bits .xor .u8 (gi b 31) 128)) ∧ v32 (b.set 31 (bits .xor .u8 (gi b 31) 128)) % H255 = v32 b % H255 := by
  obtain ⟨b0, b1⟩ := h.gi (show 31 < 32 by omega)
  obtain ⟨e, he⟩ : ∃ e : Int, (e = 1 ∨ e = -1) ∧ bits .xor .u8 (gi b 31) 128 = gi b 31 + e * 128 ∧ 0 ≤ gi b 31 + e * 128 ∧ gi b 31 + e * 128 < 256 := by
    generalize gi b 31 = x at *
    obtain ⟨n, rfl⟩ := Int.eq_ofNat_of_zero_le b0
    have hx := u8_xor_nat n 128 (by omega) (by omega)
    have hx' : bits .xor .u8 (n : Int) 128 = ((n ^^^ 128 : Nat) : Int) := hx
    have hn : ∀ n : Nat, n < 256 → (n < 128 → n ^^^ 128 = n + 128) ∧ (¬ n < 128 → (n ^^^ 128) + 128 = n) := by decide +kernel
    obtain ⟨g1, g2⟩ := hn n (by omega)
    by_cases hc : n < 128
    · refine ⟨1, Or.inl rfl, ?_⟩
      rw [hx', g1 hc]
      omega
    · refine ⟨-1, Or.inr rfl, ?_⟩
      rw [hx']
      have := g2 hc
      omega
  rw [he.2.1]
  refine ⟨h.set he.2.2.1 he.2.2.2, ?_⟩
  rw [v32_set h.1 (by omega), show (gi b 31 + e * 128 - gi b 31) * 256 ^ 31 = H255 * e from by rw [show gi b 31 + e * 128 - gi b 31 = e * 128 by omega, show (256 : Int) ^ 31 = 452312848583266388373324160190187140051835877600158453279131187530910662656 from rfl]; unfold H255; omega, Int.add_mul_emod_self_left]
/-- Below p: not all ones. -/
def topB (c : List Int) : Nat → Bool
  | 0 => gi c 31 == 127
  | k + 1 => topB c k && gi c (k + 1) == 255
theorem topB_all {c : List Int} : ∀ k, topB c k = true → gi c 31 = 127 ∧ ∀ i, 1 ≤ i → i ≤ k → gi c i = 255
  | 0, h => ⟨by simpa [topB] using h, fun i h1 h2 => by omega⟩
  | k + 1, h => by
    simp only [topB, Bool.and_eq_true, beq_iff_eq] at h
    obtain ⟨h1, h2⟩ := topB_all k h.1
    refine ⟨h1, fun i a b => ?_⟩
    by_cases e : i = k + 1
    · rw [e]; exact h.2
    · exact h2 i a (by omega)
theorem not_top {c : List Int} {X : Int} (h : IsB c X) (hX : X < PP) (ht : topB c 30 = true) : gi c 0 < 237 := by
  obtain ⟨h1, h2⟩ := topB_all 30 ht
  have hs := h.2.2
  rw [sumN_congr (g := gi (primeL.set 0 (gi c 0))) (fun i hi => by
    by_cases e0 : i = 0
    · subst e0
      rw [gi_same _ _ _ (by rw [primeL_length]; omega)]
    · rw [gi_upd _ _ _ _ e0]
      have hp : ∀ i, i < 32 → i ≠ 0 → gi primeL i = if i = 31 then 127 else 255 := by decide +kernel
      rw [hp i hi e0]
      split
      · next e => rw [e]; exact h1
      · exact h2 i (by omega) (by omega)), sumN_set (by omega) (by rw [primeL_length]; omega)] at hs
  have hp := prime_isB
  rw [primeI_eq] at hp
  have e1 : gi primeL 0 = 237 := by decide +kernel
  rw [hp.2.2, e1] at hs
  simp only [Int.pow_zero, Int.mul_one] at hs
  omega
theorem low_top {c : List Int} {X : Int} (h : IsB c X) (hX : X < PP) : gi c 31 ≤ 127 := by
  have h1 := sumN_digit (by omega) h.2.1 (show 31 < 32 by omega)
  rw [h.2.2] at h1
  have hb := h.bound
  rw [h1, show (256 : Int) ^ 31 = 452312848583266388373324160190187140051835877600158453279131187530910662656 from rfl]
  unfold PP at hX
  omega
theorem bytes_zero : Bytes32 (List.replicate 32 0) := ⟨rfl, fun i _ => by rw [gi_rep]; omega⟩
theorem bytes_ones : Bytes32 (primeN 32) := ⟨primeN_length 32, by unfold Dig; decide +kernel⟩
theorem v32_zero : v32 (List.replicate 32 0) = 0 := zero_isB.2.2
theorem v32_ones : v32 (primeN 32) = Q256 - 1 := by decide +kernel
def smallR (s : Int) : List Int := (List.replicate 32 0).set 0 s
def moreR (s : Int) : List Int := ((primeN 32).set 31 127).set 0 (s + 237)
theorem smallR_ok {s : Int} (h0 : 0 ≤ s) (h1 : s < 19) : Bytes32 (smallR s) ∧ v32 (smallR s) = s := by
  refine ⟨bytes_zero.set h0 (by omega), ?_⟩
  unfold smallR
  rw [v32_set rfl (by omega), v32_zero, gi_rep]
  simp
theorem moreR_ok {s : Int} (h0 : 0 ≤ s) (h1 : s < 19) : Bytes32 (moreR s) ∧ v32 (moreR s) = s + PP := by
  refine ⟨(bytes_ones.set (by omega) (by omega)).set (by omega) (by omega), ?_⟩
  unfold moreR
  have e1 : gi (primeN 32) 31 = 255 := by decide +kernel
  have e0 : gi (primeN 32) 0 = 255 := by decide +kernel
  rw [v32_set (by simp [primeN_length]) (by omega), v32_set (primeN_length 32) (by omega), v32_ones, gi_upd _ _ _ _ (by omega), e0, e1, show (256 : Int) ^ 31 = 452312848583266388373324160190187140051835877600158453279131187530910662656 from rfl]
  simp only [Int.pow_zero, Int.mul_one]
  unfold Q256 PP
  omega

set_option maxRecDepth 20000 in
set_option maxHeartbeats 4000000 in
theorem fieldBytes_walk (b : List Int) (lb : b.length = 32) (wb : ∀ x ∈ b, (Lit.int .u8 x).wf = true) (w : World) :
    Calls Try.prog 22 #[.agg (ints .u8 b)] w fun e w' => e = .returned (.bool true) ∧ Below w.heap.size w w' := by
  have hown := Own.start w
  have hb := bytes32_of lb wb
  clear wb
  have g0 := hb.gi (show 0 < 32 by omega)
  have g31 := hb.gi (show 31 < 32 by omega)
  obtain ⟨to1, to2⟩ := top_bit hb
  have ea := fromE_is hb
  have fa := fromE_any b hb
  have ya := bytesE_any ea
  have eo := fromE_is to1
  have fo := fromE_any _ to1
  rw [to2] at eo
  obtain ⟨O, hO⟩ : ∃ O, O = b.set 31 (bits .xor .u8 (gi b 31) 128) := ⟨_, rfl⟩
  have HO := Lib.hid hO
  rw [← hO] at eo fo to1
  have lO := to1.1
  clear hO to2 to1
  have cB := le32_p (v32 b % H255)
  obtain ⟨c, hc⟩ : ∃ c, c = le32 (v32 b % H255 % PP) := ⟨_, rfl⟩
  rw [← hc] at ya cB
  clear hc
  have hcl := cB.1
  have hcb : Bytes32 c := ⟨cB.1, cB.2.1⟩
  have hX := (pp_range (v32 b % H255)).2.1
  have ec := fromE_is hcb
  have fc := fromE_any c hcb
  rw [show v32 c = v32 b % H255 % PP from cB.2.2, Int.emod_eq_of_lt (pp_range _).1 (Int.lt_trans hX (by decide))] at ec
  have sc := same_true ec ea (Int.emod_emod_of_dvd _ (Int.dvd_refl _))
  have so := same_true eo ea rfl
  have hlow := low_top cB hX
  have HT := Lib.hid (not_top cB hX)
  have lea := ea.1
  obtain ⟨E, hE⟩ : ∃ E, E = fromE b := ⟨_, rfl⟩
  rw [← hE] at fa ya sc so lea
  clear hE eo ec ea cB hX hb hcb
  have hbr := bring19_any (gi b 0) g0.1 g0.2
  have s1 : 0 ≤ gi b 0 % 19 := by omega
  have s2 : gi b 0 % 19 < 19 := by omega
  obtain ⟨s, hs⟩ : ∃ s, s = gi b 0 % 19 := ⟨_, rfl⟩
  rw [← hs] at hbr s1 s2
  clear hs
  have hsr := smallR_ok s1 s2
  have hmr := moreR_ok s1 s2
  have es := fromE_is hsr.1
  have em := fromE_is hmr.1
  have fs := fromE_any _ hsr.1
  have fm := fromE_any _ hmr.1
  rw [hsr.2] at es
  rw [hmr.2] at em
  have ls := hsr.1.1
  have lm := hmr.1.1
  have sm := same_true es em (by unfold H255 PP; omega)
  clear hsr hmr es em
  have c1 : IntKind.i64.wrap (gi b 0) = gi b 0 := i64_in' (by omega) (by omega)
  have c2 : IntKind.u8.wrap s = s := u8_in (by omega) (by omega)
  go_enter Try.func22, Try.ntmps22

  have tok_b1 : True := trivial
  have tok_q3 : True := trivial
  have tok_q4 : True := trivial
  have tok_q5 : True := trivial
  have tok_q8 : True := trivial
  have tok_q9 : True := trivial
  go_upto_region 5 with (go_big_may; (first | ((with_reducible show wpList _ _ _ (⟨_, .box _ _, _, _, _, _⟩ :: _) _ _); have _t := tok_b1; refine wpl_box hown rfl _ _ rfl _ rfl ?_; clear hown _t tok_b1; intro b1 _ hown; dsimp only [putL, setNth]) | (go_at_call 15; with_reducible refine (fa _).mono ?_; rintro e w' ⟨rfl, hb'⟩; replace hown := hown.grow hb'; clear hb') | (go_at_call 26; with_reducible refine (ya _).mono ?_; rintro e w' ⟨rfl, hb'⟩; replace hown := hown.grow hb'; clear hb') | ((with_reducible show wpList _ _ _ (⟨_, .alloc _, _, _, _, _⟩ :: _) _ _); have _t := tok_q3; refine wpl_alloc hown rfl _ rfl _ zero_elem ?_; clear hown _t tok_q3; intro q3 _ hown; dsimp only [putL, setNth]) | ((with_reducible show wpList _ _ _ (⟨_, .alloc _, _, _, _, _⟩ :: _) _ _); have _t := tok_q4; refine wpl_alloc hown rfl _ rfl _ zero_b32 ?_; clear hown _t tok_q4; intro q4 _ hown; dsimp only [putL, setNth]) | ((with_reducible show wpList _ _ _ (⟨_, .alloc _, _, _, _, _⟩ :: _) _ _); have _t := tok_q5; refine wpl_alloc hown rfl _ rfl _ zero_b32 ?_; clear hown _t tok_q5; intro q5 _ hown; dsimp only [putL, setNth]) | ((with_reducible show wpList _ _ _ (⟨_, .store _ _ _, _, _, _, _⟩ :: _) _ _); refine wpl_store_row hown rfl 26 _ _ rfl _ rfl _ rfl (ints_cell _ _) (sz_elem lea) 0 _ _ rfl (sz_eq (n := 5) rfl lea) ?_; clear hown; intro _ hown; dsimp only [putL]; simp only [List.set_cons_zero, List.set_cons_succ] at hown) | ((with_reducible show wpList _ _ _ (⟨_, .store _ _ _, _, _, _, _⟩ :: _) _ _); refine wpl_store_row hown rfl 22 _ _ rfl _ rfl _ rfl (ints_cell _ _) (sz_b32 hcl) 0 _ _ rfl (sz_eq (n := 32) rfl hcl) ?_; clear hown; intro _ hown; dsimp only [putL]; simp only [List.set_cons_zero, List.set_cons_succ] at hown) | ((with_reducible show wpList _ _ _ (⟨_, .store _ _ _, _, _, _, _⟩ :: _) _ _); refine wpl_store_row hown rfl 22 _ _ rfl _ rfl _ rfl (ints_cell _ _) (sz_b32 lb) 0 _ _ rfl (sz_eq (n := 32) rfl lb) ?_; clear hown; intro _ hown; dsimp only [putL]; simp only [List.set_cons_zero, List.set_cons_succ] at hown) | ((with_reducible show wpList _ _ _ (⟨_, .load _ _, _, _, _, _⟩ :: _) _ _); refine wpl_load_row hown rfl 26 _ rfl _ rfl 0 _ _ rfl _ Try.underlying26 rfl (sz_elem lea) ?_; dsimp only [putL, setNth]) | (first | ((with_reducible show wpList _ _ _ (⟨_, .load _ _, _, _, _, _⟩ :: _) _ _); refine wpl_load_row hown rfl 22 _ rfl _ rfl 0 _ _ rfl _ Try.underlying22 rfl (sz_b32 lb) ?_; dsimp only [putL, setNth]) | ((with_reducible show wpList _ _ _ (⟨_, .load _ _, _, _, _, _⟩ :: _) _ _); refine wpl_load_row hown rfl 22 _ rfl _ rfl 2 _ _ rfl _ Try.underlying22 rfl (sz_b32 lb) ?_; dsimp only [putL, setNth])) | (first | ((with_reducible show wpList _ _ _ (⟨_, .load _ _, _, _, _, _⟩ :: _) _ _); refine wpl_load_int hown rfl 5 _ rfl _ _ rfl _ Try.underlying5 3 _ _ rfl (by omega) ?_; dsimp only [putL, setNth])) | ((with_reducible show wpList _ _ _ (⟨_, .store _ _ _, _, _, _, _⟩ :: _) _ _); refine wpl_store_int hown rfl 5 _ _ rfl _ _ rfl _ _ rfl size_u8 0 _ _ rfl (by omega) ?_; clear hown; intro _ hown; dsimp only [putL]; simp only [List.set_cons_zero, List.set_cons_succ] at hown)))
  rw [← HO.out] at hown
  refine wp_region_grow 11 [0, 1, 2, 3, 4, 5, 6, 7, 8, 9, 10] (by kernel_rfl) (by kernel_rfl) hown ?_; simp only [List.filterMap_cons, List.filterMap_nil, List.getElem?_cons_zero, List.getElem?_cons_succ, List.drop_succ_cons, List.drop_zero]
  (refine wpV_step rfl rfl _ (growAt_load_row 22 _ rfl _ rfl 1 _ _ rfl _ Try.underlying22 rfl (sz_b32 hcl)) ?_; dsimp only [putL, setNth])
  (refine wpV_step rfl rfl _ (growAt_call (args := #[.agg (ints .u8 c)]) (by intro w; go_simp) (fun w => fc w)) ?_; dsimp only [putL, setNth])
  (refine wpV_step rfl rfl _ (growAt_load_row 26 _ rfl _ rfl 2 _ _ rfl _ Try.underlying26 rfl (sz_elem lea)) ?_; dsimp only [putL, setNth])
  (refine wpV_step rfl rfl _ (growAt_call (args := #[.agg (ints .u64 (fromE c)), .agg (ints .u64 E)]) (by intro w; go_simp) (fun w => sc w)) ?_; dsimp only [putL, setNth])
  (first | (refine wpV_step rfl rfl _ (growAt_move _ rfl _ rfl) ?_; dsimp only [putL, setNth, evL, nth]) | (refine wpV_step rfl rfl _ (growAt_assign _ rfl _ rfl) ?_; dsimp only [putL, setNth, evL, nth]) | (refine wpV_step rfl rfl _ (growAt_bits _ _ _ _ _ rfl (by decide) _ _ _ rfl rfl) ?_; dsimp only [putL, setNth]) | (refine wpV_step rfl rfl _ (growAt_bin _ _ _ _ _ rfl _ _ rfl rfl _ (by intro w; go_simp; try rfl)) ?_; dsimp only [putL, setNth]) | (refine wpV_step rfl rfl _ (growAt_un _ _ _ rfl _ rfl _ (by intro w; go_simp; try rfl)) ?_; dsimp only [putL, setNth]) | (refine wpV_step rfl rfl _ (growAt_conv _ _ _ rfl _ rfl _ (by intro w; go_simp; try rfl)) ?_; dsimp only [putL, setNth]) | (refine wpV_step rfl rfl _ (growAt_fld _ _ _ rfl _ rfl _ (by intro w; go_simp; try rfl)) ?_; dsimp only [putL, setNth]) | (refine wpV_step rfl rfl _ (growAt_idx _ _ _ rfl _ _ rfl rfl _ (by intro w; go_simp; try rfl)) ?_; dsimp only [putL, setNth]) | (refine wpV_step rfl rfl _ (growAt_extract _ _ rfl _ rfl _ rfl) ?_; dsimp only [putL, setNth]) | (refine wpV_step rfl rfl _ (growAt_pick _ _ _ rfl _ rfl _ _ rfl rfl) ?_; dsimp only [putL, setNth]))
  (first | (refine wpV_step rfl rfl _ (growAt_move _ rfl _ rfl) ?_; dsimp only [putL, setNth, evL, nth]) | (refine wpV_step rfl rfl _ (growAt_assign _ rfl _ rfl) ?_; dsimp only [putL, setNth, evL, nth]) | (refine wpV_step rfl rfl _ (growAt_bits _ _ _ _ _ rfl (by decide) _ _ _ rfl rfl) ?_; dsimp only [putL, setNth]) | (refine wpV_step rfl rfl _ (growAt_bin _ _ _ _ _ rfl _ _ rfl rfl _ (by intro w; go_simp; try rfl)) ?_; dsimp only [putL, setNth]) | (refine wpV_step rfl rfl _ (growAt_un _ _ _ rfl _ rfl _ (by intro w; go_simp; try rfl)) ?_; dsimp only [putL, setNth]) | (refine wpV_step rfl rfl _ (growAt_conv _ _ _ rfl _ rfl _ (by intro w; go_simp; try rfl)) ?_; dsimp only [putL, setNth]) | (refine wpV_step rfl rfl _ (growAt_fld _ _ _ rfl _ rfl _ (by intro w; go_simp; try rfl)) ?_; dsimp only [putL, setNth]) | (refine wpV_step rfl rfl _ (growAt_idx _ _ _ rfl _ _ rfl rfl _ (by intro w; go_simp; try rfl)) ?_; dsimp only [putL, setNth]) | (refine wpV_step rfl rfl _ (growAt_extract _ _ rfl _ rfl _ rfl) ?_; dsimp only [putL, setNth]) | (refine wpV_step rfl rfl _ (growAt_pick _ _ _ rfl _ rfl _ _ rfl rfl) ?_; dsimp only [putL, setNth]))
  (refine wpV_stepg (by rfl) rfl _ (growAt_load_row 22 _ rfl _ rfl 0 _ _ rfl _ Try.underlying22 rfl (sz_b32 lO)) ?_; dsimp only [putL, setNth])
  (refine wpV_stepg (by rfl) rfl _ (growAt_call (args := #[.agg (ints .u8 O)]) (by intro w; go_simp) (fun w => fo w)) ?_; dsimp only [putL, setNth])
  (refine wpV_stepg (by rfl) rfl _ (growAt_load_row 26 _ rfl _ rfl 2 _ _ rfl _ Try.underlying26 rfl (sz_elem lea)) ?_; dsimp only [putL, setNth])
  (refine wpV_stepg (by rfl) rfl _ (growAt_call (args := #[.agg (ints .u64 (fromE O)), .agg (ints .u64 E)]) (by intro w; go_simp) (fun w => so w)) ?_; dsimp only [putL, setNth])
  (first | (refine wpV_stepg (by rfl) rfl _ (growAt_move _ rfl _ rfl) ?_; dsimp only [putL, setNth, evL, nth]) | (refine wpV_stepg (by rfl) rfl _ (growAt_assign _ rfl _ rfl) ?_; dsimp only [putL, setNth, evL, nth]) | (refine wpV_stepg (by rfl) rfl _ (growAt_bits _ _ _ _ _ rfl (by decide) _ _ _ rfl rfl) ?_; dsimp only [putL, setNth]) | (refine wpV_stepg (by rfl) rfl _ (growAt_bin _ _ _ _ _ rfl _ _ rfl rfl _ (by intro w; go_simp; try rfl)) ?_; dsimp only [putL, setNth]) | (refine wpV_stepg (by rfl) rfl _ (growAt_un _ _ _ rfl _ rfl _ (by intro w; go_simp; try rfl)) ?_; dsimp only [putL, setNth]) | (refine wpV_stepg (by rfl) rfl _ (growAt_conv _ _ _ rfl _ rfl _ (by intro w; go_simp; try rfl)) ?_; dsimp only [putL, setNth]) | (refine wpV_stepg (by rfl) rfl _ (growAt_fld _ _ _ rfl _ rfl _ (by intro w; go_simp; try rfl)) ?_; dsimp only [putL, setNth]) | (refine wpV_stepg (by rfl) rfl _ (growAt_idx _ _ _ rfl _ _ rfl rfl _ (by intro w; go_simp; try rfl)) ?_; dsimp only [putL, setNth]) | (refine wpV_stepg (by rfl) rfl _ (growAt_extract _ _ rfl _ rfl _ rfl) ?_; dsimp only [putL, setNth]) | (refine wpV_stepg (by rfl) rfl _ (growAt_pick _ _ _ rfl _ rfl _ _ rfl rfl) ?_; dsimp only [putL, setNth]))
  refine wpV_nil ?_; clear hown; intro _ hown; simp only [List.nil_append, List.cons_append] at hown
  go_upto_region 10 with (go_big_may; (first | ((with_reducible show wpList _ _ _ (⟨_, .load _ _, _, _, _, _⟩ :: _) _ _); refine wpl_load_int hown rfl 5 _ rfl _ _ rfl _ Try.underlying5 1 _ _ rfl (by omega) ?_; dsimp only [putL, setNth])))
  go_wp2_with fail
  go_loopw [6, 7] (fun t i wr => ∃ j : Nat, j ≤ 30 ∧ i = .int .i64 ((j : Int) + 1) ∧ t = .bool (topB c j) ∧ Own w wr [(q5, ints .u8 O, 22), (q4, ints .u8 c, 22), (q3, ints .u64 E, 26), (b1, ints .u8 b, 22)]) (fun _ i _ => 32 - (intOf i).toNat)
  case atStart => exact ⟨0, by omega, rfl, rfl, hown⟩
  case round =>
    clear hown
    obtain ⟨j, hj, rfl, ht, hown⟩ := hrel
    by_cases hlt : j < 30
    · have f1 : ((j : Int) + 1).toNat = j + 1 := by omega
      have f2 : (0 : Int) ≤ (j : Int) + 1 := by omega
      have f3 : (j : Int) + 1 < 31 := by omega
      have f4 : (j : Int) + 1 < 32 := by omega
      have f5 : j + 1 < 32 := by omega
      cases hT : topB c j with
      | true =>
        have HTT := Lib.hid hT
        rw [hT] at ht
        clear hT
        subst ht
        go_wp2_with (first | ((with_reducible show wpList _ _ _ (⟨_, _, _, _, _, some _⟩ :: _) _ _); refine wpl_unguard _ rfl (by rfl) ?_; dsimp only) | ((with_reducible show wpList _ _ _ (⟨_, .load _ _, _, _, _, _⟩ :: _) _ _); refine wpl_load_int hown rfl 5 _ rfl _ _ rfl _ Try.underlying5 1 _ _ rfl (by omega) ?_; dsimp only [putL, setNth]))
        go_roundw
        case rel => exact ⟨j + 1, by omega, by go_num, by simp only [topB]; rw [HTT.out]; rfl, hown⟩
        case measure => simp [intOf]; omega
      | false =>
        have HTT := Lib.hid hT
        rw [hT] at ht
        clear hT
        subst ht
        go_wp2_with (first | ((with_reducible show wpList _ _ _ (⟨_, _, _, _, _, some _⟩ :: _) _ _); refine wpl_unguard _ rfl (by rfl) ?_; dsimp only) | ((with_reducible show wpList _ _ _ (⟨_, .load _ _, _, _, _, _⟩ :: _) _ _); refine wpl_load_int hown rfl 5 _ rfl _ _ rfl _ Try.underlying5 1 _ _ rfl (by omega) ?_; dsimp only [putL, setNth]))
        go_roundw
        case rel => exact ⟨j + 1, by omega, by go_num, by simp only [topB]; rw [HTT.out]; rfl, hown⟩
        case measure => simp [intOf]; omega
    · obtain rfl : j = 30 := by omega
      clear hj hlt
      have HG : topB c 30 = true → ¬ (237 ≤ gi c 0) := fun h => by have := HT.out h; omega
      cases hT : topB c 30 with
      | true =>
        have hg := HG hT
        rw [hT] at ht
        clear hT HG HT
        subst ht
        go_upto_region 20 with (go_big_may; (first | ((with_reducible show wpList _ _ _ (⟨_, _, _, _, _, some _⟩ :: _) _ _); refine wpl_unguard _ rfl (by rfl) ?_; dsimp only) | ((with_reducible show wpList _ _ _ (⟨_, .load _ _, _, _, _, _⟩ :: _) _ _); refine wpl_load_int hown rfl 5 _ rfl _ _ rfl _ Try.underlying5 1 _ _ rfl (by omega) ?_; dsimp only [putL, setNth]) | ((with_reducible show wpList _ _ _ (⟨_, .alloc _, _, _, _, _⟩ :: _) _ _); have _t := tok_q8; refine wpl_alloc hown rfl _ rfl _ zero_b32 ?_; clear hown _t tok_q8; intro q8 _ hown; dsimp only [putL, setNth]) | (first | ((with_reducible show wpList _ _ _ (⟨_, .load _ _, _, _, _, _⟩ :: _) _ _); refine wpl_load_int hown rfl 5 _ rfl _ _ rfl _ Try.underlying5 4 _ _ rfl (by omega) ?_; dsimp only [putL, setNth])) | (go_at_call 50; with_reducible refine (hbr _).mono ?_; rintro e w' ⟨rfl, hb'⟩; replace hown := hown.grow hb'; clear hb') | ((with_reducible show wpList _ _ _ (⟨_, .store _ _ _, _, _, _, _⟩ :: _) _ _); refine wpl_store_int hown rfl 5 _ _ rfl _ _ rfl _ _ rfl size_u8 0 _ _ rfl (by simp) ?_; clear hown; intro _ hown; dsimp only [putL]; simp only [List.set_cons_zero, List.set_cons_succ] at hown) | ((with_reducible show wpList _ _ _ (⟨_, .alloc _, _, _, _, _⟩ :: _) _ _); have _t := tok_q9; refine wpl_alloc hown rfl _ rfl _ zero_b32 ?_; clear hown _t tok_q9; intro q9 _ hown; dsimp only [putL, setNth]) | (refine wpl_build rfl 22 _ rfl _ rfl (ints .u8 (List.replicate 32 0)) (by kernel_rfl) ?_; dsimp only [putL, setNth]) | ((with_reducible show wpList _ _ _ (⟨_, .store _ _ _, _, _, _, _⟩ :: _) _ _); refine wpl_store_row hown rfl 22 _ _ rfl _ rfl _ rfl (ints_cell _ _) (sz_b32 rfl) 0 _ _ rfl (rfl) ?_; clear hown; intro _ hown; dsimp only [putL]; simp only [List.set_cons_zero, List.set_cons_succ] at hown)))
        go_loopw [10] (fun i wr => ∃ k : Nat, k ≤ 32 ∧ i = .int .i64 k ∧ Own w wr [(q9, ints .u8 (primeN k), 22), (q8, ints .u8 (smallR s), 22), (q5, ints .u8 O, 22), (q4, ints .u8 c, 22), (q3, ints .u64 E, 26), (b1, ints .u8 b, 22)]) (fun i _ => 32 - (intOf i).toNat)
        case atStart => exact ⟨0, by omega, rfl, hown⟩
        case round =>
          clear hown
          obtain ⟨k, hk, rfl, hown⟩ := hrel
          have hpk := primeN_length k
          by_cases hlt : k < 32
          · have f1 : ((k : Int)).toNat = k := by omega
            have f2 : (0 : Int) ≤ (k : Int) := by omega
            have f3 : (k : Int) < 32 := by omega
            go_wp2_with (first | ((with_reducible show wpList _ _ _ (⟨_, .store _ _ _, _, _, _, _⟩ :: _) _ _); refine wpl_store_int hown rfl 5 _ _ rfl _ _ rfl _ _ rfl size_u8 0 _ _ rfl (by omega) ?_; clear hown; intro _ hown; dsimp only [putL]; simp only [List.set_cons_zero, List.set_cons_succ] at hown))
            go_roundw
            case rel => exact ⟨k + 1, by omega, by go_num, hown⟩
            case measure => simp [intOf]; omega
          · obtain rfl : k = 32 := by omega
            clear hk hlt
            have hsm : gi (smallR s) 0 = s := gi_same _ _ _ (by simp)
            
            go_upto_region 25 with (go_big_may; (first | ((with_reducible show wpList _ _ _ (⟨_, .load _ _, _, _, _, _⟩ :: _) _ _); refine wpl_load_int hown rfl 5 _ rfl _ _ rfl _ Try.underlying5 1 _ _ rfl (by omega) ?_; dsimp only [putL, setNth]) | ((with_reducible show wpList _ _ _ (⟨_, .store _ _ _, _, _, _, _⟩ :: _) _ _); refine wpl_store_int hown rfl 5 _ _ rfl _ _ rfl _ _ rfl size_u8 0 _ _ rfl (by (try simp); omega) ?_; clear hown; intro _ hown; dsimp only [putL]; simp only [List.set_cons_zero, List.set_cons_succ] at hown)))
            rw [show ((primeN 32).set 31 127).set 0 (s + 237) = moreR s from rfl] at hown
            refine wp_region_grow 8 [0, 1, 2, 3, 4, 5, 6, 7] (by kernel_rfl) (by kernel_rfl) hown ?_; simp only [List.filterMap_cons, List.filterMap_nil, List.getElem?_cons_zero, List.getElem?_cons_succ, List.drop_succ_cons, List.drop_zero]
            (refine wpV_step rfl rfl _ (growAt_load_row 22 _ rfl _ rfl 1 _ _ rfl _ Try.underlying22 rfl (sz_b32 ls)) ?_; dsimp only [putL, setNth])
            (refine wpV_step rfl rfl _ (growAt_call (args := #[.agg (ints .u8 (smallR s))]) (by intro w; go_simp) (fun w => fs w)) ?_; dsimp only [putL, setNth])
            (refine wpV_step rfl rfl _ (growAt_load_row 22 _ rfl _ rfl 0 _ _ rfl _ Try.underlying22 rfl (sz_b32 lm)) ?_; dsimp only [putL, setNth])
            (refine wpV_step rfl rfl _ (growAt_call (args := #[.agg (ints .u8 (moreR s))]) (by intro w; go_simp) (fun w => fm w)) ?_; dsimp only [putL, setNth])
            (refine wpV_step rfl rfl _ (growAt_call (args := #[.agg (ints .u64 (fromE (smallR s))), .agg (ints .u64 (fromE (moreR s)))]) (by intro w; go_simp) (fun w => sm w)) ?_; dsimp only [putL, setNth])
            (first | (refine wpV_step rfl rfl _ (growAt_move _ rfl _ rfl) ?_; dsimp only [putL, setNth, evL, nth]) | (refine wpV_step rfl rfl _ (growAt_assign _ rfl _ rfl) ?_; dsimp only [putL, setNth, evL, nth]) | (refine wpV_step rfl rfl _ (growAt_bits _ _ _ _ _ rfl (by decide) _ _ _ rfl rfl) ?_; dsimp only [putL, setNth]) | (refine wpV_step rfl rfl _ (growAt_bin _ _ _ _ _ rfl _ _ rfl rfl _ (by intro w; go_simp; try rfl)) ?_; dsimp only [putL, setNth]) | (refine wpV_step rfl rfl _ (growAt_un _ _ _ rfl _ rfl _ (by intro w; go_simp; try rfl)) ?_; dsimp only [putL, setNth]) | (refine wpV_step rfl rfl _ (growAt_conv _ _ _ rfl _ rfl _ (by intro w; go_simp; try rfl)) ?_; dsimp only [putL, setNth]) | (refine wpV_step rfl rfl _ (growAt_fld _ _ _ rfl _ rfl _ (by intro w; go_simp; try rfl)) ?_; dsimp only [putL, setNth]) | (refine wpV_step rfl rfl _ (growAt_idx _ _ _ rfl _ _ rfl rfl _ (by intro w; go_simp; try rfl)) ?_; dsimp only [putL, setNth]) | (refine wpV_step rfl rfl _ (growAt_extract _ _ rfl _ rfl _ rfl) ?_; dsimp only [putL, setNth]) | (refine wpV_step rfl rfl _ (growAt_pick _ _ _ rfl _ rfl _ _ rfl rfl) ?_; dsimp only [putL, setNth]))
            (refine wpV_stepg (by rfl) rfl _ (growAt_call (args := #[]) (by intro w; go_simp) (fun w => awake_any w)) ?_; dsimp only [putL, setNth])
            (first | (refine wpV_step rfl rfl _ (growAt_move _ rfl _ rfl) ?_; dsimp only [putL, setNth, evL, nth]) | (refine wpV_step rfl rfl _ (growAt_assign _ rfl _ rfl) ?_; dsimp only [putL, setNth, evL, nth]) | (refine wpV_step rfl rfl _ (growAt_bits _ _ _ _ _ rfl (by decide) _ _ _ rfl rfl) ?_; dsimp only [putL, setNth]) | (refine wpV_step rfl rfl _ (growAt_bin _ _ _ _ _ rfl _ _ rfl rfl _ (by intro w; go_simp; try rfl)) ?_; dsimp only [putL, setNth]) | (refine wpV_step rfl rfl _ (growAt_un _ _ _ rfl _ rfl _ (by intro w; go_simp; try rfl)) ?_; dsimp only [putL, setNth]) | (refine wpV_step rfl rfl _ (growAt_conv _ _ _ rfl _ rfl _ (by intro w; go_simp; try rfl)) ?_; dsimp only [putL, setNth]) | (refine wpV_step rfl rfl _ (growAt_fld _ _ _ rfl _ rfl _ (by intro w; go_simp; try rfl)) ?_; dsimp only [putL, setNth]) | (refine wpV_step rfl rfl _ (growAt_idx _ _ _ rfl _ _ rfl rfl _ (by intro w; go_simp; try rfl)) ?_; dsimp only [putL, setNth]) | (refine wpV_step rfl rfl _ (growAt_extract _ _ rfl _ rfl _ rfl) ?_; dsimp only [putL, setNth]) | (refine wpV_step rfl rfl _ (growAt_pick _ _ _ rfl _ rfl _ _ rfl rfl) ?_; dsimp only [putL, setNth]))
            refine wpV_nil ?_; clear hown; intro _ hown; simp only [List.nil_append, List.cons_append] at hown
            go_wp2
            go_ret
            exact ⟨rfl, hown.below⟩
      | false =>
        rw [hT] at ht
        clear hT HG HT
        subst ht
        go_upto_region 20 with (go_big_may; (first | ((with_reducible show wpList _ _ _ (⟨_, _, _, _, _, some _⟩ :: _) _ _); refine wpl_unguard _ rfl (by rfl) ?_; dsimp only) | ((with_reducible show wpList _ _ _ (⟨_, .load _ _, _, _, _, _⟩ :: _) _ _); refine wpl_load_int hown rfl 5 _ rfl _ _ rfl _ Try.underlying5 1 _ _ rfl (by omega) ?_; dsimp only [putL, setNth]) | ((with_reducible show wpList _ _ _ (⟨_, .alloc _, _, _, _, _⟩ :: _) _ _); have _t := tok_q8; refine wpl_alloc hown rfl _ rfl _ zero_b32 ?_; clear hown _t tok_q8; intro q8 _ hown; dsimp only [putL, setNth]) | (first | ((with_reducible show wpList _ _ _ (⟨_, .load _ _, _, _, _, _⟩ :: _) _ _); refine wpl_load_int hown rfl 5 _ rfl _ _ rfl _ Try.underlying5 4 _ _ rfl (by omega) ?_; dsimp only [putL, setNth])) | (go_at_call 50; with_reducible refine (hbr _).mono ?_; rintro e w' ⟨rfl, hb'⟩; replace hown := hown.grow hb'; clear hb') | ((with_reducible show wpList _ _ _ (⟨_, .store _ _ _, _, _, _, _⟩ :: _) _ _); refine wpl_store_int hown rfl 5 _ _ rfl _ _ rfl _ _ rfl size_u8 0 _ _ rfl (by simp) ?_; clear hown; intro _ hown; dsimp only [putL]; simp only [List.set_cons_zero, List.set_cons_succ] at hown) | ((with_reducible show wpList _ _ _ (⟨_, .alloc _, _, _, _, _⟩ :: _) _ _); have _t := tok_q9; refine wpl_alloc hown rfl _ rfl _ zero_b32 ?_; clear hown _t tok_q9; intro q9 _ hown; dsimp only [putL, setNth]) | (refine wpl_build rfl 22 _ rfl _ rfl (ints .u8 (List.replicate 32 0)) (by kernel_rfl) ?_; dsimp only [putL, setNth]) | ((with_reducible show wpList _ _ _ (⟨_, .store _ _ _, _, _, _, _⟩ :: _) _ _); refine wpl_store_row hown rfl 22 _ _ rfl _ rfl _ rfl (ints_cell _ _) (sz_b32 rfl) 0 _ _ rfl (rfl) ?_; clear hown; intro _ hown; dsimp only [putL]; simp only [List.set_cons_zero, List.set_cons_succ] at hown)))
        go_loopw [10] (fun i wr => ∃ k : Nat, k ≤ 32 ∧ i = .int .i64 k ∧ Own w wr [(q9, ints .u8 (primeN k), 22), (q8, ints .u8 (smallR s), 22), (q5, ints .u8 O, 22), (q4, ints .u8 c, 22), (q3, ints .u64 E, 26), (b1, ints .u8 b, 22)]) (fun i _ => 32 - (intOf i).toNat)
        case atStart => exact ⟨0, by omega, rfl, hown⟩
        case round =>
          clear hown
          obtain ⟨k, hk, rfl, hown⟩ := hrel
          have hpk := primeN_length k
          by_cases hlt : k < 32
          · have f1 : ((k : Int)).toNat = k := by omega
            have f2 : (0 : Int) ≤ (k : Int) := by omega
            have f3 : (k : Int) < 32 := by omega
            go_wp2_with (first | ((with_reducible show wpList _ _ _ (⟨_, .store _ _ _, _, _, _, _⟩ :: _) _ _); refine wpl_store_int hown rfl 5 _ _ rfl _ _ rfl _ _ rfl size_u8 0 _ _ rfl (by omega) ?_; clear hown; intro _ hown; dsimp only [putL]; simp only [List.set_cons_zero, List.set_cons_succ] at hown))
            go_roundw
            case rel => exact ⟨k + 1, by omega, by go_num, hown⟩
            case measure => simp [intOf]; omega
          · obtain rfl : k = 32 := by omega
            clear hk hlt
            have hsm : gi (smallR s) 0 = s := gi_same _ _ _ (by simp)
            
            go_upto_region 25 with (go_big_may; (first | ((with_reducible show wpList _ _ _ (⟨_, .load _ _, _, _, _, _⟩ :: _) _ _); refine wpl_load_int hown rfl 5 _ rfl _ _ rfl _ Try.underlying5 1 _ _ rfl (by omega) ?_; dsimp only [putL, setNth]) | ((with_reducible show wpList _ _ _ (⟨_, .store _ _ _, _, _, _, _⟩ :: _) _ _); refine wpl_store_int hown rfl 5 _ _ rfl _ _ rfl _ _ rfl size_u8 0 _ _ rfl (by (try simp); omega) ?_; clear hown; intro _ hown; dsimp only [putL]; simp only [List.set_cons_zero, List.set_cons_succ] at hown)))
            rw [show ((primeN 32).set 31 127).set 0 (s + 237) = moreR s from rfl] at hown
            refine wp_region_grow 8 [0, 1, 2, 3, 4, 5, 6, 7] (by kernel_rfl) (by kernel_rfl) hown ?_; simp only [List.filterMap_cons, List.filterMap_nil, List.getElem?_cons_zero, List.getElem?_cons_succ, List.drop_succ_cons, List.drop_zero]
            (refine wpV_step rfl rfl _ (growAt_load_row 22 _ rfl _ rfl 1 _ _ rfl _ Try.underlying22 rfl (sz_b32 ls)) ?_; dsimp only [putL, setNth])
            (refine wpV_step rfl rfl _ (growAt_call (args := #[.agg (ints .u8 (smallR s))]) (by intro w; go_simp) (fun w => fs w)) ?_; dsimp only [putL, setNth])
            (refine wpV_step rfl rfl _ (growAt_load_row 22 _ rfl _ rfl 0 _ _ rfl _ Try.underlying22 rfl (sz_b32 lm)) ?_; dsimp only [putL, setNth])
            (refine wpV_step rfl rfl _ (growAt_call (args := #[.agg (ints .u8 (moreR s))]) (by intro w; go_simp) (fun w => fm w)) ?_; dsimp only [putL, setNth])
            (refine wpV_step rfl rfl _ (growAt_call (args := #[.agg (ints .u64 (fromE (smallR s))), .agg (ints .u64 (fromE (moreR s)))]) (by intro w; go_simp) (fun w => sm w)) ?_; dsimp only [putL, setNth])
            (first | (refine wpV_step rfl rfl _ (growAt_move _ rfl _ rfl) ?_; dsimp only [putL, setNth, evL, nth]) | (refine wpV_step rfl rfl _ (growAt_assign _ rfl _ rfl) ?_; dsimp only [putL, setNth, evL, nth]) | (refine wpV_step rfl rfl _ (growAt_bits _ _ _ _ _ rfl (by decide) _ _ _ rfl rfl) ?_; dsimp only [putL, setNth]) | (refine wpV_step rfl rfl _ (growAt_bin _ _ _ _ _ rfl _ _ rfl rfl _ (by intro w; go_simp; try rfl)) ?_; dsimp only [putL, setNth]) | (refine wpV_step rfl rfl _ (growAt_un _ _ _ rfl _ rfl _ (by intro w; go_simp; try rfl)) ?_; dsimp only [putL, setNth]) | (refine wpV_step rfl rfl _ (growAt_conv _ _ _ rfl _ rfl _ (by intro w; go_simp; try rfl)) ?_; dsimp only [putL, setNth]) | (refine wpV_step rfl rfl _ (growAt_fld _ _ _ rfl _ rfl _ (by intro w; go_simp; try rfl)) ?_; dsimp only [putL, setNth]) | (refine wpV_step rfl rfl _ (growAt_idx _ _ _ rfl _ _ rfl rfl _ (by intro w; go_simp; try rfl)) ?_; dsimp only [putL, setNth]) | (refine wpV_step rfl rfl _ (growAt_extract _ _ rfl _ rfl _ rfl) ?_; dsimp only [putL, setNth]) | (refine wpV_step rfl rfl _ (growAt_pick _ _ _ rfl _ rfl _ _ rfl rfl) ?_; dsimp only [putL, setNth]))
            (refine wpV_stepg (by rfl) rfl _ (growAt_call (args := #[]) (by intro w; go_simp) (fun w => awake_any w)) ?_; dsimp only [putL, setNth])
            (first | (refine wpV_step rfl rfl _ (growAt_move _ rfl _ rfl) ?_; dsimp only [putL, setNth, evL, nth]) | (refine wpV_step rfl rfl _ (growAt_assign _ rfl _ rfl) ?_; dsimp only [putL, setNth, evL, nth]) | (refine wpV_step rfl rfl _ (growAt_bits _ _ _ _ _ rfl (by decide) _ _ _ rfl rfl) ?_; dsimp only [putL, setNth]) | (refine wpV_step rfl rfl _ (growAt_bin _ _ _ _ _ rfl _ _ rfl rfl _ (by intro w; go_simp; try rfl)) ?_; dsimp only [putL, setNth]) | (refine wpV_step rfl rfl _ (growAt_un _ _ _ rfl _ rfl _ (by intro w; go_simp; try rfl)) ?_; dsimp only [putL, setNth]) | (refine wpV_step rfl rfl _ (growAt_conv _ _ _ rfl _ rfl _ (by intro w; go_simp; try rfl)) ?_; dsimp only [putL, setNth]) | (refine wpV_step rfl rfl _ (growAt_fld _ _ _ rfl _ rfl _ (by intro w; go_simp; try rfl)) ?_; dsimp only [putL, setNth]) | (refine wpV_step rfl rfl _ (growAt_idx _ _ _ rfl _ _ rfl rfl _ (by intro w; go_simp; try rfl)) ?_; dsimp only [putL, setNth]) | (refine wpV_step rfl rfl _ (growAt_extract _ _ rfl _ rfl _ rfl) ?_; dsimp only [putL, setNth]) | (refine wpV_step rfl rfl _ (growAt_pick _ _ _ rfl _ rfl _ _ rfl rfl) ?_; dsimp only [putL, setNth]))
            refine wpV_nil ?_; clear hown; intro _ hown; simp only [List.nil_append, List.cons_append] at hown
            go_wp2
            go_ret
            exact ⟨rfl, hown.below⟩


end Go.Proofs.Ytmchkfganpgheaa
