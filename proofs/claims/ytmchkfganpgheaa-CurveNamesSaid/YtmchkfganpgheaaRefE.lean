/-
  The document's bytes of a number.
-/
import Derived.Test.YtmchkfganpgheaaRefO
namespace Go.Proofs.Ytmchkfganpgheaa
set_option linter.unusedSimpArgs false
set_option linter.unusedVariables false
open Go Go.RowKit


theorem rless_iff {a b : List Int} : ∀ n, Dig 256 (gi a) n → Dig 256 (gi b) n → (rlessN a b n = true ↔ sumN 256 (gi a) n < sumN 256 (gi b) n)
  | 0, _, _ => by simp [rlessN, sumN]
  | n + 1, ha, hb => by
    have ih := rless_iff n (ha.less (Nat.le_succ n)) (hb.less (Nat.le_succ n))
    obtain ⟨a1, a2⟩ := sumN_bound (by omega) (ha.less (Nat.le_succ n))
    obtain ⟨b1, b2⟩ := sumN_bound (by omega) (hb.less (Nat.le_succ n))
    have hp := pow_pos' (B := 256) (by omega) n
    simp only [rlessN, sumN]
    by_cases h : gi a n = gi b n
    · rw [if_pos h, ih, h]
      omega
    · rw [if_neg h, decide_eq_true_iff]
      by_cases hl : gi a n < gi b n
      · have := digit_lt (P := 256 ^ n) a2 b1 hp hl
        exact ⟨fun _ => this, fun _ => hl⟩
      · have := digit_lt (P := 256 ^ n) b2 a1 hp (show gi b n < gi a n by omega)
        exact ⟨fun h => absurd h hl, fun h => by omega⟩
theorem rless_spec {a b : List Int} (n : Nat) (ha : Dig 256 (gi a) n) (hb : Dig 256 (gi b) n) : rlessN a b n = decide (sumN 256 (gi a) n < sumN 256 (gi b) n) :=
  Bool.eq_iff_iff.2 ((rless_iff n ha hb).trans decide_eq_true_iff.symm)
theorem rmin_spec {a b : List Int} (hal : a.length = 32) (ha : Dig 256 (gi a) 32) (hb : Dig 256 (gi b) 32) : ∀ k, k ≤ 32 →
    Dig 256 (gi (rminN a b k).1) k ∧ (∀ i, k ≤ i → gi (rminN a b k).1 i = gi a i) ∧ 0 ≤ (rminN a b k).2 ∧ (rminN a b k).2 ≤ 1 ∧
    sumN 256 (gi (rminN a b k).1) k = sumN 256 (gi a) k - sumN 256 (gi b) k + (rminN a b k).2 * 256 ^ k
  | 0, _ => ⟨fun i hi => by omega, fun i _ => rfl, by simp [rminN], by simp [rminN], by simp [rminN, sumN]⟩
  | k + 1, hk => by
    obtain ⟨h1, h2, h3, h4, h5⟩ := rmin_spec hal ha hb k (by omega)
    have hl := rminN_length a b hal k
    have he := h2 k (Nat.le_refl k)
    obtain ⟨a1, a2⟩ := ha k (by omega)
    obtain ⟨b1, b2⟩ := hb k (by omega)
    have hV : rminV (gi (rminN a b k).1 k) (gi b k) (rminN a b k).2 = gi a k - gi b k - (rminN a b k).2 := by
      unfold rminV
      rw [he, i64_in' (x := gi a k) (by omega) (by omega), i64_in' (x := gi b k) (by omega) (by omega), i64_in' (x := gi a k - gi b k) (by omega) (by omega), i64_in' (by omega) (by omega)]
    obtain ⟨y, c, hy0, hy1, hc0, hc1, hyc, e1, e2⟩ : ∃ y c, 0 ≤ y ∧ y < 256 ∧ 0 ≤ c ∧ c ≤ 1 ∧ y = gi a k - gi b k - (rminN a b k).2 + c * 256 ∧ (rminN a b (k + 1)).1 = (rminN a b k).1.set k y ∧ (rminN a b (k + 1)).2 = c := by
      by_cases hn : gi a k - gi b k - (rminN a b k).2 < 0
      · refine ⟨gi a k - gi b k - (rminN a b k).2 + 256, 1, by omega, by omega, by omega, by omega, by omega, ?_, ?_⟩
        · simp only [rminN]
          rw [hV, if_pos hn, wrap64_in (by omega) (by omega), u8_in (by omega) (by omega)]
        · simp only [rminN]
          rw [hV, if_pos hn]
      · refine ⟨gi a k - gi b k - (rminN a b k).2, 0, by omega, by omega, by omega, by omega, by omega, ?_, ?_⟩
        · simp only [rminN]
          rw [hV, if_neg hn, u8_in (by omega) (by omega)]
        · simp only [rminN]
          rw [hV, if_neg hn]
    have hs : ∀ i, i < k → gi (rminN a b (k + 1)).1 i = gi (rminN a b k).1 i := fun i hi => by rw [e1, gi_upd _ _ _ _ (by omega)]
    have ht : gi (rminN a b (k + 1)).1 k = y := by rw [e1, gi_same _ _ _ (by omega)]
    refine ⟨fun i hi => ?_, fun i hi => ?_, by rw [e2]; exact hc0, by rw [e2]; exact hc1, ?_⟩
    · by_cases h : i = k
      · subst h
        rw [ht]
        exact ⟨hy0, hy1⟩
      · rw [hs i (by omega)]
        exact h1 i (by omega)
    · rw [e1, gi_upd _ _ _ _ (by omega)]
      exact h2 i (by omega)
    · simp only [sumN]
      rw [sumN_congr hs, ht, h5, e2, hyc, Int.add_mul, Int.sub_mul, Int.sub_mul, Int.pow_succ, Int.mul_comm (256 ^ k) 256, ← Int.mul_assoc]
      omega
theorem p256 : (256 : Int) ^ 32 = Q256 := by decide
theorem IsB.bound {r : List Int} {v : Int} (h : IsB r v) : 0 ≤ v ∧ v < Q256 := by
  have := sumN_bound (B := 256) (by omega) h.2.1
  rw [h.2.2, p256] at this
  exact this
theorem rless_isB {a b : List Int} {v u : Int} (ha : IsB a v) (hb : IsB b u) : rlessN a b 32 = decide (v < u) := by
  rw [rless_spec 32 ha.2.1 hb.2.1, ha.2.2, hb.2.2]
theorem rmin_isB {a b : List Int} {v u : Int} (ha : IsB a v) (hb : IsB b u) (h : u ≤ v) : IsB (rminN a b 32).1 (v - u) := by
  obtain ⟨h1, _, h3, h4, h5⟩ := rmin_spec ha.1 ha.2.1 hb.2.1 32 (Nat.le_refl _)
  obtain ⟨s1, s2⟩ := sumN_bound (B := 256) (by omega) h1
  rw [ha.2.2, hb.2.2, p256] at h5
  rw [p256] at s2
  have va := ha.bound
  have vb := hb.bound
  refine ⟨rminN_length a b ha.1 32, h1, ?_⟩
  generalize (rminN a b 32).2 = c at *
  have hc : c = 0 ∨ c = 1 := by omega
  unfold Q256 at *
  rcases hc with rfl | rfl <;> omega
theorem prime_isB : IsB primeI PP := by
  rw [primeI_eq]
  exact ⟨primeL_length, by unfold Dig; decide +kernel, by decide +kernel⟩

/-- A number's digits. -/
theorem digits_sum {B : Int} (hB : 0 < B) (N : Int) : ∀ K, sumN B (fun k => N / B ^ k % B) K = N % B ^ K
  | 0 => by simp [sumN, Int.emod_one]
  | k + 1 => by
    have hA : (0 : Int) < B ^ k := pow_pos' hB k
    have h1 := Int.emod_add_mul_ediv N (B ^ k)
    have h2 := Int.emod_nonneg N (show B ^ k ≠ 0 by omega)
    have h3 := Int.emod_lt_of_pos N hA
    simp only [sumN]
    rw [digits_sum hB N k]
    generalize N % B ^ k = r at *
    generalize N / B ^ k = q at *
    have g1 := Int.emod_add_mul_ediv q B
    have g2 := Int.emod_nonneg q (show B ≠ 0 by omega)
    have g3 := Int.emod_lt_of_pos q hB
    generalize q % B = b at *
    generalize q / B = t at *
    rw [Int.pow_succ]
    have e : N = (r + b * B ^ k) + B ^ k * B * t := by
      rw [← h1, ← g1, Int.mul_add, Int.mul_comm b, Int.mul_assoc]
      omega
    rw [e, Int.add_mul_emod_self_left]
    symm
    have m1 : 0 ≤ b * B ^ k := Int.mul_nonneg g2 (by omega)
    have m2 : b * B ^ k ≤ (B - 1) * B ^ k := Int.mul_le_mul_of_nonneg_right (by omega) (by omega)
    rw [Int.sub_mul, Int.one_mul, Int.mul_comm B] at m2
    exact Int.emod_eq_of_lt (by omega) (by omega)
def le32 (v : Int) : List Int := (List.range 32).map fun i => v / 256 ^ i % 256
theorem le32_length (v : Int) : (le32 v).length = 32 := by simp [le32]
theorem le32_gi (v : Int) (i : Nat) (h : i < 32) : gi (le32 v) i = v / 256 ^ i % 256 := by
  unfold gi le32
  simp [List.getD_eq_getElem?_getD, h]
theorem le32_isB {v : Int} (h0 : 0 ≤ v) (h1 : v < Q256) : IsB (le32 v) v := by
  refine ⟨le32_length v, fun i hi => ?_, ?_⟩
  · rw [le32_gi v i hi]
    omega
  · rw [sumN_congr (g := fun k => v / 256 ^ k % 256) (fun i hi => le32_gi v i hi), digits_sum (by omega), p256]
    exact Int.emod_eq_of_lt h0 h1
theorem IsB.le {r : List Int} {v : Int} (h : IsB r v) : r = le32 v := h.inj (le32_isB h.bound.1 h.bound.2)
theorem pp_range (v : Int) : 0 ≤ v % PP ∧ v % PP < PP ∧ v % PP < Q256 := by
  have h1 := Int.emod_nonneg v (show PP ≠ 0 by decide)
  have h2 := Int.emod_lt_of_pos v (show 0 < PP by decide)
  have h3 : PP < Q256 := by decide
  omega
theorem le32_p (v : Int) : IsB (le32 (v % PP)) (v % PP) := le32_isB (pp_range v).1 (pp_range v).2.2
theorem le32_inj {v w : Int} : le32 (v % PP) = le32 (w % PP) ↔ v % PP = w % PP := (le32_p v).eq_iff (le32_p w)

/-- What lies in the heap: the number of a row of bytes. -/
def cellI (W : World) (b j : Nat) : Int := match W.cell? ⟨b, j, none⟩ with | some (.int _ n) => n | _ => 0
def heapV (W : World) (b : Nat) : Int := sumN 256 (fun j => cellI W b j) 32
theorem heapV_own {w0 W : World} {bs : List (Nat × Array Value × TypeId)} (h : Own w0 W bs) (i : Nat) {b : Nat} {k : IntKind} {L : List Int} {t : TypeId} (hi : bs[i]? = some (b, ints k L, t)) (hl : L.length = 32) : heapV W b = v32 L := by
  refine sumN_congr fun j hj => ?_
  unfold cellI
  rw [h.cell i hi, ints_get (by omega)]

def rbytN (a : List Int) : Nat → List Int
  | 0 => List.replicate 32 0
  | k + 1 => ((rbytN a k).set (2 * k) (IntKind.u8.wrap (bits .and .i64 (gi a k) 255))).set (2 * k + 1) (IntKind.u8.wrap (gi a k / 256))
theorem rbytN_length (a : List Int) : ∀ k, (rbytN a k).length = 32
  | 0 => rfl
  | k + 1 => by simp [rbytN, rbytN_length a k]
theorem rbytN_gi {a : List Int} (ha : Dig 65536 (gi a) 16) : ∀ k, k ≤ 16 → ∀ i, i < k → gi (rbytN a k) (2 * i) = gi a i % 256 ∧ gi (rbytN a k) (2 * i + 1) = gi a i / 256
  | 0, _, i, hi => by omega
  | k + 1, hk, i, hi => by
    have hl := rbytN_length a k
    obtain ⟨a1, a2⟩ := ha k (by omega)
    have e : rbytN a (k + 1) = ((rbytN a k).set (2 * k) (gi a k % 256)).set (2 * k + 1) (gi a k / 256) := by
      simp only [rbytN]
      rw [i64_mask8, u8_in (x := gi a k % 256) (by omega) (by omega), u8_in (by omega) (by omega)]
    rw [e]
    by_cases h : i = k
    · subst h
      rw [gi_upd _ _ _ _ (by omega), gi_same _ _ _ (by omega), gi_same _ _ _ (by simp; omega)]
      exact ⟨rfl, rfl⟩
    · rw [gi_upd _ _ _ _ (by omega), gi_upd _ _ _ _ (by omega), gi_upd _ _ _ _ (by omega), gi_upd _ _ _ _ (by omega)]
      exact rbytN_gi ha k (by omega) i (by omega)
theorem rbyt_isB {a : List Int} (ha : Dig 65536 (gi a) 16) : IsB (rbytN a 16) (v16 a) := by
  have h := rbytN_gi ha 16 (by omega)
  refine ⟨rbytN_length a 16, fun i hi => ?_, ?_⟩
  · have h' := h (i / 2) (by omega)
    obtain ⟨a1, a2⟩ := ha (i / 2) (by omega)
    by_cases hp : i % 2 = 0
    · rw [show i = 2 * (i / 2) by omega, h'.1]
      omega
    · rw [show i = 2 * (i / 2) + 1 by omega, h'.2]
      omega
  · have := sumN_pairs (gi (rbytN a 16)) 16
    rw [show 2 * 16 = 32 from rfl] at this
    rw [← this]
    refine sumN_congr fun i hi => ?_
    obtain ⟨h1, h2⟩ := h i hi
    rw [h1, h2]
    omega

set_option maxRecDepth 20000 in
set_option maxHeartbeats 1000000 in
theorem rbytes_any {a : List Int} {v : Int} (ha : IsN a v) (w : World) :
    Calls Try.prog 43 #[.agg (ints .i64 a)] w fun e w' => e = .returned (.agg (ints .u8 (le32 (v % PP)))) ∧ Below w.heap.size w w' := by
  have hown := Own.start w
  obtain ⟨hal, hdig, hval⟩ := ha
  have hB := rbyt_isB hdig
  have hN := rbytN_length a
  clear hdig
  go_enter Try.func43, Try.ntmps43

  have tok_b1 : True := trivial
  have tok_b2 : True := trivial
  have tok_b3 : True := trivial
  have tok_b4 : True := trivial
  go_wp2_with (first | ((with_reducible show wpList _ _ _ (⟨_, .box _ _, _, _, _, _⟩ :: _) _ _); have _t := tok_b1; refine wpl_box hown rfl _ _ rfl _ rfl ?_; clear hown _t tok_b1; intro b1 _ hown; dsimp only [putL, setNth]) | ((with_reducible show wpList _ _ _ (⟨_, .alloc _, _, _, _, _⟩ :: _) _ _); have _t := tok_b2; refine wpl_alloc hown rfl _ rfl _ zero_b32 ?_; clear hown _t tok_b2; intro b2 _ hown; dsimp only [putL, setNth]) | ((with_reducible show wpList _ _ _ (⟨_, .alloc _, _, _, _, _⟩ :: _) _ _); have _t := tok_b3; refine wpl_alloc hown rfl _ rfl _ zero_b32 ?_; clear hown _t tok_b3; intro b3 _ hown; dsimp only [putL, setNth]))
  go_loopw [4] (fun i wr => ∃ k : Nat, k ≤ 16 ∧ i = .int .i64 k ∧ Own w wr [(b3, ints .u8 (rbytN a k), 22), (b2, ints .u8 (List.replicate 32 0), 22), (b1, ints .i64 a, 31)]) (fun i _ => 16 - (intOf i).toNat)
  case atStart => exact ⟨0, by omega, rfl, hown⟩
  case round =>
    clear hown
    obtain ⟨k, hk, rfl, hown⟩ := hrel
    have hNk := hN k
    clear hN
    by_cases hlt : k < 16
    · have f1 : ((k : Int)).toNat = k := by omega
      have f2 : (0 : Int) ≤ (k : Int) := by omega
      have f3 : (k : Int) < 16 := by omega
      have f4 : IntKind.i64.wrap (2 * (k : Int)) = 2 * (k : Int) := IntWalk.i64_in _ (by omega)
      have f5 : IntKind.i64.wrap (2 * (k : Int) + 1) = 2 * (k : Int) + 1 := IntWalk.i64_in _ (by omega)
      have f6 : (2 * (k : Int)).toNat = 2 * k := by omega
      have f7 : (2 * (k : Int) + 1).toNat = 2 * k + 1 := by omega
      have f8 : (0 : Int) ≤ 2 * (k : Int) := by omega
      have f9 : (0 : Int) ≤ 2 * (k : Int) + 1 := by omega
      have f10 : 2 * (k : Int) < 32 := by omega
      have f11 : 2 * (k : Int) + 1 < 32 := by omega
      go_wp2_with (first | ((with_reducible show wpList _ _ _ (⟨_, .load _ _, _, _, _, _⟩ :: _) _ _); refine wpl_load_int hown rfl 3 _ rfl _ _ rfl _ Try.underlying3 2 _ _ rfl (by omega) ?_; dsimp only [putL, setNth]) | ((with_reducible show wpList _ _ _ (⟨_, .store _ _ _, _, _, _, _⟩ :: _) _ _); refine wpl_store_int hown rfl 5 _ _ rfl _ _ rfl _ _ rfl size_u8 0 _ _ rfl (by (try simp); omega) ?_; clear hown; intro _ hown; dsimp only [putL]; simp only [List.set_cons_zero, List.set_cons_succ] at hown))
      go_roundw
      case rel => exact ⟨k + 1, by omega, by go_num, hown⟩
      case measure => simp [intOf]; omega
    · obtain rfl : k = 16 := by omega
      clear hk hlt
      go_wp2_with (first | (go_at_call 56; refine (rprimeI_any _).mono ?_; rintro e w' ⟨rfl, hb⟩; replace hown := hown.grow hb; clear hb) | ((with_reducible show wpList _ _ _ (⟨_, .alloc _, _, _, _, _⟩ :: _) _ _); have _t := tok_b4; refine wpl_alloc hown rfl _ rfl _ zero_b32 ?_; clear hown _t tok_b4; intro b4 _ hown; dsimp only [putL, setNth]) | ((with_reducible show wpList _ _ _ (⟨_, .store _ _ _, _, _, _, _⟩ :: _) _ _); refine wpl_store_row hown rfl 22 _ _ rfl _ rfl _ rfl (ints_cell _ _) (sz_b32 primeI_length) 0 _ _ rfl (sz_eq (n := 32) rfl primeI_length) ?_; clear hown; intro _ hown; dsimp only [putL]; simp only [List.set_cons_zero, List.set_cons_succ] at hown))
      go_loopw [] (fun wr => ∃ r V, IsB r V ∧ V % PP = v % PP ∧ Own w wr [(b4, ints .u8 primeI, 22), (b3, ints .u8 r, 22), (b2, ints .u8 (List.replicate 32 0), 22), (b1, ints .i64 a, 31)]) (fun wr => (heapV wr b3).toNat)
      case atStart => exact ⟨_, _, hB, hval, hown⟩
      case round =>
        clear hown
        obtain ⟨r, V, hr, hV, hown⟩ := hrel
        have hpl := primeI_length
        have hrl := hr.1
        have hHV := heapV_own hown 1 rfl hrl
        rw [show v32 r = V from hr.2.2] at hHV
        have HHV := Lib.hid hHV
        clear hHV
        have HR := Lib.hid hr
        have HV := Lib.hid hV
        clear hr hV hB hval
        by_cases hlt : V < PP
        · have hless : ∀ w : World, Calls Try.prog 57 #[.agg (ints .u8 r), .agg (ints .u8 primeI)] w fun e w' => e = .returned (.bool true) ∧ Below w.heap.size w w' := by
            intro w
            have := rless_any r primeI hrl hpl w
            rw [rless_isB HR.out prime_isB, decide_eq_true hlt] at this
            exact this
          have HE : Hid (r = le32 (v % PP)) := Lib.hid (by
            have h1 := HR.out.le
            rw [← HV.out, Int.emod_eq_of_lt HR.out.bound.1 hlt]
            exact h1)
          clear hlt
          
          go_wp2_with (first | ((with_reducible show wpList _ _ _ (⟨_, .load _ _, _, _, _, _⟩ :: _) _ _); refine wpl_load_row hown rfl 22 _ rfl _ rfl 1 _ _ rfl _ Try.underlying22 rfl (sz_b32 hrl) ?_; dsimp only [putL, setNth]) | ((with_reducible show wpList _ _ _ (⟨_, .load _ _, _, _, _, _⟩ :: _) _ _); refine wpl_load_row hown rfl 22 _ rfl _ rfl 0 _ _ rfl _ Try.underlying22 rfl (sz_b32 hpl) ?_; dsimp only [putL, setNth]) | (go_at_call 57; refine (hless _).mono ?_; rintro e w' ⟨rfl, hb⟩; replace hown := hown.grow hb; clear hb) | ((with_reducible show wpList _ _ _ (⟨_, .store _ _ _, _, _, _, _⟩ :: _) _ _); refine wpl_store_row hown rfl 22 _ _ rfl _ rfl _ rfl (ints_cell _ _) (sz_b32 hrl) 2 _ _ rfl (sz_eq (n := 32) rfl hrl) ?_; clear hown; intro _ hown; dsimp only [putL]; simp only [List.set_cons_zero, List.set_cons_succ] at hown))
          rw [← HE.out]
          refine bodyPost_ret (results_own hown rfl _ rfl 2 _ _ rfl _ Try.underlying22 rfl (sz_b32 hrl)) rfl ⟨rfl, hown.below⟩
        · have hless : ∀ w : World, Calls Try.prog 57 #[.agg (ints .u8 r), .agg (ints .u8 primeI)] w fun e w' => e = .returned (.bool false) ∧ Below w.heap.size w w' := by
            intro w
            have := rless_any r primeI hrl hpl w
            rw [rless_isB HR.out prime_isB, decide_eq_false hlt] at this
            exact this
          have hml := rminN_length r primeI hrl 32
          have HM := Lib.hid (rmin_isB HR.out prime_isB (show PP ≤ V by omega))
          have HL := Lib.hid hlt
          clear hlt
          
          obtain ⟨s, hs⟩ : ∃ s, s = (rminN r primeI 32).1 := ⟨_, rfl⟩
          have hmin := rminus_any r primeI hrl hpl
          rw [← hs] at hmin hml HM
          clear hs
          go_wp2_with (first | ((with_reducible show wpList _ _ _ (⟨_, .load _ _, _, _, _, _⟩ :: _) _ _); refine wpl_load_row hown rfl 22 _ rfl _ rfl 1 _ _ rfl _ Try.underlying22 rfl (sz_b32 hrl) ?_; dsimp only [putL, setNth]) | ((with_reducible show wpList _ _ _ (⟨_, .load _ _, _, _, _, _⟩ :: _) _ _); refine wpl_load_row hown rfl 22 _ rfl _ rfl 0 _ _ rfl _ Try.underlying22 rfl (sz_b32 hpl) ?_; dsimp only [putL, setNth]) | (go_at_call 57; refine (hless _).mono ?_; rintro e w' ⟨rfl, hb⟩; replace hown := hown.grow hb; clear hb) | (go_at_call 58; refine (hmin _).mono ?_; rintro e w' ⟨rfl, hb⟩; replace hown := hown.grow hb; clear hb) | ((with_reducible show wpList _ _ _ (⟨_, .store _ _ _, _, _, _, _⟩ :: _) _ _); refine wpl_store_row hown rfl 22 _ _ rfl _ rfl _ rfl (ints_cell _ _) (sz_b32 hml) 1 _ _ rfl (sz_eq (n := 32) hrl hml) ?_; clear hown; intro _ hown; dsimp only [putL]; simp only [List.set_cons_zero, List.set_cons_succ] at hown))
          go_roundw
          case rel => exact ⟨s, V - PP, HM.out, by rw [← HV.out]; exact modP (c := -1) (by omega), hown⟩
          case measure =>
            rw [HHV.out, heapV_own hown 1 rfl hml, show v32 s = V - PP from HM.out.2.2]
            have h1 := HL.out
            have h2 : 0 < PP := by decide
            omega

end Go.Proofs.Ytmchkfganpgheaa
