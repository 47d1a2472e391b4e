/-
  The program's numbers, on: bytes, whether it is 0, swapped.
-/
import Derived.Test.YtmchkfganpgheaaFieldO
namespace Go.Proofs.Ytmchkfganpgheaa
set_option linter.unusedSimpArgs false
set_option linter.unusedVariables false
open Go Go.RowKit

/-- Limbs that are hardly longer than they should be: carried twice. -/
theorem bytesC_spec {a : List Int} {v : Int} (ha : IsE a v) : (∀ i, i < 5 → 0 ≤ gi (bytesC a) i ∧ gi (bytesC a) i < 2251799813685268) ∧ v5 (bytesC a) % PP = v % PP := by
  have h1 := carriedL_isE ha.allG ha.2.2
  have h2 := carriedL_isE h1.allG h1.2.2
  refine ⟨fun i hi => ?_, h2.2.2⟩
  have g := h1.allG
  have a0 := h1.2.1 0 (by omega)
  have a1 := h1.2.1 1 (by omega)
  have a2 := h1.2.1 2 (by omega)
  have a3 := h1.2.1 3 (by omega)
  have a4 := h1.2.1 4 (by omega)
  generalize hl : carriedL a = l at *
  have e0 : gi (carriedL l) 0 = gi l 0 % 2251799813685248 + 19 * (gi l 4 / 2251799813685248) := by
    show IntKind.u64.wrap (bits .and .u64 (gi l 0) 2251799813685247 + IntKind.u64.wrap (19 * (gi l 4 / 2251799813685248))) = _
    rw [mask51 (g 0), u64_in (x := 19 * (gi l 4 / 2251799813685248)) (by omega) (by unfold M64; omega), u64_in (by omega) (by unfold M64; omega)]
  have e1 : gi (carriedL l) 1 = gi l 1 % 2251799813685248 + gi l 0 / 2251799813685248 := by
    show IntKind.u64.wrap (bits .and .u64 (gi l 1) 2251799813685247 + gi l 0 / 2251799813685248) = _
    rw [mask51 (g 1), u64_in (by omega) (by unfold M64; omega)]
  have e2 : gi (carriedL l) 2 = gi l 2 % 2251799813685248 + gi l 1 / 2251799813685248 := by
    show IntKind.u64.wrap (bits .and .u64 (gi l 2) 2251799813685247 + gi l 1 / 2251799813685248) = _
    rw [mask51 (g 2), u64_in (by omega) (by unfold M64; omega)]
  have e3 : gi (carriedL l) 3 = gi l 3 % 2251799813685248 + gi l 2 / 2251799813685248 := by
    show IntKind.u64.wrap (bits .and .u64 (gi l 3) 2251799813685247 + gi l 2 / 2251799813685248) = _
    rw [mask51 (g 3), u64_in (by omega) (by unfold M64; omega)]
  have e4 : gi (carriedL l) 4 = gi l 4 % 2251799813685248 + gi l 3 / 2251799813685248 := by
    show IntKind.u64.wrap (bits .and .u64 (gi l 4) 2251799813685247 + gi l 3 / 2251799813685248) = _
    rw [mask51 (g 4), u64_in (by omega) (by unfold M64; omega)]
  show 0 ≤ gi (carriedL (carriedL a)) i ∧ gi (carriedL (carriedL a)) i < _
  rw [hl]
  match i, hi with
  | 0, _ => rw [e0]; omega
  | 1, _ => rw [e1]; omega
  | 2, _ => rw [e2]; omega
  | 3, _ => rw [e3]; omega
  | 4, _ => rw [e4]; omega
/-- How often p is in it. -/
def quotE (l : List Int) : Nat → Int
  | 0 => 19
  | k + 1 => (gi l k + quotE l k) / 2251799813685248
theorem quotN_eq {l : List Int} (h : ∀ i, i < 5 → 0 ≤ gi l i ∧ gi l i < 2251799813685268) : ∀ k, k ≤ 5 → quotN l k = quotE l k ∧ 0 ≤ quotE l k ∧ quotE l k ≤ 19
  | 0, _ => ⟨rfl, by simp [quotE], by simp [quotE]⟩
  | k + 1, hk => by
    obtain ⟨h1, h2, h3⟩ := quotN_eq h k (by omega)
    have h4 := h k (by omega)
    simp only [quotN, quotE]
    rw [h1, u64_in (by omega) (by unfold M64; omega)]
    omega
def cutE (l : List Int) (c : Int) : Nat → Int
  | 0 => c
  | k + 1 => (gi l k + cutE l c k) / 2251799813685248
theorem cutN_eq {l : List Int} {c : Int} (hl : l.length = 5) (h : ∀ i, i < 5 → 0 ≤ gi l i ∧ gi l i < 2251799813685268) (hc : 0 ≤ c ∧ c ≤ 361) : ∀ k, k ≤ 5 →
    (∀ i, i < k → gi (cutN l c k).1 i = (gi l i + cutE l c i) % 2251799813685248) ∧ (∀ i, k ≤ i → gi (cutN l c k).1 i = gi l i) ∧ (cutN l c k).2 = cutE l c k ∧ 0 ≤ cutE l c k ∧ cutE l c k ≤ 361
  | 0, _ => ⟨fun i hi => by omega, fun i _ => rfl, rfl, hc.1, hc.2⟩
  | k + 1, hk => by
    obtain ⟨h1, h2, h3, h4, h5⟩ := cutN_eq hl h hc k (by omega)
    have h6 := h k (by omega)
    have hlen := cutN_length l c hl k
    have e : IntKind.u64.wrap (gi (cutN l c k).1 k + (cutN l c k).2) = gi l k + cutE l c k := by
      rw [h2 k (Nat.le_refl k), h3, u64_in (by omega) (by unfold M64; omega)]
    have e1 : (cutN l c (k + 1)).1 = ((cutN l c k).1.set k (gi l k + cutE l c k)).set k ((gi l k + cutE l c k) % 2251799813685248) := by
      simp only [cutN]
      rw [e, gi_same _ _ _ (by omega), mask51 (by unfold W64 M64; omega)]
    have e2 : (cutN l c (k + 1)).2 = (gi l k + cutE l c k) / 2251799813685248 := by
      simp only [cutN]
      rw [e, gi_same _ _ _ (by omega)]
    refine ⟨fun i hi => ?_, fun i hi => ?_, e2, ?_, ?_⟩
    · rw [e1]
      by_cases hik : i = k
      · subst hik
        rw [gi_same _ _ _ (by simp; omega)]
      · rw [gi_upd _ _ _ _ hik, gi_upd _ _ _ _ hik]
        exact h1 i (by omega)
    · rw [e1, gi_upd _ _ _ _ (by omega), gi_upd _ _ _ _ (by omega)]
      exact h2 i (by omega)
    · simp only [cutE]
      omega
    · simp only [cutE]
      omega
theorem bytesL_spec {a : List Int} {v : Int} (ha : IsE a v) : (∀ i, i < 5 → 0 ≤ gi (bytesL a) i ∧ gi (bytesL a) i < 2251799813685248) ∧ v5 (bytesL a) = v % PP := by
  obtain ⟨h1, h2⟩ := bytesC_spec ha
  have hl := bytesC_length a
  unfold bytesL
  generalize bytesC a = l at *
  obtain ⟨q1, q2, q3⟩ := quotN_eq h1 5 (by omega)
  rw [q1, u64_in (x := 19 * quotE l 5) (by omega) (by unfold M64; omega)]
  obtain ⟨c1, _, _, c4, c5⟩ := cutN_eq hl h1 (c := 19 * quotE l 5) (by omega) 5 (by omega)
  have b0 := c1 0 (by omega)
  have b1 := c1 1 (by omega)
  have b2 := c1 2 (by omega)
  have b3 := c1 3 (by omega)
  have b4 := c1 4 (by omega)
  refine ⟨fun i hi => ?_, ?_⟩
  · rw [c1 i hi]
    omega
  · have a0 := h1 0 (by omega)
    have a1 := h1 1 (by omega)
    have a2 := h1 2 (by omega)
    have a3 := h1 3 (by omega)
    have a4 := h1 4 (by omega)
    clear c1 h1
    rw [← h2, v5_eq, v5_eq, b0, b1, b2, b3, b4]
    clear b0 b1 b2 b3 b4 h2
    have hq : quotE l 5 = (gi l 0 + gi l 1 * 2251799813685248 + gi l 2 * 5070602400912917605986812821504 + gi l 3 * 11417981541647679048466287755595961091061972992 + gi l 4 * 25711008708143844408671393477458601640355247900524685364822016 + 19) / H255 := by
      simp only [quotE]
      unfold H255
      omega
    have hcut : ∀ c, cutE l c 0 = c ∧ cutE l c 1 = (gi l 0 + c) / 2251799813685248 ∧ cutE l c 2 = (gi l 1 + cutE l c 1) / 2251799813685248 ∧ cutE l c 3 = (gi l 2 + cutE l c 2) / 2251799813685248 ∧ cutE l c 4 = (gi l 3 + cutE l c 3) / 2251799813685248 := fun c => ⟨rfl, rfl, rfl, rfl, rfl⟩
    obtain ⟨k0, k1, k2, k3, k4⟩ := hcut (19 * quotE l 5)
    rw [k0]
    generalize cutE l (19 * quotE l 5) 1 = u1 at *
    generalize cutE l (19 * quotE l 5) 2 = u2 at *
    generalize cutE l (19 * quotE l 5) 3 = u3 at *
    generalize cutE l (19 * quotE l 5) 4 = u4 at *
    generalize quotE l 5 = q at *
    unfold H255 at hq
    unfold PP
    obtain ⟨R, hR⟩ : ∃ R, R = (gi l 0 + 19 * q) % 2251799813685248 + (gi l 1 + u1) % 2251799813685248 * 2251799813685248 + (gi l 2 + u2) % 2251799813685248 * 5070602400912917605986812821504 + (gi l 3 + u3) % 2251799813685248 * 11417981541647679048466287755595961091061972992 + (gi l 4 + u4) % 2251799813685248 * 25711008708143844408671393477458601640355247900524685364822016 := ⟨_, rfl⟩
    obtain ⟨o, ho⟩ : ∃ o, o = (gi l 4 + u4) / 2251799813685248 := ⟨_, rfl⟩
    have h1 : R = (gi l 0 + gi l 1 * 2251799813685248 + gi l 2 * 5070602400912917605986812821504 + gi l 3 * 11417981541647679048466287755595961091061972992 + gi l 4 * 25711008708143844408671393477458601640355247900524685364822016) + 19 * q - 57896044618658097711785492504343953926634992332820282019728792003956564819968 * o := by omega
    have h2 : 0 ≤ R ∧ R < 57896044618658097711785492504343953926634992332820282019728792003956564819968 := by
      clear h1 hq q1 q2 q3 c4 c5 k1 k2 k3 k4 ho
      omega
    rw [← hR]
    clear hR ho k1 k2 k3 k4 c4 c5
    obtain ⟨V, hV⟩ : ∃ V, V = gi l 0 + gi l 1 * 2251799813685248 + gi l 2 * 5070602400912917605986812821504 + gi l 3 * 11417981541647679048466287755595961091061972992 + gi l 4 * 25711008708143844408671393477458601640355247900524685364822016 := ⟨_, rfl⟩
    rw [← hV] at h1 hq ⊢
    have h3 : 0 ≤ V ∧ V < 57896044618658097711785492504343953926634992332820282019728792003956564819968 + 57896044618658097711785492504343953926634992332820282019728792003956564819900 := by
      clear h1 h2 hq
      omega
    clear hV a0 a1 a2 a3 a4 hl hcut
    have h4 : q = 0 ∨ q = 1 := by omega
    rcases h4 with h4 | h4 <;> subst h4 <;> omega
theorem bytes_isB {a : List Int} {v : Int} (ha : IsE a v) : IsB (bytesR a) (v % PP) := by
  obtain ⟨h1, h2⟩ := bytesL_spec ha
  unfold bytesR
  generalize bytesL a = l at *
  have hl := outN_length l
  have hd : Dig 2251799813685248 (gi l) 5 := h1
  obtain ⟨N, hN⟩ : ∃ N, N = v5 l := ⟨_, rfl⟩
  have hbit : ∀ k, k < 255 → gi l (k / 51) / 2 ^ (k % 51) % 2 = N / 2 ^ k % 2 := by
    intro k hk
    rw [sumN_digit (by omega) hd (show k / 51 < 5 by omega), show sumN 2251799813685248 (gi l) 5 = N from hN.symm]
    have := bit_of_digit N 51 (k / 51) (k % 51) (by omega)
    rw [show 51 * (k / 51) + k % 51 = k by omega] at this
    exact this
  have hs : ∀ k, k < 255 → 0 ≤ gi (outN l k) (k / 8) → gi (outN l k) (k / 8) < 2 ^ (k % 8) → outN l (k + 1) = (outN l k).set (k / 8) (gi (outN l k) (k / 8) + N / 2 ^ k % 2 * 2 ^ (k % 8)) := by
    intro k hk h0 h1'
    obtain ⟨d0, d1⟩ := h1 (k / 51) (by omega)
    obtain ⟨q0, q1⟩ := ediv_pow_le d0 (k % 51)
    have p0 : (0 : Int) < 2 ^ (k % 8) := pow_pos' (by omega) _
    have p1 : (2 : Int) ^ (k % 8) ≤ 128 := by
      have h1 : (2 : Nat) ^ (k % 8) ≤ 2 ^ 7 := Nat.pow_le_pow_right (by omega) (by omega)
      have h2 : ((2 ^ (k % 8) : Nat) : Int) = 2 ^ (k % 8) := by simp
      have h3 : (2 : Nat) ^ 7 = 128 := rfl
      omega
    have hβ : N / 2 ^ k % 2 = 0 ∨ N / 2 ^ k % 2 = 1 := by omega
    show (outN l k).set (k / 8) _ = _
    rw [show ((k : Int).tmod 8).toNat = k % 8 from tmod_toNat k 8, show ((k : Int).tmod 51).toNat = k % 51 from tmod_toNat k 51, Nat.min_eq_left (by omega), Nat.min_eq_left (by omega), fdiv_pow, u64_bit (by unfold W64 M64; omega), hbit k (by omega)]
    generalize N / 2 ^ k % 2 = β at hβ ⊢
    have hm : 0 ≤ β * 2 ^ (k % 8) ∧ β * 2 ^ (k % 8) ≤ 128 := by
      rcases hβ with h | h <;> rw [h] <;> omega
    rw [u8_in (x := β) (by omega) (by omega), u8_in (by omega) (by omega), u8_or_high (k % 8) h0 h1' (by omega) (by rcases hβ with h | h <;> rw [h] <;> omega)]
  have hs' : ∀ k, k < 8 * 32 → 0 ≤ gi (if k ≤ 255 then outN l k else outN l 255) (k / 8) → gi (if k ≤ 255 then outN l k else outN l 255) (k / 8) < 2 ^ (k % 8) → (if k + 1 ≤ 255 then outN l (k + 1) else outN l 255) = (if k ≤ 255 then outN l k else outN l 255).set (k / 8) (gi (if k ≤ 255 then outN l k else outN l 255) (k / 8) + (if k < 255 then N / 2 ^ k % 2 else 0) * 2 ^ (k % 8)) := by
    intro k hk h0 h1
    by_cases hlt : k < 255
    · rw [if_pos (by omega)] at h0 h1 ⊢
      rw [if_pos (by omega), if_pos (by omega)] at *
      exact hs k hlt h0 h1
    · obtain rfl : k = 255 := by omega
      simp only [Nat.reduceLeDiff, if_true, if_false, Nat.lt_irrefl, Int.zero_mul, Int.add_zero, Nat.le_refl]
      refine ext_gi (by simp) fun i _ => ?_
      by_cases h : i = 255 / 8
      · subst h
        rw [gi_same _ _ _ (by rw [hl]; decide)]
      · rw [gi_upd _ _ _ _ h]
  obtain ⟨f1, f2, f3, f4, f5⟩ := fill_bits8 (F := fun k => if k ≤ 255 then outN l k else outN l 255) (β := fun k => if k < 255 then N / 2 ^ k % 2 else 0) (fun k => by split <;> exact hl _) (fun j => by simp only [Nat.zero_le, if_true]; exact gi_rep 32 j) (fun k => by split <;> omega) hs' 255 (by omega)
  simp only [Nat.le_refl, if_true] at f1 f2 f3 f4 f5
  refine ⟨hl 255, fun i hi => ?_, ?_⟩
  · by_cases h : i < 255 / 8
    · exact f1 i h
    · obtain rfl : i = 255 / 8 := by omega
      have : (2 : Int) ^ (255 % 8) = 128 := rfl
      omega
  · rw [f5, sumN_congr (g := fun k => N / 2 ^ k % 2) (fun i hi => if_pos hi), bits_sum, hN, h2]
    refine Int.emod_eq_of_lt (Int.emod_nonneg _ (by decide)) (Int.lt_trans (Int.emod_lt_of_pos _ (by decide)) (by decide))
theorem zero_isB : IsB (List.replicate 32 0) 0 := ⟨rfl, fun i _ => by rw [gi_rep]; omega, sumN_zero _ _ _ (fun i _ => gi_rep 32 i)⟩
theorem zeroT {a : List Int} {v : Int} (ha : IsE a v) : (bytesR a = List.replicate 32 0) ↔ v % PP = 0 := (bytes_isB ha).eq_iff zero_isB

/-- Swapped or not. -/
theorem swap_one {x y m : Int} (hx : W64 x) (hy : W64 y) (hm : m = 0 ∨ m = 18446744073709551615) :
    bits .xor .u64 x (bits .and .u64 m (bits .xor .u64 x y)) = (if m = 0 then x else y) ∧ bits .xor .u64 y (bits .and .u64 m (bits .xor .u64 x y)) = (if m = 0 then y else x) := by
  obtain ⟨x0, x1⟩ := hx
  obtain ⟨y0, y1⟩ := hy
  unfold M64 at x1 y1
  obtain ⟨n, rfl⟩ := Int.eq_ofNat_of_zero_le x0
  obtain ⟨k, rfl⟩ := Int.eq_ofNat_of_zero_le y0
  have hxy : n ^^^ k < 2 ^ 64 := Nat.xor_lt_two_pow (by omega) (by omega)
  have h64 : (2 : Nat) ^ 64 = 18446744073709551616 := rfl
  rw [u64_xor_nat n k (by omega) (by omega)]
  rcases hm with rfl | rfl
  · have e := u64_and_nat 0 (n ^^^ k) (by omega) (by omega)
    rw [Nat.zero_and] at e
    have e' : bits .and .u64 0 ((n ^^^ k : Nat) : Int) = ((0 : Nat) : Int) := e
    rw [e', u64_xor_nat n 0 (by omega) (by omega), u64_xor_nat k 0 (by omega) (by omega)]
    simp
  · have e := u64_and_nat 18446744073709551615 (n ^^^ k) (by omega) (by omega)
    rw [Nat.and_comm, show 18446744073709551615 = 2 ^ 64 - 1 from rfl, Nat.and_two_pow_sub_one_eq_mod, Nat.mod_eq_of_lt hxy] at e
    have e' : bits .and .u64 18446744073709551615 ((n ^^^ k : Nat) : Int) = ((n ^^^ k : Nat) : Int) := e
    rw [e', u64_xor_nat n _ (by omega) (by omega), u64_xor_nat k _ (by omega) (by omega)]
    refine ⟨?_, ?_⟩
    · rw [if_neg (by decide), ← Nat.xor_assoc, Nat.xor_self, Nat.zero_xor]
    · rw [if_neg (by decide), Nat.xor_comm n k, ← Nat.xor_assoc, Nat.xor_self, Nat.zero_xor]
theorem swapM_eq (bit : Int) : swapM bit = if bit % 2 = 0 then 0 else 18446744073709551615 := by
  unfold swapM
  rw [i64_bit]
  split
  · next h => rw [h]; rfl
  · next h => rw [show bit % 2 = 1 by omega]; rfl
theorem swapN_gi {a b : List Int} (ha : a.length = 5) (hb : b.length = 5) (wa : AllG a) (wb : AllG b) {m : Int} (hm : m = 0 ∨ m = 18446744073709551615) : ∀ k, k ≤ 5 →
    (∀ i, i < k → gi (swapN a b m k).1 i = (if m = 0 then gi a i else gi b i) ∧ gi (swapN a b m k).2 i = (if m = 0 then gi b i else gi a i)) ∧ (∀ i, k ≤ i → gi (swapN a b m k).1 i = gi a i ∧ gi (swapN a b m k).2 i = gi b i)
  | 0, _ => ⟨fun i hi => by omega, fun i _ => ⟨rfl, rfl⟩⟩
  | k + 1, hk => by
    obtain ⟨h1, h2⟩ := swapN_gi ha hb wa wb hm k (by omega)
    obtain ⟨l1, l2⟩ := swapN_length a b m ha hb k
    obtain ⟨g1, g2⟩ := h2 k (Nat.le_refl k)
    obtain ⟨s1, s2⟩ := swap_one (wa k) (wb k) hm
    have e1 : (swapN a b m (k + 1)).1 = (swapN a b m k).1.set k (if m = 0 then gi a k else gi b k) := by
      simp only [swapN]
      rw [g1, g2, s1]
    have e2 : (swapN a b m (k + 1)).2 = (swapN a b m k).2.set k (if m = 0 then gi b k else gi a k) := by
      simp only [swapN]
      rw [g1, g2, s2]
    rw [e1, e2]
    refine ⟨fun i hi => ?_, fun i hi => ?_⟩
    · by_cases h : i = k
      · subst h
        rw [gi_same _ _ _ (by omega), gi_same _ _ _ (by omega)]
        exact ⟨rfl, rfl⟩
      · rw [gi_upd _ _ _ _ h, gi_upd _ _ _ _ h]
        exact h1 i (by omega)
    · rw [gi_upd _ _ _ _ (by omega), gi_upd _ _ _ _ (by omega)]
      exact h2 i (by omega)
theorem swap_eq {a b : List Int} (ha : a.length = 5) (hb : b.length = 5) (wa : AllG a) (wb : AllG b) (bit : Int) :
    (swapN a b (swapM bit) 5).1 = (if bit % 2 = 0 then a else b) ∧ (swapN a b (swapM bit) 5).2 = (if bit % 2 = 0 then b else a) := by
  have hm : swapM bit = 0 ∨ swapM bit = 18446744073709551615 := by
    rw [swapM_eq]
    split
    · exact Or.inl rfl
    · exact Or.inr rfl
  have hz : swapM bit = 0 ↔ bit % 2 = 0 := by
    rw [swapM_eq]
    split <;> simp_all
  obtain ⟨h1, _⟩ := swapN_gi ha hb wa wb hm 5 (by omega)
  obtain ⟨l1, l2⟩ := swapN_length a b (swapM bit) ha hb 5
  by_cases h : bit % 2 = 0
  · rw [if_pos h, if_pos h]
    refine ⟨ext_gi (by omega) fun i hi => ?_, ext_gi (by omega) fun i hi => ?_⟩
    · rw [(h1 i (by omega)).1, if_pos (hz.2 h)]
    · rw [(h1 i (by omega)).2, if_pos (hz.2 h)]
  · rw [if_neg h, if_neg h]
    refine ⟨ext_gi (by omega) fun i hi => ?_, ext_gi (by omega) fun i hi => ?_⟩
    · rw [(h1 i (by omega)).1, if_neg (fun e => h (hz.1 e))]
    · rw [(h1 i (by omega)).2, if_neg (fun e => h (hz.1 e))]

end Go.Proofs.Ytmchkfganpgheaa
