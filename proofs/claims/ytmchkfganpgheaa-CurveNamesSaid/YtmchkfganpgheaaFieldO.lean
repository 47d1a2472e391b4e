/-
  The program's numbers, on: products and powers, modulo p.
-/
import Derived.Test.YtmchkfganpgheaaFieldN
namespace Go.Proofs.Ytmchkfganpgheaa
set_option linter.unusedSimpArgs false
set_option linter.unusedVariables false
open Go Go.RowKit

def sumP : List (Int × Int) → Int
  | [] => 0
  | (x, y) :: l => sumP l + x * y
/-- Each factor's bounds, and what the whole sum is at most. -/
def FitP (m : Int) (l : List (Int × Int)) : Prop := ∀ p ∈ l, 0 ≤ p.1 * p.2 ∧ p.1 * p.2 ≤ m
theorem accR_val (m : Int) (hm : m < 1298074214633706907132624082305024) : ∀ l : List (Int × Int), l.length ≤ 5 → FitP m l → (accR l).1 * M64 + (accR l).2 = sumP l ∧ 0 ≤ sumP l ∧ sumP l ≤ m * l.length
  | [], _, _ => by simp [accR, sumP]
  | (x, y) :: l, hl, h => by
    have hl' : l.length ≤ 4 := by simp at hl; omega
    obtain ⟨h1, h2, h3⟩ := accR_val m hm l (by omega) (fun p hp => h p (List.mem_cons_of_mem _ hp))
    obtain ⟨p1, p2⟩ := h (x, y) (List.mem_cons_self ..)
    have hm0 : 0 ≤ m := by omega
    have hn : m * (l.length : Int) ≤ m * 4 := Int.mul_le_mul_of_nonneg_left (by omega) hm0
    have hW := accR_W l
    simp only [accR, plusHi, plusLo, sumP, List.length_cons]
    unfold addLo addHi mulHi mulLo W64 M64 at *
    generalize x * y = q at *
    generalize (accR l).1 = hi at *
    generalize (accR l).2 = lo at *
    have e : m * ((l.length + 1 : Nat) : Int) = m * l.length + m := by
      rw [Int.natCast_add, Int.mul_add]
      simp
    rw [e]
    omega
theorem u64_or_low {x a : Int} (i : Nat) (h0 : 0 ≤ x) (h1 : x < 2 ^ i) (ha : 0 ≤ a) (hw : x + a * 2 ^ i < M64) : bits .or .u64 (a * 2 ^ i) x = x + a * 2 ^ i := by
  have hc : bits .or .u64 (a * 2 ^ i) x = bits .or .u64 x (a * 2 ^ i) := by simp only [bits, BitVec.or_comm]
  rw [hc, u64_or_high i h0 h1 ha hw]
/-- A row of products and what was carried: its limb and what is carried on. -/
theorem mul_step {hi lo c W : Int} (hW : hi * M64 + lo = W) (h0 : 0 ≤ W) (h1 : W < 20769187434139310514121985316880384) (hc0 : 0 ≤ c) (hc1 : c < 18446744073709551616) (hlo : W64 lo) (hhi : W64 hi) :
    bits .and .u64 (addLo lo c 0) 2251799813685247 = (W + c) % 2251799813685248 ∧
    bits .or .u64 (IntKind.u64.wrap (IntKind.u64.wrap (hi + addHi lo c 0) * 8192)) (addLo lo c 0 / 2251799813685248) = (W + c) / 2251799813685248 := by
  have hl := W64.addLo lo c 0
  rw [mask51 hl]
  unfold addLo addHi W64 M64 at *
  have e1 : IntKind.u64.wrap (hi + (lo + c + 0) / 18446744073709551616) = hi + (lo + c + 0) / 18446744073709551616 := u64_in (by omega) (by unfold M64; omega)
  rw [e1]
  have e2 : IntKind.u64.wrap ((hi + (lo + c + 0) / 18446744073709551616) * 8192) = (hi + (lo + c + 0) / 18446744073709551616) * 8192 := u64_in (by omega) (by unfold M64; omega)
  rw [e2]
  have e3 := u64_or_low (x := (lo + c + 0) % 18446744073709551616 / 2251799813685248) (a := hi + (lo + c + 0) / 18446744073709551616) 13 (by omega) (by show _ < (8192 : Int); omega) (by omega) (by show _ + _ * (8192 : Int) < M64; unfold M64; omega)
  rw [show (2 : Int) ^ 13 = 8192 from rfl] at e3
  rw [e3]
  omega

/-- The rows of products. -/
def mulP (a b : List Int) : Nat → List (Int × Int)
  | 0 => [(gi a 4, z19 b 1), (gi a 3, z19 b 2), (gi a 2, z19 b 3), (gi a 1, z19 b 4), (gi a 0, gi b 0)]
  | 1 => [(gi a 4, z19 b 2), (gi a 3, z19 b 3), (gi a 2, z19 b 4), (gi a 1, gi b 0), (gi a 0, gi b 1)]
  | 2 => [(gi a 4, z19 b 3), (gi a 3, z19 b 4), (gi a 2, gi b 0), (gi a 1, gi b 1), (gi a 0, gi b 2)]
  | 3 => [(gi a 4, z19 b 4), (gi a 3, gi b 0), (gi a 2, gi b 1), (gi a 1, gi b 2), (gi a 0, gi b 3)]
  | _ => [(gi a 4, gi b 0), (gi a 3, gi b 1), (gi a 2, gi b 2), (gi a 1, gi b 3), (gi a 0, gi b 4)]
theorem mulW_hi (a b : List Int) (k : Nat) (hk : k < 5) : gi (mulW a b) (k * 2) = (accR (mulP a b k)).1 := by
  match k, hk with
  | 0, _ | 1, _ | 2, _ | 3, _ | 4, _ => rfl
theorem mulW_lo (a b : List Int) (k : Nat) (hk : k < 5) : gi (mulW a b) (k * 2 + 1) = (accR (mulP a b k)).2 := by
  match k, hk with
  | 0, _ | 1, _ | 2, _ | 3, _ | 4, _ => rfl
/-- The carries: exact. -/
def mulC (W : Nat → Int) : Nat → Int
  | 0 => 0
  | k + 1 => (W k + mulC W k) / 2251799813685248
theorem mulC_bound {W : Nat → Int} (h : ∀ k, k < 5 → 0 ≤ W k ∧ W k < 20769187434139310514121985316880384) : ∀ k, k ≤ 5 → 0 ≤ mulC W k ∧ mulC W k < 18446744073709551616
  | 0, _ => by simp [mulC]
  | k + 1, hk => by
    have h1 := mulC_bound h k (by omega)
    have h2 := h k (by omega)
    simp only [mulC]
    omega
theorem mulS_spec {a b : List Int} {W : Nat → Int} (hW : ∀ k, k < 5 → (accR (mulP a b k)).1 * M64 + (accR (mulP a b k)).2 = W k ∧ 0 ≤ W k ∧ W k < 20769187434139310514121985316880384) : ∀ k, k ≤ 5 →
    (∀ j, k * 2 ≤ j → gi (mulS a b k).1 j = gi (mulW a b) j) ∧ (∀ i, i < k → gi (mulS a b k).2.1 i = (W i + mulC W i) % 2251799813685248) ∧ (mulS a b k).2.2 = mulC W k
  | 0, _ => ⟨fun j _ => rfl, fun i hi => by omega, rfl⟩
  | k + 1, hk => by
    obtain ⟨h1, h2, h3⟩ := mulS_spec hW k (by omega)
    obtain ⟨l1, l2, l3, l4⟩ := mulS_ok a b k
    obtain ⟨w1, w2, w3⟩ := hW k (by omega)
    obtain ⟨c1, c2⟩ := mulC_bound (fun k hk => (hW k hk).2) k (by omega)
    have g1 : gi (mulS a b k).1 (k * 2) = (accR (mulP a b k)).1 := by rw [h1 _ (by omega), mulW_hi a b k (by omega)]
    have g2 : gi (mulS a b k).1 (k * 2 + 1) = (accR (mulP a b k)).2 := by rw [h1 _ (by omega), mulW_lo a b k (by omega)]
    obtain ⟨s1, s2⟩ := mul_step w1 w2 w3 c1 c2 (accR_W _).2 (accR_W _).1
    have e1 : gi ((mulS a b k).1.set (k * 2 + 1) (addLo (gi (mulS a b k).1 (k * 2 + 1)) (mulS a b k).2.2 0)) (k * 2) = (accR (mulP a b k)).1 := by rw [gi_upd _ _ _ _ (by omega), g1]
    have e2 : ∀ v, gi (((mulS a b k).1.set (k * 2 + 1) (addLo (gi (mulS a b k).1 (k * 2 + 1)) (mulS a b k).2.2 0)).set (k * 2) v) (k * 2 + 1) = addLo (accR (mulP a b k)).2 (mulC W k) 0 := by
      intro v
      rw [gi_upd _ _ _ _ (by omega), gi_same _ _ _ (by omega), g2, h3]
    have e3 : ∀ v, gi (((mulS a b k).1.set (k * 2 + 1) (addLo (gi (mulS a b k).1 (k * 2 + 1)) (mulS a b k).2.2 0)).set (k * 2) v) (k * 2) = v := by
      intro v
      rw [gi_same _ _ _ (by simp; omega)]
    refine ⟨fun j hj => ?_, fun i hi => ?_, ?_⟩
    · show gi (((mulS a b k).1.set (k * 2 + 1) _).set (k * 2) _) j = _
      rw [gi_upd _ _ _ _ (by omega), gi_upd _ _ _ _ (by omega)]
      exact h1 j (by omega)
    · show gi ((mulS a b k).2.1.set k (bits .and .u64 (gi (((mulS a b k).1.set (k * 2 + 1) (addLo (gi (mulS a b k).1 (k * 2 + 1)) (mulS a b k).2.2 0)).set (k * 2) _) (k * 2 + 1)) 2251799813685247)) i = _
      rw [e2, s1]
      by_cases h : i = k
      · subst h
        rw [gi_same _ _ _ (by omega)]
      · rw [gi_upd _ _ _ _ h]
        exact h2 i (by omega)
    · show bits .or .u64 (IntKind.u64.wrap (gi (((mulS a b k).1.set (k * 2 + 1) _).set (k * 2) _) (k * 2) * 8192)) (gi (((mulS a b k).1.set (k * 2 + 1) _).set (k * 2) _) (k * 2 + 1) / 2251799813685248) = _
      rw [e2, e3, e1, g2, h3, s2]
      rfl

theorem mul_le_lim {x y : Int} (hx : 0 ≤ x ∧ x < 2251799813947392) (hy : 0 ≤ y ∧ y < 2251799813947392) : 0 ≤ x * y ∧ x * y ≤ 5070602402093524939083839766528 := by
  refine ⟨Int.mul_nonneg hx.1 hy.1, ?_⟩
  have h1 : x * y ≤ 2251799813947391 * y := Int.mul_le_mul_of_nonneg_right (by omega) hy.1
  omega
theorem mul_isE {a b : List Int} {v w : Int} (ha : IsE a v) (hb : IsE b w) : IsE (mulR a b) (v * w) := by
  have hz : ∀ i, i < 5 → z19 b i = 19 * gi b i := by
    intro i hi
    have := hb.2.1 i hi
    unfold z19
    exact u64_in (by omega) (by unfold M64; omega)
  have hp : ∀ i j, i < 5 → j < 5 → 0 ≤ gi a i * gi b j ∧ gi a i * gi b j ≤ 5070602402093524939083839766528 := fun i j hi hj => mul_le_lim (ha.2.1 i hi) (hb.2.1 j hj)
  have hfit : ∀ k, FitP 96341445639776973842592955564032 (mulP a b k) := by
    have hd : ∀ i j, i < 5 → j < 5 → 0 ≤ gi a i * gi b j ∧ gi a i * gi b j ≤ 96341445639776973842592955564032 := fun i j hi hj => by have := hp i j hi hj; omega
    have hq : ∀ i j, i < 5 → j < 5 → 0 ≤ gi a i * z19 b j ∧ gi a i * z19 b j ≤ 96341445639776973842592955564032 := fun i j hi hj => by
      have := hp i j hi hj
      rw [hz j hj, ← Int.mul_assoc, Int.mul_comm (gi a i) 19, Int.mul_assoc]
      omega
    intro k p h
    match k with
    | 0 | 1 | 2 | 3 | n + 4 =>
      simp only [mulP, List.mem_cons, List.not_mem_nil, or_false] at h
      rcases h with rfl | rfl | rfl | rfl | rfl <;> first | exact hd _ _ (by omega) (by omega) | exact hq _ _ (by omega) (by omega)
  have hlen : ∀ k, (mulP a b k).length = 5 := by
    intro k
    match k with
    | 0 | 1 | 2 | 3 | n + 4 => rfl
  have hW : ∀ k, k < 5 → (accR (mulP a b k)).1 * M64 + (accR (mulP a b k)).2 = sumP (mulP a b k) ∧ 0 ≤ sumP (mulP a b k) ∧ sumP (mulP a b k) < 20769187434139310514121985316880384 := by
    intro k _
    obtain ⟨h1, h2, h3⟩ := accR_val 96341445639776973842592955564032 (by omega) (mulP a b k) (by rw [hlen k]; omega) (hfit k)
    rw [hlen k] at h3
    exact ⟨h1, h2, by omega⟩
  obtain ⟨_, hs, hc⟩ := mulS_spec (W := fun k => sumP (mulP a b k)) hW 5 (by omega)
  obtain ⟨l1, l2, l3, l4⟩ := mulS_ok a b 5
  have s0 := hs 0 (by omega)
  have s1 := hs 1 (by omega)
  have s2 := hs 2 (by omega)
  have s3 := hs 3 (by omega)
  have s4 := hs 4 (by omega)
  clear hs
  simp only [mulC] at s0 s1 s2 s3 s4 hc
  have b0 := (hW 0 (by omega)).2
  have b1 := (hW 1 (by omega)).2
  have b2 := (hW 2 (by omega)).2
  have b3 := (hW 3 (by omega)).2
  have b4 := (hW 4 (by omega)).2
  have t4 : sumP (mulP a b 4) ≤ 25353012010467624695419198832640 := by
    have q0 := hp 4 0 (by omega) (by omega)
    have q1 := hp 3 1 (by omega) (by omega)
    have q2 := hp 2 2 (by omega) (by omega)
    have q3 := hp 1 3 (by omega) (by omega)
    have q4 := hp 0 4 (by omega) (by omega)
    simp only [mulP, sumP]
    omega
  have hval : v5 a * v5 b = (sumP (mulP a b 0) + sumP (mulP a b 1) * 2251799813685248 + sumP (mulP a b 2) * 5070602400912917605986812821504 + sumP (mulP a b 3) * 11417981541647679048466287755595961091061972992 + sumP (mulP a b 4) * 25711008708143844408671393477458601640355247900524685364822016)
      + PP * ((gi a 4 * gi b 1 + gi a 3 * gi b 2 + gi a 2 * gi b 3 + gi a 1 * gi b 4) + (gi a 4 * gi b 2 + gi a 3 * gi b 3 + gi a 2 * gi b 4) * 2251799813685248 + (gi a 4 * gi b 3 + gi a 3 * gi b 4) * 5070602400912917605986812821504 + gi a 4 * gi b 4 * 11417981541647679048466287755595961091061972992) := by
    rw [v5_eq, v5_eq]
    simp only [mulP, sumP, hz 1 (by omega), hz 2 (by omega), hz 3 (by omega), hz 4 (by omega)]
    unfold PP
    grind
  generalize sumP (mulP a b 0) = W0 at *
  generalize sumP (mulP a b 1) = W1 at *
  generalize sumP (mulP a b 2) = W2 at *
  generalize sumP (mulP a b 3) = W3 at *
  generalize sumP (mulP a b 4) = W4 at *
  have e0 : IntKind.u64.wrap (gi (mulS a b 5).2.1 0 + IntKind.u64.wrap (19 * (mulS a b 5).2.2)) = gi (mulS a b 5).2.1 0 + 19 * (mulS a b 5).2.2 := by
    rw [hc, s0, u64_in (x := 19 * _) (by omega) (by unfold M64; omega), u64_in (by omega) (by unfold M64; omega)]
  unfold mulR
  rw [e0]
  refine carriedL_isE (allG_of (by simp [l2]) fun i hi => ?_) ?_
  · match i, hi with
    | 0, _ => rw [gi_same _ _ _ (by omega), hc, s0]; omega
    | 1, _ => rw [gi_upd _ _ _ _ (by omega), s1]; omega
    | 2, _ => rw [gi_upd _ _ _ _ (by omega), s2]; omega
    | 3, _ => rw [gi_upd _ _ _ _ (by omega), s3]; omega
    | 4, _ => rw [gi_upd _ _ _ _ (by omega), s4]; omega
  · have hv : v5 ((mulS a b 5).2.1.set 0 (gi (mulS a b 5).2.1 0 + 19 * (mulS a b 5).2.2)) = (W0 + W1 * 2251799813685248 + W2 * 5070602400912917605986812821504 + W3 * 11417981541647679048466287755595961091061972992 + W4 * 25711008708143844408671393477458601640355247900524685364822016) + (-(mulS a b 5).2.2) * PP := by
      rw [v5_eq, gi_same _ _ _ (by omega), gi_upd _ _ _ _ (by omega), gi_upd _ _ _ _ (by omega), gi_upd _ _ _ _ (by omega), gi_upd _ _ _ _ (by omega), hc, s0, s1, s2, s3, s4]
      unfold PP
      omega
    rw [modP hv, Int.mul_emod v w, ← ha.2.2, ← hb.2.2, ← Int.mul_emod, hval, Int.add_mul_emod_self_left]

theorem one_isE : IsE [1, 0, 0, 0, 0] 1 := small_isE 1 (by omega) (by omega)
theorem inv_isE {a : List Int} {v : Int} (ha : IsE a v) : ∀ k, IsE (invN a k) (invV v k)
  | 0 => one_isE
  | k + 1 => by
    have ih := inv_isE ha k
    simp only [invN, invV]
    split
    · exact mul_isE ih ih
    · exact mul_isE (mul_isE ih ih) ha

end Go.Proofs.Ytmchkfganpgheaa
