/-
  The document's numbers: what its functions answer, modulo p.
-/
import Derived.Test.YtmchkfganpgheaaRefD
import Derived.Test.YtmchkfganpgheaaRefM
namespace Go.Proofs.Ytmchkfganpgheaa
set_option linter.unusedSimpArgs false
set_option linter.unusedVariables false
open Go Go.RowKit

theorem modP {v w c : Int} (h : v = w + c * PP) : v % PP = w % PP := by rw [h, Int.add_mul_emod_self_right]
/-- A number with digits. -/
def IsN (x : List Int) (v : Int) : Prop := x.length = 16 ∧ Dig 65536 (gi x) 16 ∧ v16 x % PP = v % PP
theorem IsN.mod {x : List Int} {v w : Int} (h : IsN x v) (e : v % PP = w % PP) : IsN x w := ⟨h.1, h.2.1, by rw [h.2.2, e]⟩
theorem rcar_isN {x : List Int} {v : Int} (hx : x.length = 16) (hb : ∀ i, i < 16 → -35184372088832 < gi x i ∧ gi x i < 35184372088832) (h : v16 x % PP = v % PP) : IsN (rcar x) v := by
  obtain ⟨h1, c, h2⟩ := rcarR_spec x hx hb
  refine ⟨rcar_length x hx, by rw [rcar_eq]; exact h1, ?_⟩
  rw [rcar_eq, ← h]
  refine modP (c := -2 * c) ?_
  rw [h2]
  unfold Q256 PP
  omega
theorem Dig.gi_ok {x : List Int} (h : Dig 65536 (gi x) 16) {i : Nat} (hi : i < 16) : 0 ≤ gi x i ∧ gi x i < 65536 := h i hi
theorem sumN_add (B : Int) (f g : Nat → Int) : ∀ k, sumN B (fun i => f i + g i) k = sumN B f k + sumN B g k
  | 0 => rfl
  | k + 1 => by
    simp only [sumN]
    rw [sumN_add B f g k, Int.add_mul]
    omega
theorem sumN_sub (B : Int) (f g : Nat → Int) : ∀ k, sumN B (fun i => f i - g i) k = sumN B f k - sumN B g k
  | 0 => rfl
  | k + 1 => by
    simp only [sumN]
    rw [sumN_sub B f g k, Int.sub_mul]
    omega
theorem sumN_mul (B c : Int) (f : Nat → Int) : ∀ k, sumN B (fun i => c * f i) k = c * sumN B f k
  | 0 => by simp [sumN]
  | k + 1 => by
    simp only [sumN]
    rw [sumN_mul B c f k, Int.mul_add, Int.mul_assoc]
/-- The higher digits of a number. -/
theorem sumN_high (B : Int) (f : Nat → Int) (n : Nat) : ∀ k, sumN B f (n + k) = sumN B f n + sumN B (fun i => f (n + i)) k * B ^ n
  | 0 => by simp [sumN]
  | k + 1 => by
    rw [← Nat.add_assoc]
    simp only [sumN]
    rw [sumN_high B f n k, Int.add_mul, Int.pow_add, Int.mul_comm (B ^ n), Int.mul_assoc]
    omega
theorem sumN_pairs (f : Nat → Int) : ∀ k, sumN 65536 (fun i => f (2 * i) + 256 * f (2 * i + 1)) k = sumN 256 f (2 * k)
  | 0 => rfl
  | k + 1 => by
    have e : (65536 : Int) ^ k = 256 ^ (2 * k) := by rw [Int.pow_mul]; rfl
    show sumN 65536 (fun i => f (2 * i) + 256 * f (2 * i + 1)) k + (f (2 * k) + 256 * f (2 * k + 1)) * 65536 ^ k = sumN 256 f (2 * k + 1 + 1)
    simp only [sumN]
    rw [sumN_pairs f k, e, Int.pow_succ, Int.add_mul, Int.mul_comm (256 ^ (2 * k)) 256, ← Int.mul_assoc, Int.mul_comm 256 (f (2 * k + 1))]
    omega

/-- A row that is filled from the lowest on. -/
theorem fill_gi {R : Nat → List Int} {f : Nat → Int} {n : Nat} (hl : ∀ k, (R k).length = n) (hs : ∀ k, k < n → R (k + 1) = (R k).set k (f k)) : ∀ k, k ≤ n → ∀ i, i < k → gi (R k) i = f i
  | 0, _, i, hi => by omega
  | k + 1, hk, i, hi => by
    rw [hs k (by omega)]
    by_cases h : i = k
    · subst h
      rw [gi_same _ _ _ (by rw [hl]; omega)]
    · rw [gi_upd _ _ _ _ h]
      exact fill_gi hl hs k (by omega) i (by omega)

/-- Of 32 bytes. -/
def v32 (b : List Int) : Int := sumN 256 (gi b) 32
def H255 : Int := 57896044618658097711785492504343953926634992332820282019728792003956564819968
theorem rfrom_isN (b : List Int) (hb : b.length = 32) (hd : Dig 256 (gi b) 32) : IsN (rfromR b) (v32 b % H255) := by
  have hN := rfromN_length b
  have hf : ∀ i, i < 16 → gi (rfromN b 16) i = gi b (2 * i) + 256 * gi b (2 * i + 1) := by
    have := fill_gi (R := rfromN b) (f := fun k => IntKind.i64.wrap (IntKind.i64.wrap (gi b (2 * k)) + IntKind.i64.wrap (256 * IntKind.i64.wrap (gi b (2 * k + 1))))) hN (fun k _ => rfl) 16 (by omega)
    intro i hi
    rw [this i hi]
    obtain ⟨a1, a2⟩ := hd (2 * i) (by omega)
    obtain ⟨b1, b2⟩ := hd (2 * i + 1) (by omega)
    rw [i64_in' (x := gi b (2 * i)) (by omega) (by omega), i64_in' (x := gi b (2 * i + 1)) (by omega) (by omega), i64_in' (x := 256 * gi b (2 * i + 1)) (by omega) (by omega), i64_in' (by omega) (by omega)]
  have hv : v16 (rfromN b 16) = v32 b := by
    unfold v16 v32
    rw [sumN_congr hf, sumN_pairs]
  have hD : Dig 65536 (gi (rfromN b 16)) 16 := by
    intro i hi
    obtain ⟨a1, a2⟩ := hd (2 * i) (by omega)
    obtain ⟨b1, b2⟩ := hd (2 * i + 1) (by omega)
    rw [hf i hi]
    omega
  have h15 := hD 15 (by omega)
  have hlow := sumN_bound (B := 65536) (k := 15) (by omega) (hD.less (by omega))
  have hdec : v16 (rfromN b 16) = sumN 65536 (gi (rfromN b 16)) 15 + gi (rfromN b 16) 15 * 65536 ^ 15 := rfl
  have e : rfromR b = (rfromN b 16).set 15 (gi (rfromN b 16) 15 % 32768) := by unfold rfromR; rw [i64_mask15]
  have h2 : v16 (rfromR b) = v32 b % H255 := by
    unfold v16
    rw [e, sumN_set (by omega) (by rw [hN]; omega), show sumN 65536 (gi (rfromN b 16)) 16 = v32 b from hv]
    rw [hv] at hdec
    rw [show (65536 : Int) ^ 15 = 1766847064778384329583297500742918515827483896875618958121606201292619776 from rfl] at hdec hlow ⊢
    unfold H255
    omega
  refine ⟨by rw [e]; simp [hN], ?_, by rw [h2]⟩
  intro i hi
  rw [e]
  by_cases h : i = 15
  · subst h
    rw [gi_same _ _ _ (by rw [hN]; omega)]
    omega
  · rw [gi_upd _ _ _ _ h]
    exact hD i hi

theorem rsmall_isN (n : Int) (h0 : 0 ≤ n) (h1 : n < 4294967296) : IsN (rsmallL n) n := by
  rw [rsmallL_eq, u32_low h0 h1, wrap64_in (by omega) (by omega)]
  refine ⟨by simp, ?_, ?_⟩
  · intro i hi
    by_cases h : i = 1
    · subst h
      rw [gi_same _ _ _ (by simp)]
      omega
    · rw [gi_upd _ _ _ _ h]
      by_cases h' : i = 0
      · subst h'
        rw [gi_same _ _ _ (by simp)]
        omega
      · rw [gi_upd _ _ _ _ h', gi_rep]
        omega
  · unfold v16
    rw [sumN_set (by omega) (by simp), sumN_set (by omega) (by simp), sumN_zero _ _ _ (fun i _ => gi_rep 16 i), gi_upd _ _ _ _ (by omega), gi_rep, gi_rep]
    congr 1
    simp only [Int.pow_zero, Int.pow_succ]
    omega
theorem radd_isN {a b : List Int} {v w : Int} (ha : IsN a v) (hb : IsN b w) : IsN (rcar (raddR a b)) (v + w) := by
  have hN := raddN_length a b
  have hf : ∀ i, i < 16 → gi (raddN a b 16) i = gi a i + gi b i := by
    have := fill_gi (R := raddN a b) (f := fun k => IntKind.i64.wrap (gi a k + gi b k)) hN (fun k _ => rfl) 16 (by omega)
    intro i hi
    obtain ⟨a1, a2⟩ := ha.2.1 i hi
    obtain ⟨b1, b2⟩ := hb.2.1 i hi
    rw [this i hi]
    rw [i64_in' (by omega) (by omega)]
  refine rcar_isN (raddR_length a b) (fun i hi => ?_) ?_
  · obtain ⟨a1, a2⟩ := ha.2.1 i hi
    obtain ⟨b1, b2⟩ := hb.2.1 i hi
    show -35184372088832 < gi (raddN a b 16) i ∧ gi (raddN a b 16) i < 35184372088832
    rw [hf i hi]
    omega
  · have : v16 (raddR a b) = v16 a + v16 b := by
      show sumN 65536 (gi (raddN a b 16)) 16 = _
      rw [sumN_congr hf, sumN_add]
      rfl
    rw [this, Int.add_emod, ha.2.2, hb.2.2, ← Int.add_emod]
theorem rsub_isN {a b : List Int} {v w : Int} (ha : IsN a v) (hb : IsN b w) : IsN (rcar (rsubR a b)) (v - w) := by
  have hN := rsubN_length a b
  have hf : ∀ i, i < 16 → gi (rsubN a b 16) i = (gi a i - gi b i) + 65535 := by
    have := fill_gi (R := rsubN a b) (f := fun k => IntKind.i64.wrap (IntKind.i64.wrap (gi a k - gi b k) + 65535)) hN (fun k _ => rfl) 16 (by omega)
    intro i hi
    obtain ⟨a1, a2⟩ := ha.2.1 i hi
    obtain ⟨b1, b2⟩ := hb.2.1 i hi
    rw [this i hi]
    rw [i64_in' (x := gi a i - gi b i) (by omega) (by omega), i64_in' (by omega) (by omega)]
  have e : rsubR a b = (rsubN a b 16).set 0 (gi (rsubN a b 16) 0 - 37) := by
    obtain ⟨a1, a2⟩ := ha.2.1 0 (by omega)
    obtain ⟨b1, b2⟩ := hb.2.1 0 (by omega)
    have := hf 0 (by omega)
    unfold rsubR
    rw [wrap64_in (by omega) (by omega)]
  refine rcar_isN (rsubR_length a b) (fun i hi => ?_) ?_
  · obtain ⟨a1, a2⟩ := ha.2.1 i hi
    obtain ⟨b1, b2⟩ := hb.2.1 i hi
    have := hf i hi
    rw [e]
    by_cases h : i = 0
    · subst h
      rw [gi_same _ _ _ (by rw [hN]; omega)]
      omega
    · rw [gi_upd _ _ _ _ h]
      omega
  · have h1 : sumN 65536 (gi (rsubN a b 16)) 16 = v16 a - v16 b + (Q256 - 1) := by
      rw [sumN_congr hf, sumN_add 65536 (fun i => gi a i - gi b i) (fun _ => 65535), sumN_sub]
      rfl
    have : v16 (rsubR a b) = v16 a - v16 b + 2 * PP := by
      unfold v16
      rw [e, sumN_set (by omega) (by rw [hN]; omega), h1]
      simp only [Int.pow_zero, v16]
      unfold Q256 PP
      omega
    rw [modP this, Int.sub_emod, ha.2.2, hb.2.2, ← Int.sub_emod]

end Go.Proofs.Ytmchkfganpgheaa
