/-
  Numbers in digits: sums over the digits of a row, plain.
-/
import Derived.Test.YtmchkfganpgheaaLib
namespace Go.Proofs.Ytmchkfganpgheaa
set_option linter.unusedSimpArgs false
set_option linter.unusedVariables false
open Go Go.RowKit

/-- The number of k digits f to the base B, the lowest first. -/
def sumN (B : Int) (f : Nat → Int) : Nat → Int
  | 0 => 0
  | k + 1 => sumN B f k + f k * B ^ k
def Dig (B : Int) (f : Nat → Int) (k : Nat) : Prop := ∀ i, i < k → 0 ≤ f i ∧ f i < B

theorem sumN_congr {B : Int} {f g : Nat → Int} : ∀ {k : Nat}, (∀ i, i < k → f i = g i) → sumN B f k = sumN B g k
  | 0, _ => rfl
  | k + 1, h => by
    simp only [sumN]
    rw [sumN_congr (fun i hi => h i (by omega)), h k (by omega)]
theorem sumN_upd {B : Int} {f g : Nat → Int} {i : Nat} (h : ∀ j, j ≠ i → g j = f j) : ∀ {k : Nat}, i < k → sumN B g k = sumN B f k + (g i - f i) * B ^ i
  | 0, hi => by omega
  | k + 1, hi => by
    simp only [sumN]
    by_cases hk : i = k
    · subst hk
      rw [sumN_congr (f := g) (g := f) (fun j hj => h j (by omega)), Int.sub_mul]
      omega
    · rw [sumN_upd h (by omega), h k (fun e => hk e.symm)]
      omega
theorem gi_upd (l : List Int) (i : Nat) (v : Int) (j : Nat) (h : j ≠ i) : gi (l.set i v) j = gi l j := by
  unfold gi
  simp [List.getD_eq_getElem?_getD, List.getElem?_set_ne (fun e => h e.symm)]
theorem gi_same (l : List Int) (i : Nat) (v : Int) (h : i < l.length) : gi (l.set i v) i = v := by
  unfold gi
  simp [h]
theorem gi_over (l : List Int) (i : Nat) (h : l.length ≤ i) : gi l i = 0 := by
  unfold gi
  simp [List.getElem?_eq_none h]
theorem gi_rep (n : Nat) (i : Nat) : gi (List.replicate n 0) i = 0 := by
  unfold gi
  by_cases h : i < n <;> simp [h]
theorem sumN_set {B : Int} {l : List Int} {i : Nat} {v : Int} {k : Nat} (hk : i < k) (hl : i < l.length) : sumN B (gi (l.set i v)) k = sumN B (gi l) k + (v - gi l i) * B ^ i := by
  rw [sumN_upd (f := gi l) (fun j hj => gi_upd l i v j hj) hk, gi_same l i v hl]
theorem sumN_zero (B : Int) (f : Nat → Int) : ∀ k, (∀ i, i < k → f i = 0) → sumN B f k = 0
  | 0, _ => rfl
  | k + 1, h => by
    simp only [sumN]
    rw [sumN_zero B f k (fun i hi => h i (by omega)), h k (by omega), Int.zero_mul]
    rfl
theorem ext_gi {l m : List Int} (h : l.length = m.length) (hg : ∀ i, i < l.length → gi l i = gi m i) : l = m := by
  refine List.ext_getElem h fun i h1 h2 => ?_
  have := hg i h1
  unfold gi at this
  simpa [h1, h2] using this

theorem pow_pos' {B : Int} (hB : 0 < B) (k : Nat) : 0 < B ^ k := Int.pow_pos hB
theorem Dig.less {B : Int} {f : Nat → Int} {k j : Nat} (h : Dig B f k) (hj : j ≤ k) : Dig B f j := fun i hi => h i (by omega)
theorem sumN_bound {B : Int} {f : Nat → Int} (hB : 0 < B) : ∀ {k : Nat}, Dig B f k → 0 ≤ sumN B f k ∧ sumN B f k < B ^ k
  | 0, _ => by simp [sumN]
  | k + 1, h => by
    obtain ⟨i1, i2⟩ := sumN_bound hB (h.less (Nat.le_succ k))
    obtain ⟨f1, f2⟩ := h k (by omega)
    have hp := pow_pos' hB k
    have h1 : 0 ≤ f k * B ^ k := Int.mul_nonneg f1 (by omega)
    have h2 : f k * B ^ k ≤ (B - 1) * B ^ k := Int.mul_le_mul_of_nonneg_right (by omega) (by omega)
    rw [Int.sub_mul, Int.one_mul] at h2
    rw [Int.pow_succ, Int.mul_comm (B ^ k) B]
    simp only [sumN]
    omega
theorem digit_eq {P s t a b : Int} (hs : 0 ≤ s) (hs' : s < P) (ht : 0 ≤ t) (ht' : t < P) (h : s + a * P = t + b * P) : a = b ∧ s = t := by
  have h1 : (s + a * P) / P = a := by
    rw [Int.add_mul_ediv_right _ _ (by omega), Int.ediv_eq_zero_of_lt hs hs']
    omega
  have h2 : (t + b * P) / P = b := by
    rw [Int.add_mul_ediv_right _ _ (by omega), Int.ediv_eq_zero_of_lt ht ht']
    omega
  have h3 : a = b := by rw [← h1, ← h2, h]
  subst h3
  exact ⟨rfl, by omega⟩
theorem digit_lt {P s t a b : Int} (hs' : s < P) (ht : 0 ≤ t) (hP : 0 < P) (h : a < b) : s + a * P < t + b * P := by
  have h2 : (a + 1) * P ≤ b * P := Int.mul_le_mul_of_nonneg_right (by omega) (by omega)
  rw [Int.add_mul, Int.one_mul] at h2
  omega
theorem sumN_inj {B : Int} {f g : Nat → Int} (hB : 0 < B) : ∀ {k : Nat}, Dig B f k → Dig B g k → sumN B f k = sumN B g k → ∀ i, i < k → f i = g i
  | 0, _, _, _, i, hi => by omega
  | k + 1, hf, hg, h, i, hi => by
    obtain ⟨a1, a2⟩ := sumN_bound hB (hf.less (Nat.le_succ k))
    obtain ⟨b1, b2⟩ := sumN_bound hB (hg.less (Nat.le_succ k))
    simp only [sumN] at h
    obtain ⟨e1, e2⟩ := digit_eq a1 a2 b1 b2 h
    by_cases hk : i = k
    · subst hk
      exact e1
    · exact sumN_inj hB (hf.less (Nat.le_succ k)) (hg.less (Nat.le_succ k)) e2 i (by omega)
/-- A digit of a number. -/
theorem sumN_digit {B : Int} {f : Nat → Int} (hB : 0 < B) {n i : Nat} (hf : Dig B f n) (hi : i < n) : f i = sumN B f n / B ^ i % B := by
  induction n with
  | zero => omega
  | succ n ih =>
    by_cases hn : i = n
    · subst hn
      obtain ⟨a1, a2⟩ := sumN_bound hB (hf.less (Nat.le_succ i))
      obtain ⟨f1, f2⟩ := hf i (by omega)
      have hp := pow_pos' hB i
      simp only [sumN]
      rw [Int.add_mul_ediv_right _ _ (by omega), Int.ediv_eq_zero_of_lt a1 a2, Int.zero_add, Int.emod_eq_of_lt f1 f2]
    · have h := ih (hf.less (Nat.le_succ n)) (by omega)
      rw [h]
      simp only [sumN]
      obtain ⟨d, hd⟩ : ∃ d, n = d + 1 + i := ⟨n - 1 - i, by omega⟩
      have hp := pow_pos' hB i
      rw [hd, Int.pow_add, ← Int.mul_assoc, Int.add_mul_ediv_right _ _ (by omega), Int.pow_succ, ← Int.mul_assoc, Int.add_mul_emod_self_right]

/-- A row of bytes, and its number. -/
def IsB (r : List Int) (v : Int) : Prop := r.length = 32 ∧ Dig 256 (gi r) 32 ∧ sumN 256 (gi r) 32 = v
theorem IsB.inj {r s : List Int} {v : Int} (hr : IsB r v) (hs : IsB s v) : r = s :=
  ext_gi (by rw [hr.1, hs.1]) fun i hi => sumN_inj (by omega) hr.2.1 hs.2.1 (by rw [hr.2.2, hs.2.2]) i (by rw [hr.1] at hi; exact hi)
theorem IsB.eq_iff {r s : List Int} {v u : Int} (hr : IsB r v) (hs : IsB s u) : r = s ↔ v = u := by
  constructor
  · intro h
    rw [← hr.2.2, ← hs.2.2, h]
  · intro h
    subst h
    exact hr.inj hs

end Go.Proofs.Ytmchkfganpgheaa
