/-
  2^255 - 19 is prime, and what follows for powers. Plain.
-/
import Derived.Test.YtmchkfganpgheaaNum
namespace Go.Proofs.Ytmchkfganpgheaa
set_option linter.unusedSimpArgs false
set_option linter.unusedVariables false

def Pri (p : Nat) : Prop := 1 < p ∧ ∀ d, d ∣ p → d = 1 ∨ d = p
theorem Pri.coprime {p k : Nat} (hp : Pri p) (h : ¬ p ∣ k) : Nat.Coprime p k := by
  rcases hp.2 (Nat.gcd p k) (Nat.gcd_dvd_left p k) with h1 | h1
  · exact h1
  · exact absurd (h1 ▸ Nat.gcd_dvd_right p k) h

/-- Pascal's numbers. -/
def bin : Nat → Nat → Nat
  | _, 0 => 1
  | 0, _ + 1 => 0
  | n + 1, k + 1 => bin n k + bin n (k + 1)
theorem bin_zero (n : Nat) : bin n 0 = 1 := by cases n <;> rfl
theorem bin_over : ∀ n k, n < k → bin n k = 0
  | 0, k + 1, _ => rfl
  | n + 1, k + 1, h => by
    simp only [bin]
    rw [bin_over n k (by omega), bin_over n (k + 1) (by omega)]
  | _, 0, h => by omega
theorem bin_self : ∀ n, bin n n = 1
  | 0 => rfl
  | n + 1 => by
    simp only [bin]
    rw [bin_self n, bin_over n (n + 1) (by omega)]
theorem bin_mul : ∀ n k, (k + 1) * bin (n + 1) (k + 1) = (n + 1) * bin n k
  | 0, 0 => rfl
  | 0, k + 1 => by simp [bin]
  | n + 1, 0 => by
    have h := bin_mul n 0
    have e : bin (n + 2) 1 = bin (n + 1) 0 + bin (n + 1) 1 := rfl
    rw [bin_zero n] at h
    rw [bin_zero (n + 1)]
    show (0 + 1) * bin (n + 2) 1 = _
    rw [e, bin_zero (n + 1)]
    simp only [Nat.zero_add] at h
    omega
  | n + 1, k + 1 => by
    have h1 := bin_mul n k
    have h2 := bin_mul n (k + 1)
    have e : bin (n + 2) (k + 2) = bin (n + 1) (k + 1) + bin (n + 1) (k + 2) := rfl
    have e2 : bin (n + 1) (k + 1) = bin n k + bin n (k + 1) := rfl
    show (k + 1 + 1) * bin (n + 2) (k + 2) = (n + 1 + 1) * bin (n + 1) (k + 1)
    rw [e, Nat.mul_add, show k + 1 + 1 = k + 2 from rfl] at *
    rw [h2, Nat.add_mul (k + 1) 1, h1, e2]
    grind
theorem bin_dvd {p k : Nat} (hp : Pri p) (h0 : 0 < k) (h1 : k < p) : p ∣ bin p k := by
  obtain ⟨n, rfl⟩ : ∃ n, p = n + 1 := ⟨p - 1, by omega⟩
  obtain ⟨j, rfl⟩ : ∃ j, k = j + 1 := ⟨k - 1, by omega⟩
  have h := bin_mul n j
  have hc : Nat.Coprime (n + 1) (j + 1) := hp.coprime fun hd => by have := Nat.le_of_dvd (by omega) hd; omega
  exact hc.dvd_of_dvd_mul_left ⟨bin n j, h⟩
/-- (a + 1)^n, written out. -/
def sumB (a : Nat) (f : Nat → Nat) : Nat → Nat
  | 0 => 0
  | k + 1 => sumB a f k + f k * a ^ k
theorem sumB_shift (a : Nat) (f : Nat → Nat) : ∀ k, sumB a f (k + 1) = f 0 + a * sumB a (fun i => f (i + 1)) k
  | 0 => by simp [sumB]
  | k + 1 => by
    have h := sumB_shift a f k
    simp only [sumB] at h ⊢
    rw [h, Nat.mul_add, Nat.pow_succ]
    grind
theorem sumB_add (a : Nat) (f g : Nat → Nat) : ∀ k, sumB a (fun i => f i + g i) k = sumB a f k + sumB a g k
  | 0 => rfl
  | k + 1 => by
    simp only [sumB]
    rw [sumB_add a f g k, Nat.add_mul]
    omega
theorem binomial (a : Nat) : ∀ n, sumB a (bin n) (n + 1) = (a + 1) ^ n
  | 0 => by simp [sumB, bin]
  | n + 1 => by
    have ih := binomial a n
    have hs := sumB_shift a (bin n) (n + 1)
    have h2 : sumB a (bin n) (n + 2) = sumB a (bin n) (n + 1) := by
      show sumB a (bin n) (n + 1) + bin n (n + 1) * a ^ (n + 1) = _
      rw [bin_over n (n + 1) (by omega)]
      omega
    rw [sumB_shift a (bin (n + 1)) (n + 1), show (fun i => bin (n + 1) (i + 1)) = fun i => bin n i + bin n (i + 1) from rfl, sumB_add a (bin n) (fun i => bin n (i + 1)), ih, bin_zero, Nat.pow_succ]
    rw [h2, bin_zero, ih] at hs
    rw [Nat.mul_add, Nat.mul_add, Nat.mul_one]
    rw [Nat.mul_comm ((a + 1) ^ n) a]
    omega
theorem sumB_mod {a p : Nat} {f : Nat → Nat} : ∀ k, (∀ i, 0 < i → i < k → p ∣ f i) → sumB a f k % p = (if k = 0 then 0 else f 0) % p
  | 0, _ => rfl
  | 1, _ => by simp [sumB]
  | k + 2, h => by
    have ih := sumB_mod (a := a) (k + 1) (fun i h0 h1 => h i h0 (by omega))
    obtain ⟨c, hc⟩ := h (k + 1) (by omega) (by omega)
    show (sumB a f (k + 1) + f (k + 1) * a ^ (k + 1)) % p = _
    rw [hc, Nat.mul_assoc, Nat.add_mul_mod_self_left, ih]
    simp
theorem fermat_succ {p : Nat} (hp : Pri p) (a : Nat) : (a + 1) ^ p % p = (a ^ p + 1) % p := by
  rw [← binomial a p]
  show (sumB a (bin p) p + bin p p * a ^ p) % p = _
  rw [bin_self, Nat.add_mod, sumB_mod p (fun i h0 h1 => bin_dvd hp h0 h1), if_neg (by have := hp.1; omega), bin_zero, ← Nat.add_mod, Nat.one_mul, Nat.add_comm]
theorem fermat_pow {p : Nat} (hp : Pri p) : ∀ a, a ^ p % p = a % p
  | 0 => by rw [Nat.zero_pow (by have := hp.1; omega)]
  | a + 1 => by rw [fermat_succ hp, Nat.add_mod, fermat_pow hp a, ← Nat.add_mod]
theorem fermat {p : Nat} (hp : Pri p) {a : Nat} (ha : ¬ p ∣ a) : a ^ (p - 1) % p = 1 := by
  have h1 := hp.1
  have h := fermat_pow hp a
  have hpos : 0 < a := Nat.pos_of_ne_zero fun e => ha (e ▸ Nat.dvd_zero p)
  have hle : 1 ≤ a ^ (p - 1) := Nat.one_le_pow _ _ hpos
  have e : a ^ p = a * a ^ (p - 1) := by rw [← Nat.pow_succ']; congr 1; omega
  have hd : p ∣ a * (a ^ (p - 1) - 1) := by
    rw [Nat.mul_sub, Nat.mul_one, ← e]
    exact Nat.dvd_of_mod_eq_zero (Nat.sub_mod_eq_zero_of_mod_eq h)
  obtain ⟨c, hc⟩ := (hp.coprime ha).dvd_of_dvd_mul_left hd
  rw [show a ^ (p - 1) = 1 + p * c by omega, Nat.add_mul_mod_self_left, Nat.mod_eq_of_lt h1]


/-- Powers, a bit at a time. -/
def powm (n : Nat) : Nat → Nat → Nat → Nat
  | 0, _, _ => 1 % n
  | f + 1, a, e => if e = 0 then 1 % n else if e % 2 = 1 then a * powm n f (a * a % n) (e / 2) % n else powm n f (a * a % n) (e / 2)
theorem powm_spec (n : Nat) : ∀ f a e, e < 2 ^ f → powm n f a e = a ^ e % n
  | 0, a, e, h => by
    obtain rfl : e = 0 := by simpa using h
    rfl
  | f + 1, a, e, h => by
    have ih := powm_spec n f (a * a % n) (e / 2) (by rw [Nat.pow_succ] at h; omega)
    simp only [powm]
    by_cases h0 : e = 0
    · rw [if_pos h0, h0]
      rfl
    · rw [if_neg h0, ih, ← Nat.pow_mod]
      have hsq : (a * a) ^ (e / 2) = a ^ (2 * (e / 2)) := by rw [Nat.pow_mul, Nat.pow_two]
      by_cases h1 : e % 2 = 1
      · rw [if_pos h1, Nat.mul_mod_mod, hsq, ← Nat.pow_succ']
        congr 2
        omega
      · rw [if_neg h1, hsq]
        congr 2
        omega
theorem pow_gcd {r a : Nat} (hr : 1 < r) : ∀ x y, a ^ x % r = 1 → a ^ y % r = 1 → a ^ (Nat.gcd x y) % r = 1 := by
  intro x y
  induction x, y using Nat.gcd.induction with
  | H0 y => intro _ h; rw [Nat.gcd_zero_left]; exact h
  | H1 x y hx ih =>
    intro h1 h2
    rw [Nat.gcd_rec]
    refine ih ?_ h1
    have e : a ^ y = a ^ (y % x) * (a ^ x) ^ (y / x) := by
      rw [← Nat.pow_mul, ← Nat.pow_add]
      congr 1
      have := Nat.mod_add_div y x
      omega
    have h3 : (a ^ x) ^ (y / x) % r = 1 := by rw [Nat.pow_mod, h1, Nat.one_pow, Nat.mod_eq_of_lt hr]
    rw [e, Nat.mul_mod, h3, Nat.mul_one, Nat.mod_mod] at h2
    exact h2
/-- A prime that divides. -/
theorem least_div : ∀ (k n : Nat), 1 < n → n ≤ k → ∃ r, Pri r ∧ r ∣ n
  | 0, n, h, hk => by omega
  | k + 1, n, h, hk => by
    by_cases hp : ∀ d, d ∣ n → d = 1 ∨ d = n
    · exact ⟨n, ⟨h, hp⟩, Nat.dvd_refl n⟩
    · obtain ⟨d, hd⟩ := Classical.not_forall.1 hp
      have hdn : d ∣ n := Classical.byContradiction fun hc => hd fun hx => absurd hx hc
      have h1 : d ≠ 1 := fun e => hd fun _ => Or.inl e
      have h2 : d ≠ n := fun e => hd fun _ => Or.inr e
      have h3 := Nat.le_of_dvd (by omega) hdn
      have h4 : d ≠ 0 := fun e => by subst e; have := Nat.eq_zero_of_zero_dvd hdn; omega
      obtain ⟨r, hr, hrd⟩ := least_div k d (by omega) (by omega)
      exact ⟨r, hr, Nat.dvd_trans hrd hdn⟩
/-- Pocklington: a prime of n is 1 more than a multiple of q. -/
theorem pock {n q r m f : Nat} (hq : Pri q) (hr : Pri r) (hrn : r ∣ n) (hn : n = q * m + 1) (hf : q * m < 2 ^ f) (hm : m < 2 ^ f)
    (h1 : powm n f 2 (q * m) = 1) (h2 : Nat.gcd (powm n f 2 m + (n - 1)) n = 1) : q ∣ r - 1 := by
  have hr1 := hr.1
  rw [powm_spec n f 2 _ hf] at h1
  rw [powm_spec n f 2 _ hm] at h2
  have hmod : ∀ x, x % n % r = x % r := fun x => Nat.mod_mod_of_dvd x hrn
  have g1 : 2 ^ (q * m) % r = 1 := by rw [← hmod, h1, Nat.mod_eq_of_lt hr1]
  have g2 : ¬ 2 ^ m % r = 1 := by
    intro h
    have hd : r ∣ 2 ^ m % n + (n - 1) := by
      have e : (2 ^ m % n) % r = 1 := by rw [hmod]; exact h
      obtain ⟨c, hc⟩ := hrn
      have hx := Nat.mod_add_div (2 ^ m % n) r
      rw [e] at hx
      have hc1 : 1 ≤ c := Nat.pos_of_ne_zero fun e0 => by subst e0; omega
      refine ⟨2 ^ m % n / r + c, ?_⟩
      rw [Nat.mul_add, ← hc]
      omega
    have := Nat.dvd_gcd hd hrn
    rw [h2] at this
    have := Nat.le_of_dvd (by omega) this
    omega
  have g3 : ¬ r ∣ 2 := by
    intro h
    have h4 : 2 ^ (q * m) % r = 0 := by
      have hqm : q * m ≠ 0 := by
        intro e0
        rw [e0] at hn
        have := Nat.le_of_dvd (by omega) hrn
        omega
      obtain ⟨j, hj⟩ : ∃ j, q * m = j + 1 := ⟨q * m - 1, by omega⟩
      rw [hj, Nat.pow_succ]
      exact Nat.mod_eq_zero_of_dvd (Nat.dvd_trans h (Nat.dvd_mul_left 2 _))
    omega
  have g4 := fermat hr g3
  apply Classical.byContradiction
  intro hq'
  have hc := hq.coprime hq'
  have g5 : 2 ^ ((r - 1) * m) % r = 1 := by rw [Nat.pow_mul, Nat.pow_mod, g4, Nat.one_pow, Nat.mod_eq_of_lt hr1]
  have g6 := pow_gcd hr1 _ _ g1 g5
  rw [Nat.gcd_mul_right, hc, Nat.one_mul] at g6
  exact g2 g6
/-- What is prime when all its primes are great. -/
theorem prime_of {n F : Nat} (hn : 1 < n) (hF : n < (F + 1) * (F + 1)) (h : ∀ r, Pri r → r ∣ n → F ∣ r - 1) : Pri n := by
  refine ⟨hn, fun d hd => ?_⟩
  apply Classical.byContradiction
  intro hc
  have hd1 : d ≠ 1 := fun e => hc (Or.inl e)
  have hdn : d ≠ n := fun e => hc (Or.inr e)
  obtain ⟨k, hk⟩ := hd
  have hd0 : d ≠ 0 := fun e => by subst e; omega
  have hk0 : k ≠ 0 := fun e => by subst e; omega
  have hk1 : k ≠ 1 := fun e => by subst e; omega
  have big : ∀ x, 1 < x → x ∣ n → F + 1 ≤ x := by
    intro x hx hxn
    obtain ⟨r, hr, hrx⟩ := least_div x x hx (Nat.le_refl x)
    have h1 := h r hr (Nat.dvd_trans hrx hxn)
    have h2 := Nat.le_of_dvd (by omega) hrx
    have h3 := hr.1
    have h4 := Nat.le_of_dvd (by omega) h1
    omega
  have h1 := big d (by omega) ⟨k, hk⟩
  have h2 := big k (by omega) ⟨d, by rw [hk, Nat.mul_comm]⟩
  have h3 := Nat.mul_le_mul h1 h2
  omega
/-- Small primes. -/
def noDiv (n : Nat) : Nat → Nat → Bool
  | 0, _ => true
  | f + 1, d => n % d != 0 && noDiv n f (d + 1)
theorem noDiv_spec (n : Nat) : ∀ f d, noDiv n f d = true → ∀ x, d ≤ x → x < d + f → ¬ x ∣ n
  | 0, d, _, x, h1, h2 => by omega
  | f + 1, d, h, x, h1, h2 => by
    simp only [noDiv, Bool.and_eq_true, bne_iff_ne] at h
    by_cases e : x = d
    · subst e
      intro hx
      exact h.1 (Nat.mod_eq_zero_of_dvd hx)
    · exact noDiv_spec n f (d + 1) h.2 x (by omega) (by omega)
theorem small_prime {n f : Nat} (hn : 1 < n) (hf : n < (f + 2) * (f + 2)) (h : noDiv n f 2 = true) : Pri n := by
  have hs := noDiv_spec n f 2 h
  refine ⟨hn, fun d hd => ?_⟩
  apply Classical.byContradiction
  intro hc
  have hd1 : d ≠ 1 := fun e => hc (Or.inl e)
  have hdn : d ≠ n := fun e => hc (Or.inr e)
  obtain ⟨k, hk⟩ := hd
  have hd0 : d ≠ 0 := fun e => by subst e; omega
  have hk0 : k ≠ 0 := fun e => by subst e; omega
  have hk1 : k ≠ 1 := fun e => by subst e; omega
  have h1 : f + 2 ≤ d := Classical.byContradiction fun hlt => hs d (by omega) (by omega) ⟨k, hk⟩
  have h2 : f + 2 ≤ k := Classical.byContradiction fun hlt => hs k (by omega) (by omega) ⟨d, by rw [hk, Nat.mul_comm]⟩
  have h3 := Nat.mul_le_mul h1 h2
  omega
theorem two_primes {p q r : Nat} (hp : Pri p) (hpq : ¬ p ∣ q) (h1 : p ∣ r) (h2 : q ∣ r) : p * q ∣ r := (hp.coprime hpq).mul_dvd_of_dvd_of_dvd h1 h2

theorem pri_127 : Pri 127 := small_prime (f := 20) (by decide) (by decide) (by decide +kernel)
theorem pri_4153 : Pri 4153 := small_prime (f := 80) (by decide) (by decide) (by decide +kernel)
theorem pri_430751 : Pri 430751 := small_prime (f := 700) (by decide) (by decide) (by decide +kernel)
theorem pri_8574133 : Pri 8574133 := small_prime (f := 3000) (by decide) (by decide) (by decide +kernel)
theorem pri_75707 : Pri 75707 := small_prime (f := 300) (by decide) (by decide) (by decide +kernel)
theorem pri_s1 : Pri 1919519569386763 := prime_of (F := 8574133 * 127) (by decide) (by decide) fun r hr hd =>
  two_primes pri_8574133 (by decide) (pock (m := 223873314) (f := 60) pri_8574133 hr hd (by decide) (by decide) (by decide) (by decide +kernel) (by decide +kernel)) (pock (m := 15114327318006) (f := 60) pri_127 hr hd (by decide) (by decide) (by decide) (by decide +kernel) (by decide +kernel))
theorem pri_r1 : Pri 31757755568855353 := prime_of (F := 430751 * 4153) (by decide) (by decide) fun r hr hd =>
  two_primes pri_430751 (by decide) (pock (m := 73726481352) (f := 60) pri_430751 hr hd (by decide) (by decide) (by decide) (by decide +kernel) (by decide +kernel)) (pock (m := 7646943310584) (f := 60) pri_4153 hr hd (by decide) (by decide) (by decide) (by decide +kernel) (by decide +kernel))
theorem pri_q2 : Pri 75445702479781427272750846543864801 := prime_of (F := 1919519569386763 * 75707) (by decide) (by decide) fun r hr hd =>
  two_primes pri_s1 (by decide) (pock (m := 39304471641247389600) (f := 120) pri_s1 hr hd (by decide) (by decide) (by decide) (by decide +kernel) (by decide +kernel)) (pock (m := 996548568557483816196003626400) (f := 120) pri_75707 hr hd (by decide) (by decide) (by decide) (by decide +kernel) (by decide +kernel))
theorem pri_q1 : Pri 74058212732561358302231226437062788676166966415465897661863160754340907 := prime_of (F := 75445702479781427272750846543864801 * 31757755568855353) (by decide) (by decide) fun r hr hd =>
  two_primes pri_q2 (by decide) (pock (m := 981609426360740691344999861639072106) (f := 240) pri_q2 hr hd (by decide) (by decide) (by decide) (by decide +kernel) (by decide +kernel)) (pock (m := 2331972502653487852620185443007392165117953542933313402) (f := 240) pri_r1 hr hd (by decide) (by decide) (by decide) (by decide +kernel) (by decide +kernel))
theorem pri_p : Pri 57896044618658097711785492504343953926634992332820282019728792003956564819949 := prime_of (F := 74058212732561358302231226437062788676166966415465897661863160754340907) (by decide) (by decide) fun r hr hd =>
  pock (m := 781764) (f := 256) pri_q1 hr hd (by decide) (by decide) (by decide) (by decide +kernel) (by decide +kernel)

end Go.Proofs.Ytmchkfganpgheaa
