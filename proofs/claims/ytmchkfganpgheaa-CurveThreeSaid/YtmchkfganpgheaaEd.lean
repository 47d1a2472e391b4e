/-
  The group of the curve x^2 + y^2 = 1 + D x^2 y^2 over the numbers modulo 2^255 - 19; the order of the base point's group is prime. Plain maths, no conditions.
-/
import Derived.Test.YtmchkfganpgheaaPrime
namespace Go.Proofs.Ytmchkfganpgheaa
set_option linter.unusedSimpArgs false
set_option linter.unusedVariables false
namespace Ed

theorem pri_1224481 : Pri 1224481 := small_prime (f := 1200) (by decide) (by decide) (by decide +kernel)
theorem pri_531581 : Pri 531581 := small_prime (f := 800) (by decide) (by decide) (by decide +kernel)
theorem pri_a : Pri 1257559732178653 := prime_of (F := 1224481 * 531581) (by decide) (by decide) fun r hr hd => two_primes pri_1224481 (by decide) (pock (m := 1027014492) (f := 53) pri_1224481 hr hd (by decide) (by decide) (by decide) (by decide +kernel) (by decide +kernel)) (pock (m := 2365697292) (f := 53) pri_531581 hr hd (by decide) (by decide) (by decide) (by decide +kernel) (by decide +kernel))
theorem pri_b : Pri 4434155615661930479 := prime_of (F := 1257559732178653) (by decide) (by decide) fun r hr hd => pock (m := 3526) (f := 64) pri_a hr hd (by decide) (by decide) (by decide) (by decide +kernel) (by decide +kernel)
theorem pri_c : Pri 172054593956031949258510691 := prime_of (F := 4434155615661930479) (by decide) (by decide) fun r hr hd => pock (m := 38802110) (f := 90) pri_b hr hd (by decide) (by decide) (by decide) (by decide +kernel) (by decide +kernel)
theorem pri_d : Pri 19757330305831588566944191468367130476339 := prime_of (F := 172054593956031949258510691) (by decide) (by decide) fun r hr hd => pock (m := 114831751082918) (f := 136) pri_c hr hd (by decide) (by decide) (by decide) (by decide +kernel) (by decide +kernel)
theorem pri_e : Pri 276602624281642239937218680557139826668747 := prime_of (F := 19757330305831588566944191468367130476339) (by decide) (by decide) fun r hr hd => pock (m := 14) (f := 140) pri_d hr hd (by decide) (by decide) (by decide) (by decide +kernel) (by decide +kernel)
theorem pri_l : Pri 7237005577332262213973186563042994240857116359379907606001950938285454250989 := prime_of (F := 276602624281642239937218680557139826668747) (by decide) (by decide) fun r hr hd => pock (m := 26163907866482859529727157400808004) (f := 255) pri_e hr hd (by decide) (by decide) (by decide) (by decide +kernel) (by decide +kernel)

/-! ### The field -/
abbrev pN : Nat := 57896044618658097711785492504343953926634992332820282019728792003956564819949
abbrev Fp := Fin pN
theorem pri : Pri pN := pri_p
theorem mod_zero {p a b : Nat} (hp : Pri p) (h : a * b % p = 0) : a % p = 0 ∨ b % p = 0 := by
  by_cases ha : p ∣ a
  · exact .inl (Nat.mod_eq_zero_of_dvd ha)
  · exact .inr (Nat.mod_eq_zero_of_dvd ((hp.coprime ha).dvd_of_dvd_mul_left (Nat.dvd_of_mod_eq_zero h)))
theorem mul_zero' {a b : Fp} (h : a * b = 0) : a = 0 ∨ b = 0 := by
  have h1 : a.val * b.val % pN = 0 := by have := congrArg Fin.val h; rw [Fin.val_mul] at this; exact this
  rcases mod_zero pri h1 with h2 | h2
  · left; apply Fin.ext; rw [Nat.mod_eq_of_lt a.isLt] at h2; exact h2
  · right; apply Fin.ext; rw [Nat.mod_eq_of_lt b.isLt] at h2; exact h2
theorem mul_ne {a b : Fp} (ha : a ≠ 0) (hb : b ≠ 0) : a * b ≠ 0 := fun h => by
  rcases mul_zero' h with h | h
  · exact ha h
  · exact hb h
@[irreducible] def expo : Nat := 57896044618658097711785492504343953926634992332820282019728792003956564819947
@[irreducible] def invN (a : Nat) : Nat := powm pN 256 a expo
theorem inv_gen {p e f a : Nat} (hp : Pri p) (he : e + 2 = p) (hf : p < 2 ^ f) (ha : ¬ p ∣ a) : a * powm p f a e % p = 1 := by
  rw [powm_spec p f a e (by omega), Nat.mul_mod, Nat.mod_mod, ← Nat.mul_mod, ← Nat.pow_succ', show e.succ = p - 1 by omega]
  exact fermat hp ha
theorem invN_ok {a : Nat} (ha : ¬ pN ∣ a) : a * invN a % pN = 1 := by
  unfold invN
  exact inv_gen pri (by unfold expo; decide) (by decide) ha
def finv (a : Fp) : Fp := ⟨invN a.val % pN, Nat.mod_lt _ (by decide)⟩
theorem finv_ok {a : Fp} (ha : a ≠ 0) : a * finv a = 1 := by
  apply Fin.ext
  rw [Fin.val_mul]
  show a.val * (invN a.val % pN) % pN = 1
  rw [Nat.mul_mod, Nat.mod_mod, ← Nat.mul_mod]
  refine invN_ok fun hd => ha ?_
  apply Fin.ext
  rcases Nat.eq_zero_or_pos a.val with h | h
  · exact h
  · exact absurd (Nat.le_of_dvd h hd) (Nat.not_le.2 a.isLt)
theorem cancel {a b c : Fp} (hc : c ≠ 0) (h : a * c = b * c) : a = b := by
  have h1 : (a - b) * c = 0 := by grobner
  rcases mul_zero' h1 with h2 | h2
  · grobner
  · exact absurd h2 hc
theorem two_ne : (2 : Fp) ≠ 0 := by decide

/-! ### D is no square -/
@[irreducible] def DD : Fp := 20800338683988658368647408995589388737092878452977063003340006470870624536394
theorem DD_c : (121666 : Fp) * DD = 121665 := by unfold DD; decide +kernel
theorem euler {p h d s t : Nat} (hp : Pri p) (hh : 2 * h = p - 1) (hd : ¬ d ^ h % p = 1) (hd0 : ¬ p ∣ d) (e : s * s % p = d * (t * t) % p) : p ∣ t := by
  apply Classical.byContradiction
  intro ht
  have hs : ¬ p ∣ s := by
    intro hs
    have h0 : d * (t * t) % p = 0 := by rw [← e]; exact Nat.mod_eq_zero_of_dvd (Nat.dvd_trans hs (Nat.dvd_mul_right _ _))
    rcases mod_zero hp h0 with h1 | h1
    · exact hd0 (Nat.dvd_of_mod_eq_zero h1)
    · rcases mod_zero hp h1 with h2 | h2 <;> exact ht (Nat.dvd_of_mod_eq_zero h2)
  have h1 : (s * s) ^ h % p = (d * (t * t)) ^ h % p := by rw [Nat.pow_mod, e, ← Nat.pow_mod]
  rw [← Nat.pow_two, ← Nat.pow_two, Nat.mul_pow, ← Nat.pow_mul, ← Nat.pow_mul, hh, fermat hp hs, Nat.mul_mod, fermat hp ht, Nat.mul_one, Nat.mod_mod] at h1
  exact hd h1.symm
theorem DD_euler : ¬ DD.val ^ 28948022309329048855892746252171976963317496166410141009864396001978282409974 % pN = 1 := by
  have h := powm_spec pN 256 DD.val 28948022309329048855892746252171976963317496166410141009864396001978282409974 (by decide)
  rw [← h]
  unfold DD
  decide +kernel
theorem DD_dvd : ¬ pN ∣ DD.val := by unfold DD; decide +kernel
theorem nosq_gen {H : Nat} (hH : 2 * H = pN - 1) (hE : ¬ DD.val ^ H % pN = 1) {s t : Fp} (h : s * s = DD * (t * t)) : t = 0 := by
  have e : s.val * s.val % pN = DD.val * (t.val * t.val) % pN := by
    have := congrArg Fin.val h
    rw [Fin.val_mul, Fin.val_mul, Fin.val_mul] at this
    rw [this, Nat.mul_mod, Nat.mod_mod, ← Nat.mul_mod]
  have hd := euler pri hH hE DD_dvd e
  apply Fin.ext
  rcases Nat.eq_zero_or_pos t.val with h | h
  · exact h
  · exact absurd (Nat.le_of_dvd h hd) (Nat.not_le.2 t.isLt)
theorem nosq {s t : Fp} (h : s * s = DD * (t * t)) : t = 0 := nosq_gen (by decide) DD_euler h

/-! ### Points -/
structure Pt where
  x : Fp
  y : Fp
  on : x * x + y * y = 1 + DD * (x * x * (y * y))
theorem Pt.ext' {P Q : Pt} (hx : P.x = Q.x) (hy : P.y = Q.y) : P = Q := by cases P; cases Q; simp at hx hy; subst hx hy; rfl
theorem den_sq {d x1 y1 x2 y2 : Fp} (hns : ∀ s t : Fp, s * s = d * (t * t) → t = 0) (e1 : x1 * x1 + y1 * y1 = 1 + d * (x1 * x1 * (y1 * y1))) (e2 : x2 * x2 + y2 * y2 = 1 + d * (x2 * x2 * (y2 * y2))) :
    (d * (x1 * x2 * (y1 * y2))) * (d * (x1 * x2 * (y1 * y2))) ≠ 1 := by
  intro h
  have k1 : (x1 + d * (x1 * x2 * (y1 * y2)) * y1) * (x1 + d * (x1 * x2 * (y1 * y2)) * y1) = d * ((x1 * y1 * (x2 + y2)) * (x1 * y1 * (x2 + y2))) := by grobner
  have k2 : (x1 - d * (x1 * x2 * (y1 * y2)) * y1) * (x1 - d * (x1 * x2 * (y1 * y2)) * y1) = d * ((x1 * y1 * (x2 - y2)) * (x1 * y1 * (x2 - y2))) := by grobner
  have h1 := hns _ _ k1
  have h2 := hns _ _ k2
  have h3 : 2 * (x1 * x2 * y1) = 0 := by grobner
  have h4 : x1 * x2 * y1 = 0 := (mul_zero' h3).resolve_left two_ne
  have h5 : (0 : Fp) = 1 := by rw [← h]; grobner
  exact absurd h5 (by decide)
theorem den_p (P Q : Pt) : 1 + DD * (P.x * Q.x * (P.y * Q.y)) ≠ 0 := fun h => den_sq (fun _ _ => nosq) P.on Q.on (by grobner)
theorem den_m (P Q : Pt) : 1 - DD * (P.x * Q.x * (P.y * Q.y)) ≠ 0 := fun h => den_sq (fun _ _ => nosq) P.on Q.on (by grobner)

theorem closed {d x1 y1 x2 y2 u v i j : Fp} (e1 : x1 * x1 + y1 * y1 = 1 + d * (x1 * x1 * (y1 * y1))) (e2 : x2 * x2 + y2 * y2 = 1 + d * (x2 * x2 * (y2 * y2)))
    (hi : (1 + d * (x1 * x2 * (y1 * y2))) * i = 1) (hj : (1 - d * (x1 * x2 * (y1 * y2))) * j = 1)
    (hu : u = (x1 * y2 + y1 * x2) * i) (hv : v = (y1 * y2 - x1 * x2) * j) : u * u + v * v = 1 + d * (u * u * (v * v)) := by
  have key : (x1*y2+y1*x2)*(x1*y2+y1*x2)*((1 - d*(x1*x2*(y1*y2)))*(1 - d*(x1*x2*(y1*y2)))) + (y1*y2-x1*x2)*(y1*y2-x1*x2)*((1 + d*(x1*x2*(y1*y2)))*(1 + d*(x1*x2*(y1*y2)))) = (1 + d*(x1*x2*(y1*y2)))*(1 + d*(x1*x2*(y1*y2)))*((1 - d*(x1*x2*(y1*y2)))*(1 - d*(x1*x2*(y1*y2)))) + d * ((x1*y2+y1*x2)*(x1*y2+y1*x2)*((y1*y2-x1*x2)*(y1*y2-x1*x2))) := by grobner
  subst hu hv
  generalize x1*y2+y1*x2 = X at *
  generalize y1*y2-x1*x2 = Y at *
  generalize 1 + d*(x1*x2*(y1*y2)) = A at *
  generalize 1 - d*(x1*x2*(y1*y2)) = B at *
  clear e1 e2
  grobner
def add (P Q : Pt) : Pt := ⟨(P.x * Q.y + P.y * Q.x) * finv (1 + DD * (P.x * Q.x * (P.y * Q.y))), (P.y * Q.y - P.x * Q.x) * finv (1 - DD * (P.x * Q.x * (P.y * Q.y))),
  closed P.on Q.on (finv_ok (den_p P Q)) (finv_ok (den_m P Q)) rfl rfl⟩
theorem add_x (P Q : Pt) : (add P Q).x * (1 + DD * (P.x * Q.x * (P.y * Q.y))) = P.x * Q.y + P.y * Q.x := by
  have h := finv_ok (den_p P Q)
  show (P.x * Q.y + P.y * Q.x) * finv (1 + DD * (P.x * Q.x * (P.y * Q.y))) * (1 + DD * (P.x * Q.x * (P.y * Q.y))) = _
  generalize finv (1 + DD * (P.x * Q.x * (P.y * Q.y))) = i at *
  generalize 1 + DD * (P.x * Q.x * (P.y * Q.y)) = A at *
  grobner
theorem add_y (P Q : Pt) : (add P Q).y * (1 - DD * (P.x * Q.x * (P.y * Q.y))) = P.y * Q.y - P.x * Q.x := by
  have h := finv_ok (den_m P Q)
  show (P.y * Q.y - P.x * Q.x) * finv (1 - DD * (P.x * Q.x * (P.y * Q.y))) * (1 - DD * (P.x * Q.x * (P.y * Q.y))) = _
  generalize finv (1 - DD * (P.x * Q.x * (P.y * Q.y))) = i at *
  generalize 1 - DD * (P.x * Q.x * (P.y * Q.y)) = A at *
  grobner
theorem add_comm' (P Q : Pt) : add P Q = add Q P := by
  apply Pt.ext'
  · apply cancel (den_p P Q)
    rw [add_x]
    have := add_x Q P
    grobner
  · apply cancel (den_m P Q)
    rw [add_y]
    have := add_y Q P
    grobner
def O : Pt := ⟨0, 1, by grobner⟩
def neg (P : Pt) : Pt := ⟨0 - P.x, P.y, by have := P.on; grobner⟩
theorem add_O (P : Pt) : add P O = P := by
  apply Pt.ext'
  · have h := add_x P O
    have h1 : O.x = 0 := rfl
    have h2 : O.y = 1 := rfl
    rw [h1, h2] at h
    grobner
  · have h := add_y P O
    have h1 : O.x = 0 := rfl
    have h2 : O.y = 1 := rfl
    rw [h1, h2] at h
    grobner
theorem add_neg (P : Pt) : add P (neg P) = O := by
  have hx : (neg P).x = 0 - P.x := rfl
  have hy : (neg P).y = P.y := rfl
  have ox : O.x = 0 := rfl
  have oy : O.y = 1 := rfl
  apply Pt.ext'
  · apply cancel (den_p P (neg P))
    rw [add_x, hx, hy, ox]
    grobner
  · apply cancel (den_m P (neg P))
    rw [add_y, hx, hy, oy]
    have := P.on
    grobner

/-! ### Sums may be taken together as one likes -/
theorem assX {d x1 y1 x2 y2 x3 y3 : Fp} (e1 : x1*x1+y1*y1 = 1 + d*(x1*x1*(y1*y1))) (e2 : x2*x2+y2*y2 = 1 + d*(x2*x2*(y2*y2))) (e3 : x3*x3+y3*y3 = 1 + d*(x3*x3*(y3*y3))) :
  ((x1*y2+y1*x2)*(1 - d*(x1*x2*(y1*y2)))*y3 + (y1*y2-x1*x2)*(1 + d*(x1*x2*(y1*y2)))*x3) * ((1 + d*(x2*x3*(y2*y3)))*(1 - d*(x2*x3*(y2*y3))) + d*(x1*y1*((x2*y3+y2*x3)*(y2*y3-x2*x3)))) =
  ((x2*y3+y2*x3)*(1 - d*(x2*x3*(y2*y3)))*y1 + (y2*y3-x2*x3)*(1 + d*(x2*x3*(y2*y3)))*x1) * ((1 + d*(x1*x2*(y1*y2)))*(1 - d*(x1*x2*(y1*y2))) + d*(x3*y3*((x1*y2+y1*x2)*(y1*y2-x1*x2)))) := by grobner
theorem assY {d x1 y1 x2 y2 x3 y3 : Fp} (e1 : x1*x1+y1*y1 = 1 + d*(x1*x1*(y1*y1))) (e2 : x2*x2+y2*y2 = 1 + d*(x2*x2*(y2*y2))) (e3 : x3*x3+y3*y3 = 1 + d*(x3*x3*(y3*y3))) :
  ((y1*y2-x1*x2)*(1 + d*(x1*x2*(y1*y2)))*y3 - (x1*y2+y1*x2)*(1 - d*(x1*x2*(y1*y2)))*x3) * ((1 + d*(x2*x3*(y2*y3)))*(1 - d*(x2*x3*(y2*y3))) - d*(x1*y1*((x2*y3+y2*x3)*(y2*y3-x2*x3)))) =
  ((y2*y3-x2*x3)*(1 + d*(x2*x3*(y2*y3)))*y1 - (x2*y3+y2*x3)*(1 - d*(x2*x3*(y2*y3)))*x1) * ((1 + d*(x1*x2*(y1*y2)))*(1 - d*(x1*x2*(y1*y2))) - d*(x3*y3*((x1*y2+y1*x2)*(y1*y2-x1*x2)))) := by grobner
theorem frac {u v A B X Y p q d l : Fp} (hu : u * A = X) (hv : v * B = Y) (hl : l * (1 + d * (u * p * (v * q))) = u * q + v * p) : l * (A * B + d * (p * q * (X * Y))) = X * B * q + Y * A * p := by grobner
theorem fracY {u v A B X Y p q d l : Fp} (hu : u * A = X) (hv : v * B = Y) (hl : l * (1 - d * (u * p * (v * q))) = v * q - u * p) : l * (A * B - d * (p * q * (X * Y))) = Y * A * q - X * B * p := by grobner
theorem frac_ne {u v A B X Y p q d : Fp} (hu : u * A = X) (hv : v * B = Y) (hA : A ≠ 0) (hB : B ≠ 0) (hn : 1 + d * (u * p * (v * q)) ≠ 0) : A * B + d * (p * q * (X * Y)) ≠ 0 := fun h => by
  have h1 : A * B * (1 + d * (u * p * (v * q))) = 0 := by grobner
  exact mul_ne (mul_ne hA hB) hn h1
theorem fracY_ne {u v A B X Y p q d : Fp} (hu : u * A = X) (hv : v * B = Y) (hA : A ≠ 0) (hB : B ≠ 0) (hn : 1 - d * (u * p * (v * q)) ≠ 0) : A * B - d * (p * q * (X * Y)) ≠ 0 := fun h => by
  have h1 : A * B * (1 - d * (u * p * (v * q))) = 0 := by grobner
  exact mul_ne (mul_ne hA hB) hn h1
theorem cross {l r ml mr nl nr : Fp} (h1 : l * ml = nl) (h2 : r * mr = nr) (h : nl * mr = nr * ml) (hl : ml ≠ 0) (hr : mr ≠ 0) : l = r := by
  apply cancel (mul_ne hl hr)
  grobner
theorem add_assoc' (P Q R : Pt) : add (add P Q) R = add P (add Q R) := by
  have ax := add_x P Q
  have ay := add_y P Q
  have bx := add_x Q R
  have by' := add_y Q R
  rw [add_comm' P (add Q R)]
  apply Pt.ext'
  · exact cross (frac ax ay (add_x (add P Q) R)) (frac bx by' (add_x (add Q R) P)) (assX P.on Q.on R.on) (frac_ne ax ay (den_p P Q) (den_m P Q) (den_p (add P Q) R)) (frac_ne bx by' (den_p Q R) (den_m Q R) (den_p (add Q R) P))
  · exact cross (fracY ax ay (add_y (add P Q) R)) (fracY bx by' (add_y (add Q R) P)) (assY P.on Q.on R.on) (fracY_ne ax ay (den_p P Q) (den_m P Q) (den_m (add P Q) R)) (fracY_ne bx by' (den_p Q R) (den_m Q R) (den_m (add Q R) P))

/-! ### Multiples -/
def mul : Nat → Pt → Pt
  | 0, _ => O
  | n + 1, P => add (mul n P) P
theorem mul_add (m : Nat) (P : Pt) : ∀ n, mul (m + n) P = add (mul m P) (mul n P)
  | 0 => (add_O _).symm
  | n + 1 => by
    show add (mul (m + n) P) P = add (mul m P) (add (mul n P) P)
    rw [mul_add m P n, add_assoc']
theorem mul_O : ∀ n, mul n O = O
  | 0 => rfl
  | n + 1 => by show add (mul n O) O = O; rw [add_O, mul_O n]
theorem mul_mul' (m : Nat) (P : Pt) : ∀ n, mul n (mul m P) = mul (m * n) P
  | 0 => rfl
  | n + 1 => by
    show add (mul n (mul m P)) (mul m P) = mul (m * n + m) P
    rw [mul_mul' m P n, mul_add]
theorem mul_one' (P : Pt) : mul 1 P = P := by show add O P = P; rw [add_comm', add_O]
theorem add_left {P Q R : Pt} (h : add P Q = add P R) : Q = R := by
  have e : ∀ X, add (neg P) (add P X) = X := fun X => by rw [← add_assoc', add_comm' (neg P) P, add_neg, add_comm', add_O]
  rw [← e Q, h, e]
end Ed
end Go.Proofs.Ytmchkfganpgheaa

