/-
  Joined texts: EdL, EdY. No conditions.
-/
import Derived.Test.YtdjecenggngdjaaGaj
namespace Go.Proofs.Ytdjecenggngdjaa
set_option linter.unusedSimpArgs false
set_option linter.unusedVariables false
set_option maxHeartbeats 16000000
section
open Go Go.RowKit
namespace Ed
def PN : Nat := 57896044618658097711785492504343953926634992332820282019728792003956564819949
theorem pn : (PN : Int) = PP := rfl
def expV : Nat → Nat
  | 0 => 0
  | k + 1 => if k = 252 ∨ k = 250 then 2 * expV k else 2 * expV k + 1
theorem invV_pow (v : Nat) : ∀ k, invV (v : Int) k = ((v ^ expV k : Nat) : Int)
  | 0 => by simp [invV, expV]
  | k + 1 => by
    have ih := invV_pow v k
    simp only [invV, expV]
    by_cases h : k = 252 ∨ k = 250
    · rw [if_pos h, if_pos h, ih, ← Int.natCast_mul, ← Nat.pow_add, Nat.two_mul]
    · rw [if_neg h, if_neg h, ih, ← Int.natCast_mul, ← Int.natCast_mul, ← Nat.pow_add, ← Nat.two_mul, ← Nat.pow_succ]
theorem expV_eq : expV 255 = PN - 2 := by decide +kernel
theorem invV_mod {v u : Int} (h : v % PP = u % PP) : ∀ k, invV v k % PP = invV u k % PP
  | 0 => rfl
  | k + 1 => by
    have ih := invV_mod h k
    have h2 : (invV v k * invV v k) % PP = (invV u k * invV u k) % PP := by rw [Int.mul_emod, ih, ← Int.mul_emod]
    simp only [invV]
    split
    · exact h2
    · rw [Int.mul_emod, h2, h, ← Int.mul_emod]
theorem inv_one {v : Int} (h : ¬ v % PP = 0) : (v * invV v 255) % PP = 1 % PP := by
  have hr := pp_range v
  obtain ⟨n, hn⟩ := Int.eq_ofNat_of_zero_le hr.1
  have h1 : v % PP = (n : Int) % PP := by rw [← hn, Int.emod_emod_of_dvd _ (Int.dvd_refl _)]
  rw [Int.mul_emod, h1, invV_mod h1 255, ← Int.mul_emod, invV_pow, expV_eq, ← Int.natCast_mul, ← Nat.pow_succ', show (PN - 2).succ = PN - 1 from rfl]
  have hd : ¬ PN ∣ n := by
    intro hd
    have h3 := Nat.eq_zero_of_dvd_of_lt hd (by have := hr.2.1; rw [hn, ← pn] at this; omega)
    subst h3
    exact h hn
  have hf := fermat (p := PN) pri_p hd
  rw [← pn]
  have : ((n ^ (PN - 1) : Nat) : Int) % (PN : Int) = ((n ^ (PN - 1) % PN : Nat) : Int) := by rw [Int.natCast_emod]
  rw [this, hf]
  rfl
theorem inv_zero {v : Int} (h : v % PP = 0) : invV v 255 % PP = 0 := by
  have h1 : v % PP = ((0 : Nat) : Int) % PP := by rw [h]; rfl
  rw [invV_mod h1 255, invV_pow, expV_eq, Nat.zero_pow (by decide)]
  rfl
structure Rep (X Z : Fp) (P : Pt) : Prop where
  ne : X + Z ≠ 0
  eq : X - Z = P.y * (X + Z)
theorem DD_ne1 : DD ≠ 1 := by unfold DD; decide +kernel
theorem dy_ne (y : Fp) : 1 - DD * (y * y) ≠ 0 := fun h => by
  have h1 : (1 : Fp) * 1 = DD * (y * y) := by grobner
  have h2 := nosq h1
  subst h2
  have h3 : (1 : Fp) = 0 := by grobner
  exact absurd h3 (by decide)
theorem dbl_y (P : Pt) : (add P P).y * (1 - 2 * DD * (P.y * P.y) + DD * (P.y * P.y * (P.y * P.y))) = 2 * (P.y * P.y) - 1 - DD * (P.y * P.y * (P.y * P.y)) := by
  have h := add_y P P
  have ho := P.on
  generalize (add P P).y = w at *
  generalize P.x = x at *
  generalize P.y = y at *
  generalize DD = d at *
  grobner
theorem dbl_ne (P : Pt) : 1 - 2 * DD * (P.y * P.y) + DD * (P.y * P.y * (P.y * P.y)) ≠ 0 := fun h => by
  have h1 := mul_ne (den_m P P) (dy_ne P.y)
  have ho := P.on
  apply h1
  generalize P.x = x at *
  generalize P.y = y at *
  generalize DD = d at *
  grobner
theorem rep_dbl {X Z : Fp} {P : Pt} (h : Rep X Z P) :
    Rep ((X + Z) * (X + Z) * ((X - Z) * (X - Z))) (((X + Z) * (X + Z) - (X - Z) * (X - Z)) * ((X + Z) * (X + Z) + 121665 * ((X + Z) * (X + Z) - (X - Z) * (X - Z)))) (add P P) := by
  have h1 := h.ne
  have h2 := h.eq
  have hy := dbl_y P
  have hn := dbl_ne P
  have hc := DD_c
  rw [h2]
  generalize X + Z = A at *
  clear h2 h
  generalize hw : (add P P).y = w at hy
  generalize P.y = y at *
  generalize DD = d at *
  have e : A * A * (y * A * (y * A)) + (A * A - y * A * (y * A)) * (A * A + 121665 * (A * A - y * A * (y * A))) = A * A * (A * A) * (121666 * (1 - 2 * d * (y * y) + d * (y * y * (y * y)))) := by grobner
  constructor
  · rw [e]
    exact mul_ne (mul_ne (mul_ne h1 h1) (mul_ne h1 h1)) (mul_ne (by decide) hn)
  · rw [e, hw]
    clear e hw hn h1
    grobner
theorem diff_y {x1 y1 x2 y2 r U w d : Fp} (e1 : x1*x1+y1*y1 = 1 + d*(x1*x1*(y1*y1))) (e2 : x2*x2+y2*y2 = 1 + d*(x2*x2*(y2*y2)))
    (hw : w * (1 - d * (x1 * x2 * (y1 * y2))) = y1 * y2 - x1 * x2) (hr : r * (1 + d * (x1 * x2 * (y1 * y2))) = y1 * y2 + x1 * x2)
    (hU : U * (1 - r) = 1 + r) (n1 : 1 - d * (x1 * x2 * (y1 * y2)) ≠ 0) (n2 : 1 + d * (x1 * x2 * (y1 * y2)) ≠ 0) (n3 : 1 - r ≠ 0) :
    (y2 + y1) * (y2 + y1) * (1 - w) = U * ((y2 - y1) * (y2 - y1)) * (1 + w) := by
  have k : (1 - d*(x1*x2*(y1*y2)) + y1*y2 - x1*x2)*(1 + d*(x1*x2*(y1*y2)) + y1*y2+x1*x2)*((y2-y1)*(y2-y1)) = (1 - d*(x1*x2*(y1*y2)) - y1*y2 + x1*x2)*(1 + d*(x1*x2*(y1*y2)) - y1*y2-x1*x2)*((y2+y1)*(y2+y1)) := by clear hw hr hU n1 n2 n3; grobner
  have a1 : 1 - d*(x1*x2*(y1*y2)) + y1*y2 - x1*x2 = (1 + w) * (1 - d * (x1 * x2 * (y1 * y2))) := by clear e1 e2 hr hU n1 n2 n3 k; grobner
  have a2 : 1 + d*(x1*x2*(y1*y2)) + y1*y2+x1*x2 = (1 + r) * (1 + d * (x1 * x2 * (y1 * y2))) := by clear e1 e2 hw hU n1 n2 n3 k; grobner
  have a3 : 1 - d*(x1*x2*(y1*y2)) - y1*y2 + x1*x2 = (1 - w) * (1 - d * (x1 * x2 * (y1 * y2))) := by clear e1 e2 hr hU n1 n2 n3 k; grobner
  have a4 : 1 + d*(x1*x2*(y1*y2)) - y1*y2-x1*x2 = (1 - r) * (1 + d * (x1 * x2 * (y1 * y2))) := by clear e1 e2 hw hU n1 n2 n3 k; grobner
  rw [a1, a2, a3, a4] at k
  apply cancel (mul_ne (mul_ne n1 n2) n3)
  clear e1 e2 hw hr a1 a2 a3 a4
  generalize 1 - d * (x1 * x2 * (y1 * y2)) = B at *
  generalize 1 + d * (x1 * x2 * (y1 * y2)) = C at *
  rw [← hU] at k
  grobner
theorem rep_diff {X2 Z2 X3 Z3 U : Fp} {P Q R : Pt} (h2 : Rep X2 Z2 P) (h3 : Rep X3 Z3 Q) (hd : R.y * (1 + DD * (P.x * Q.x * (P.y * Q.y))) = P.y * Q.y + P.x * Q.x)
    (hU : U * (1 - R.y) = 1 + R.y) (n3 : 1 - R.y ≠ 0) (n4 : 1 + R.y ≠ 0) :
    Rep (((X3 - Z3) * (X2 + Z2) + (X3 + Z3) * (X2 - Z2)) * ((X3 - Z3) * (X2 + Z2) + (X3 + Z3) * (X2 - Z2))) (U * (((X3 - Z3) * (X2 + Z2) - (X3 + Z3) * (X2 - Z2)) * ((X3 - Z3) * (X2 + Z2) - (X3 + Z3) * (X2 - Z2)))) (add P Q) := by
  have key := diff_y P.on Q.on (add_y P Q) hd hU (den_m P Q) (den_p P Q) n3
  have p1 := h2.ne
  have p2 := h3.ne
  have oP := P.on
  have oQ := Q.on
  have nU : U ≠ 0 := fun e => n4 (by rw [← hU, e]; grobner)
  rw [h2.eq, h3.eq]
  clear h2 h3
  generalize X2 + Z2 = A2 at *
  generalize X3 + Z3 = A3 at *
  have hy : ¬ (P.y = 0 ∧ Q.y = 0) := by
    rintro ⟨hp, hq⟩
    rw [hp] at oP hd
    rw [hq] at oQ hd
    have h5 : (1 - R.y) * (1 + R.y) = 0 := by
      generalize P.x = x at *
      generalize Q.x = x' at *
      generalize R.y = r at *
      generalize DD = d at *
      clear key hU
      grobner
    exact mul_ne n3 n4 h5
  clear hd oP oQ
  generalize hw : (add P Q).y = w at key
  generalize P.y = y1 at *
  generalize Q.y = y2 at *
  have e1 : (y2 * A3 * A2 + A3 * (y1 * A2)) * (y2 * A3 * A2 + A3 * (y1 * A2)) = A3 * A2 * (A3 * A2) * ((y2 + y1) * (y2 + y1)) := by grobner
  have e2 : U * ((y2 * A3 * A2 - A3 * (y1 * A2)) * (y2 * A3 * A2 - A3 * (y1 * A2))) = A3 * A2 * (A3 * A2) * (U * ((y2 - y1) * (y2 - y1))) := by grobner
  rw [e1, e2]
  have hk := mul_ne (mul_ne p2 p1) (mul_ne p2 p1)
  generalize A3 * A2 * (A3 * A2) = k at *
  clear e1 e2
  constructor
  · intro h
    have h1 : k * ((y2 + y1) * (y2 + y1) + U * ((y2 - y1) * (y2 - y1))) = 0 := by grobner
    have h2 : (y2 + y1) * (y2 + y1) + U * ((y2 - y1) * (y2 - y1)) = 0 := (mul_zero' h1).resolve_left hk
    have h3 : 2 * ((y2 + y1) * (y2 + y1)) = 0 := by grobner
    have h4 : y2 + y1 = 0 := by rcases mul_zero' ((mul_zero' h3).resolve_left two_ne) with h | h <;> exact h
    have h5 : U * ((y2 - y1) * (y2 - y1)) = 0 := by grobner
    have h6 : y2 - y1 = 0 := by rcases mul_zero' ((mul_zero' h5).resolve_left nU) with h | h <;> exact h
    have h7 : 2 * y1 = 0 := by grobner
    have h8 := (mul_zero' h7).resolve_left two_ne
    exact hy ⟨h8, by grobner⟩
  · rw [hw]
    clear hw hy p1 p2 nU n3 n4 hU hk
    grobner
theorem near_y (P R : Pt) : R.y * (1 + DD * (P.x * (add P R).x * (P.y * (add P R).y))) = P.y * (add P R).y + P.x * (add P R).x := by
  have h := add_y (neg P) (add P R)
  rw [show add (neg P) (add P R) = R by rw [← add_assoc', add_comm' (neg P) P, add_neg, add_comm', add_O], show (neg P).x = 0 - P.x from rfl, show (neg P).y = P.y from rfl] at h
  generalize (add P R).x = a at *
  generalize (add P R).y = b at *
  generalize P.x = x at *
  generalize P.y = y at *
  generalize DD = d at *
  grobner
theorem near_y' (P R : Pt) : R.y * (1 + DD * ((add P R).x * P.x * ((add P R).y * P.y))) = (add P R).y * P.y + (add P R).x * P.x := by
  have h := near_y P R
  generalize (add P R).x = a at *
  generalize (add P R).y = b at *
  generalize P.x = x at *
  generalize P.y = y at *
  generalize DD = d at *
  grobner
def toF (z : Int) : Fp := ⟨(z % PP).toNat, by have := pp_range z; have e : PP = ((pN : Nat) : Int) := rfl; omega⟩
theorem toF_val (z : Int) : ((toF z).val : Int) = z % PP := by
  have := pp_range z
  show (((z % PP).toNat : Nat) : Int) = _
  omega
theorem val_inj {a b : Fp} (h : (a.val : Int) = (b.val : Int)) : a = b := Fin.ext (by omega)
theorem toF_add (a b : Int) : toF (a + b) = toF a + toF b := by
  apply val_inj
  rw [Fin.val_add, Int.natCast_emod, Int.natCast_add, toF_val, toF_val, toF_val]
  exact Int.add_emod a b PP
theorem toF_mul (a b : Int) : toF (a * b) = toF a * toF b := by
  apply val_inj
  rw [Fin.val_mul, Int.natCast_emod, Int.natCast_mul, toF_val, toF_val, toF_val]
  exact Int.mul_emod a b PP
theorem toF_sub (a b : Int) : toF (a - b) = toF a - toF b := by
  have h : toF (a - b) + toF b = toF a := by rw [← toF_add, Int.sub_add_cancel]
  grobner
theorem toF_eq {a b : Int} (h : a % PP = b % PP) : toF a = toF b := val_inj (by rw [toF_val, toF_val, h])
theorem eq_toF {a b : Int} (h : toF a = toF b) : a % PP = b % PP := by rw [← toF_val, ← toF_val, h]
theorem toF_mod (a : Int) : toF (a % PP) = toF a := toF_eq (Int.emod_emod_of_dvd _ (Int.dvd_refl _))
theorem toF_0 : toF 0 = 0 := by decide +kernel
theorem toF_1 : toF 1 = 1 := by decide +kernel
theorem toF_c : toF 121665 = 121665 := by decide +kernel
theorem toF_zero {a : Int} (h : PP ∣ a) : toF a = 0 := by rw [← toF_0]; exact toF_eq (by rw [Int.emod_eq_zero_of_dvd h]; rfl)
theorem toF_ne {a : Int} (h : toF a ≠ 0) : ¬ a % PP = 0 := fun e => h (by rw [← toF_0]; exact toF_eq (by rw [e]; rfl))
def bitN (K : List Int) (i : Nat) : Nat := (bitE K i).toNat
def numN (K : List Int) : Nat → Nat
  | 0 => 0
  | i + 1 => 2 * numN K i + bitN K i
structure Lad (v : VS) (n : Nat) (R : Pt) : Prop where
  st : (v.last = 0 ∧ Rep (toF v.px) (toF v.pz) (mul n R) ∧ Rep (toF v.qx) (toF v.qz) (mul (n + 1) R)) ∨
    (v.last = 1 ∧ Rep (toF v.px) (toF v.pz) (mul (n + 1) R) ∧ Rep (toF v.qx) (toF v.qz) (mul n R))
structure Base (U : Int) (R : Pt) : Prop where
  u : toF U * (1 - R.y) = 1 + R.y
  n3 : 1 - R.y ≠ 0
  n4 : 1 + R.y ≠ 0
theorem step_p {U px pz qx qz bt : Int} {P : Pt} (h : Rep (toF px) (toF pz) P) : Rep (toF (vStep U px pz qx qz bt).px) (toF (vStep U px pz qx qz bt).pz) (add P P) := by
  have := rep_dbl h
  rw [vStep_px, vStep_pz]
  simp only [toF_mul, toF_add, toF_sub, toF_c]
  exact this
theorem step_q {U px pz qx qz bt : Int} {P Q R : Pt} (hb : Base U R) (h : Rep (toF px) (toF pz) P) (h' : Rep (toF qx) (toF qz) Q) (hd : R.y * (1 + DD * (P.x * Q.x * (P.y * Q.y))) = P.y * Q.y + P.x * Q.x) :
    Rep (toF (vStep U px pz qx qz bt).qx) (toF (vStep U px pz qx qz bt).qz) (add P Q) := by
  have := rep_diff h h' hd hb.u hb.n3 hb.n4
  rw [vStep_qx, vStep_qz]
  simp only [toF_mul, toF_add, toF_sub]
  exact this
theorem step_up {U px pz qx qz bt : Int} {R : Pt} {n : Nat} (hb : Base U R) (h : Rep (toF px) (toF pz) (mul n R)) (h' : Rep (toF qx) (toF qz) (mul (n + 1) R)) (ht : bt = 0) : Lad (vStep U px pz qx qz bt) (2 * n) R := by
  refine ⟨.inl ⟨by rw [vStep_last, ht], ?_, ?_⟩⟩
  · have := step_p (U := U) (qx := qx) (qz := qz) (bt := bt) h
    rw [← mul_add, ← Nat.two_mul] at this
    exact this
  · have := step_q (bt := bt) hb h h' (near_y _ _)
    rw [← mul_add, show n + (n + 1) = 2 * n + 1 by omega] at this
    exact this
theorem step_down {U px pz qx qz bt : Int} {R : Pt} {n : Nat} (hb : Base U R) (h : Rep (toF px) (toF pz) (mul (n + 1) R)) (h' : Rep (toF qx) (toF qz) (mul n R)) (ht : bt = 1) : Lad (vStep U px pz qx qz bt) (2 * n + 1) R := by
  refine ⟨.inr ⟨by rw [vStep_last, ht], ?_, ?_⟩⟩
  · have := step_p (U := U) (qx := qx) (qz := qz) (bt := bt) h
    rw [← mul_add, show n + 1 + (n + 1) = 2 * n + 1 + 1 by omega] at this
    exact this
  · have := step_q (bt := bt) hb h h' (near_y' _ _)
    rw [← mul_add, show n + 1 + n = 2 * n + 1 by omega] at this
    exact this
theorem lad {K : List Int} (hK : Byt K) {U : Int} {R : Pt} (hb : Base U R) : ∀ k, Lad (vI K U k) (numN K k) R
  | 0 => by
    rw [vI_0]
    refine ⟨.inl ⟨rfl, ?_, ?_⟩⟩
    · show Rep (toF 1) (toF 0) O
      rw [toF_1, toF_0]
      exact ⟨by decide, by show (1 : Fp) - 0 = 1 * (1 + 0); grobner⟩
    · show Rep (toF U) (toF 1) (mul 1 R)
      have hu := hb.u
      rw [toF_1, mul_one']
      generalize toF U = u at *
      refine ⟨fun h => ?_, by grobner⟩
      have h2 : (2 : Fp) = 0 := by grobner
      exact two_ne h2
  | k + 1 => by
    have ih := (lad hK hb k).st
    have h01 := bitE_01 hK k
    rw [vI_s]
    show Lad _ (2 * numN K k + bitN K k) R
    rcases h01 with h0 | h1
    · have eb : bitN K k = 0 := by unfold bitN; rw [h0]; rfl
      rw [eb]
      rcases ih with ⟨hl, hp, hq⟩ | ⟨hl, hp, hq⟩
      · rw [if_pos (by rw [h0, hl])]; exact step_up hb hp hq h0
      · rw [if_neg (by rw [h0, hl]; decide)]; exact step_up hb hq hp h0
    · have eb : bitN K k = 1 := by unfold bitN; rw [h1]; rfl
      rw [eb]
      rcases ih with ⟨hl, hp, hq⟩ | ⟨hl, hp, hq⟩
      · rw [if_neg (by rw [h1, hl]; decide)]; exact step_down hb hq hp h1
      · rw [if_pos (by rw [h1, hl])]; exact step_down hb hp hq h1
def uu (P : Pt) : Fp := if P.y = 1 then 0 else (1 + P.y) * finv (1 - P.y)
theorem uu_one {P : Pt} (h : P.y = 1) : uu P = 0 := if_pos h
theorem sub_ne {y : Fp} (h : y ≠ 1) : 1 - y ≠ 0 := fun e => h (by grobner)
theorem uu_eq {P : Pt} (h : P.y ≠ 1) : uu P * (1 - P.y) = 1 + P.y := by
  unfold uu
  rw [if_neg h]
  have := finv_ok (sub_ne h)
  generalize finv (1 - P.y) = i at *
  grobner
theorem uu_low {P : Pt} (h : P.y * P.y = 1) : uu P = 0 := by
  by_cases h1 : P.y = 1
  · exact uu_one h1
  · have h2 := uu_eq h1
    have h3 := sub_ne h1
    have h4 : (1 - P.y) * (1 + P.y) = 0 := by grobner
    have h5 := (mul_zero' h4).resolve_left h3
    exact (mul_zero' (show uu P * (1 - P.y) = 0 by rw [h2, h5])).resolve_right h3
theorem low_uu {P : Pt} (h : uu P = 0) : P.y * P.y = 1 := by
  by_cases h1 : P.y = 1
  · rw [h1]; grobner
  · have h2 := uu_eq h1
    rw [h] at h2
    grobner
theorem dbl_low {P : Pt} (h : P.y * P.y = 1) : P.x = 0 ∧ add P P = O := by
  have ho := P.on
  have hx : P.x * P.x * (1 - DD) = 0 := by
    generalize P.x = x at *
    generalize P.y = y at *
    generalize DD = d at *
    grobner
  have hd : 1 - DD ≠ 0 := fun e => DD_ne1 (by generalize DD = d at *; grobner)
  have h0 : P.x = 0 := by rcases mul_zero' ((mul_zero' hx).resolve_right hd) with h | h <;> exact h
  refine ⟨h0, Pt.ext' ?_ ?_⟩
  · have := add_x P P
    rw [h0] at this
    show (add P P).x = 0
    generalize (add P P).x = a at *
    generalize P.y = y at *
    generalize DD = d at *
    grobner
  · have := add_y P P
    rw [h0] at this
    show (add P P).y = 1
    generalize (add P P).y = a at *
    generalize P.y = y at *
    generalize DD = d at *
    grobner
theorem mul_low {P : Pt} (h : P.y * P.y = 1) : ∀ n, (mul n P).y * (mul n P).y = 1
  | 0 => by show (1 : Fp) * 1 = 1; grobner
  | n + 1 => by
    have ih := mul_low h n
    have h0 := (dbl_low h).1
    have hy := add_y (mul n P) P
    show (add (mul n P) P).y * (add (mul n P) P).y = 1
    rw [h0] at hy
    generalize (add (mul n P) P).y = a at *
    generalize (mul n P).y = b at *
    generalize (mul n P).x = e at *
    generalize P.y = y at *
    generalize DD = d at *
    grobner
theorem rep_uu {px pz : Int} {P : Pt} (h : Rep (toF px) (toF pz) P) : toF (px * invV pz 255) = uu P := by
  have h1 := h.ne
  have h2 := h.eq
  rw [toF_mul]
  by_cases hy : P.y = 1
  · rw [uu_one hy]
    rw [hy] at h2
    have h3 : 2 * toF pz = 0 := by grobner
    have h4 := (mul_zero' h3).resolve_left two_ne
    have h5 : pz % PP = 0 := by have := eq_toF (h4.trans toF_0.symm); rw [this]; rfl
    rw [show toF (invV pz 255) = 0 by rw [← toF_0]; exact toF_eq (by rw [inv_zero h5]; rfl)]
    grobner
  · have h3 := uu_eq hy
    have hz : toF pz ≠ 0 := fun e => by
      rw [e] at h1 h2
      have h4 : (1 - P.y) * (toF px + 0) = 0 := by grobner
      exact mul_ne (sub_ne hy) h1 h4
    have hi : toF pz * toF (invV pz 255) = 1 := by rw [← toF_mul, ← toF_1]; exact toF_eq (inv_one (toF_ne hz))
    apply cancel (sub_ne hy)
    rw [h3]
    generalize toF (invV pz 255) = i at *
    generalize toF pz = z at *
    generalize toF px = x at *
    generalize P.y = y at *
    clear h1 hy hz
    grobner
theorem vX_nil {K : List Int} {U : Int} (hU : PP ∣ U) : toF (vX K U) = 0 := by
  have h := low_nil hU (K := K) 255
  have key : ∀ a b : Int, PP ∣ a * b → toF (a * invV b 255) = 0 := by
    intro a b hab
    have h1 := toF_zero hab
    rw [toF_mul] at h1 ⊢
    rcases mul_zero' h1 with h2 | h2
    · rw [h2]; grobner
    · have h5 : b % PP = 0 := by have := eq_toF (h2.trans toF_0.symm); rw [this]; rfl
      rw [show toF (invV b 255) = 0 by rw [← toF_0]; exact toF_eq (by rw [inv_zero h5]; rfl)]
      grobner
  unfold vX
  split
  · exact key _ _ h.1
  · exact key _ _ h.2
theorem X_uu {K : List Int} (hK : Byt K) {U : Int} {R : Pt} (hU : toF U = uu R) : toF (vX K U) = uu (mul (numN K 255) R) := by
  by_cases hy : R.y * R.y = 1
  · rw [uu_low (mul_low hy _)]
    rw [uu_low hy] at hU
    exact vX_nil (Int.dvd_of_emod_eq_zero (by have := eq_toF (hU.trans toF_0.symm); rw [this]; rfl))
  · have h1 : R.y ≠ 1 := fun e => hy (by rw [e]; grobner)
    have n4 : 1 + R.y ≠ 0 := fun e => hy (by generalize R.y = r at *; grobner)
    have hb : Base U R := ⟨by rw [hU]; exact uu_eq h1, sub_ne h1, n4⟩
    rcases (lad hK hb 255).st with ⟨hl, hp, _⟩ | ⟨hl, _, hq⟩
    · rw [vX, if_pos hl]; exact rep_uu hp
    · rw [vX, if_neg (by rw [hl]; decide)]; exact rep_uu hq
@[irreducible] def x0 : Fp := 9771384041963202563870679428059935816164187996444183106833894008023910952347
@[irreducible] def y0 : Fp := 46316835694926478169428394003475163141307993866256225615783033603165251855960
theorem on0 : x0 * x0 + y0 * y0 = 1 + DD * (x0 * x0 * (y0 * y0)) := by unfold x0 y0 DD; decide +kernel
def P0 : Pt := ⟨x0, y0, on0⟩
theorem y0_ne : y0 ≠ 1 := by unfold y0; decide +kernel
theorem y0_ne' : 1 + y0 ≠ 0 := by unfold y0; decide +kernel
theorem nine : toF 9 * (1 - y0) = 1 + y0 := by unfold y0; decide +kernel
theorem base0 : Base 9 P0 := ⟨nine, sub_ne y0_ne, y0_ne'⟩
theorem uu9 : toF 9 = uu P0 := by
  apply cancel (sub_ne (y := P0.y) y0_ne)
  rw [uu_eq (P := P0) y0_ne]
  exact nine
abbrev lN : Nat := 7237005577332262213973186563042994240857116359379907606001950938285454250989
@[irreducible] def lK : List Int := [237, 211, 245, 92, 26, 99, 18, 88, 214, 156, 247, 162, 222, 249, 222, 20, 0, 0, 0, 0, 0, 0, 0, 0, 0, 0, 0, 0, 0, 0, 0, 16]
theorem lK_len : lK.length = 32 := by unfold lK; rfl
theorem lK_byt : Byt lK := by
  intro j
  by_cases hj : j < 32
  · have h : ∀ j, j < 32 → 0 ≤ gi lK j ∧ gi lK j < 256 := by unfold lK; decide +kernel
    exact h j hj
  · rw [gi_over lK j (by rw [lK_len]; omega)]; omega
theorem lK_num : numN lK 255 = lN := by unfold lK; decide +kernel
theorem lK_last : (mI lK 9 255).last = 1 := by unfold lK; decide +kernel
theorem lK_z : (mI lK 9 255).qz % PP = 0 := by unfold lK; decide +kernel
theorem rep_O {X : Fp} {P : Pt} (h : Rep X 0 P) : P = O := by
  have h1 := h.ne
  have h2 := h.eq
  have h3 : (1 - P.y) * (X + 0) = 0 := by generalize P.y = y at *; grobner
  have h4 := (mul_zero' h3).resolve_right h1
  have hy : P.y = 1 := by generalize P.y = y at *; grobner
  exact Pt.ext' (dbl_low (P := P) (by rw [hy]; grobner)).1 hy
theorem order : mul lN P0 = O := by
  have h := (lad lK_byt base0 255).st
  have hm := mI_ok lK 9 255
  rw [lK_num] at h
  rcases h with ⟨hl, _, _⟩ | ⟨hl, _, hq⟩
  · rw [hm.last, lK_last] at hl; cases hl
  · have hz : toF (vI lK 9 255).qz = 0 := by rw [← toF_0]; exact toF_eq (by rw [hm.qz.e, lK_z]; rfl)
    rw [hz] at hq
    exact rep_O hq
theorem mul_gen {p m : Nat} {P : Pt} (hp : Pri p) (h1 : mul p P = O) (h2 : mul m P = O) (hm : ¬ p ∣ m) : P = O := by
  obtain ⟨t, ht⟩ : ∃ t, m * t % p = 1 := by
    obtain ⟨e, he⟩ : ∃ e, e + 2 = p := ⟨p - 2, by have := hp.1; omega⟩
    exact ⟨_, inv_gen hp he (Nat.lt_two_pow_self (n := p)) hm⟩
  have h3 := Nat.mod_add_div (m * t) p
  rw [ht] at h3
  have h4 : mul (m * t) P = O := by rw [← mul_mul', h2, mul_O]
  have h5 : mul (p * (m * t / p)) P = O := by rw [← mul_mul', h1, mul_O]
  rw [← h3, Nat.add_comm, mul_add, h5, mul_one', add_comm', add_O] at h4
  exact h4
theorem P0_ne : P0 ≠ O := fun h => y0_ne (show P0.y = 1 by rw [h]; rfl)
theorem clamp_hi : ∀ n, n < 256 → ((n &&& 127) ||| 64) / 64 = 1 := by decide +kernel
theorem clamp_bits : ∀ n : Nat, n < 256 → bits .or .u8 (bits .and .u8 (n : Int) 127) 64 = (((n &&& 127) ||| 64 : Nat) : Int) := by decide +kernel
theorem clampL_31 {k : List Int} (hl : k.length = 32) (h : 0 ≤ gi k 31 ∧ gi k 31 < 256) : gi (clampL k) 31 / 64 = 1 := by
  obtain ⟨n, hn⟩ := Int.eq_ofNat_of_zero_le h.1
  have e : gi (clampL k) 31 = bits .or .u8 (bits .and .u8 (gi k 31) 127) 64 := by
    unfold clampL gi
    rw [List.getD_eq_getElem?_getD, List.getElem?_set_self (by simp; omega)]
    exact congrArg (fun z => bits .or .u8 (bits .and .u8 z 127) 64) (gi_upd k 0 _ 31 (by decide))
  rw [e, hn, clamp_bits n (by omega)]
  have := clamp_hi n (by omega)
  omega
theorem num_pos {K : List Int} (h : bitE K 0 = 1) : ∀ k, 0 < numN K (k + 1)
  | 0 => by show 0 < 2 * 0 + bitN K 0; unfold bitN; rw [h]; decide
  | k + 1 => by
    have ih := num_pos h k
    show 0 < 2 * numN K (k + 1) + bitN K (k + 1)
    omega
theorem num_lt {K : List Int} (hK : Byt K) : ∀ k, numN K k < 2 ^ k
  | 0 => Nat.one_pos
  | k + 1 => by
    have ih := num_lt hK k
    have hb : bitN K k ≤ 1 := by unfold bitN; rcases bitE_01 hK k with h | h <;> rw [h] <;> decide
    show 2 * numN K k + bitN K k < 2 ^ (k + 1)
    rw [Nat.pow_succ]
    omega
theorem num_clamp {K : List Int} (hK : Byt K) (h2 : bitE K 252 = 0) (h3 : bitE K 253 = 0) (h4 : bitE K 254 = 0) (h0 : bitE K 0 = 1) : ∃ n, numN K 255 = 8 * n ∧ 0 < n ∧ n < 2 ^ 252 := by
  refine ⟨numN K 252, ?_, num_pos h0 251, num_lt hK 252⟩
  have e : numN K 255 = 2 * (2 * (2 * numN K 252 + bitN K 252) + bitN K 253) + bitN K 254 := rfl
  unfold bitN at e
  rw [h2, h3, h4] at e
  rw [e]
  simp
  omega
theorem l_ne {n : Nat} (h0 : 0 < n) (h1 : n < 2 ^ 252) : ¬ (8 * n) % lN = 0 := fun h => by
  rcases mod_zero pri_l h with h2 | h2
  · exact absurd h2 (by decide)
  · rw [Nat.mod_eq_of_lt (Nat.lt_trans h1 (by decide))] at h2; omega
theorem both_ne {m n : Nat} (hm : ¬ m % lN = 0) (hn : ¬ n % lN = 0) : uu (mul (m * n) P0) ≠ 0 := fun h => by
  have h1 := (dbl_low (low_uu h)).2
  rw [← mul_add] at h1
  refine P0_ne (mul_gen pri_l order h1 fun hd => ?_)
  have h2 : 2 * (m * n) % lN = 0 := by rw [Nat.two_mul]; exact Nat.mod_eq_zero_of_dvd hd
  rcases mod_zero pri_l h2 with h3 | h3
  · exact absurd h3 (by decide)
  · rcases mod_zero pri_l h3 with h4 | h4
    · exact hm h4
    · exact hn h4
end Ed
end
section
open Go Go.RowKit
namespace Ed
open Low
theorem v32_le (v : Int) : v32 (le32 (v % PP)) % H255 = v % PP := by
  have h := (le32_p v).2.2
  have hp := pp_range v
  rw [show v32 (le32 (v % PP)) = v % PP from h]
  exact Int.emod_eq_of_lt hp.1 (Int.lt_trans hp.2.1 (by decide))
@[irreducible] def kN (k : List Int) : Nat := numN (clampL k) 255
structure IsP (b : List Int) (R : Pt) : Prop where
  e : toF (v32 b % H255) = uu R
theorem isP_le {z : Int} {R : Pt} (h : toF z = uu R) : IsP (le32 (z % PP)) R := ⟨by rw [v32_le, toF_mod, h]⟩
theorem base9_num : v32 base9 % H255 = 9 := by unfold base9; decide +kernel
theorem isP_X {k b : List Int} {R : Pt} (hk : Byt (clampL k)) (h : IsP b R) : IsP (shX k b) (mul (kN k) R) := by
  unfold shX kN
  exact isP_le (X_uu hk h.e)
theorem isP_pub {k : List Int} (hk : Byt (clampL k)) : IsP (le32 (pubV k)) (mul (kN k) P0) := by
  unfold pubV kN
  exact isP_le (X_uu hk (by rw [base9_num]; exact uu9))
theorem shX_is {k b : List Int} {R : Pt} (hk : Byt (clampL k)) (h : IsP b R) : shX k b = le32 ((uu (mul (kN k) R)).val : Int) := by
  unfold shX kN
  rw [← X_uu hk h.e, toF_val]
theorem both_eq {a b : List Int} (ha : Byt (clampL a)) (hb : Byt (clampL b)) : shX a (le32 (pubV b)) = shX b (le32 (pubV a)) := by
  rw [shX_is ha (isP_pub hb), shX_is hb (isP_pub ha), mul_mul', mul_mul', Nat.mul_comm]
theorem bitE_hi {K : List Int} (hK : Byt K) (h : gi K 31 / 64 = 1) : bitE K 0 = 1 := by
  have hb := hK 31
  unfold bitE
  rw [show (254 - 0) / 8 = 31 from rfl, show (2 : Int) ^ min (((254 : Int) - ((0 : Nat) : Int)).tmod 8).toNat IntKind.u8.bits = 64 from by decide, Int.fdiv_eq_ediv_of_nonneg _ (by omega), u8_bit (by omega) (by omega)]
  omega
theorem bitE_2 {K : List Int} (hK : Byt K) (h : gi K 0 % 8 = 0) : bitE K 252 = 0 := by
  have hb := hK 0
  unfold bitE
  rw [show (254 - 252) / 8 = 0 from rfl, show (2 : Int) ^ min (((254 : Int) - ((252 : Nat) : Int)).tmod 8).toNat IntKind.u8.bits = 4 from by decide, Int.fdiv_eq_ediv_of_nonneg _ (by omega), u8_bit (by omega) (by omega)]
  omega
theorem kN_l {k : List Int} (hk : Bytes32 k) (hb : Byt (clampL k)) : ¬ kN k % lN = 0 := by
  have h0 := clampL_0 hk.1 (hk.2 0 (by omega))
  have h31 := clampL_31 hk.1 (hk.2 31 (by omega))
  have hl := bitE_low hb h0
  obtain ⟨n, hn, h1, h2⟩ := num_clamp hb (bitE_2 hb h0) hl.2 hl.1 (bitE_hi hb h31)
  unfold kN
  rw [hn]
  exact l_ne h1 h2
theorem both_ok {a b : List Int} (ha : Bytes32 a) (hb : Bytes32 b) (ka : Byt (clampL a)) (kb : Byt (clampL b)) : shN a (le32 (pubV b)) = 0 := by
  unfold shN
  rw [if_neg]
  intro h
  have h1 := (isP_X ka (isP_pub kb)).e
  rw [h, show v32 (List.replicate 32 0) % H255 = 0 by decide +kernel, toF_0, mul_mul'] at h1
  exact both_ne (kN_l hb kb) (kN_l ha ka) h1.symm
end Ed
end
end Go.Proofs.Ytdjecenggngdjaa
