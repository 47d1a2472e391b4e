/-
  The document's tag as a number: products, blocks, the least number, the sum with s. Plain maths, no conditions.
-/
import Derived.Test.YthbmlpiplfbehaaPolyM
namespace Go.Proofs.Ythbmlpiplfbehaa
set_option linter.unusedSimpArgs false
set_option linter.unusedVariables false
open Go Go.RowKit
namespace Sp

/-! ### Products -/
structure Bd (o : List Int) (M : Int) : Prop where
  l : o.length = 17
  b : ∀ j, 0 ≤ gi o j ∧ gi o j < M
structure B17 (a : List Int) : Prop where
  l : a.length = 17
  b : ∀ j, 0 ≤ gi a j ∧ gi a j < 256
theorem bd_set {o : List Int} {M v : Int} (h : Bd o M) (j : Nat) (h0 : 0 ≤ v) (h1 : v < M + 33554432) : Bd (o.set j v) (M + 33554432) := by
  refine ⟨by simp [h.l], fun i => ?_⟩
  have hi := h.b i
  by_cases hj : i = j
  · subst hj
    by_cases hl : i < o.length
    · rw [gi_same _ _ _ hl]; omega
    · rw [gi_over _ _ (by simp; omega)]; omega
  · rw [gi_upd _ _ _ _ hj]; omega
theorem prod_lt {x y : Int} (hx : 0 ≤ x ∧ x < 256) (hy : 0 ≤ y ∧ y < 256) : 0 ≤ x * y ∧ x * y < 65536 := by
  have h1 := Int.mul_nonneg hx.1 hy.1
  have h2 : x * y ≤ 255 * 255 := Int.mul_le_mul (by omega) (by omega) hy.1 (by decide)
  omega
theorem p17 : (256 : Int) ^ 17 = 320 + QP * 64 := by decide
theorem tmS_val {a b o : List Int} {M : Int} {i k : Nat} (ha : B17 a) (hb : B17 b) (ho : Bd o M) (hM : M ≤ 1099511627776) (hi : i < 17) (hk : k < 17) :
    Bd (tmS a b i k o) (M + 33554432) ∧ nv (tmS a b i k o) % QP = (nv o + gi a i * 256 ^ i * (gi b k * 256 ^ k)) % QP := by
  have hp := prod_lt (ha.b i) (hb.b k)
  have hl := ho.l
  unfold tmS
  by_cases hc : i + k < 17
  · have ho1 := ho.b (i + k)
    rw [if_pos hc, wrap_in (x := gi a i * gi b k) (by omega) (by omega), wrap_in (by omega) (by omega)]
    refine ⟨bd_set ho _ (by omega) (by omega), ?_⟩
    unfold nv
    rw [sumN_set hc (by omega), Int.pow_add]
    congr 1
    grind
  · have ho1 := ho.b (i + k - 17)
    rw [if_neg hc, wrap_in (x := 320 * gi a i) (by have := ha.b i; omega) (by have := ha.b i; omega), Int.mul_assoc, wrap_in (x := 320 * (gi a i * gi b k)) (by omega) (by omega), wrap_in (by omega) (by omega)]
    refine ⟨bd_set ho _ (by omega) (by omega), ?_⟩
    unfold nv
    rw [sumN_set (by omega) (by omega)]
    have e : (256 : Int) ^ i * 256 ^ k = 256 ^ 17 * 256 ^ (i + k - 17) := by rw [← Int.pow_add, ← Int.pow_add]; congr 1; omega
    rw [show sumN 256 (gi o) 17 + gi a i * 256 ^ i * (gi b k * 256 ^ k) = sumN 256 (gi o) 17 + (gi o (i + k - 17) + 320 * (gi a i * gi b k) - gi o (i + k - 17)) * 256 ^ (i + k - 17) + QP * (64 * (gi a i * gi b k) * 256 ^ (i + k - 17)) by
      have e2 : gi a i * 256 ^ i * (gi b k * 256 ^ k) = gi a i * gi b k * (256 ^ i * 256 ^ k) := by grind
      rw [e2, e, p17]; grind, Int.add_mul_emod_self_left]
theorem tmK_val {a b o : List Int} {M : Int} {n : Nat} (ha : B17 a) (hb : B17 b) (ho : Bd o M) (hM : M ≤ 17179869184) (hn : n < 17) : ∀ k, k ≤ 17 →
    Bd (tmK a b o n k) (M + k * 33554432) ∧ nv (tmK a b o n k) % QP = (nv o + gi a n * 256 ^ n * sumN 256 (gi b) k) % QP
  | 0, _ => by rw [tmK_0]; exact ⟨by simpa using ho, by simp [sumN]⟩
  | k + 1, hk => by
    obtain ⟨h1, h2⟩ := tmK_val ha hb ho hM hn k (by omega)
    obtain ⟨h3, h4⟩ := tmS_val ha hb h1 (by omega) hn (show k < 17 by omega)
    rw [tmK_s]
    refine ⟨⟨h3.l, fun j => by have := h3.b j; omega⟩, ?_⟩
    rw [h4, Int.add_emod, h2, ← Int.add_emod]
    congr 1
    simp only [sumN]
    grind
theorem zero_bd : Bd (List.replicate 17 0) 1 := ⟨by simp, fun j => by rw [gi_rep]; omega⟩
theorem nv_zero : nv (List.replicate 17 0) = 0 := sumN_zero 256 _ 17 (fun i _ => gi_rep 17 i)
theorem tmO_val {a b : List Int} (ha : B17 a) (hb : B17 b) : ∀ i, i ≤ 17 → Bd (tmO a b i) (1 + i * 570425344) ∧ nv (tmO a b i) % QP = (sumN 256 (gi a) i * nv b) % QP
  | 0, _ => by rw [tmO_0]; exact ⟨zero_bd, by rw [nv_zero]; simp [sumN]⟩
  | i + 1, hi => by
    obtain ⟨h1, h2⟩ := tmO_val ha hb i (by omega)
    obtain ⟨h3, h4⟩ := tmK_val (M := 1 + i * 570425344) ha hb h1 (by omega) (show i < 17 by omega) 17 (by omega)
    rw [tmO_s]
    refine ⟨⟨h3.l, fun j => by have := h3.b j; omega⟩, ?_⟩
    rw [h4, Int.add_emod, h2, ← Int.add_emod]
    congr 1
    show _ = (sumN 256 (gi a) i + gi a i * 256 ^ i) * sumN 256 (gi b) 17
    unfold nv
    grind
theorem Dig.b17 {a : List Int} (hl : a.length = 17) (h : Dig 256 (gi a) 17) : B17 a := ⟨hl, fun j => by
  by_cases hj : j < 17
  · exact h j hj
  · rw [gi_over _ _ (by omega)]; omega⟩
/-- A product's digits. -/
theorem tmR_val {a b : List Int} (ha : B17 a) (hb : B17 b) : B17 (tmR a b) ∧ 0 ≤ nv (tmR a b) ∧ nv (tmR a b) < 2 ^ 130 ∧ nv (tmR a b) % QP = nv a * nv b % QP := by
  obtain ⟨h1, h2⟩ := tmO_val ha hb 17 (by omega)
  obtain ⟨c1, c2, c3, c4, _⟩ := crN_nv (h := tmO a b 17) ⟨h1.l, fun j => by have := h1.b j; omega⟩
  unfold tmR
  exact ⟨Dig.b17 (by simp [h1.l]) c1, c2, c3, by rw [c4, h2]; rfl⟩

/-! ### r -/
/-- A byte of r: some bits are cleared. -/
def clB (x : Int) (i : Nat) : Int := (if i % 4 = 3 then x % 16 else x) - (if i = 4 ∨ i = 8 ∨ i = 12 then x % 4 else 0)
theorem clB_b {x : Int} (h : 0 ≤ x ∧ x < 256) (i : Nat) : 0 ≤ clB x i ∧ clB x i < 256 := by
  unfold clB
  split <;> split <;> omega
theorem rrS_val {K o : List Int} {i : Nat} (hK : Byts K) (hl : o.length = 17) (hi : i < 16) : rrS K i o = o.set i (clB (gi K i) i) := by
  have hk := hK i
  unfold rrS clB
  dsimp only
  rw [wrap_in (x := gi K i) (by omega) (by omega)]
  have hs : ∀ v, gi (o.set i v) i = v := fun v => gi_same _ _ _ (by omega)
  by_cases h3 : i % 4 = 3
  · rw [if_pos h3, if_pos h3, if_neg (by omega), if_neg (by omega), hs, Int.tmod_eq_emod_of_nonneg (by omega)]
    simp
  · rw [if_neg h3, if_neg h3]
    by_cases h4 : i = 4 ∨ i = 8 ∨ i = 12
    · rw [if_pos h4, if_pos h4, hs, Int.tmod_eq_emod_of_nonneg (by omega), wrap_in (by omega) (by omega)]
      simp
    · rw [if_neg h4, if_neg h4]
      simp
theorem rrI_val {K : List Int} (hK : Byts K) : ∀ n, n ≤ 16 → ∀ j, gi (rrI K n) j = if j < n then clB (gi K j) j else 0
  | 0, _, j => by rw [rrI_0, gi_rep]; simp
  | n + 1, hn, j => by
    rw [rrI_s, rrS_val hK (by simp) (by omega)]
    by_cases hj : j = n
    · subst hj
      rw [gi_same _ _ _ (by simp; omega), if_pos (by omega)]
    · rw [gi_upd _ _ _ _ hj, rrI_val hK n (by omega)]
      by_cases h : j < n
      · rw [if_pos h, if_pos (by omega)]
      · rw [if_neg h, if_neg (by omega)]
/-- r, and s, as numbers. -/
def rV (K : List Int) : Int := sumN 256 (fun i => clB (gi K i) i) 16
def sV (K : List Int) : Int := sumN 256 (fun i => gi K (16 + i)) 16
theorem rr_b17 {K : List Int} (hK : Byts K) : B17 (rrI K 16) := ⟨by simp, fun j => by
  rw [rrI_val hK 16 (by omega)]
  split
  · exact clB_b (hK j) j
  · omega⟩
theorem rr_nv {K : List Int} (hK : Byts K) : nv (rrI K 16) = rV K := by
  unfold nv rV
  show sumN 256 (gi (rrI K 16)) 16 + gi (rrI K 16) 16 * 256 ^ 16 = _
  rw [rrI_val hK 16 (by omega) 16, if_neg (by omega), sumN_congr (g := fun i => clB (gi K i) i) (fun i hi => by rw [rrI_val hK 16 (by omega), if_pos hi])]
  simp

/-! ### Blocks -/
/-- The number of bytes, 1 behind them. -/
def blkV (L : List Int) : Int := sumN 256 (gi L) L.length + 256 ^ L.length
/-- The block at a place. -/
def blk (B : List Int) (j : Nat) : List Int := (B.drop (16 * j)).take 16
theorem blk_length (B : List Int) (j : Nat) : (blk B j).length = min 16 (B.length - 16 * j) := by simp [blk]
theorem blk_gi (B : List Int) (j i : Nat) (h : i < 16) : gi (blk B j) i = gi B (16 * j + i) := by
  unfold gi blk
  rw [List.getD_eq_getElem?_getD, List.getD_eq_getElem?_getD, List.getElem?_take, if_pos h, List.getElem?_drop]
/-- The sum behind so many blocks, modulo 2^130 - 5. -/
def Hm (K B : List Int) : Nat → Int
  | 0 => 0
  | j + 1 => ((Hm K B j + blkV (blk B j)) * rV K) % QP
theorem taI_val {B h : List Int} {a : Nat} (hB : Byts B) (hh : B17 h) : ∀ m, m ≤ 16 → ∀ j, gi (taI B h a m) j = if j < m then gi h j + gi B (a + j) else gi h j
  | 0, _, j => by rw [taI_0]; simp
  | m + 1, hm, j => by
    have ih := taI_val hB hh m (by omega) (a := a)
    have b1 := hB (a + m)
    have b2 := hh.b m
    rw [taI_s, ih m, if_neg (by omega), wrap_in (x := gi B (a + m)) (by omega) (by omega), wrap_in (by omega) (by omega)]
    by_cases hj : j = m
    · subst hj
      rw [gi_same _ _ _ (by simp [hh.l]; omega), if_pos (by omega)]
    · rw [gi_upd _ _ _ _ hj, ih j]
      by_cases h : j < m
      · rw [if_pos h, if_pos (by omega)]
      · rw [if_neg h, if_neg (by omega)]
theorem sumN_add (B : Int) (f g : Nat → Int) : ∀ n, sumN B (fun i => f i + g i) n = sumN B f n + sumN B g n
  | 0 => rfl
  | n + 1 => by simp only [sumN]; rw [sumN_add B f g n]; grind
theorem sumN_cut {B : Int} (f : Nat → Int) (m : Nat) : ∀ d, sumN B (fun i => if i < m then f i else 0) (m + d) = sumN B f m
  | 0 => sumN_congr (fun i hi => if_pos hi)
  | d + 1 => by
    show sumN B (fun i => if i < m then f i else 0) (m + d) + (if m + d < m then f (m + d) else 0) * B ^ (m + d) = _
    rw [sumN_cut f m d, if_neg (by omega)]
    simp
theorem tgS_val {K B h : List Int} {j : Nat} (hK : Byts K) (hB : Byts B) (hh : B17 h) (hj : 16 * j < B.length) :
    B17 (tgS K B j h) ∧ 0 ≤ nv (tgS K B j h) ∧ nv (tgS K B j h) < 2 ^ 130 ∧ nv (tgS K B j h) % QP = ((nv h + blkV (blk B j)) * rV K) % QP := by
  unfold tgS
  dsimp only
  obtain ⟨m, hm⟩ : ∃ m, m = min 16 (B.length - 16 * j) := ⟨_, rfl⟩
  have hm16 : m ≤ 16 := by omega
  rw [← hm]
  have tv := taI_val hB hh m hm16 (a := 16 * j)
  have hmv := hh.b m
  rw [tv m, if_neg (by omega), wrap_in (by omega) (by omega)]
  have hl : (taI B h (16 * j) m).length = 17 := by simp [hh.l]
  have hs : Small0 ((taI B h (16 * j) m).set m (gi h m + 1)) := by
    refine ⟨by simp [hh.l], fun i => ?_⟩
    have b1 := hB (16 * j + i)
    have b2 := hh.b i
    by_cases hi : i = m
    · subst hi
      rw [gi_same _ _ _ (by omega)]
      omega
    · rw [gi_upd _ _ _ _ hi, tv i]
      split <;> omega
  have hv : nv ((taI B h (16 * j) m).set m (gi h m + 1)) = nv h + blkV (blk B j) := by
    unfold nv blkV
    rw [sumN_set (by omega) (by omega), tv m, if_neg (by omega)]
    have e1 : sumN 256 (gi (taI B h (16 * j) m)) 17 = sumN 256 (gi h) 17 + sumN 256 (fun i => gi B (16 * j + i)) m := by
      rw [sumN_congr (g := fun i => gi h i + (if i < m then gi B (16 * j + i) else 0)) (fun i hi => by rw [tv i]; split <;> omega), sumN_add]
      congr 1
      have := sumN_cut (B := 256) (fun i => gi B (16 * j + i)) m (17 - m)
      rw [show m + (17 - m) = 17 by omega] at this
      exact this
    rw [e1, blk_length, ← hm, sumN_congr (f := gi (blk B j)) (g := fun i => gi B (16 * j + i)) (fun i hi => blk_gi B j i (by omega))]
    grind
  obtain ⟨c1, c2, c3, c4, _⟩ := crN_nv hs
  have hb := Dig.b17 (by simp [hh.l]) c1
  obtain ⟨t1, t2, t3, t4⟩ := tmR_val hb (rr_b17 hK)
  refine ⟨t1, t2, t3, ?_⟩
  rw [t4, rr_nv hK, Int.mul_emod, c4, hv, ← Int.mul_emod]
theorem zero_b17 : B17 (List.replicate 17 0) := ⟨by simp, fun j => by rw [gi_rep]; omega⟩
theorem tgI_val {K B : List Int} (hK : Byts K) (hB : Byts B) : ∀ j, j ≤ (B.length + 15) / 16 → B17 (tgI K B j) ∧ 0 ≤ nv (tgI K B j) ∧ nv (tgI K B j) < 2 ^ 130 ∧ nv (tgI K B j) % QP = Hm K B j % QP
  | 0, _ => by rw [tgI_0, nv_zero]; exact ⟨zero_b17, by omega, by decide, rfl⟩
  | j + 1, hj => by
    obtain ⟨h1, h2, h3, h4⟩ := tgI_val hK hB j (by omega)
    obtain ⟨s1, s2, s3, s4⟩ := tgS_val hK hB h1 (show 16 * j < B.length by omega)
    rw [tgI_s]
    refine ⟨s1, s2, s3, ?_⟩
    rw [s4]
    unfold Hm
    rw [Int.emod_emod_of_dvd _ (Int.dvd_refl _), Int.mul_emod, Int.add_emod, h4, ← Int.add_emod, ← Int.mul_emod]

/-! ### The least number, and the sum with s -/
theorem col_up {F : Nat → Int} (c : Int) (i : Nat) : F i + (c + sumN 256 F i) / 256 ^ i = (c + sumN 256 F (i + 1)) / 256 ^ i := by
  have hp : (0 : Int) < 256 ^ i := Int.pow_pos (by decide)
  simp only [sumN]
  rw [← Int.add_assoc, Int.add_mul_ediv_right _ _ (by omega)]
  omega
theorem col_next {F : Nat → Int} (c : Int) (i : Nat) : (c + sumN 256 F (i + 1)) / 256 ^ i / 256 = (c + sumN 256 F (i + 1)) / 256 ^ (i + 1) := by
  rw [Int.pow_succ, ← Int.ediv_ediv_of_nonneg (Int.le_of_lt (Int.pow_pos (by decide)))]
theorem col_dig {F : Nat → Int} (c : Int) {i n : Nat} (h : i < n) : (c + sumN 256 F (i + 1)) / 256 ^ i % 256 = (c + sumN 256 F n) / 256 ^ i % 256 := by
  obtain ⟨R, hR⟩ := sumN_split (B := 256) F (i + 1) (n - (i + 1))
  rw [show i + 1 + (n - (i + 1)) = n by omega] at hR
  have hp : (0 : Int) < 256 ^ i := Int.pow_pos (by decide)
  rw [hR, Int.pow_succ, show c + (sumN 256 F (i + 1) + 256 ^ i * 256 * R) = c + sumN 256 F (i + 1) + 256 ^ i * (256 * R) by grind, Int.add_mul_ediv_left _ _ (by omega), Int.add_mul_emod_self_left]
theorem up_lt {F : Nat → Int} {c : Int} (hc : 0 ≤ c ∧ c < 2048) (h : ∀ i, 0 ≤ F i ∧ F i < 1024) : ∀ i, 0 ≤ (c + sumN 256 F i) / 256 ^ i ∧ (c + sumN 256 F i) / 256 ^ i < 2048
  | 0 => by simp [sumN]; omega
  | i + 1 => by
    have ih := up_lt hc h i
    have hf := h i
    rw [← col_next, ← col_up]
    omega
theorem lsI_val {h : List Int} (hh : B17 h) : ∀ i, i ≤ 17 → (lsI h i).1 = (5 + sumN 256 (gi h) i) / 256 ^ i ∧ ∀ j, j < i → gi (lsI h i).2 j = (5 + nv h) / 256 ^ j % 256
  | 0, _ => by rw [lsI_0]; exact ⟨by simp [sumN], fun j hj => absurd hj (Nat.not_lt_zero j)⟩
  | i + 1, hi => by
    obtain ⟨h1, h2⟩ := lsI_val hh i (by omega)
    have hu := up_lt (F := gi h) (c := 5) (by decide) (fun j => by have := hh.b j; omega) i
    have hg := hh.b i
    rw [lsI_s, h1, wrap_in (x := gi h i + (5 + sumN 256 (gi h) i) / 256 ^ i) (by omega) (by omega), col_up]
    have hv := up_lt (c := 5) (by decide) (fun j => by have := hh.b j; omega) (F := gi h) i
    have hn : 0 ≤ (5 + sumN 256 (gi h) (i + 1)) / 256 ^ i ∧ (5 + sumN 256 (gi h) (i + 1)) / 256 ^ i < 4096 := by rw [← col_up]; omega
    constructor
    · show IntKind.i64.wrap (((5 + sumN 256 (gi h) (i + 1)) / 256 ^ i).tdiv 256) = _
      rw [Int.tdiv_eq_ediv_of_nonneg hn.1, wrap_in (by omega) (by omega), col_next]
    · intro j hj
      show gi ((lsI h i).2.set i (((5 + sumN 256 (gi h) (i + 1)) / 256 ^ i).tmod 256)) j = _
      by_cases hji : j = i
      · subst hji
        rw [gi_same _ _ _ (by simp; omega), Int.tmod_eq_emod_of_nonneg hn.1, col_dig 5 (by omega : j < 17)]
        rfl
      · rw [gi_upd _ _ _ _ hji, h2 j (by omega)]
theorem lsR_val {h : List Int} (hh : B17 h) (hv : nv h < 2 ^ 130) : lsR h = digN 17 (nv h % QP) := by
  obtain ⟨_, h2⟩ := lsI_val hh 17 (by omega)
  have h0 : 0 ≤ nv h := sum_nonneg (fun j => (hh.b j).1) 17
  have e128 : (256 : Int) ^ 16 = 340282366920938463463374607431768211456 := by decide
  have e130 : (2 : Int) ^ 130 = 1361129467683753853853498429727072845824 := by decide
  have eq : QP = 1361129467683753853853498429727072845819 := rfl
  have h16 := h2 16 (by omega)
  have hd : h = digN 17 (nv h) := eq_digN hh.l (fun i _ => hh.b i)
  unfold lsR
  rw [h16, e128]
  rw [e130] at hv
  by_cases hc : (5 + nv h) / 340282366920938463463374607431768211456 % 256 < 4
  · rw [if_pos hc, Int.emod_eq_of_lt h0 (by rw [eq]; omega)]
    exact hd
  · rw [if_neg hc]
    have hm : nv h % QP = nv h - QP := by
      rw [show nv h = (nv h - QP) + QP * 1 by omega, Int.add_mul_emod_self_left, Int.emod_eq_of_lt (by rw [eq]; omega) (by rw [eq]; omega)]
      omega
    rw [hm]
    refine ext_gi (by simp) fun i hi => ?_
    simp at hi
    by_cases hi6 : i = 16
    · subst hi6
      rw [gi_same _ _ _ (by simp), digN_gi _ (by omega), e128, wrap_in (by omega) (by omega)]
      rw [eq]
      omega
    · rw [gi_upd _ _ _ _ hi6, h2 i hi, digN_gi _ hi]
      have e : (5 + nv h) = (nv h - QP) + 2 ^ 130 := by rw [e130, eq]; omega
      rw [e, ← dig130 (nv h - QP + 2 ^ 130) (by omega), ← dig130 (nv h - QP) (by omega)]
      congr 2
      rw [show nv h - QP + 2 ^ 130 = nv h - QP + 2 ^ 130 * 1 by omega, Int.add_mul_emod_self_left]
theorem toI_val {K B : List Int} (hK : Byts K) (hh : B17 (tgL K B)) : ∀ i, i ≤ 16 → (toI K B i).1 = (0 + sumN 256 (fun j => gi (tgL K B) j + gi K (16 + j)) i) / 256 ^ i ∧ ∀ j, j < i → gi (toI K B i).2 j = (0 + sumN 256 (fun j => gi (tgL K B) j + gi K (16 + j)) 16) / 256 ^ j % 256
  | 0, _ => by rw [toI_0]; exact ⟨by simp [sumN], fun j hj => absurd hj (Nat.not_lt_zero j)⟩
  | i + 1, hi => by
    obtain ⟨h1, h2⟩ := toI_val hK hh i (by omega)
    have hF : ∀ j, 0 ≤ gi (tgL K B) j + gi K (16 + j) ∧ gi (tgL K B) j + gi K (16 + j) < 1024 := fun j => by have := hh.b j; have := hK (16 + j); omega
    have hu := up_lt (c := 0) (by decide) hF i
    have hg := hh.b i
    have hk := hK (16 + i)
    rw [toI_s, h1, wrap_in (x := gi K (16 + i)) (by omega) (by omega), wrap_in (x := gi (tgL K B) i + gi K (16 + i)) (by omega) (by omega), wrap_in (x := gi (tgL K B) i + gi K (16 + i) + (0 + sumN 256 (fun j => gi (tgL K B) j + gi K (16 + j)) i) / 256 ^ i) (by omega) (by omega)]
    have e := col_up (F := fun j => gi (tgL K B) j + gi K (16 + j)) 0 i
    rw [e]
    have hn : 0 ≤ (0 + sumN 256 (fun j => gi (tgL K B) j + gi K (16 + j)) (i + 1)) / 256 ^ i ∧ (0 + sumN 256 (fun j => gi (tgL K B) j + gi K (16 + j)) (i + 1)) / 256 ^ i < 4096 := by rw [← e]; omega
    generalize hX : (0 + sumN 256 (fun j => gi (tgL K B) j + gi K (16 + j)) (i + 1)) / 256 ^ i = X at *
    constructor
    · show IntKind.i64.wrap (X.tdiv 256) = _
      rw [Int.tdiv_eq_ediv_of_nonneg hn.1, wrap_in (by omega) (by omega), ← hX, col_next]
    · intro j hj
      show gi ((toI K B i).2.set i (IntKind.u8.wrap (X.tmod 256))) j = _
      by_cases hji : j = i
      · subst hji
        rw [gi_same _ _ _ (by simp; omega), Int.tmod_eq_emod_of_nonneg hn.1, IntKind.wrap_u8, ← hX, col_dig 0 (by omega : j < 16)]
        omega
      · rw [gi_upd _ _ _ _ hji, h2 j (by omega)]
/-- The tag, as a number: its 16 lowest bytes. -/
def tagV (K B : List Int) : Int := Hm K B ((B.length + 15) / 16) + sV K
theorem hm_range (K B : List Int) : ∀ j, 0 ≤ Hm K B j ∧ Hm K B j < QP
  | 0 => by unfold Hm; decide
  | j + 1 => by unfold Hm; exact ⟨Int.emod_nonneg _ (by decide), Int.emod_lt_of_pos _ (by decide)⟩
theorem rtag_val {K B : List Int} (hK : Byts K) (hB : Byts B) : rtag K B = digN 16 (tagV K B) := by
  obtain ⟨h1, h2, h3, h4⟩ := tgI_val hK hB _ (Nat.le_refl _)
  obtain ⟨c1, c2, c3, c4, c5⟩ := crN_nv (h := tgI K B ((B.length + 15) / 16)) ⟨h1.l, fun j => by have := h1.b j; omega⟩
  have hb := Dig.b17 (by simp) c1
  have e : tgL K B = digN 17 (Hm K B ((B.length + 15) / 16)) := by
    have hr := hm_range K B ((B.length + 15) / 16)
    unfold tgL
    rw [lsR_val hb c3, c4, h4, Int.emod_eq_of_lt hr.1 hr.2]
  have hbL : B17 (tgL K B) := by rw [e]; exact Dig.b17 (by simp) (digN_dig 17 _)
  obtain ⟨_, t2⟩ := toI_val hK hbL 16 (by omega)
  unfold rtag
  refine ext_gi (by simp) fun i hi => ?_
  simp at hi
  rw [t2 i hi, digN_gi _ hi, sumN_add]
  have hs : sumN 256 (fun j => gi (tgL K B) j) 16 = Hm K B ((B.length + 15) / 16) % 256 ^ 16 := by
    rw [e, sumN_congr (g := fun i => Hm K B ((B.length + 15) / 16) / 256 ^ i % 256) (fun i hi => digN_gi _ (by omega)), dig_sum]
  rw [hs]
  unfold tagV
  show (0 + (Hm K B ((B.length + 15) / 16) % 256 ^ 16 + sV K)) / 256 ^ i % 256 = _
  have h5 := Int.emod_add_mul_ediv (Hm K B ((B.length + 15) / 16)) (256 ^ 16)
  obtain ⟨d, hd⟩ : ∃ d : Nat, 16 = i + (d + 1) := ⟨16 - i - 1, by omega⟩
  have hp : (0 : Int) < 256 ^ i := Int.pow_pos (by decide)
  have e6 : (256 : Int) ^ 16 = 256 ^ i * (256 * 256 ^ d) := by rw [hd, Int.pow_add, Int.pow_succ]; grind
  have e7 : Hm K B ((B.length + 15) / 16) + sV K = (0 + (Hm K B ((B.length + 15) / 16) % 256 ^ 16 + sV K)) + 256 ^ i * (256 * (256 ^ d * (Hm K B ((B.length + 15) / 16) / 256 ^ 16))) := by
    generalize Hm K B ((B.length + 15) / 16) = H at *
    rw [show (256 : Int) ^ i * (256 * (256 ^ d * (H / 256 ^ 16))) = 256 ^ 16 * (H / 256 ^ 16) by rw [show (256 : Int) ^ i * (256 * (256 ^ d * (H / 256 ^ 16))) = 256 ^ i * (256 * 256 ^ d) * (H / 256 ^ 16) by grind, ← e6]]
    omega
  rw [e7, Int.add_mul_ediv_left _ _ (by omega), Int.add_mul_emod_self_left]
end Sp
end Go.Proofs.Ythbmlpiplfbehaa
