/-
  The program's poly as numbers: words, products, blocks, the least number, the sum with s. Plain maths, no conditions.
-/
import Derived.Test.YthbmlpiplfbehaaPolyN
import Derived.Test.YthbmlpiplfbehaaPolyPi
import Derived.Laws.BitsAllLaws
namespace Go.Proofs.Ythbmlpiplfbehaa
set_option linter.unusedSimpArgs false
set_option linter.unusedVariables false
open Go Go.RowKit
namespace Sp

/-! ### Eight bytes as a word -/
theorem or_add (a b k : Nat) (h : a < 2 ^ k) : a ||| b * 2 ^ k = a + b * 2 ^ k := by
  have := Nat.two_pow_add_eq_or_of_lt h b
  rw [Nat.mul_comm b, Nat.or_comm, ← this, Nat.add_comm]
theorem pw256 (i : Nat) : (256 : Int) ^ i = ((2 ^ (8 * i) : Nat) : Int) := by rw [Nat.pow_mul, show (2 : Nat) ^ 8 = 256 from rfl, Int.natCast_pow]; rfl
theorem numN_sum {L : List Int} (hL : Byts L) : ∀ i, i ≤ 8 → numN L i = sumN 256 (gi L) i ∧ 0 ≤ numN L i ∧ numN L i < 256 ^ i
  | 0, _ => by rw [numN_0]; exact ⟨rfl, by omega, by decide⟩
  | i + 1, hi => by
    obtain ⟨h1, h2, h3⟩ := numN_sum hL i (by omega)
    have hb := hL i
    obtain ⟨a, ha⟩ := Int.eq_ofNat_of_zero_le h2
    obtain ⟨b, hb'⟩ := Int.eq_ofNat_of_zero_le hb.1
    have h256 := pw256 i
    have ha2 : a < 2 ^ (8 * i) := by rw [ha, h256] at h3; exact Int.ofNat_lt.1 h3
    have hb2 : b < 256 := by omega
    have hlt : a + b * 2 ^ (8 * i) < 2 ^ (8 * (i + 1)) := by
      have : b * 2 ^ (8 * i) ≤ 255 * 2 ^ (8 * i) := Nat.mul_le_mul_right _ (by omega)
      rw [Nat.mul_succ, Nat.pow_add]
      omega
    have h64 : (2 : Nat) ^ (8 * (i + 1)) ≤ 18446744073709551616 := by
      have : (2 : Nat) ^ (8 * (i + 1)) ≤ 2 ^ 64 := Nat.pow_le_pow_right (by omega) (by omega)
      omega
    have e8 : (IntKind.i64.wrap (8 * (i : Int))).toNat = 8 * i := by rw [wrap_in (by omega) (by omega)]; omega
    have em : min (8 * i) IntKind.u64.bits = 8 * i := Nat.min_eq_left (by show 8 * i ≤ 64; omega)
    have ew : IntKind.u64.wrap (gi L i) = (b : Int) := by rw [IntKind.wrap_u64, hb']; omega
    have ex : IntKind.u64.wrap (IntKind.u64.wrap (gi L i) * 2 ^ (min (IntKind.i64.wrap (8 * (i : Int))).toNat IntKind.u64.bits)) = ((b * 2 ^ (8 * i) : Nat) : Int) := by
      rw [e8, em, ew, IntKind.wrap_u64, show (b : Int) * 2 ^ (8 * i) = ((b * 2 ^ (8 * i) : Nat) : Int) by rw [Int.natCast_mul, Int.natCast_pow]; rfl]
      omega
    rw [numN_s, ex, ha, u64_or_nat _ _ (by omega) (by omega), or_add _ _ _ ha2]
    refine ⟨?_, by omega, ?_⟩
    · simp only [sumN]
      rw [← h1, ha, hb', h256]
      rw [Int.natCast_add, Int.natCast_mul]
    · rw [pw256]
      exact Int.ofNat_lt.2 hlt
/-- A mask, byte by byte. -/
theorem and_split (k a b c d : Nat) (ha : a < 2 ^ k) (hc : c < 2 ^ k) : (a + b * 2 ^ k) &&& (c + d * 2 ^ k) = (a &&& c) + (b &&& d) * 2 ^ k := by
  have hac : a &&& c < 2 ^ k := Nat.and_lt_two_pow _ hc
  apply Nat.eq_of_testBit_eq
  intro j
  rw [Nat.testBit_and, show a + b * 2 ^ k = 2 ^ k * b + a by rw [Nat.mul_comm]; omega, show c + d * 2 ^ k = 2 ^ k * d + c by rw [Nat.mul_comm]; omega, show (a &&& c) + (b &&& d) * 2 ^ k = 2 ^ k * (b &&& d) + (a &&& c) by rw [Nat.mul_comm]; omega,
    Nat.testBit_two_pow_mul_add _ ha, Nat.testBit_two_pow_mul_add _ hc, Nat.testBit_two_pow_mul_add _ hac]
  split
  · rw [Nat.testBit_and]
  · rw [Nat.testBit_and]
def sumM (f : Nat → Nat) : Nat → Nat
  | 0 => 0
  | k + 1 => sumM f k + f k * 2 ^ (8 * k)
theorem sumM_lt {f : Nat → Nat} (h : ∀ i, f i < 256) : ∀ n, sumM f n < 2 ^ (8 * n)
  | 0 => by simp [sumM]
  | n + 1 => by
    have ih := sumM_lt h n
    have : f n * 2 ^ (8 * n) ≤ 255 * 2 ^ (8 * n) := Nat.mul_le_mul_right _ (by have := h n; omega)
    simp only [sumM]
    rw [Nat.mul_succ, Nat.pow_add]
    omega
theorem sumM_and {f g : Nat → Nat} (hf : ∀ i, f i < 256) (hg : ∀ i, g i < 256) : ∀ n, sumM f n &&& sumM g n = sumM (fun i => f i &&& g i) n
  | 0 => by simp [sumM]
  | n + 1 => by
    simp only [sumM]
    rw [and_split _ _ _ _ _ (sumM_lt hf n) (sumM_lt hg n), sumM_and hf hg n]
theorem sumM_int (f : Nat → Nat) : ∀ n, ((sumM f n : Nat) : Int) = sumN 256 (fun i => (f i : Int)) n
  | 0 => rfl
  | n + 1 => by
    simp only [sumM, sumN]
    rw [← sumM_int f n, pw256, Int.natCast_add, Int.natCast_mul]
def mk0 (i : Nat) : Nat := [255, 255, 255, 15, 252, 255, 255, 15].getD i 0
def mk1 (i : Nat) : Nat := [252, 255, 255, 15, 252, 255, 255, 15].getD i 0
theorem mk0_lt (i : Nat) : mk0 i < 256 := by
  by_cases h : i < 8
  · have : ∀ i, i < 8 → mk0 i < 256 := by decide
    exact this i h
  · unfold mk0; rw [List.getD_eq_getElem?_getD, List.getElem?_eq_none (by simp; omega)]; decide
theorem mk1_lt (i : Nat) : mk1 i < 256 := by
  by_cases h : i < 8
  · have : ∀ i, i < 8 → mk1 i < 256 := by decide
    exact this i h
  · unfold mk1; rw [List.getD_eq_getElem?_getD, List.getElem?_eq_none (by simp; omega)]; decide
theorem mk_clB : ∀ i, i < 8 → ∀ x : Nat, x < 256 → ((x &&& mk0 i : Nat) : Int) = clB x i ∧ ((x &&& mk1 i : Nat) : Int) = clB x (8 + i) := by decide +kernel
theorem key_word {K : List Int} (hK : Byts K) (o : Nat) (m : Nat → Nat) (hm : ∀ i, m i < 256) (c : Nat → Int) (hc : ∀ i, i < 8 → ∀ x : Nat, x < 256 → ((x &&& m i : Nat) : Int) = clB x (o + i)) (M : Nat) (hM : sumM m 8 = M) (hM64 : M < 18446744073709551616) :
    bits .and .u64 (numN (K.drop o) 8) (M : Int) = sumN 256 (fun i => clB (gi K (o + i)) (o + i)) 8 := by
  have hd : ∀ j, gi (K.drop o) j = gi K (o + j) := fun j => by simp [gi, List.getD_eq_getElem?_getD, List.getElem?_drop]
  have hb : Byts (K.drop o) := fun j => by rw [hd]; exact hK _
  obtain ⟨h1, h2, h3⟩ := numN_sum hb 8 (Nat.le_refl _)
  let f : Nat → Nat := fun i => (gi K (o + i)).toNat
  have hf : ∀ i, f i < 256 := fun i => by have := hK (o + i); show (gi K (o + i)).toNat < 256; omega
  have hfi : ∀ i, (f i : Int) = gi K (o + i) := fun i => by have := hK (o + i); show ((gi K (o + i)).toNat : Int) = _; omega
  have e : numN (K.drop o) 8 = ((sumM f 8 : Nat) : Int) := by
    rw [h1, sumM_int]
    exact sumN_congr (fun i _ => by rw [hfi, hd])
  have hlt := sumM_lt hf 8
  rw [e, u64_and_nat _ _ hlt hM64, ← hM, sumM_and hf hm, sumM_int]
  refine sumN_congr fun i hi => ?_
  rw [hc i hi (f i) (hf i), hfi]
def w2 (a b : Int) : Int := a + M64 * b
theorem keyR_val {K : List Int} (hK : Byts K) : w2 (keyR0 K) (keyR1 K) = rV K ∧ 0 ≤ keyR0 K ∧ 0 ≤ keyR1 K := by
  have a0 := key_word hK 0 mk0 mk0_lt (fun _ => 0) (fun i hi x hx => by rw [Nat.zero_add]; exact (mk_clB i hi x hx).1) 1152921487695413247 (by decide) (by decide)
  have a1 := key_word hK 8 mk1 mk1_lt (fun _ => 0) (fun i hi x hx => (mk_clB i hi x hx).2) 1152921487695413244 (by decide) (by decide)
  have p0 : 0 ≤ keyR0 K := by unfold keyR0; exact (W64.bits _ _ _).1
  have p1 : 0 ≤ keyR1 K := by unfold keyR1; exact (W64.bits _ _ _).1
  refine ⟨?_, p0, p1⟩
  have e0 : keyR0 K = sumN 256 (fun i => clB (gi K (0 + i)) (0 + i)) 8 := by unfold keyR0; exact a0
  have e1 : keyR1 K = sumN 256 (fun i => clB (gi K (8 + i)) (8 + i)) 8 := by unfold keyR1; exact a1
  unfold w2 rV M64
  rw [e0, e1]
  simp only [sumN, Nat.zero_add, Nat.reduceAdd]
  grind
theorem keyS_val {K : List Int} (hK : Byts K) : w2 (keyS0 K) (keyS1 K) = sV K := by
  have hd : ∀ o j, gi (K.drop o) j = gi K (o + j) := fun o j => by simp [gi, List.getD_eq_getElem?_getD, List.getElem?_drop]
  have hb : ∀ o, Byts (K.drop o) := fun o j => by rw [hd]; exact hK _
  have e0 := (numN_sum (hb 16) 8 (Nat.le_refl _)).1
  have e1 := (numN_sum (hb 24) 8 (Nat.le_refl _)).1
  unfold w2 sV keyS0 keyS1 M64
  rw [e0, e1]
  simp only [sumN, hd, Nat.reduceAdd]
  grind

/-! ### Words -/
theorem lohi (x y c : Int) : addLo x y c + M64 * addHi x y c = x + y + c := by unfold addLo addHi M64; omega
theorem mlohi (x y : Int) : mulLo x y + M64 * mulHi x y = x * y := by unfold mulLo mulHi; exact Int.emod_add_mul_ediv _ _
theorem cst_val {hi up : Int} {pr : List Int} {a : Nat} (hl : pr.length = 4) : ∀ j, a + j ≤ 4 →
    sumN M64 (gi (cst hi up pr a j).2.2) 4 + ((cst hi up pr a j).1 + (cst hi up pr a j).2.1) * M64 ^ (a + j) = sumN M64 (gi pr) 4 + (hi + up) * M64 ^ a
  | 0, _ => by rw [cst_0]; rfl
  | j + 1, hj => by
    have ih := cst_val (hi := hi) (up := up) (a := a) hl j (by omega)
    rw [← ih, cst_s]
    show sumN M64 (gi ((cst hi up pr a j).2.2.set (a + j) _)) 4 + (0 + _) * M64 ^ (a + j + 1) = _
    rw [sumN_set (by omega) (by rw [cst_length, hl]; omega), Int.pow_succ]
    have := lohi (gi (cst hi up pr a j).2.2 (a + j)) (cst hi up pr a j).1 (cst hi up pr a j).2.1
    generalize addLo (gi (cst hi up pr a j).2.2 (a + j)) (cst hi up pr a j).1 (cst hi up pr a j).2.1 = L at *
    generalize addHi (gi (cst hi up pr a j).2.2 (a + j)) (cst hi up pr a j).1 (cst hi up pr a j).2.1 = H at *
    grind
theorem mac_val {pr : List Int} {pos : Nat} {h r : Int} (hp : AllW pr) (hl : pr.length = 4) (hpos : pos < 4) (hh : W64 h) (hr : W64 r) : ∃ c, 0 ≤ c ∧ sumN M64 (gi (mac pr pos h r)) 4 + c * M64 ^ 4 = sumN M64 (gi pr) 4 + h * r * M64 ^ pos := by
  have hv := cst_val (hi := mulHi h r) (up := addHi (gi pr pos) (mulLo h r) 0) (pr := pr.set pos (addLo (gi pr pos) (mulLo h r) 0)) (a := pos + 1) (by simp [hl]) (3 - pos) (by omega)
  have hok := cst_ok (hi := mulHi h r) (up := addHi (gi pr pos) (mulLo h r) 0) (pr := pr.set pos (addLo (gi pr pos) (mulLo h r) 0)) (at1 := pos + 1) (hh.hi hr) (Bit.addHi (hp _) (W64.lo _ _) Bit.zero) (hp.set _ (W64.addLo _ _ _)) (3 - pos)
  rw [show pos + 1 + (3 - pos) = 4 by omega] at hv
  refine ⟨_, Int.add_nonneg hok.1.1 hok.2.1.1, ?_⟩
  unfold mac
  rw [hv, sumN_set hpos (by omega), Int.pow_succ]
  have e1 := lohi (gi pr pos) (mulLo h r) 0
  have e2 := mlohi h r
  generalize addLo (gi pr pos) (mulLo h r) 0 = L at *
  generalize addHi (gi pr pos) (mulLo h r) 0 = H at *
  grind
theorem prI_val {pr H R : List Int} {a : Nat} (hp : AllW pr) (hl : pr.length = 4) (hH : AllW H) (hR : AllW R) (ha : a < 3) : ∀ k, k ≤ 2 → ∃ c, 0 ≤ c ∧ sumN M64 (gi (prI pr H R a k)) 4 + c * M64 ^ 4 = sumN M64 (gi pr) 4 + gi H a * M64 ^ a * sumN M64 (gi R) k
  | 0, _ => ⟨0, by omega, by rw [prI_0]; simp [sumN]⟩
  | k + 1, hk => by
    obtain ⟨c, hc, e⟩ := prI_val hp hl hH hR ha k (by omega)
    obtain ⟨d, hd, e2⟩ := mac_val (prI_ok hp hH hR k (a := a)) (by rw [prI_length, hl]) (show a + k < 4 by omega) (hH a) (hR k)
    refine ⟨c + d, Int.add_nonneg hc hd, ?_⟩
    rw [prI_s, show sumN M64 (gi R) (k + 1) = sumN M64 (gi R) k + gi R k * M64 ^ k from rfl]
    rw [Int.add_mul, show sumN M64 (gi (mac (prI pr H R a k) (a + k) (gi H a) (gi R k))) 4 + (c * M64 ^ 4 + d * M64 ^ 4) = sumN M64 (gi (mac (prI pr H R a k) (a + k) (gi H a) (gi R k))) 4 + d * M64 ^ 4 + c * M64 ^ 4 by omega, e2, Int.pow_add]
    grind
theorem prO_val {H R : List Int} (hH : AllW H) (hR : AllW R) : ∀ i, i ≤ 3 → ∃ c, 0 ≤ c ∧ sumN M64 (gi (prO H R i)) 4 + c * M64 ^ 4 = sumN M64 (gi H) i * sumN M64 (gi R) 2
  | 0, _ => ⟨0, by omega, by rw [prO_0, sumN_zero _ _ _ (fun i _ => gi_rep 4 i)]; simp [sumN]⟩
  | i + 1, hi => by
    obtain ⟨c, hc, e⟩ := prO_val hH hR i (by omega)
    obtain ⟨d, hd, e2⟩ := prI_val (prO_ok hH hR i) (prO_length _ _ _) hH hR (show i < 3 by omega) 2 (Nat.le_refl _)
    refine ⟨c + d, Int.add_nonneg hc hd, ?_⟩
    rw [prO_s]
    show _ = (sumN M64 (gi H) i + gi H i * M64 ^ i) * sumN M64 (gi R) 2
    generalize sumN M64 (gi R) 2 = r2 at *
    grind
/-- Three words as a number. -/
def v3 (h : Int × Int × Int) : Int := h.1 + M64 * h.2.1 + M64 * M64 * h.2.2
theorem add3 {a b c x y u : Int} (ha : W64 a) (hb : W64 b) (hx : W64 x) (hy : W64 y) (hc : 0 ≤ c ∧ c < 1000) (hu : 0 ≤ u ∧ u < 1000) :
    v3 (addLo a x 0, addLo b y (addHi a x 0), IntKind.u64.wrap (c + IntKind.u64.wrap (u + addHi b y (addHi a x 0)))) = v3 (a, b, c) + (x + M64 * y + M64 * M64 * u) ∧
    0 ≤ IntKind.u64.wrap (c + IntKind.u64.wrap (u + addHi b y (addHi a x 0))) ∧ IntKind.u64.wrap (c + IntKind.u64.wrap (u + addHi b y (addHi a x 0))) ≤ c + u + 1 := by
  have e1 := lohi a x 0
  have b1 : Bit (addHi a x 0) := Bit.addHi ha hx Bit.zero
  have e2 := lohi b y (addHi a x 0)
  have b2 : Bit (addHi b y (addHi a x 0)) := Bit.addHi hb hy b1
  unfold Bit at b1 b2
  rw [IntKind.wrap_u64, IntKind.wrap_u64]
  have ew : (c + (u + addHi b y (addHi a x 0)) % 18446744073709551616) % 18446744073709551616 = c + (u + addHi b y (addHi a x 0)) := by omega
  rw [ew]
  refine ⟨?_, by omega, by omega⟩
  unfold v3
  simp only
  generalize addLo a x 0 = A at *
  generalize addLo b y (addHi a x 0) = Bq at *
  generalize addHi b y (addHi a x 0) = Hq at *
  generalize addHi a x 0 = Gq at *
  grind
theorem p3_and {x : Int} (h : W64 x) : bits .and .u64 x 3 = x % 4 := by
  obtain ⟨n, rfl⟩ := Int.eq_ofNat_of_zero_le h.1
  unfold W64 M64 at h
  rw [show (3 : Int) = ((3 : Nat) : Int) from rfl, u64_and_nat n 3 (by omega) (by omega), show (3 : Nat) = 2 ^ 2 - 1 from rfl, Nat.and_two_pow_sub_one_eq_mod]
  omega
theorem p3_andNot {x : Int} (h : W64 x) : bits .andNot .u64 x 3 = x - x % 4 := by
  obtain ⟨n, rfl⟩ := Int.eq_ofNat_of_zero_le h.1
  unfold W64 M64 at h
  rw [show (3 : Int) = ((3 : Nat) : Int) from rfl, u64_andNot_nat n 3 (by omega) (by omega)]
  have e : (18446744073709551615 - 3 : Nat) = 0 + 4611686018427387903 * 2 ^ 2 := by decide
  have e2 : n = n % 4 + n / 4 * 2 ^ 2 := by omega
  have : n &&& (18446744073709551615 - 3) = n / 4 * 2 ^ 2 := by
    rw [e]
    rw [show n &&& (0 + 4611686018427387903 * 2 ^ 2) = (n % 4 + n / 4 * 2 ^ 2) &&& (0 + 4611686018427387903 * 2 ^ 2) by rw [← e2], and_split 2 _ _ _ _ (by omega) (by decide), Nat.and_zero, show (4611686018427387903 : Nat) = 2 ^ 62 - 1 from rfl, Nat.and_two_pow_sub_one_eq_mod, Nat.mod_eq_of_lt (by omega)]
    omega
  rw [this]
  omega
theorem shr2_eq (x : Int) : x.fdiv (2 ^ min (Int.toNat 2) IntKind.u64.bits) = x / 4 := by
  rw [show min (Int.toNat 2) IntKind.u64.bits = 2 from rfl, Int.fdiv_eq_ediv_of_nonneg _ (by decide)]
  rfl
theorem o0_eq {x y : Int} (hx : W64 x) (hy : W64 y) : bits .or .u64 (x.fdiv (2 ^ min (Int.toNat 2) IntKind.u64.bits)) (IntKind.u64.wrap (y * 2 ^ min (Int.toNat 62) IntKind.u64.bits)) = x / 4 + y % 4 * 4611686018427387904 := by
  obtain ⟨n, rfl⟩ := Int.eq_ofNat_of_zero_le hx.1
  obtain ⟨m, rfl⟩ := Int.eq_ofNat_of_zero_le hy.1
  unfold W64 M64 at hx hy
  rw [shr2_eq, show min (Int.toNat 62) IntKind.u64.bits = 62 from rfl, IntKind.wrap_u64]
  have e1 : (n : Int) / 4 = ((n / 4 : Nat) : Int) := by omega
  have e2 : (m : Int) * 2 ^ 62 % 18446744073709551616 = ((m % 4 * 2 ^ 62 : Nat) : Int) := by
    rw [show (2 : Int) ^ 62 = 4611686018427387904 by decide, show (2 : Nat) ^ 62 = 4611686018427387904 by decide]
    omega
  rw [e1, e2, u64_or_nat _ _ (by omega) (by rw [show (2 : Nat) ^ 62 = 4611686018427387904 by decide]; omega), or_add _ _ _ (by rw [show (2 : Nat) ^ 62 = 4611686018427387904 by decide]; omega), show (2 : Nat) ^ 62 = 4611686018427387904 by decide]
  omega
theorem e130' : (2 : Int) ^ 130 = 1361129467683753853853498429727072845824 := by decide
theorem redP_val {p : List Int} (hp : AllW p) (hv : sumN M64 (gi p) 4 < 4 * 2 ^ 254) :
    v3 (redP p) = fold (sumN M64 (gi p) 4) ∧ 0 ≤ (redP p).2.2 ∧ (redP p).2.2 < 8 := by
  have w0 := hp 0
  have w1 := hp 1
  have w2 := hp 2
  have w3 := hp 3
  have hq2 := p3_and w2
  have hf0 := p3_andNot w2
  have ho0 := o0_eq w2 w3
  have hs3 := shr2_eq (gi p 3)
  have f0w : W64 (bits .andNot .u64 (gi p 2) 3) := W64.bits _ _ _
  have o0w : W64 (bits .or .u64 ((gi p 2).fdiv (2 ^ min (Int.toNat 2) IntKind.u64.bits)) (IntKind.u64.wrap (gi p 3 * 2 ^ min (Int.toNat 62) IntKind.u64.bits))) := W64.bits _ _ _
  have o1w : W64 ((gi p 3).fdiv (2 ^ min (Int.toNat 2) IntKind.u64.bits)) := W64.shr2 w3
  unfold redP
  dsimp only
  have k1 := add3 (a := gi p 0) (b := gi p 1) (c := bits .and .u64 (gi p 2) 3) (x := bits .andNot .u64 (gi p 2) 3) (y := gi p 3) (u := 0) w0 w1 f0w w3 (by rw [hq2]; omega) (by omega)
  have k2 := add3 (a := addLo (gi p 0) (bits .andNot .u64 (gi p 2) 3) 0) (b := addLo (gi p 1) (gi p 3) (addHi (gi p 0) (bits .andNot .u64 (gi p 2) 3) 0))
    (c := IntKind.u64.wrap (bits .and .u64 (gi p 2) 3 + IntKind.u64.wrap (0 + addHi (gi p 1) (gi p 3) (addHi (gi p 0) (bits .andNot .u64 (gi p 2) 3) 0))))
    (x := bits .or .u64 ((gi p 2).fdiv (2 ^ min (Int.toNat 2) IntKind.u64.bits)) (IntKind.u64.wrap (gi p 3 * 2 ^ min (Int.toNat 62) IntKind.u64.bits))) (y := (gi p 3).fdiv (2 ^ min (Int.toNat 2) IntKind.u64.bits)) (u := 0)
    (W64.addLo _ _ _) (W64.addLo _ _ _) o0w o1w (by have := k1.2; rw [hq2] at this ⊢; omega) (by omega)
  refine ⟨?_, k2.2.1, ?_⟩
  · rw [k2.1, k1.1, hq2, hf0, ho0, hs3]
    unfold v3 fold
    rw [e130']
    simp only [sumN]
    have hM : M64 = 18446744073709551616 := rfl
    unfold W64 at w0 w1 w2 w3
    rw [hM] at w0 w1 w2 w3 ⊢
    simp only [Int.reducePow, Int.mul_one, Int.zero_add]
    omega
  · have h1 := k1.2.2
    have h2 := k2.2.2
    rw [hq2] at h1 h2 ⊢
    omega
end Sp
end Go.Proofs.Ythbmlpiplfbehaa
