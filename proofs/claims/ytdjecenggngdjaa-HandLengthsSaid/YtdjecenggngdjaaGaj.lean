/-
  Joined texts: LowS, Pub, Prime, Ed, Twin, LowM. No conditions.
-/
import Derived.Test.YtdjecenggngdjaaGae
import Derived.Test.YtdjecenggngdjaaGaf
import Derived.Test.YtdjecenggngdjaaGai
import Derived.Laws.BitsAllLaws
import Derived.Lib.Hide
namespace Go.Proofs.Ytdjecenggngdjaa
set_option linter.unusedSimpArgs false
set_option linter.unusedVariables false
set_option maxHeartbeats 16000000
section
open Go Go.RowKit
namespace Low
open Sp F
theorem u8_byte (op : BinOp) (x y : Int) : 0 ≤ bits op .u8 x y ∧ bits op .u8 x y < 256 := by
  have hw : ∀ n, 0 ≤ IntKind.u8.wrap n ∧ IntKind.u8.wrap n < 256 := fun n => by rw [IntKind.wrap_u8]; omega
  unfold Go.bits
  exact hw _
theorem byt_of {k : List Int} (h : Bytes32 k) : Byt k := by
  intro j
  by_cases hj : j < 32
  · exact h.2 j hj
  · have : gi k j = 0 := by unfold gi; rw [List.getD_eq_getElem?_getD, List.getElem?_eq_none (by rw [h.1]; omega)]; rfl
    rw [this]; omega
theorem byt_set {K : List Int} (h : Byt K) (i : Nat) {v : Int} (hv : 0 ≤ v ∧ v < 256) : Byt (K.set i v) := by
  intro j
  have hj := h j
  unfold gi at *
  rw [List.getD_eq_getElem?_getD] at *
  rw [List.getElem?_set]
  split
  · split
    · exact hv
    · show (0 : Int) ≤ 0 ∧ (0 : Int) < 256; omega
  · exact hj
theorem byt_clamp {k : List Int} (h : Bytes32 k) : Byt (clampL k) := by
  unfold clampL
  exact byt_set (byt_set (byt_of h) 0 (u8_byte _ _ _)) 31 (u8_byte _ _ _)
def orI' (L : List Int) : Nat → Int
  | 0 => 0
  | i + 1 => bits .or .u8 (orI' L i) (gi L i)
@[irreducible] def orI (L : List Int) (i : Nat) : Int := orI' L i
theorem orI_0 (L : List Int) : orI L 0 = 0 := by unfold orI; rfl
theorem orI_s (L : List Int) (i : Nat) : orI L (i + 1) = bits .or .u8 (orI L i) (gi L i) := by unfold orI; rfl
theorem bldK0 : Try.prog.built 23 [] = some (ints .u8 (List.replicate 32 0)) := by kernel_rfl
theorem u8_or_zero {a b : Int} (ha : 0 ≤ a ∧ a < 256) (hb : 0 ≤ b ∧ b < 256) : bits .or .u8 a b = 0 ↔ a = 0 ∧ b = 0 := by
  rw [u8_or a b ha.1 ha.2 hb.1 hb.2]
  constructor
  · intro h
    have h' : a.toNat ||| b.toNat = 0 := by omega
    have h1 : a.toNat = 0 := by
      have := Nat.left_le_or (n := a.toNat) (m := b.toNat)
      omega
    have h2 : b.toNat = 0 := by
      have := Nat.right_le_or (n := a.toNat) (m := b.toNat)
      omega
    omega
  · rintro ⟨rfl, rfl⟩
    rfl
theorem orI_byte (L : List Int) : ∀ i, 0 ≤ orI L i ∧ orI L i < 256
  | 0 => by rw [orI_0]; omega
  | i + 1 => by rw [orI_s]; exact u8_byte _ _ _
theorem orI_zero {L : List Int} (hL : Byt L) : ∀ i, orI L i = 0 ↔ ∀ j, j < i → gi L j = 0
  | 0 => by rw [orI_0]; exact ⟨fun _ j hj => absurd hj (by omega), fun _ => rfl⟩
  | i + 1 => by
    rw [orI_s, u8_or_zero (orI_byte L i) (hL i), orI_zero hL i]
    constructor
    · rintro ⟨h1, h2⟩ j hj
      by_cases h : j = i
      · rw [h]; exact h2
      · exact h1 j (by omega)
    · intro h
      exact ⟨fun j hj => h j (by omega), h i (by omega)⟩
theorem zero32_iff {L : List Int} (hl : L.length = 32) : (∀ j, j < 32 → gi L j = 0) ↔ L = List.replicate 32 0 := by
  constructor
  · intro h
    refine List.ext_getElem (by rw [hl, List.length_replicate]) fun j h1 h2 => ?_
    have := h j (by omega)
    unfold gi at this
    rw [List.getD_eq_getElem?_getD, List.getElem?_eq_getElem h1] at this
    rw [List.getElem_replicate]
    exact this
  · rintro rfl j hj
    unfold gi
    rw [List.getD_eq_getElem?_getD, List.getElem?_replicate, if_pos hj]
    rfl
theorem byt_le32 (v : Int) : Byt (le32 v) := by
  intro j
  by_cases hj : j < 32
  · rw [le32_gi v j hj]; exact ⟨Int.emod_nonneg _ (by omega), Int.emod_lt_of_pos _ (by omega)⟩
  · have : gi (le32 v) j = 0 := by unfold gi; rw [List.getD_eq_getElem?_getD, List.getElem?_eq_none (by rw [le32_length]; omega)]; rfl
    rw [this]; omega
theorem orI_le32 (v : Int) : orI (le32 v) 32 = 0 ↔ le32 v = List.replicate 32 0 := by
  rw [orI_zero (byt_le32 v), zero32_iff (le32_length v)]
@[irreducible] def shX (a b : List Int) : List Int := le32 (vX (clampL a) (v32 b % H255) % PP)
theorem shX_length (a b : List Int) : (shX a b).length = 32 := by unfold shX; exact le32_length _
theorem shX_or (a b : List Int) : orI (shX a b) 32 = 0 ↔ shX a b = List.replicate 32 0 := by unfold shX; exact orI_le32 _
@[irreducible] def shN (a b : List Int) : Int := if shX a b = List.replicate 32 0 then 30 else 0
theorem shX_any (a b : List Int) (la : a.length = 32) (hub : Bytes32 b) (hkb : Byt (clampL a)) (w : World) : Calls Try.prog 33 #[.agg (ints .u8 a), .agg (ints .u8 b)] w fun e w' => e = .returned (.agg (ints .u8 (shX a b))) ∧ Below w.heap.size w w' := by
  unfold shX
  exact curveX_any _ _ la hub hkb w
set_option maxRecDepth 20000 in
theorem share_any (a b : List Int) (la : a.length = 32) (hub : Bytes32 b) (hkb : Byt (clampL a)) (w : World) : Calls Try.prog 60 #[.agg (ints .u8 a), .agg (ints .u8 b)] w fun e w' => e = .returned (.tuple #[.agg (ints .u8 (shX a b)), .int .i64 (shN a b)]) ∧ Below w.heap.size w w' := by
  have lb := hub.1
  have ls := shX_length a b
  have hor := shX_or a b
  refine pureE Try.func60 Try.ntmps60 Try.results60 ?_
  have tok_kb : True := trivial
  have tok_ub : True := trivial
  have tok_ob : True := trivial
  have tok_xb : True := trivial
  repeat (first | (refine rgn 0 ?_; refine SL.bx ?_; (first | (have _t := tok_kb; clear _t tok_kb; intro kb) | (have _t := tok_ub; clear _t tok_ub; intro ub) | (have _t := tok_ob; clear _t tok_ob; intro ob) | (have _t := tok_xb; clear _t tok_xb; intro xb) | intro _); refine SL.bx ?_; (first | (have _t := tok_kb; clear _t tok_kb; intro kb) | (have _t := tok_ub; clear _t tok_ub; intro ub) | (have _t := tok_ob; clear _t tok_ob; intro ob) | (have _t := tok_xb; clear _t tok_xb; intro xb) | intro _); refine SL.al zero_23 ?_; (first | (have _t := tok_kb; clear _t tok_kb; intro kb) | (have _t := tok_ub; clear _t tok_ub; intro ub) | (have _t := tok_ob; clear _t tok_ob; intro ob) | (have _t := tok_xb; clear _t tok_xb; intro xb) | intro _); refine sEv ?_; refine nlx ?_) | (refine rgn 1 ?_; refine SL.ldR tabOk ?_; refine SL.ldR tabOk ?_; refine SL.v (ValO.call ent_33 _ rfl _ (fun w _ => shX_any _ _ la hub hkb w)) ?_; refine SL.al zero_23 ?_; (first | (have _t := tok_kb; clear _t tok_kb; intro kb) | (have _t := tok_ub; clear _t tok_ub; intro ub) | (have _t := tok_ob; clear _t tok_ob; intro ob) | (have _t := tok_xb; clear _t tok_xb; intro xb) | intro _); refine SL.stR tabOk ?_; refine nlx ?_) | (refine rgn 2 ?_; refine sEv ?_; refine nlx ?_) | (refine rgn 3 ?_; refine SL.ldR tabOk ?_; refine sEv ?_; refine nlx ?_) | (refine zsq ?_; intro _ _) | (with_reducible refine zkN ?_) | (refine useK (by assumption) ?_) | (with_reducible first | refine zsB ?_ | refine zkX ?_ | refine zkR ?_ | refine zbN ?_ | refine zbR ?_ | refine zbE ?_ | refine zbX ?_ | refine zsS ?_ | refine zsR ?_ | refine zsX ?_) | (refine cdT ?_) | (refine cdF ?_))
  refine SP.loopN (fun k l bs => l = [nth l 0, nth l 1, .pointer (some ⟨kb, 0, none⟩), .pointer (some ⟨ub, 0, none⟩), .pointer (some ⟨ob, 0, none⟩), nth l 5, .pointer (some ⟨xb, 0, none⟩), .int .u8 (orI (shX a b) k), nth l 8, nth l 9, nth l 10, nth l 11, nth l 12, .agg (ints .u8 (shX a b)), .int .i64 (k), nth l 15, nth l 16, nth l 17, nth l 18, nth l 19, nth l 20, nth l 21, nth l 22, nth l 23, nth l 24] ∧ bs = [(xb, ints .u8 (shX a b), 23), (ob, ints .u8 (List.replicate 32 0), 23), (ub, ints .u8 b, 23), (kb, ints .u8 a, 23)]) 32 ⟨(by first | rfl | (simp only [orI_0]; done) | (simp only [orI_0]; rfl) | (rw [orI_0]; rfl)), (by first | rfl | (simp only [orI_0]; done) | (simp only [orI_0]; rfl) | (rw [orI_0]; rfl))⟩ ?_
  rintro k lfk _ hkk ⟨hlk, rfl⟩
  refine SP.cast hlk ?_
  clear hlk
  by_cases hltk : k < 32
  · have hk1 : IntKind.i64.wrap ((k : Int) + 1) = ((k + 1 : Nat) : Int) := by rw [IntWalk.i64_in _ (by omega)]; omega
    repeat (first | (refine rgn 4 ?_; refine sEv ?_; refine nlx ?_) | (refine rgn 5 ?_; refine SL.ix tabOk ?_; refine sEv ?_; refine nlx ?_) | (refine rgn 6 ?_; (iterate 4 refine sEv ?_); refine nlx ?_) | (refine rgn 7 ?_; refine sEv ?_; refine sEv ?_; refine nlx ?_) | (refine zsq ?_; intro _ _) | (with_reducible refine zkN ?_) | (refine useK (by assumption) ?_) | (with_reducible first | refine zsB ?_ | refine zkX ?_ | refine zkR ?_ | refine zbN ?_ | refine zbR ?_ | refine zbE ?_ | refine zbX ?_ | refine zsS ?_ | refine zsR ?_ | refine zsX ?_) | (refine cdT ?_) | (refine cdF ?_))
    simp only [hk1]
    exact ⟨hltk, (by first | rfl | (simp only [orI_s]; done) | (simp only [orI_s]; rfl) | (rw [orI_s]; rfl)), (by first | rfl | (simp only [orI_s]; done) | (simp only [orI_s]; rfl) | (rw [orI_s]; rfl))⟩
  · have hendk : k = 32 := by omega
    replace hendk := Lib.hid hendk
    have hq := hendk.out; clear hendk; subst hq
    by_cases hx : shX a b = List.replicate 32 0
    · have hz := hor.mpr hx
      repeat (first | (refine rgn 4 ?_; refine sEv ?_; refine nlx ?_) | (refine rgn 8 ?_; refine sEv ?_; refine sEv ?_; refine nlx ?_) | (refine rgn 9 ?_; refine SL.val (ValO.build (by first | (dsimp only [List.map, evL, nth]; done) | (dsimp only [List.map, evL, nth]; rfl)) (bldK0)) bpp ?_; refine SL.stR tabOk ?_; refine sEv ?_; refine nlx ?_) | (refine zsq ?_; intro _ _) | (with_reducible refine zkN ?_) | (refine useK (by assumption) ?_) | (with_reducible first | refine zsB ?_ | refine zkX ?_ | refine zkR ?_ | refine zbN ?_ | refine zbR ?_ | refine zbE ?_ | refine zbX ?_ | refine zsS ?_ | refine zsR ?_ | refine zsX ?_) | (refine cdT ?_) | (refine cdF ?_))
      refine doneK.mk rfl (ResO.cellTmp tabOk rfl rfl rfl (by first | exact RdA.own g0 | exact RdA.own g1 | exact RdA.own g2 | exact RdA.own g3 | exact RdA.own g4 | exact RdA.own g5 | exact RdA.own g6 | exact RdA.own g7 | exact RdA.own g8 | exact RdA.own g9 | exact RdA.own g10 | exact RdA.own g11 | exact RdA.own g12 | exact RdA.own g13 | exact RdA.own g14 | exact RdA.own g15) (by simp [ints_size, ls]) rfl) ?_
      rw [shN, if_pos hx, hx]
      rfl
    · have hz : ¬ orI (shX a b) 32 = 0 := fun h => hx (hor.mp h)
      repeat (first | (refine rgn 4 ?_; refine sEv ?_; refine nlx ?_) | (refine rgn 8 ?_; refine sEv ?_; refine sEv ?_; refine nlx ?_) | (refine rgn 10 ?_; refine SL.ldR tabOk ?_; refine SL.stR tabOk ?_; refine sEv ?_; refine nlx ?_) | (refine zsq ?_; intro _ _) | (with_reducible refine zkN ?_) | (refine useK (by assumption) ?_) | (with_reducible first | refine zsB ?_ | refine zkX ?_ | refine zkR ?_ | refine zbN ?_ | refine zbR ?_ | refine zbE ?_ | refine zbX ?_ | refine zsS ?_ | refine zsR ?_ | refine zsX ?_) | (refine cdT ?_) | (refine cdF ?_))
      refine doneK.mk rfl (ResO.cellTmp tabOk rfl rfl rfl (by first | exact RdA.own g0 | exact RdA.own g1 | exact RdA.own g2 | exact RdA.own g3 | exact RdA.own g4 | exact RdA.own g5 | exact RdA.own g6 | exact RdA.own g7 | exact RdA.own g8 | exact RdA.own g9 | exact RdA.own g10 | exact RdA.own g11 | exact RdA.own g12 | exact RdA.own g13 | exact RdA.own g14 | exact RdA.own g15) (by simp [ints_size, ls]) rfl) ?_
      rw [shN, if_neg hx]
      rfl
end Low
end
section
open Go Go.RowKit
namespace Low
open Sp F
@[irreducible] def base9 : List Int := 9 :: List.replicate 31 0
theorem base9_length : base9.length = 32 := by unfold base9; rfl
theorem bldK9 : Try.prog.built 23 [(0, .int .u8 9)] = some (ints .u8 base9) := by unfold base9; kernel_rfl
theorem base9_ok : Bytes32 base9 := by
  refine ⟨base9_length, ?_⟩
  unfold base9
  intro i hi
  match i with
  | 0 => decide
  | i + 1 =>
    have : gi (9 :: List.replicate 31 0) (i + 1) = 0 := by
      unfold gi
      rw [List.getD_eq_getElem?_getD, List.getElem?_cons_succ, List.getElem?_replicate]
      split <;> rfl
    rw [this]; omega
@[irreducible] def pubV (k : List Int) : Int := vX (clampL k) (v32 base9 % H255) % PP
attribute [simp] base9_length le32_length
set_option maxRecDepth 20000 in
theorem pub_any (a : List Int) (la : a.length = 32) (hkb : Byt (clampL a)) (w : World) : Calls Try.prog 18 #[.agg (ints .u8 a)] w fun e w' => e = .returned (.agg (ints .u8 (le32 (pubV a)))) ∧ Below w.heap.size w w' := by
  unfold pubV
  refine pureE Try.func18 Try.ntmps18 Try.results18 ?_
  repeat (first | (refine rgn 0 ?_; refine SL.bx ?_; intro _; refine SL.al zero_23 ?_; intro _; refine nlx ?_) | (refine rgn 1 ?_; refine SL.ldR tabOk ?_; refine SL.val (ValO.build (by first | (dsimp only [List.map, evL, nth]; done) | (dsimp only [List.map, evL, nth]; rfl)) (bldK9)) bpp ?_; refine SL.v (ValO.call ent_33 _ rfl _ (fun w _ => curveX_any _ _ la base9_ok hkb w)) ?_; refine SL.stR tabOk ?_; refine nlx ?_) | (refine zsq ?_; intro _ _) | (with_reducible refine zkN ?_) | (refine useK (by assumption) ?_) | (with_reducible first | refine zsB ?_ | refine zkX ?_ | refine zkR ?_ | refine zbN ?_ | refine zbR ?_ | refine zbE ?_ | refine zbX ?_ | refine zsS ?_ | refine zsR ?_ | refine zsX ?_) | (refine cdT ?_) | (refine cdF ?_))
  exact doneK.mk rfl (ResO.cell tabOk rfl rfl rfl (by first | exact RdA.own g0 | exact RdA.own g1 | exact RdA.own g2 | exact RdA.own g3 | exact RdA.own g4 | exact RdA.own g5 | exact RdA.own g6 | exact RdA.own g7 | exact RdA.own g8 | exact RdA.own g9 | exact RdA.own g10 | exact RdA.own g11 | exact RdA.own g12 | exact RdA.own g13 | exact RdA.own g14 | exact RdA.own g15) (by rw [ints_size, le32_length])) rfl
end Low
end
section
def Pri (p : Nat) : Prop := 1 < p ∧ ∀ d, d ∣ p → d = 1 ∨ d = p
theorem Pri.coprime {p k : Nat} (hp : Pri p) (h : ¬ p ∣ k) : Nat.Coprime p k := by
  rcases hp.2 (Nat.gcd p k) (Nat.gcd_dvd_left p k) with h1 | h1
  · exact h1
  · exact absurd (h1 ▸ Nat.gcd_dvd_right p k) h
def bin : Nat → Nat → Nat
  | _, 0 => 1
  | 0, _ + 1 => 0
  | n + 1, k + 1 => bin n k + bin n (k + 1)
theorem bin_zero (n : Nat) : bin n 0 = 1 := by cases n <;> rfl
theorem bin_over : ∀ n k, n < k → bin n k = 0
  | 0, k + 1, _ => rfl
  | n + 1, k + 1, h => by
    simp only [bin]
    rw [bin_over n k (by omega), bin_over n (k + 1) (by omega)]
  | _, 0, h => by omega
theorem bin_self : ∀ n, bin n n = 1
  | 0 => rfl
  | n + 1 => by
    simp only [bin]
    rw [bin_self n, bin_over n (n + 1) (by omega)]
theorem bin_mul : ∀ n k, (k + 1) * bin (n + 1) (k + 1) = (n + 1) * bin n k
  | 0, 0 => rfl
  | 0, k + 1 => by simp [bin]
  | n + 1, 0 => by
    have h := bin_mul n 0
    have e : bin (n + 2) 1 = bin (n + 1) 0 + bin (n + 1) 1 := rfl
    rw [bin_zero n] at h
    rw [bin_zero (n + 1)]
    show (0 + 1) * bin (n + 2) 1 = _
    rw [e, bin_zero (n + 1)]
    simp only [Nat.zero_add] at h
    omega
  | n + 1, k + 1 => by
    have h1 := bin_mul n k
    have h2 := bin_mul n (k + 1)
    have e : bin (n + 2) (k + 2) = bin (n + 1) (k + 1) + bin (n + 1) (k + 2) := rfl
    have e2 : bin (n + 1) (k + 1) = bin n k + bin n (k + 1) := rfl
    show (k + 1 + 1) * bin (n + 2) (k + 2) = (n + 1 + 1) * bin (n + 1) (k + 1)
    rw [e, Nat.mul_add, show k + 1 + 1 = k + 2 from rfl] at *
    rw [h2, Nat.add_mul (k + 1) 1, h1, e2]
    grind
theorem bin_dvd {p k : Nat} (hp : Pri p) (h0 : 0 < k) (h1 : k < p) : p ∣ bin p k := by
  obtain ⟨n, rfl⟩ : ∃ n, p = n + 1 := ⟨p - 1, by omega⟩
  obtain ⟨j, rfl⟩ : ∃ j, k = j + 1 := ⟨k - 1, by omega⟩
  have h := bin_mul n j
  have hc : Nat.Coprime (n + 1) (j + 1) := hp.coprime fun hd => by have := Nat.le_of_dvd (by omega) hd; omega
  exact hc.dvd_of_dvd_mul_left ⟨bin n j, h⟩
def sumB (a : Nat) (f : Nat → Nat) : Nat → Nat
  | 0 => 0
  | k + 1 => sumB a f k + f k * a ^ k
theorem sumB_shift (a : Nat) (f : Nat → Nat) : ∀ k, sumB a f (k + 1) = f 0 + a * sumB a (fun i => f (i + 1)) k
  | 0 => by simp [sumB]
  | k + 1 => by
    have h := sumB_shift a f k
    simp only [sumB] at h ⊢
    rw [h, Nat.mul_add, Nat.pow_succ]
    grind
theorem sumB_add (a : Nat) (f g : Nat → Nat) : ∀ k, sumB a (fun i => f i + g i) k = sumB a f k + sumB a g k
  | 0 => rfl
  | k + 1 => by
    simp only [sumB]
    rw [sumB_add a f g k, Nat.add_mul]
    omega
theorem binomial (a : Nat) : ∀ n, sumB a (bin n) (n + 1) = (a + 1) ^ n
  | 0 => by simp [sumB, bin]
  | n + 1 => by
    have ih := binomial a n
    have hs := sumB_shift a (bin n) (n + 1)
    have h2 : sumB a (bin n) (n + 2) = sumB a (bin n) (n + 1) := by
      show sumB a (bin n) (n + 1) + bin n (n + 1) * a ^ (n + 1) = _
      rw [bin_over n (n + 1) (by omega)]
      omega
    rw [sumB_shift a (bin (n + 1)) (n + 1), show (fun i => bin (n + 1) (i + 1)) = fun i => bin n i + bin n (i + 1) from rfl, sumB_add a (bin n) (fun i => bin n (i + 1)), ih, bin_zero, Nat.pow_succ]
    rw [h2, bin_zero, ih] at hs
    rw [Nat.mul_add, Nat.mul_add, Nat.mul_one]
    rw [Nat.mul_comm ((a + 1) ^ n) a]
    omega
theorem sumB_mod {a p : Nat} {f : Nat → Nat} : ∀ k, (∀ i, 0 < i → i < k → p ∣ f i) → sumB a f k % p = (if k = 0 then 0 else f 0) % p
  | 0, _ => rfl
  | 1, _ => by simp [sumB]
  | k + 2, h => by
    have ih := sumB_mod (a := a) (k + 1) (fun i h0 h1 => h i h0 (by omega))
    obtain ⟨c, hc⟩ := h (k + 1) (by omega) (by omega)
    show (sumB a f (k + 1) + f (k + 1) * a ^ (k + 1)) % p = _
    rw [hc, Nat.mul_assoc, Nat.add_mul_mod_self_left, ih]
    simp
theorem fermat_succ {p : Nat} (hp : Pri p) (a : Nat) : (a + 1) ^ p % p = (a ^ p + 1) % p := by
  rw [← binomial a p]
  show (sumB a (bin p) p + bin p p * a ^ p) % p = _
  rw [bin_self, Nat.add_mod, sumB_mod p (fun i h0 h1 => bin_dvd hp h0 h1), if_neg (by have := hp.1; omega), bin_zero, ← Nat.add_mod, Nat.one_mul, Nat.add_comm]
theorem fermat_pow {p : Nat} (hp : Pri p) : ∀ a, a ^ p % p = a % p
  | 0 => by rw [Nat.zero_pow (by have := hp.1; omega)]
  | a + 1 => by rw [fermat_succ hp, Nat.add_mod, fermat_pow hp a, ← Nat.add_mod]
theorem fermat {p : Nat} (hp : Pri p) {a : Nat} (ha : ¬ p ∣ a) : a ^ (p - 1) % p = 1 := by
  have h1 := hp.1
  have h := fermat_pow hp a
  have hpos : 0 < a := Nat.pos_of_ne_zero fun e => ha (e ▸ Nat.dvd_zero p)
  have hle : 1 ≤ a ^ (p - 1) := Nat.one_le_pow _ _ hpos
  have e : a ^ p = a * a ^ (p - 1) := by rw [← Nat.pow_succ']; congr 1; omega
  have hd : p ∣ a * (a ^ (p - 1) - 1) := by
    rw [Nat.mul_sub, Nat.mul_one, ← e]
    exact Nat.dvd_of_mod_eq_zero (Nat.sub_mod_eq_zero_of_mod_eq h)
  obtain ⟨c, hc⟩ := (hp.coprime ha).dvd_of_dvd_mul_left hd
  rw [show a ^ (p - 1) = 1 + p * c by omega, Nat.add_mul_mod_self_left, Nat.mod_eq_of_lt h1]
def powm (n : Nat) : Nat → Nat → Nat → Nat
  | 0, _, _ => 1 % n
  | f + 1, a, e => if e = 0 then 1 % n else if e % 2 = 1 then a * powm n f (a * a % n) (e / 2) % n else powm n f (a * a % n) (e / 2)
theorem powm_spec (n : Nat) : ∀ f a e, e < 2 ^ f → powm n f a e = a ^ e % n
  | 0, a, e, h => by
    obtain rfl : e = 0 := by simpa using h
    rfl
  | f + 1, a, e, h => by
    have ih := powm_spec n f (a * a % n) (e / 2) (by rw [Nat.pow_succ] at h; omega)
    simp only [powm]
    by_cases h0 : e = 0
    · rw [if_pos h0, h0]
      rfl
    · rw [if_neg h0, ih, ← Nat.pow_mod]
      have hsq : (a * a) ^ (e / 2) = a ^ (2 * (e / 2)) := by rw [Nat.pow_mul, Nat.pow_two]
      by_cases h1 : e % 2 = 1
      · rw [if_pos h1, Nat.mul_mod_mod, hsq, ← Nat.pow_succ']
        congr 2
        omega
      · rw [if_neg h1, hsq]
        congr 2
        omega
theorem pow_gcd {r a : Nat} (hr : 1 < r) : ∀ x y, a ^ x % r = 1 → a ^ y % r = 1 → a ^ (Nat.gcd x y) % r = 1 := by
  intro x y
  induction x, y using Nat.gcd.induction with
  | H0 y => intro _ h; rw [Nat.gcd_zero_left]; exact h
  | H1 x y hx ih =>
    intro h1 h2
    rw [Nat.gcd_rec]
    refine ih ?_ h1
    have e : a ^ y = a ^ (y % x) * (a ^ x) ^ (y / x) := by
      rw [← Nat.pow_mul, ← Nat.pow_add]
      congr 1
      have := Nat.mod_add_div y x
      omega
    have h3 : (a ^ x) ^ (y / x) % r = 1 := by rw [Nat.pow_mod, h1, Nat.one_pow, Nat.mod_eq_of_lt hr]
    rw [e, Nat.mul_mod, h3, Nat.mul_one, Nat.mod_mod] at h2
    exact h2
theorem least_div : ∀ (k n : Nat), 1 < n → n ≤ k → ∃ r, Pri r ∧ r ∣ n
  | 0, n, h, hk => by omega
  | k + 1, n, h, hk => by
    by_cases hp : ∀ d, d ∣ n → d = 1 ∨ d = n
    · exact ⟨n, ⟨h, hp⟩, Nat.dvd_refl n⟩
    · obtain ⟨d, hd⟩ := Classical.not_forall.1 hp
      have hdn : d ∣ n := Classical.byContradiction fun hc => hd fun hx => absurd hx hc
      have h1 : d ≠ 1 := fun e => hd fun _ => Or.inl e
      have h2 : d ≠ n := fun e => hd fun _ => Or.inr e
      have h3 := Nat.le_of_dvd (by omega) hdn
      have h4 : d ≠ 0 := fun e => by subst e; have := Nat.eq_zero_of_zero_dvd hdn; omega
      obtain ⟨r, hr, hrd⟩ := least_div k d (by omega) (by omega)
      exact ⟨r, hr, Nat.dvd_trans hrd hdn⟩
theorem pock {n q r m f : Nat} (hq : Pri q) (hr : Pri r) (hrn : r ∣ n) (hn : n = q * m + 1) (hf : q * m < 2 ^ f) (hm : m < 2 ^ f)
    (h1 : powm n f 2 (q * m) = 1) (h2 : Nat.gcd (powm n f 2 m + (n - 1)) n = 1) : q ∣ r - 1 := by
  have hr1 := hr.1
  rw [powm_spec n f 2 _ hf] at h1
  rw [powm_spec n f 2 _ hm] at h2
  have hmod : ∀ x, x % n % r = x % r := fun x => Nat.mod_mod_of_dvd x hrn
  have g1 : 2 ^ (q * m) % r = 1 := by rw [← hmod, h1, Nat.mod_eq_of_lt hr1]
  have g2 : ¬ 2 ^ m % r = 1 := by
    intro h
    have hd : r ∣ 2 ^ m % n + (n - 1) := by
      have e : (2 ^ m % n) % r = 1 := by rw [hmod]; exact h
      obtain ⟨c, hc⟩ := hrn
      have hx := Nat.mod_add_div (2 ^ m % n) r
      rw [e] at hx
      have hc1 : 1 ≤ c := Nat.pos_of_ne_zero fun e0 => by subst e0; omega
      refine ⟨2 ^ m % n / r + c, ?_⟩
      rw [Nat.mul_add, ← hc]
      omega
    have := Nat.dvd_gcd hd hrn
    rw [h2] at this
    have := Nat.le_of_dvd (by omega) this
    omega
  have g3 : ¬ r ∣ 2 := by
    intro h
    have h4 : 2 ^ (q * m) % r = 0 := by
      have hqm : q * m ≠ 0 := by
        intro e0
        rw [e0] at hn
        have := Nat.le_of_dvd (by omega) hrn
        omega
      obtain ⟨j, hj⟩ : ∃ j, q * m = j + 1 := ⟨q * m - 1, by omega⟩
      rw [hj, Nat.pow_succ]
      exact Nat.mod_eq_zero_of_dvd (Nat.dvd_trans h (Nat.dvd_mul_left 2 _))
    omega
  have g4 := fermat hr g3
  apply Classical.byContradiction
  intro hq'
  have hc := hq.coprime hq'
  have g5 : 2 ^ ((r - 1) * m) % r = 1 := by rw [Nat.pow_mul, Nat.pow_mod, g4, Nat.one_pow, Nat.mod_eq_of_lt hr1]
  have g6 := pow_gcd hr1 _ _ g1 g5
  rw [Nat.gcd_mul_right, hc, Nat.one_mul] at g6
  exact g2 g6
theorem prime_of {n F : Nat} (hn : 1 < n) (hF : n < (F + 1) * (F + 1)) (h : ∀ r, Pri r → r ∣ n → F ∣ r - 1) : Pri n := by
  refine ⟨hn, fun d hd => ?_⟩
  apply Classical.byContradiction
  intro hc
  have hd1 : d ≠ 1 := fun e => hc (Or.inl e)
  have hdn : d ≠ n := fun e => hc (Or.inr e)
  obtain ⟨k, hk⟩ := hd
  have hd0 : d ≠ 0 := fun e => by subst e; omega
  have hk0 : k ≠ 0 := fun e => by subst e; omega
  have hk1 : k ≠ 1 := fun e => by subst e; omega
  have big : ∀ x, 1 < x → x ∣ n → F + 1 ≤ x := by
    intro x hx hxn
    obtain ⟨r, hr, hrx⟩ := least_div x x hx (Nat.le_refl x)
    have h1 := h r hr (Nat.dvd_trans hrx hxn)
    have h2 := Nat.le_of_dvd (by omega) hrx
    have h3 := hr.1
    have h4 := Nat.le_of_dvd (by omega) h1
    omega
  have h1 := big d (by omega) ⟨k, hk⟩
  have h2 := big k (by omega) ⟨d, by rw [hk, Nat.mul_comm]⟩
  have h3 := Nat.mul_le_mul h1 h2
  omega
def noDiv (n : Nat) : Nat → Nat → Bool
  | 0, _ => true
  | f + 1, d => n % d != 0 && noDiv n f (d + 1)
theorem noDiv_spec (n : Nat) : ∀ f d, noDiv n f d = true → ∀ x, d ≤ x → x < d + f → ¬ x ∣ n
  | 0, d, _, x, h1, h2 => by omega
  | f + 1, d, h, x, h1, h2 => by
    simp only [noDiv, Bool.and_eq_true, bne_iff_ne] at h
    by_cases e : x = d
    · subst e
      intro hx
      exact h.1 (Nat.mod_eq_zero_of_dvd hx)
    · exact noDiv_spec n f (d + 1) h.2 x (by omega) (by omega)
theorem small_prime {n f : Nat} (hn : 1 < n) (hf : n < (f + 2) * (f + 2)) (h : noDiv n f 2 = true) : Pri n := by
  have hs := noDiv_spec n f 2 h
  refine ⟨hn, fun d hd => ?_⟩
  apply Classical.byContradiction
  intro hc
  have hd1 : d ≠ 1 := fun e => hc (Or.inl e)
  have hdn : d ≠ n := fun e => hc (Or.inr e)
  obtain ⟨k, hk⟩ := hd
  have hd0 : d ≠ 0 := fun e => by subst e; omega
  have hk0 : k ≠ 0 := fun e => by subst e; omega
  have hk1 : k ≠ 1 := fun e => by subst e; omega
  have h1 : f + 2 ≤ d := Classical.byContradiction fun hlt => hs d (by omega) (by omega) ⟨k, hk⟩
  have h2 : f + 2 ≤ k := Classical.byContradiction fun hlt => hs k (by omega) (by omega) ⟨d, by rw [hk, Nat.mul_comm]⟩
  have h3 := Nat.mul_le_mul h1 h2
  omega
theorem two_primes {p q r : Nat} (hp : Pri p) (hpq : ¬ p ∣ q) (h1 : p ∣ r) (h2 : q ∣ r) : p * q ∣ r := (hp.coprime hpq).mul_dvd_of_dvd_of_dvd h1 h2
theorem pri_127 : Pri 127 := small_prime (f := 20) (by decide) (by decide) (by decide +kernel)
theorem pri_4153 : Pri 4153 := small_prime (f := 80) (by decide) (by decide) (by decide +kernel)
theorem pri_430751 : Pri 430751 := small_prime (f := 700) (by decide) (by decide) (by decide +kernel)
theorem pri_8574133 : Pri 8574133 := small_prime (f := 3000) (by decide) (by decide) (by decide +kernel)
theorem pri_75707 : Pri 75707 := small_prime (f := 300) (by decide) (by decide) (by decide +kernel)
theorem pri_s1 : Pri 1919519569386763 := prime_of (F := 8574133 * 127) (by decide) (by decide) fun r hr hd =>
  two_primes pri_8574133 (by decide) (pock (m := 223873314) (f := 60) pri_8574133 hr hd (by decide) (by decide) (by decide) (by decide +kernel) (by decide +kernel)) (pock (m := 15114327318006) (f := 60) pri_127 hr hd (by decide) (by decide) (by decide) (by decide +kernel) (by decide +kernel))
theorem pri_r1 : Pri 31757755568855353 := prime_of (F := 430751 * 4153) (by decide) (by decide) fun r hr hd =>
  two_primes pri_430751 (by decide) (pock (m := 73726481352) (f := 60) pri_430751 hr hd (by decide) (by decide) (by decide) (by decide +kernel) (by decide +kernel)) (pock (m := 7646943310584) (f := 60) pri_4153 hr hd (by decide) (by decide) (by decide) (by decide +kernel) (by decide +kernel))
theorem pri_q2 : Pri 75445702479781427272750846543864801 := prime_of (F := 1919519569386763 * 75707) (by decide) (by decide) fun r hr hd =>
  two_primes pri_s1 (by decide) (pock (m := 39304471641247389600) (f := 120) pri_s1 hr hd (by decide) (by decide) (by decide) (by decide +kernel) (by decide +kernel)) (pock (m := 996548568557483816196003626400) (f := 120) pri_75707 hr hd (by decide) (by decide) (by decide) (by decide +kernel) (by decide +kernel))
theorem pri_q1 : Pri 74058212732561358302231226437062788676166966415465897661863160754340907 := prime_of (F := 75445702479781427272750846543864801 * 31757755568855353) (by decide) (by decide) fun r hr hd =>
  two_primes pri_q2 (by decide) (pock (m := 981609426360740691344999861639072106) (f := 240) pri_q2 hr hd (by decide) (by decide) (by decide) (by decide +kernel) (by decide +kernel)) (pock (m := 2331972502653487852620185443007392165117953542933313402) (f := 240) pri_r1 hr hd (by decide) (by decide) (by decide) (by decide +kernel) (by decide +kernel))
theorem pri_p : Pri 57896044618658097711785492504343953926634992332820282019728792003956564819949 := prime_of (F := 74058212732561358302231226437062788676166966415465897661863160754340907) (by decide) (by decide) fun r hr hd =>
  pock (m := 781764) (f := 256) pri_q1 hr hd (by decide) (by decide) (by decide) (by decide +kernel) (by decide +kernel)
end
section
namespace Ed
theorem pri_1224481 : Pri 1224481 := small_prime (f := 1200) (by decide) (by decide) (by decide +kernel)
theorem pri_531581 : Pri 531581 := small_prime (f := 800) (by decide) (by decide) (by decide +kernel)
theorem pri_a : Pri 1257559732178653 := prime_of (F := 1224481 * 531581) (by decide) (by decide) fun r hr hd => two_primes pri_1224481 (by decide) (pock (m := 1027014492) (f := 53) pri_1224481 hr hd (by decide) (by decide) (by decide) (by decide +kernel) (by decide +kernel)) (pock (m := 2365697292) (f := 53) pri_531581 hr hd (by decide) (by decide) (by decide) (by decide +kernel) (by decide +kernel))
theorem pri_b : Pri 4434155615661930479 := prime_of (F := 1257559732178653) (by decide) (by decide) fun r hr hd => pock (m := 3526) (f := 64) pri_a hr hd (by decide) (by decide) (by decide) (by decide +kernel) (by decide +kernel)
theorem pri_c : Pri 172054593956031949258510691 := prime_of (F := 4434155615661930479) (by decide) (by decide) fun r hr hd => pock (m := 38802110) (f := 90) pri_b hr hd (by decide) (by decide) (by decide) (by decide +kernel) (by decide +kernel)
theorem pri_d : Pri 19757330305831588566944191468367130476339 := prime_of (F := 172054593956031949258510691) (by decide) (by decide) fun r hr hd => pock (m := 114831751082918) (f := 136) pri_c hr hd (by decide) (by decide) (by decide) (by decide +kernel) (by decide +kernel)
theorem pri_e : Pri 276602624281642239937218680557139826668747 := prime_of (F := 19757330305831588566944191468367130476339) (by decide) (by decide) fun r hr hd => pock (m := 14) (f := 140) pri_d hr hd (by decide) (by decide) (by decide) (by decide +kernel) (by decide +kernel)
theorem pri_l : Pri 7237005577332262213973186563042994240857116359379907606001950938285454250989 := prime_of (F := 276602624281642239937218680557139826668747) (by decide) (by decide) fun r hr hd => pock (m := 26163907866482859529727157400808004) (f := 255) pri_e hr hd (by decide) (by decide) (by decide) (by decide +kernel) (by decide +kernel)
abbrev pN : Nat := 57896044618658097711785492504343953926634992332820282019728792003956564819949
abbrev Fp := Fin pN
theorem pri : Pri pN := pri_p
theorem mod_zero {p a b : Nat} (hp : Pri p) (h : a * b % p = 0) : a % p = 0 ∨ b % p = 0 := by
  by_cases ha : p ∣ a
  · exact .inl (Nat.mod_eq_zero_of_dvd ha)
  · exact .inr (Nat.mod_eq_zero_of_dvd ((hp.coprime ha).dvd_of_dvd_mul_left (Nat.dvd_of_mod_eq_zero h)))
theorem mul_zero' {a b : Fp} (h : a * b = 0) : a = 0 ∨ b = 0 := by
  have h1 : a.val * b.val % pN = 0 := by have := congrArg Fin.val h; rw [Fin.val_mul] at this; exact this
  rcases mod_zero pri h1 with h2 | h2
  · left; apply Fin.ext; rw [Nat.mod_eq_of_lt a.isLt] at h2; exact h2
  · right; apply Fin.ext; rw [Nat.mod_eq_of_lt b.isLt] at h2; exact h2
theorem mul_ne {a b : Fp} (ha : a ≠ 0) (hb : b ≠ 0) : a * b ≠ 0 := fun h => by
  rcases mul_zero' h with h | h
  · exact ha h
  · exact hb h
@[irreducible] def expo : Nat := 57896044618658097711785492504343953926634992332820282019728792003956564819947
@[irreducible] def invN (a : Nat) : Nat := powm pN 256 a expo
theorem inv_gen {p e f a : Nat} (hp : Pri p) (he : e + 2 = p) (hf : p < 2 ^ f) (ha : ¬ p ∣ a) : a * powm p f a e % p = 1 := by
  rw [powm_spec p f a e (by omega), Nat.mul_mod, Nat.mod_mod, ← Nat.mul_mod, ← Nat.pow_succ', show e.succ = p - 1 by omega]
  exact fermat hp ha
theorem invN_ok {a : Nat} (ha : ¬ pN ∣ a) : a * invN a % pN = 1 := by
  unfold invN
  exact inv_gen pri (by unfold expo; decide) (by decide) ha
def finv (a : Fp) : Fp := ⟨invN a.val % pN, Nat.mod_lt _ (by decide)⟩
theorem finv_ok {a : Fp} (ha : a ≠ 0) : a * finv a = 1 := by
  apply Fin.ext
  rw [Fin.val_mul]
  show a.val * (invN a.val % pN) % pN = 1
  rw [Nat.mul_mod, Nat.mod_mod, ← Nat.mul_mod]
  refine invN_ok fun hd => ha ?_
  apply Fin.ext
  rcases Nat.eq_zero_or_pos a.val with h | h
  · exact h
  · exact absurd (Nat.le_of_dvd h hd) (Nat.not_le.2 a.isLt)
theorem cancel {a b c : Fp} (hc : c ≠ 0) (h : a * c = b * c) : a = b := by
  have h1 : (a - b) * c = 0 := by grobner
  rcases mul_zero' h1 with h2 | h2
  · grobner
  · exact absurd h2 hc
theorem two_ne : (2 : Fp) ≠ 0 := by decide
@[irreducible] def DD : Fp := 20800338683988658368647408995589388737092878452977063003340006470870624536394
theorem DD_c : (121666 : Fp) * DD = 121665 := by unfold DD; decide +kernel
theorem euler {p h d s t : Nat} (hp : Pri p) (hh : 2 * h = p - 1) (hd : ¬ d ^ h % p = 1) (hd0 : ¬ p ∣ d) (e : s * s % p = d * (t * t) % p) : p ∣ t := by
  apply Classical.byContradiction
  intro ht
  have hs : ¬ p ∣ s := by
    intro hs
    have h0 : d * (t * t) % p = 0 := by rw [← e]; exact Nat.mod_eq_zero_of_dvd (Nat.dvd_trans hs (Nat.dvd_mul_right _ _))
    rcases mod_zero hp h0 with h1 | h1
    · exact hd0 (Nat.dvd_of_mod_eq_zero h1)
    · rcases mod_zero hp h1 with h2 | h2 <;> exact ht (Nat.dvd_of_mod_eq_zero h2)
  have h1 : (s * s) ^ h % p = (d * (t * t)) ^ h % p := by rw [Nat.pow_mod, e, ← Nat.pow_mod]
  rw [← Nat.pow_two, ← Nat.pow_two, Nat.mul_pow, ← Nat.pow_mul, ← Nat.pow_mul, hh, fermat hp hs, Nat.mul_mod, fermat hp ht, Nat.mul_one, Nat.mod_mod] at h1
  exact hd h1.symm
theorem DD_euler : ¬ DD.val ^ 28948022309329048855892746252171976963317496166410141009864396001978282409974 % pN = 1 := by
  have h := powm_spec pN 256 DD.val 28948022309329048855892746252171976963317496166410141009864396001978282409974 (by decide)
  rw [← h]
  unfold DD
  decide +kernel
theorem DD_dvd : ¬ pN ∣ DD.val := by unfold DD; decide +kernel
theorem nosq_gen {H : Nat} (hH : 2 * H = pN - 1) (hE : ¬ DD.val ^ H % pN = 1) {s t : Fp} (h : s * s = DD * (t * t)) : t = 0 := by
  have e : s.val * s.val % pN = DD.val * (t.val * t.val) % pN := by
    have := congrArg Fin.val h
    rw [Fin.val_mul, Fin.val_mul, Fin.val_mul] at this
    rw [this, Nat.mul_mod, Nat.mod_mod, ← Nat.mul_mod]
  have hd := euler pri hH hE DD_dvd e
  apply Fin.ext
  rcases Nat.eq_zero_or_pos t.val with h | h
  · exact h
  · exact absurd (Nat.le_of_dvd h hd) (Nat.not_le.2 t.isLt)
theorem nosq {s t : Fp} (h : s * s = DD * (t * t)) : t = 0 := nosq_gen (by decide) DD_euler h
structure Pt where
  x : Fp
  y : Fp
  on : x * x + y * y = 1 + DD * (x * x * (y * y))
theorem Pt.ext' {P Q : Pt} (hx : P.x = Q.x) (hy : P.y = Q.y) : P = Q := by cases P; cases Q; simp at hx hy; subst hx hy; rfl
theorem den_sq {d x1 y1 x2 y2 : Fp} (hns : ∀ s t : Fp, s * s = d * (t * t) → t = 0) (e1 : x1 * x1 + y1 * y1 = 1 + d * (x1 * x1 * (y1 * y1))) (e2 : x2 * x2 + y2 * y2 = 1 + d * (x2 * x2 * (y2 * y2))) :
    (d * (x1 * x2 * (y1 * y2))) * (d * (x1 * x2 * (y1 * y2))) ≠ 1 := by
  intro h
  have k1 : (x1 + d * (x1 * x2 * (y1 * y2)) * y1) * (x1 + d * (x1 * x2 * (y1 * y2)) * y1) = d * ((x1 * y1 * (x2 + y2)) * (x1 * y1 * (x2 + y2))) := by grobner
  have k2 : (x1 - d * (x1 * x2 * (y1 * y2)) * y1) * (x1 - d * (x1 * x2 * (y1 * y2)) * y1) = d * ((x1 * y1 * (x2 - y2)) * (x1 * y1 * (x2 - y2))) := by grobner
  have h1 := hns _ _ k1
  have h2 := hns _ _ k2
  have h3 : 2 * (x1 * x2 * y1) = 0 := by grobner
  have h4 : x1 * x2 * y1 = 0 := (mul_zero' h3).resolve_left two_ne
  have h5 : (0 : Fp) = 1 := by rw [← h]; grobner
  exact absurd h5 (by decide)
theorem den_p (P Q : Pt) : 1 + DD * (P.x * Q.x * (P.y * Q.y)) ≠ 0 := fun h => den_sq (fun _ _ => nosq) P.on Q.on (by grobner)
theorem den_m (P Q : Pt) : 1 - DD * (P.x * Q.x * (P.y * Q.y)) ≠ 0 := fun h => den_sq (fun _ _ => nosq) P.on Q.on (by grobner)
theorem closed {d x1 y1 x2 y2 u v i j : Fp} (e1 : x1 * x1 + y1 * y1 = 1 + d * (x1 * x1 * (y1 * y1))) (e2 : x2 * x2 + y2 * y2 = 1 + d * (x2 * x2 * (y2 * y2)))
    (hi : (1 + d * (x1 * x2 * (y1 * y2))) * i = 1) (hj : (1 - d * (x1 * x2 * (y1 * y2))) * j = 1)
    (hu : u = (x1 * y2 + y1 * x2) * i) (hv : v = (y1 * y2 - x1 * x2) * j) : u * u + v * v = 1 + d * (u * u * (v * v)) := by
  have key : (x1*y2+y1*x2)*(x1*y2+y1*x2)*((1 - d*(x1*x2*(y1*y2)))*(1 - d*(x1*x2*(y1*y2)))) + (y1*y2-x1*x2)*(y1*y2-x1*x2)*((1 + d*(x1*x2*(y1*y2)))*(1 + d*(x1*x2*(y1*y2)))) = (1 + d*(x1*x2*(y1*y2)))*(1 + d*(x1*x2*(y1*y2)))*((1 - d*(x1*x2*(y1*y2)))*(1 - d*(x1*x2*(y1*y2)))) + d * ((x1*y2+y1*x2)*(x1*y2+y1*x2)*((y1*y2-x1*x2)*(y1*y2-x1*x2))) := by grobner
  subst hu hv
  generalize x1*y2+y1*x2 = X at *
  generalize y1*y2-x1*x2 = Y at *
  generalize 1 + d*(x1*x2*(y1*y2)) = A at *
  generalize 1 - d*(x1*x2*(y1*y2)) = B at *
  clear e1 e2
  grobner
def add (P Q : Pt) : Pt := ⟨(P.x * Q.y + P.y * Q.x) * finv (1 + DD * (P.x * Q.x * (P.y * Q.y))), (P.y * Q.y - P.x * Q.x) * finv (1 - DD * (P.x * Q.x * (P.y * Q.y))),
  closed P.on Q.on (finv_ok (den_p P Q)) (finv_ok (den_m P Q)) rfl rfl⟩
theorem add_x (P Q : Pt) : (add P Q).x * (1 + DD * (P.x * Q.x * (P.y * Q.y))) = P.x * Q.y + P.y * Q.x := by
  have h := finv_ok (den_p P Q)
  show (P.x * Q.y + P.y * Q.x) * finv (1 + DD * (P.x * Q.x * (P.y * Q.y))) * (1 + DD * (P.x * Q.x * (P.y * Q.y))) = _
  generalize finv (1 + DD * (P.x * Q.x * (P.y * Q.y))) = i at *
  generalize 1 + DD * (P.x * Q.x * (P.y * Q.y)) = A at *
  grobner
theorem add_y (P Q : Pt) : (add P Q).y * (1 - DD * (P.x * Q.x * (P.y * Q.y))) = P.y * Q.y - P.x * Q.x := by
  have h := finv_ok (den_m P Q)
  show (P.y * Q.y - P.x * Q.x) * finv (1 - DD * (P.x * Q.x * (P.y * Q.y))) * (1 - DD * (P.x * Q.x * (P.y * Q.y))) = _
  generalize finv (1 - DD * (P.x * Q.x * (P.y * Q.y))) = i at *
  generalize 1 - DD * (P.x * Q.x * (P.y * Q.y)) = A at *
  grobner
theorem add_comm' (P Q : Pt) : add P Q = add Q P := by
  apply Pt.ext'
  · apply cancel (den_p P Q)
    rw [add_x]
    have := add_x Q P
    grobner
  · apply cancel (den_m P Q)
    rw [add_y]
    have := add_y Q P
    grobner
def O : Pt := ⟨0, 1, by grobner⟩
def neg (P : Pt) : Pt := ⟨0 - P.x, P.y, by have := P.on; grobner⟩
theorem add_O (P : Pt) : add P O = P := by
  apply Pt.ext'
  · have h := add_x P O
    have h1 : O.x = 0 := rfl
    have h2 : O.y = 1 := rfl
    rw [h1, h2] at h
    grobner
  · have h := add_y P O
    have h1 : O.x = 0 := rfl
    have h2 : O.y = 1 := rfl
    rw [h1, h2] at h
    grobner
theorem add_neg (P : Pt) : add P (neg P) = O := by
  have hx : (neg P).x = 0 - P.x := rfl
  have hy : (neg P).y = P.y := rfl
  have ox : O.x = 0 := rfl
  have oy : O.y = 1 := rfl
  apply Pt.ext'
  · apply cancel (den_p P (neg P))
    rw [add_x, hx, hy, ox]
    grobner
  · apply cancel (den_m P (neg P))
    rw [add_y, hx, hy, oy]
    have := P.on
    grobner
theorem assX {d x1 y1 x2 y2 x3 y3 : Fp} (e1 : x1*x1+y1*y1 = 1 + d*(x1*x1*(y1*y1))) (e2 : x2*x2+y2*y2 = 1 + d*(x2*x2*(y2*y2))) (e3 : x3*x3+y3*y3 = 1 + d*(x3*x3*(y3*y3))) :
  ((x1*y2+y1*x2)*(1 - d*(x1*x2*(y1*y2)))*y3 + (y1*y2-x1*x2)*(1 + d*(x1*x2*(y1*y2)))*x3) * ((1 + d*(x2*x3*(y2*y3)))*(1 - d*(x2*x3*(y2*y3))) + d*(x1*y1*((x2*y3+y2*x3)*(y2*y3-x2*x3)))) =
  ((x2*y3+y2*x3)*(1 - d*(x2*x3*(y2*y3)))*y1 + (y2*y3-x2*x3)*(1 + d*(x2*x3*(y2*y3)))*x1) * ((1 + d*(x1*x2*(y1*y2)))*(1 - d*(x1*x2*(y1*y2))) + d*(x3*y3*((x1*y2+y1*x2)*(y1*y2-x1*x2)))) := by grobner
theorem assY {d x1 y1 x2 y2 x3 y3 : Fp} (e1 : x1*x1+y1*y1 = 1 + d*(x1*x1*(y1*y1))) (e2 : x2*x2+y2*y2 = 1 + d*(x2*x2*(y2*y2))) (e3 : x3*x3+y3*y3 = 1 + d*(x3*x3*(y3*y3))) :
  ((y1*y2-x1*x2)*(1 + d*(x1*x2*(y1*y2)))*y3 - (x1*y2+y1*x2)*(1 - d*(x1*x2*(y1*y2)))*x3) * ((1 + d*(x2*x3*(y2*y3)))*(1 - d*(x2*x3*(y2*y3))) - d*(x1*y1*((x2*y3+y2*x3)*(y2*y3-x2*x3)))) =
  ((y2*y3-x2*x3)*(1 + d*(x2*x3*(y2*y3)))*y1 - (x2*y3+y2*x3)*(1 - d*(x2*x3*(y2*y3)))*x1) * ((1 + d*(x1*x2*(y1*y2)))*(1 - d*(x1*x2*(y1*y2))) - d*(x3*y3*((x1*y2+y1*x2)*(y1*y2-x1*x2)))) := by grobner
theorem frac {u v A B X Y p q d l : Fp} (hu : u * A = X) (hv : v * B = Y) (hl : l * (1 + d * (u * p * (v * q))) = u * q + v * p) : l * (A * B + d * (p * q * (X * Y))) = X * B * q + Y * A * p := by grobner
theorem fracY {u v A B X Y p q d l : Fp} (hu : u * A = X) (hv : v * B = Y) (hl : l * (1 - d * (u * p * (v * q))) = v * q - u * p) : l * (A * B - d * (p * q * (X * Y))) = Y * A * q - X * B * p := by grobner
theorem frac_ne {u v A B X Y p q d : Fp} (hu : u * A = X) (hv : v * B = Y) (hA : A ≠ 0) (hB : B ≠ 0) (hn : 1 + d * (u * p * (v * q)) ≠ 0) : A * B + d * (p * q * (X * Y)) ≠ 0 := fun h => by
  have h1 : A * B * (1 + d * (u * p * (v * q))) = 0 := by grobner
  exact mul_ne (mul_ne hA hB) hn h1
theorem fracY_ne {u v A B X Y p q d : Fp} (hu : u * A = X) (hv : v * B = Y) (hA : A ≠ 0) (hB : B ≠ 0) (hn : 1 - d * (u * p * (v * q)) ≠ 0) : A * B - d * (p * q * (X * Y)) ≠ 0 := fun h => by
  have h1 : A * B * (1 - d * (u * p * (v * q))) = 0 := by grobner
  exact mul_ne (mul_ne hA hB) hn h1
theorem cross {l r ml mr nl nr : Fp} (h1 : l * ml = nl) (h2 : r * mr = nr) (h : nl * mr = nr * ml) (hl : ml ≠ 0) (hr : mr ≠ 0) : l = r := by
  apply cancel (mul_ne hl hr)
  grobner
theorem add_assoc' (P Q R : Pt) : add (add P Q) R = add P (add Q R) := by
  have ax := add_x P Q
  have ay := add_y P Q
  have bx := add_x Q R
  have by' := add_y Q R
  rw [add_comm' P (add Q R)]
  apply Pt.ext'
  · exact cross (frac ax ay (add_x (add P Q) R)) (frac bx by' (add_x (add Q R) P)) (assX P.on Q.on R.on) (frac_ne ax ay (den_p P Q) (den_m P Q) (den_p (add P Q) R)) (frac_ne bx by' (den_p Q R) (den_m Q R) (den_p (add Q R) P))
  · exact cross (fracY ax ay (add_y (add P Q) R)) (fracY bx by' (add_y (add Q R) P)) (assY P.on Q.on R.on) (fracY_ne ax ay (den_p P Q) (den_m P Q) (den_m (add P Q) R)) (fracY_ne bx by' (den_p Q R) (den_m Q R) (den_m (add Q R) P))
def mul : Nat → Pt → Pt
  | 0, _ => O
  | n + 1, P => add (mul n P) P
theorem mul_add (m : Nat) (P : Pt) : ∀ n, mul (m + n) P = add (mul m P) (mul n P)
  | 0 => (add_O _).symm
  | n + 1 => by
    show add (mul (m + n) P) P = add (mul m P) (add (mul n P) P)
    rw [mul_add m P n, add_assoc']
theorem mul_O : ∀ n, mul n O = O
  | 0 => rfl
  | n + 1 => by show add (mul n O) O = O; rw [add_O, mul_O n]
theorem mul_mul' (m : Nat) (P : Pt) : ∀ n, mul n (mul m P) = mul (m * n) P
  | 0 => rfl
  | n + 1 => by
    show add (mul n (mul m P)) (mul m P) = mul (m * n + m) P
    rw [mul_mul' m P n, mul_add]
theorem mul_one' (P : Pt) : mul 1 P = P := by show add O P = P; rw [add_comm', add_O]
end Ed
end
section
open Go Go.RowKit
structure Md (x y : Int) : Prop where
  e : x % PP = y % PP
theorem Md.rfl' {x : Int} : Md x x := ⟨rfl⟩
theorem Md.add {a b c d : Int} (h : Md a b) (h' : Md c d) : Md (a + c) (b + d) := ⟨by rw [Int.add_emod, h.e, h'.e, ← Int.add_emod]⟩
theorem Md.sub {a b c d : Int} (h : Md a b) (h' : Md c d) : Md (a - c) (b - d) := ⟨by rw [Int.sub_emod, h.e, h'.e, ← Int.sub_emod]⟩
theorem Md.mul {a b c d : Int} (h : Md a b) (h' : Md c d) : Md (a * c) (b * d) := ⟨by rw [Int.mul_emod, h.e, h'.e, ← Int.mul_emod]⟩
theorem Md.md {a b : Int} (h : Md a b) : Md a (b % PP) := ⟨by rw [h.e, Int.emod_emod_of_dvd _ (Int.dvd_refl _)]⟩
def mStep (U px pz qx qz bt : Int) : VS :=
  let a := px + pz
  let b := px - pz
  let aa := a * a % PP
  let bb := b * b % PP
  let e := aa - bb
  let da := (qx - qz) * a % PP
  let cb := (qx + qz) * b % PP
  let s := da + cb
  let t := da - cb
  ⟨aa * bb % PP, e * (aa + 121665 * e) % PP, s * s % PP, U * (t * t % PP) % PP, bt⟩
def mI' (K : List Int) (U : Int) : Nat → VS
  | 0 => ⟨1, 0, U, 1, 0⟩
  | i + 1 => if bitE K i = (mI' K U i).last then mStep U (mI' K U i).px (mI' K U i).pz (mI' K U i).qx (mI' K U i).qz (bitE K i) else mStep U (mI' K U i).qx (mI' K U i).qz (mI' K U i).px (mI' K U i).pz (bitE K i)
@[irreducible] def mI (K : List Int) (U : Int) (i : Nat) : VS := mI' K U i
theorem mI_0 (K : List Int) (U : Int) : mI K U 0 = ⟨1, 0, U, 1, 0⟩ := by unfold mI; rfl
theorem mI_s (K : List Int) (U : Int) (i : Nat) : mI K U (i + 1) = if bitE K i = (mI K U i).last then mStep U (mI K U i).px (mI K U i).pz (mI K U i).qx (mI K U i).qz (bitE K i) else mStep U (mI K U i).qx (mI K U i).qz (mI K U i).px (mI K U i).pz (bitE K i) := by unfold mI; rfl
structure MdV (v m : VS) : Prop where
  px : Md v.px m.px
  pz : Md v.pz m.pz
  qx : Md v.qx m.qx
  qz : Md v.qz m.qz
  last : v.last = m.last
theorem mStep_ok {U px pz qx qz px' pz' qx' qz' : Int} (bt : Int) (h1 : Md px px') (h2 : Md pz pz') (h3 : Md qx qx') (h4 : Md qz qz') : MdV (vStep U px pz qx qz bt) (mStep U px' pz' qx' qz' bt) := by
  have ha := h1.add h2
  have hb := h1.sub h2
  have haa := (ha.mul ha).md
  have hbb := (hb.mul hb).md
  have he := haa.sub hbb
  have hda := ((h3.sub h4).mul ha).md
  have hcb := ((h3.add h4).mul hb).md
  have hs := hda.add hcb
  have ht := hda.sub hcb
  unfold vStep mStep
  exact ⟨(haa.mul hbb).md, (he.mul (haa.add (Md.rfl'.mul he))).md, (hs.mul hs).md, (Md.rfl'.mul (ht.mul ht).md).md, rfl⟩
theorem mI_ok (K : List Int) (U : Int) : ∀ k, MdV (vI K U k) (mI K U k)
  | 0 => by rw [vI_0, mI_0]; exact ⟨⟨rfl⟩, ⟨rfl⟩, ⟨rfl⟩, ⟨rfl⟩, rfl⟩
  | k + 1 => by
    have h := mI_ok K U k
    rw [vI_s, mI_s, h.last]
    split
    · exact mStep_ok _ h.px h.pz h.qx h.qz
    · exact mStep_ok _ h.qx h.qz h.px h.pz
end
section
open Go Go.RowKit
theorem low_dblA {P x z : Int} (h : P ∣ x * x - z * z) (t : Int) : P ∣ (x + z) * (x + z) * ((x - z) * (x - z)) * t := by
  have e : (x + z) * (x + z) * ((x - z) * (x - z)) * t = (x * x - z * z) * ((x * x - z * z) * t) := by grind
  rw [e]
  exact Int.dvd_trans h (Int.dvd_mul_right _ _)
theorem low_dblB {P x z : Int} (h : P ∣ x * z) (t : Int) : P ∣ ((x + z) * (x + z) - (x - z) * (x - z)) * t := by
  have e : ((x + z) * (x + z) - (x - z) * (x - z)) * t = (x * z) * (4 * t) := by grind
  rw [e]
  exact Int.dvd_trans h (Int.dvd_mul_right _ _)
theorem low_sum4 (a b U : Int) : (a + b) * (a + b) * ((a + b) * (a + b)) - U * ((a - b) * (a - b)) * (U * ((a - b) * (a - b))) =
    a * b * (4 * ((a + b) * (a + b) + (a - b) * (a - b))) - (U * U - 1) * ((a - b) * (a - b) * ((a - b) * (a - b))) := by grind
theorem low_sumA {P x z q r U : Int} (hU : P ∣ U * U - 1) (h : P ∣ x * x - z * z ∨ P ∣ q * q - r * r) :
    P ∣ ((q - r) * (x + z) + (q + r) * (x - z)) * ((q - r) * (x + z) + (q + r) * (x - z)) * (((q - r) * (x + z) + (q + r) * (x - z)) * ((q - r) * (x + z) + (q + r) * (x - z)))
      - U * (((q - r) * (x + z) - (q + r) * (x - z)) * ((q - r) * (x + z) - (q + r) * (x - z))) * (U * (((q - r) * (x + z) - (q + r) * (x - z)) * ((q - r) * (x + z) - (q + r) * (x - z)))) := by
  have e : (q - r) * (x + z) * ((q + r) * (x - z)) = (q * q - r * r) * (x * x - z * z) := by grind
  have hab : P ∣ (q - r) * (x + z) * ((q + r) * (x - z)) := by
    rw [e]
    rcases h with h | h
    · exact Int.dvd_trans h (Int.dvd_mul_left _ _)
    · exact Int.dvd_trans h (Int.dvd_mul_right _ _)
  rw [low_sum4]
  exact Int.dvd_sub (Int.dvd_trans hab (Int.dvd_mul_right _ _)) (Int.dvd_trans hU (Int.dvd_mul_right _ _))
theorem vStep_px (U px pz qx qz bt : Int) : (vStep U px pz qx qz bt).px = (px + pz) * (px + pz) * ((px - pz) * (px - pz)) := by unfold vStep; rfl
theorem vStep_pz (U px pz qx qz bt : Int) : (vStep U px pz qx qz bt).pz = ((px + pz) * (px + pz) - (px - pz) * (px - pz)) * ((px + pz) * (px + pz) + 121665 * ((px + pz) * (px + pz) - (px - pz) * (px - pz))) := by unfold vStep; rfl
theorem vStep_qx (U px pz qx qz bt : Int) : (vStep U px pz qx qz bt).qx = ((qx - qz) * (px + pz) + (qx + qz) * (px - pz)) * ((qx - qz) * (px + pz) + (qx + qz) * (px - pz)) := by unfold vStep; rfl
theorem vStep_qz (U px pz qx qz bt : Int) : (vStep U px pz qx qz bt).qz = U * (((qx - qz) * (px + pz) - (qx + qz) * (px - pz)) * ((qx - qz) * (px + pz) - (qx + qz) * (px - pz))) := by unfold vStep; rfl
theorem low_p {px pz : Int} (U qx qz bt : Int) (h : PP ∣ px * pz ∨ PP ∣ px * px - pz * pz) : PP ∣ (vStep U px pz qx qz bt).px * (vStep U px pz qx qz bt).pz := by
  rw [vStep_px, vStep_pz]
  rcases h with h | h
  · exact Int.dvd_trans (low_dblB h _) (Int.dvd_mul_left _ _)
  · exact low_dblA h _
theorem low_pz {px pz : Int} (U qx qz bt : Int) (h : PP ∣ px * pz) : PP ∣ (vStep U px pz qx qz bt).pz := by
  rw [vStep_pz]
  exact low_dblB h _
theorem low_q1 {U px pz qx qz : Int} (bt : Int) (hU : PP ∣ U * U - 1) (h : PP ∣ px * px - pz * pz ∨ PP ∣ qx * qx - qz * qz) : PP ∣ (vStep U px pz qx qz bt).qx * (vStep U px pz qx qz bt).qx - (vStep U px pz qx qz bt).qz * (vStep U px pz qx qz bt).qz := by
  rw [vStep_qx, vStep_qz]
  exact low_sumA hU h
theorem low_one {K : List Int} {U : Int} (hU : PP ∣ U * U - 1) : ∀ k, PP ∣ (vI K U k).px * (vI K U k).pz ∧ PP ∣ (vI K U k).qx * (vI K U k).qx - (vI K U k).qz * (vI K U k).qz
  | 0 => by
    rw [vI_0]
    exact ⟨Int.dvd_zero _, hU⟩
  | k + 1 => by
    have h := low_one hU k (K := K)
    rw [vI_s]
    split
    · exact ⟨low_p _ _ _ _ (.inl h.1), low_q1 _ hU (.inr h.2)⟩
    · exact ⟨low_p _ _ _ _ (.inr h.2), low_q1 _ hU (.inl h.2)⟩
theorem low_nil {K : List Int} {U : Int} (hU : PP ∣ U) : ∀ k, PP ∣ (vI K U k).px * (vI K U k).pz ∧ PP ∣ (vI K U k).qx * (vI K U k).qz
  | 0 => by
    rw [vI_0]
    refine ⟨Int.dvd_zero _, ?_⟩
    show PP ∣ U * 1
    rw [Int.mul_one]
    exact hU
  | k + 1 => by
    have h := low_nil hU k (K := K)
    have hq : ∀ px pz qx qz bt, PP ∣ (vStep U px pz qx qz bt).qx * (vStep U px pz qx qz bt).qz := fun px pz qx qz bt => by
      rw [vStep_qz]
      exact Int.dvd_trans (Int.dvd_trans hU (Int.dvd_mul_right _ _)) (Int.dvd_mul_left _ _)
    rw [vI_s]
    split
    · exact ⟨low_p _ _ _ _ (.inl h.1), hq _ _ _ _ _⟩
    · exact ⟨low_p _ _ _ _ (.inl h.2), hq _ _ _ _ _⟩
theorem invV_dvd1 {v : Int} (h : PP ∣ v) : ∀ k, PP ∣ invV v (k + 1)
  | 0 => by
    have e : invV v (0 + 1) = 1 * 1 * v := if_neg (by decide)
    rw [e]
    exact Int.dvd_trans h (Int.dvd_mul_left _ _)
  | k + 1 => by
    have ih := invV_dvd1 h k
    have e : invV v (k + 1 + 1) = if k + 1 = 252 ∨ k + 1 = 250 then invV v (k + 1) * invV v (k + 1) else invV v (k + 1) * invV v (k + 1) * v := rfl
    rw [e]
    split
    · exact Int.dvd_trans ih (Int.dvd_mul_right _ _)
    · exact Int.dvd_trans h (Int.dvd_mul_left _ _)
theorem invV_dvd {v : Int} (h : PP ∣ v) : PP ∣ invV v 255 := invV_dvd1 h 254
theorem low_end {K : List Int} {U : Int} (h4 : bitE K 254 = 0) (h3 : bitE K 253 = 0)
    (h : (PP ∣ (vI K U 254).px * (vI K U 254).pz)) : PP ∣ vX K U := by
  have hl : (vI K U 254).last = 0 := by
    rw [show (254 : Nat) = 253 + 1 from rfl, vI_s]
    split <;> rw [vStep_last] <;> exact h3
  have h5 : (vI K U 255).last = 0 ∧ PP ∣ (vI K U 255).pz := by
    rw [show (255 : Nat) = 254 + 1 from rfl, vI_s, if_pos (by rw [h4, hl])]
    exact ⟨by rw [vStep_last]; exact h4, low_pz _ _ _ _ h⟩
  rw [vX, if_pos h5.1]
  exact Int.dvd_trans (invV_dvd h5.2) (Int.dvd_mul_left _ _)
theorem low_X {K : List Int} {U : Int} (h4 : bitE K 254 = 0) (h3 : bitE K 253 = 0) (hU : PP ∣ U ∨ PP ∣ U * U - 1) : vX K U % PP = 0 := by
  refine Int.emod_eq_zero_of_dvd (low_end h4 h3 ?_)
  rcases hU with h | h
  · exact (low_nil h 254).1
  · exact (low_one h 254).1
theorem clamp_low : ∀ n, n < 256 → (n &&& 248) % 8 = 0 := by decide +kernel
theorem clampL_0 {k : List Int} (hl : k.length = 32) (h : 0 ≤ gi k 0 ∧ gi k 0 < 256) : gi (clampL k) 0 % 8 = 0 := by
  have e : gi (clampL k) 0 = bits .and .u8 (gi k 0) 248 := by
    unfold clampL gi
    rw [List.getD_eq_getElem?_getD, List.getElem?_set_ne (by omega), List.getElem?_set_self (by omega)]
    rfl
  rw [e]
  obtain ⟨n, hn⟩ := Int.eq_ofNat_of_zero_le h.1
  rw [hn] at h ⊢
  rw [show (248 : Int) = ((248 : Nat) : Int) from rfl, u8_and_nat n 248 (by omega) (by omega)]
  have := clamp_low n (by omega)
  omega
theorem bitE_low {K : List Int} (hK : Byt K) (h : gi K 0 % 8 = 0) : bitE K 254 = 0 ∧ bitE K 253 = 0 := by
  have hb := hK 0
  constructor
  · unfold bitE
    rw [show (254 - 254) / 8 = 0 from rfl, show (2 : Int) ^ min (((254 : Int) - ((254 : Nat) : Int)).tmod 8).toNat IntKind.u8.bits = 1 from by decide, Int.fdiv_eq_ediv_of_nonneg _ (by omega), u8_bit (by omega) (by omega)]
    omega
  · unfold bitE
    rw [show (254 - 253) / 8 = 0 from rfl, show (2 : Int) ^ min (((254 : Int) - ((253 : Nat) : Int)).tmod 8).toNat IntKind.u8.bits = 2 from by decide, Int.fdiv_eq_ediv_of_nonneg _ (by omega), u8_bit (by omega) (by omega)]
    omega
theorem low_zero {k : List Int} {U : Int} (hl : k.length = 32) (h : 0 ≤ gi k 0 ∧ gi k 0 < 256) (hK : Byt (clampL k)) (hU : PP ∣ U ∨ PP ∣ U * U - 1) : vX (clampL k) U % PP = 0 :=
  have b := bitE_low hK (clampL_0 hl h)
  low_X b.1 b.2 hU
end
end Go.Proofs.Ytdjecenggngdjaa
