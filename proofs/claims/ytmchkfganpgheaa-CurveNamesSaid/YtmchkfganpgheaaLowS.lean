/-
  The program's Share (as in CurveShare, without the document's side).
-/
import Derived.Test.YtmchkfganpgheaaCurveB
import Derived.Laws.BitsAllLaws
import Derived.Lib.Hide
namespace Go.Proofs.Ytmchkfganpgheaa
set_option linter.unusedSimpArgs false
set_option linter.unusedVariables false
open Go Go.RowKit

namespace Low
open Sp F

theorem u8_byte (op : BinOp) (x y : Int) : 0 ≤ bits op .u8 x y ∧ bits op .u8 x y < 256 := by
  have hw : ∀ n, 0 ≤ IntKind.u8.wrap n ∧ IntKind.u8.wrap n < 256 := fun n => by rw [IntKind.wrap_u8]; omega
  unfold Go.bits
  exact hw _
theorem byt_of {k : List Int} (h : Bytes32 k) : Byt k := by
  intro j
  by_cases hj : j < 32
  · exact h.2 j hj
  · have : gi k j = 0 := by unfold gi; rw [List.getD_eq_getElem?_getD, List.getElem?_eq_none (by rw [h.1]; omega)]; rfl
    rw [this]; omega
theorem byt_set {K : List Int} (h : Byt K) (i : Nat) {v : Int} (hv : 0 ≤ v ∧ v < 256) : Byt (K.set i v) := by
  intro j
  have hj := h j
  unfold gi at *
  rw [List.getD_eq_getElem?_getD] at *
  rw [List.getElem?_set]
  split
  · split
    · exact hv
    · show (0 : Int) ≤ 0 ∧ (0 : Int) < 256; omega
  · exact hj
theorem byt_clamp {k : List Int} (h : Bytes32 k) : Byt (clampL k) := by
  unfold clampL
  exact byt_set (byt_set (byt_of h) 0 (u8_byte _ _ _)) 31 (u8_byte _ _ _)

def orI' (L : List Int) : Nat → Int
  | 0 => 0
  | i + 1 => bits .or .u8 (orI' L i) (gi L i)
@[irreducible] def orI (L : List Int) (i : Nat) : Int := orI' L i
theorem orI_0 (L : List Int) : orI L 0 = 0 := by unfold orI; rfl
theorem orI_s (L : List Int) (i : Nat) : orI L (i + 1) = bits .or .u8 (orI L i) (gi L i) := by unfold orI; rfl

theorem bldK0 : Try.prog.built 46 [] = some (ints .u8 (List.replicate 32 0)) := by kernel_rfl
theorem u8_or_zero {a b : Int} (ha : 0 ≤ a ∧ a < 256) (hb : 0 ≤ b ∧ b < 256) : bits .or .u8 a b = 0 ↔ a = 0 ∧ b = 0 := by
  rw [u8_or a b ha.1 ha.2 hb.1 hb.2]
  constructor
  · intro h
    have h' : a.toNat ||| b.toNat = 0 := by omega
    have h1 : a.toNat = 0 := by
      have := Nat.left_le_or (n := a.toNat) (m := b.toNat)
      omega
    have h2 : b.toNat = 0 := by
      have := Nat.right_le_or (n := a.toNat) (m := b.toNat)
      omega
    omega
  · rintro ⟨rfl, rfl⟩
    rfl
theorem orI_byte (L : List Int) : ∀ i, 0 ≤ orI L i ∧ orI L i < 256
  | 0 => by rw [orI_0]; omega
  | i + 1 => by rw [orI_s]; exact u8_byte _ _ _
theorem orI_zero {L : List Int} (hL : Byt L) : ∀ i, orI L i = 0 ↔ ∀ j, j < i → gi L j = 0
  | 0 => by rw [orI_0]; exact ⟨fun _ j hj => absurd hj (by omega), fun _ => rfl⟩
  | i + 1 => by
    rw [orI_s, u8_or_zero (orI_byte L i) (hL i), orI_zero hL i]
    constructor
    · rintro ⟨h1, h2⟩ j hj
      by_cases h : j = i
      · rw [h]; exact h2
      · exact h1 j (by omega)
    · intro h
      exact ⟨fun j hj => h j (by omega), h i (by omega)⟩
theorem zero32_iff {L : List Int} (hl : L.length = 32) : (∀ j, j < 32 → gi L j = 0) ↔ L = List.replicate 32 0 := by
  constructor
  · intro h
    refine List.ext_getElem (by rw [hl, List.length_replicate]) fun j h1 h2 => ?_
    have := h j (by omega)
    unfold gi at this
    rw [List.getD_eq_getElem?_getD, List.getElem?_eq_getElem h1] at this
    rw [List.getElem_replicate]
    exact this
  · rintro rfl j hj
    unfold gi
    rw [List.getD_eq_getElem?_getD, List.getElem?_replicate, if_pos hj]
    rfl
theorem byt_le32 (v : Int) : Byt (le32 v) := by
  intro j
  by_cases hj : j < 32
  · rw [le32_gi v j hj]; exact ⟨Int.emod_nonneg _ (by omega), Int.emod_lt_of_pos _ (by omega)⟩
  · have : gi (le32 v) j = 0 := by unfold gi; rw [List.getD_eq_getElem?_getD, List.getElem?_eq_none (by rw [le32_length]; omega)]; rfl
    rw [this]; omega
theorem orI_le32 (v : Int) : orI (le32 v) 32 = 0 ↔ le32 v = List.replicate 32 0 := by
  rw [orI_zero (byt_le32 v), zero32_iff (le32_length v)]
@[irreducible] def shX (a b : List Int) : List Int := le32 (vX (clampL a) (v32 b % H255) % PP)
theorem shX_length (a b : List Int) : (shX a b).length = 32 := by unfold shX; exact le32_length _
theorem shX_or (a b : List Int) : orI (shX a b) 32 = 0 ↔ shX a b = List.replicate 32 0 := by unfold shX; exact orI_le32 _
@[irreducible] def shN (a b : List Int) : Int := if shX a b = List.replicate 32 0 then 30 else 0
theorem shX_any (a b : List Int) (la : a.length = 32) (hub : Bytes32 b) (hkb : Byt (clampL a)) (w : World) : Calls Try.prog 30 #[.agg (ints .u8 a), .agg (ints .u8 b)] w fun e w' => e = .returned (.agg (ints .u8 (shX a b))) ∧ Below w.heap.size w w' := by
  unfold shX
  exact curveX_any _ _ la hub hkb w


set_option maxRecDepth 20000 in
set_option maxHeartbeats 1000000 in
theorem share_any (a b : List Int) (la : a.length = 32) (hub : Bytes32 b) (hkb : Byt (clampL a)) (w : World) : Calls Try.prog 34 #[.agg (ints .u8 a), .agg (ints .u8 b)] w fun e w' => e = .returned (.tuple #[.agg (ints .u8 (shX a b)), .int .i64 (shN a b)]) ∧ Below w.heap.size w w' := by
  have lb := hub.1
  have ls := shX_length a b
  have hor := shX_or a b
  refine pureE Try.func34 Try.ntmps34 Try.results34 ?_
  have tok_kb : True := trivial
  have tok_ub : True := trivial
  have tok_ob : True := trivial
  have tok_xb : True := trivial
  repeat (first | ((with_reducible refine SP.region (id := 0) ?_); refine SL.box (by first | (dsimp only [evL, nth, Value.cells]; done) | (dsimp only [evL, nth, Value.cells]; rfl)) (fun _ => bpp) ?_; (first | (have _t := tok_kb; clear _t tok_kb; intro kb) | (have _t := tok_ub; clear _t tok_ub; intro ub) | (have _t := tok_ob; clear _t tok_ob; intro ob) | (have _t := tok_xb; clear _t tok_xb; intro xb) | intro _); refine SL.box (by first | (dsimp only [evL, nth, Value.cells]; done) | (dsimp only [evL, nth, Value.cells]; rfl)) (fun _ => bpp) ?_; (first | (have _t := tok_kb; clear _t tok_kb; intro kb) | (have _t := tok_ub; clear _t tok_ub; intro ub) | (have _t := tok_ob; clear _t tok_ob; intro ob) | (have _t := tok_xb; clear _t tok_xb; intro xb) | intro _); refine SL.alloc zero_46 (fun _ => bpp) ?_; (first | (have _t := tok_kb; clear _t tok_kb; intro kb) | (have _t := tok_ub; clear _t tok_ub; intro ub) | (have _t := tok_ob; clear _t tok_ob; intro ob) | (have _t := tok_xb; clear _t tok_xb; intro xb) | intro _); refine SL.val (ValO.ev tabOk (by rfl)) bpp ?_; (with_reducible refine SL.nil ?_)) | ((with_reducible refine SP.region (id := 1) ?_); refine SL.val (ValO.ldRow tabOk _ rfl _ _ rfl rfl _ (by first | exact RdA.own g0 | exact RdA.own g1 | exact RdA.own g2 | exact RdA.own g3 | exact RdA.own g4 | exact RdA.own g5 | exact RdA.own g6 | exact RdA.own g7 | exact RdA.own g8 | exact RdA.own g9 | exact RdA.own g10 | exact RdA.own g11 | exact RdA.own g12 | exact RdA.own g13 | exact RdA.own g14 | exact RdA.own g15) (by first | (simp [ints_size, la, lb, ls]; done) | (simp [ints_size, la, lb, ls]; omega))) bpp ?_; refine SL.val (ValO.ldRow tabOk _ rfl _ _ rfl rfl _ (by first | exact RdA.own g0 | exact RdA.own g1 | exact RdA.own g2 | exact RdA.own g3 | exact RdA.own g4 | exact RdA.own g5 | exact RdA.own g6 | exact RdA.own g7 | exact RdA.own g8 | exact RdA.own g9 | exact RdA.own g10 | exact RdA.own g11 | exact RdA.own g12 | exact RdA.own g13 | exact RdA.own g14 | exact RdA.own g15) (by first | (simp [ints_size, la, lb, ls]; done) | (simp [ints_size, la, lb, ls]; omega))) bpp ?_; refine SL.val (ValO.call ent_30 _ rfl _ (fun w _ => shX_any _ _ la hub hkb w)) bpp ?_; refine SL.alloc zero_46 (fun _ => bpp) ?_; (first | (have _t := tok_kb; clear _t tok_kb; intro kb) | (have _t := tok_ub; clear _t tok_ub; intro ub) | (have _t := tok_ob; clear _t tok_ob; intro ob) | (have _t := tok_xb; clear _t tok_xb; intro xb) | intro _); refine SL.storeRow tabOk rfl rfl rfl (gbk _) (by first | (simp [ints_size, la, lb, ls]; done) | (simp [ints_size, la, lb, ls]; omega)) (by first | (simp [ints_size, la, lb, ls]; done) | (simp [ints_size, la, lb, ls]; omega)) ints_mem stt bpp ?_; (with_reducible refine SL.nil ?_)) | ((with_reducible refine SP.region (id := 2) ?_); refine SL.val (ValO.ev tabOk (by rfl)) bpp ?_; (with_reducible refine SL.nil ?_)) | ((with_reducible refine SP.region (id := 3) ?_); refine SL.val (ValO.ldRow tabOk _ rfl _ _ rfl rfl _ (by first | exact RdA.own g0 | exact RdA.own g1 | exact RdA.own g2 | exact RdA.own g3 | exact RdA.own g4 | exact RdA.own g5 | exact RdA.own g6 | exact RdA.own g7 | exact RdA.own g8 | exact RdA.own g9 | exact RdA.own g10 | exact RdA.own g11 | exact RdA.own g12 | exact RdA.own g13 | exact RdA.own g14 | exact RdA.own g15) (by first | (simp [ints_size, la, lb, ls]; done) | (simp [ints_size, la, lb, ls]; omega))) bpp ?_; refine SL.val (ValO.ev tabOk (by rfl)) bpp ?_; (with_reducible refine SL.nil ?_)) | ((with_reducible refine SP.seqK ?_); intro _ _) | (with_reducible refine thenK_normal ?_) | (refine useK (by assumption) ?_) | (with_reducible refine SP.block ?_) | (with_reducible refine thenK_exit ?_) | (with_reducible refine thenK_ret ?_) | (with_reducible refine blockK_normal ?_) | (with_reducible refine blockK_ret ?_) | (with_reducible refine blockK_eq ?_) | (with_reducible refine blockK_ne rfl ?_) | (with_reducible refine SP.skip ?_) | (with_reducible refine SP.ret ?_) | (with_reducible refine SP.exit ?_) | ((with_reducible show SP _ _ _ (Code.cond _ _ _) _ _ _); first | (refine SP.condT rfl (by first | rfl | (simp only [decide_eq_true_eq, beq_iff_eq, bne_iff_ne]; omega)) ?_) | (refine SP.condF rfl (by first | rfl | (simp only [decide_eq_false_iff_not, beq_eq_false_iff_ne, bne_eq_false_iff_eq]; omega)) ?_)))
  refine SP.loopN (fun k l bs => l = [nth l 0, nth l 1, .pointer (some ⟨kb, 0, none⟩), .pointer (some ⟨ub, 0, none⟩), .pointer (some ⟨ob, 0, none⟩), nth l 5, .pointer (some ⟨xb, 0, none⟩), .int .u8 (orI (shX a b) k), nth l 8, nth l 9, nth l 10, nth l 11, nth l 12, .agg (ints .u8 (shX a b)), .int .i64 (k), nth l 15, nth l 16, nth l 17, nth l 18, nth l 19, nth l 20, nth l 21, nth l 22, nth l 23, nth l 24] ∧ bs = [(xb, ints .u8 (shX a b), 46), (ob, ints .u8 (List.replicate 32 0), 46), (ub, ints .u8 b, 46), (kb, ints .u8 a, 46)]) 32 ⟨(by first | rfl | (simp only [orI_0]; done) | (simp only [orI_0]; rfl) | (rw [orI_0]; rfl)), (by first | rfl | (simp only [orI_0]; done) | (simp only [orI_0]; rfl) | (rw [orI_0]; rfl))⟩ ?_
  rintro k lfk _ hkk ⟨hlk, rfl⟩
  refine SP.cast hlk ?_
  clear hlk
  by_cases hltk : k < 32
  · have hk1 : IntKind.i64.wrap ((k : Int) + 1) = ((k + 1 : Nat) : Int) := by rw [IntWalk.i64_in _ (by omega)]; omega
    repeat (first | ((with_reducible refine SP.region (id := 4) ?_); (first | (refine SL.val (ValO.evB (b := true) tabOk rfl (by first | rfl | (simp only [decide_eq_true_eq, decide_eq_false_iff_not, beq_iff_eq, bne_iff_ne, beq_eq_false_iff_ne, bne_eq_false_iff_eq, ne_eq, gt_iff_lt, ge_iff_le]; omega))) bpp ?_) | (refine SL.val (ValO.evB (b := false) tabOk rfl (by first | rfl | (simp only [decide_eq_true_eq, decide_eq_false_iff_not, beq_iff_eq, bne_iff_ne, beq_eq_false_iff_ne, bne_eq_false_iff_eq, ne_eq, gt_iff_lt, ge_iff_le]; omega))) bpp ?_) | (refine SL.val (ValO.ev tabOk (by rfl)) bpp ?_)); (with_reducible refine SL.nil ?_)) | ((with_reducible refine SP.region (id := 5) ?_); refine SL.val (ValO.index tabOk rfl rfl rfl rfl (by first | (simp [la, lb, ls]; done) | (simp [la, lb, ls]; omega)) (by first | omega | (simp [la, lb, ls]; done) | (simp [la, lb, ls]; omega)) (by first | omega | (simp [la, lb, ls]; done) | (simp [la, lb, ls]; omega)) _ (by first | (simp only [Nat.zero_add, Nat.mul_one, Nat.one_mul, Int.toNat_natCast]; done) | (simp only [Nat.zero_add, Nat.mul_one, Nat.one_mul, Int.toNat_natCast]; rfl) | rfl)) bpp ?_; refine SL.val (ValO.ev tabOk (by rfl)) bpp ?_; (with_reducible refine SL.nil ?_)) | ((with_reducible refine SP.region (id := 6) ?_); refine SL.val (ValO.ev tabOk (by rfl)) bpp ?_; refine SL.val (ValO.ev tabOk (by rfl)) bpp ?_; refine SL.val (ValO.ev tabOk (by rfl)) bpp ?_; refine SL.val (ValO.ev tabOk (by rfl)) bpp ?_; (with_reducible refine SL.nil ?_)) | ((with_reducible refine SP.region (id := 7) ?_); refine SL.val (ValO.ev tabOk (by rfl)) bpp ?_; refine SL.val (ValO.ev tabOk (by rfl)) bpp ?_; (with_reducible refine SL.nil ?_)) | ((with_reducible refine SP.seqK ?_); intro _ _) | (with_reducible refine thenK_normal ?_) | (refine useK (by assumption) ?_) | (with_reducible refine SP.block ?_) | (with_reducible refine thenK_exit ?_) | (with_reducible refine thenK_ret ?_) | (with_reducible refine blockK_normal ?_) | (with_reducible refine blockK_ret ?_) | (with_reducible refine blockK_eq ?_) | (with_reducible refine blockK_ne rfl ?_) | (with_reducible refine SP.skip ?_) | (with_reducible refine SP.ret ?_) | (with_reducible refine SP.exit ?_) | ((with_reducible show SP _ _ _ (Code.cond _ _ _) _ _ _); first | (refine SP.condT rfl (by first | rfl | (simp only [decide_eq_true_eq, beq_iff_eq, bne_iff_ne]; omega)) ?_) | (refine SP.condF rfl (by first | rfl | (simp only [decide_eq_false_iff_not, beq_eq_false_iff_ne, bne_eq_false_iff_eq]; omega)) ?_)))
    simp only [hk1]
    exact ⟨hltk, (by first | rfl | (simp only [orI_s]; done) | (simp only [orI_s]; rfl) | (rw [orI_s]; rfl)), (by first | rfl | (simp only [orI_s]; done) | (simp only [orI_s]; rfl) | (rw [orI_s]; rfl))⟩
  · have hendk : k = 32 := by omega
    replace hendk := Lib.hid hendk
    have hq := hendk.out; clear hendk; subst hq
    by_cases hx : shX a b = List.replicate 32 0
    · have hz := hor.mpr hx
      repeat (first | ((with_reducible refine SP.region (id := 4) ?_); (first | (refine SL.val (ValO.evB (b := true) tabOk rfl (by first | rfl | (simp only [decide_eq_true_eq, decide_eq_false_iff_not, beq_iff_eq, bne_iff_ne, beq_eq_false_iff_ne, bne_eq_false_iff_eq, ne_eq, gt_iff_lt, ge_iff_le]; omega))) bpp ?_) | (refine SL.val (ValO.evB (b := false) tabOk rfl (by first | rfl | (simp only [decide_eq_true_eq, decide_eq_false_iff_not, beq_iff_eq, bne_iff_ne, beq_eq_false_iff_ne, bne_eq_false_iff_eq, ne_eq, gt_iff_lt, ge_iff_le]; omega))) bpp ?_) | (refine SL.val (ValO.ev tabOk (by rfl)) bpp ?_)); (with_reducible refine SL.nil ?_)) | ((with_reducible refine SP.region (id := 8) ?_); refine SL.val (ValO.ev tabOk (by rfl)) bpp ?_; (first | (refine SL.val (ValO.evB (b := true) tabOk rfl (by first | rfl | (simp only [decide_eq_true_eq, decide_eq_false_iff_not, beq_iff_eq, bne_iff_ne, beq_eq_false_iff_ne, bne_eq_false_iff_eq, ne_eq, gt_iff_lt, ge_iff_le]; omega))) bpp ?_) | (refine SL.val (ValO.evB (b := false) tabOk rfl (by first | rfl | (simp only [decide_eq_true_eq, decide_eq_false_iff_not, beq_iff_eq, bne_iff_ne, beq_eq_false_iff_ne, bne_eq_false_iff_eq, ne_eq, gt_iff_lt, ge_iff_le]; omega))) bpp ?_) | (refine SL.val (ValO.ev tabOk (by rfl)) bpp ?_)); (with_reducible refine SL.nil ?_)) | ((with_reducible refine SP.region (id := 9) ?_); refine SL.val (ValO.build (by first | (dsimp only [List.map, evL, nth]; done) | (dsimp only [List.map, evL, nth]; rfl)) (bldK0)) bpp ?_; refine SL.storeRow tabOk rfl rfl rfl (gbk _) (by first | (simp [ints_size, la, lb, ls]; done) | (simp [ints_size, la, lb, ls]; omega)) (by first | (simp [ints_size, la, lb, ls]; done) | (simp [ints_size, la, lb, ls]; omega)) ints_mem stt bpp ?_; refine SL.val (ValO.ev tabOk (by rfl)) bpp ?_; (with_reducible refine SL.nil ?_)) | ((with_reducible refine SP.seqK ?_); intro _ _) | (with_reducible refine thenK_normal ?_) | (refine useK (by assumption) ?_) | (with_reducible refine SP.block ?_) | (with_reducible refine thenK_exit ?_) | (with_reducible refine thenK_ret ?_) | (with_reducible refine blockK_normal ?_) | (with_reducible refine blockK_ret ?_) | (with_reducible refine blockK_eq ?_) | (with_reducible refine blockK_ne rfl ?_) | (with_reducible refine SP.skip ?_) | (with_reducible refine SP.ret ?_) | (with_reducible refine SP.exit ?_) | ((with_reducible show SP _ _ _ (Code.cond _ _ _) _ _ _); first | (refine SP.condT rfl (by first | rfl | (simp only [decide_eq_true_eq, beq_iff_eq, bne_iff_ne]; omega)) ?_) | (refine SP.condF rfl (by first | rfl | (simp only [decide_eq_false_iff_not, beq_eq_false_iff_ne, bne_eq_false_iff_eq]; omega)) ?_)))
      refine doneK.mk rfl (ResO.cellTmp tabOk rfl rfl rfl (by first | exact RdA.own g0 | exact RdA.own g1 | exact RdA.own g2 | exact RdA.own g3 | exact RdA.own g4 | exact RdA.own g5 | exact RdA.own g6 | exact RdA.own g7 | exact RdA.own g8 | exact RdA.own g9 | exact RdA.own g10 | exact RdA.own g11 | exact RdA.own g12 | exact RdA.own g13 | exact RdA.own g14 | exact RdA.own g15) (by simp [ints_size, ls]) rfl) ?_
      rw [shN, if_pos hx, hx]
      rfl
    · have hz : ¬ orI (shX a b) 32 = 0 := fun h => hx (hor.mp h)
      repeat (first | ((with_reducible refine SP.region (id := 4) ?_); (first | (refine SL.val (ValO.evB (b := true) tabOk rfl (by first | rfl | (simp only [decide_eq_true_eq, decide_eq_false_iff_not, beq_iff_eq, bne_iff_ne, beq_eq_false_iff_ne, bne_eq_false_iff_eq, ne_eq, gt_iff_lt, ge_iff_le]; omega))) bpp ?_) | (refine SL.val (ValO.evB (b := false) tabOk rfl (by first | rfl | (simp only [decide_eq_true_eq, decide_eq_false_iff_not, beq_iff_eq, bne_iff_ne, beq_eq_false_iff_ne, bne_eq_false_iff_eq, ne_eq, gt_iff_lt, ge_iff_le]; omega))) bpp ?_) | (refine SL.val (ValO.ev tabOk (by rfl)) bpp ?_)); (with_reducible refine SL.nil ?_)) | ((with_reducible refine SP.region (id := 8) ?_); refine SL.val (ValO.ev tabOk (by rfl)) bpp ?_; (first | (refine SL.val (ValO.evB (b := true) tabOk rfl (by first | rfl | (simp only [decide_eq_true_eq, decide_eq_false_iff_not, beq_iff_eq, bne_iff_ne, beq_eq_false_iff_ne, bne_eq_false_iff_eq, ne_eq, gt_iff_lt, ge_iff_le]; omega))) bpp ?_) | (refine SL.val (ValO.evB (b := false) tabOk rfl (by first | rfl | (simp only [decide_eq_true_eq, decide_eq_false_iff_not, beq_iff_eq, bne_iff_ne, beq_eq_false_iff_ne, bne_eq_false_iff_eq, ne_eq, gt_iff_lt, ge_iff_le]; omega))) bpp ?_) | (refine SL.val (ValO.ev tabOk (by rfl)) bpp ?_)); (with_reducible refine SL.nil ?_)) | ((with_reducible refine SP.region (id := 10) ?_); refine SL.val (ValO.ldRow tabOk _ rfl _ _ rfl rfl _ (by first | exact RdA.own g0 | exact RdA.own g1 | exact RdA.own g2 | exact RdA.own g3 | exact RdA.own g4 | exact RdA.own g5 | exact RdA.own g6 | exact RdA.own g7 | exact RdA.own g8 | exact RdA.own g9 | exact RdA.own g10 | exact RdA.own g11 | exact RdA.own g12 | exact RdA.own g13 | exact RdA.own g14 | exact RdA.own g15) (by first | (simp [ints_size, la, lb, ls]; done) | (simp [ints_size, la, lb, ls]; omega))) bpp ?_; refine SL.storeRow tabOk rfl rfl rfl (gbk _) (by first | (simp [ints_size, la, lb, ls]; done) | (simp [ints_size, la, lb, ls]; omega)) (by first | (simp [ints_size, la, lb, ls]; done) | (simp [ints_size, la, lb, ls]; omega)) ints_mem stt bpp ?_; refine SL.val (ValO.ev tabOk (by rfl)) bpp ?_; (with_reducible refine SL.nil ?_)) | ((with_reducible refine SP.seqK ?_); intro _ _) | (with_reducible refine thenK_normal ?_) | (refine useK (by assumption) ?_) | (with_reducible refine SP.block ?_) | (with_reducible refine thenK_exit ?_) | (with_reducible refine thenK_ret ?_) | (with_reducible refine blockK_normal ?_) | (with_reducible refine blockK_ret ?_) | (with_reducible refine blockK_eq ?_) | (with_reducible refine blockK_ne rfl ?_) | (with_reducible refine SP.skip ?_) | (with_reducible refine SP.ret ?_) | (with_reducible refine SP.exit ?_) | ((with_reducible show SP _ _ _ (Code.cond _ _ _) _ _ _); first | (refine SP.condT rfl (by first | rfl | (simp only [decide_eq_true_eq, beq_iff_eq, bne_iff_ne]; omega)) ?_) | (refine SP.condF rfl (by first | rfl | (simp only [decide_eq_false_iff_not, beq_eq_false_iff_ne, bne_eq_false_iff_eq]; omega)) ?_)))
      refine doneK.mk rfl (ResO.cellTmp tabOk rfl rfl rfl (by first | exact RdA.own g0 | exact RdA.own g1 | exact RdA.own g2 | exact RdA.own g3 | exact RdA.own g4 | exact RdA.own g5 | exact RdA.own g6 | exact RdA.own g7 | exact RdA.own g8 | exact RdA.own g9 | exact RdA.own g10 | exact RdA.own g11 | exact RdA.own g12 | exact RdA.own g13 | exact RdA.own g14 | exact RdA.own g15) (by simp [ints_size, ls]) rfl) ?_
      rw [shN, if_neg hx]
      rfl

end Low

end Go.Proofs.Ytmchkfganpgheaa
