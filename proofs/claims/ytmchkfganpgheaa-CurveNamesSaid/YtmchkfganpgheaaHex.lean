/-
  hex, of all keys. No conditions.
-/
import Derived.Test.YtmchkfganpgheaaCurveB
import Derived.Test.YtmchkfganpgheaaStr
import Derived.Lib.Hide
namespace Go.Proofs.Ytmchkfganpgheaa
set_option linter.unusedSimpArgs false
set_option linter.unusedVariables false
open Go Go.RowKit

open Sp F

def digitS : ByteArray := { data := #[48, 49, 50, 51, 52, 53, 54, 55, 56, 57, 97, 98, 99, 100, 101, 102] }
@[irreducible] def hexH (K : List Int) (k : Nat) : ByteArray := digitS.extract ((gi K k).fdiv (2 ^ min (4 : Int).toNat IntKind.u8.bits)).toNat (IntKind.u8.wrap ((gi K k).fdiv (2 ^ min (4 : Int).toNat IntKind.u8.bits) + 1)).toNat
@[irreducible] def hexL (K : List Int) (k : Nat) : ByteArray := digitS.extract (bits .and .u8 (gi K k) 15).toNat (IntKind.u8.wrap (bits .and .u8 (gi K k) 15 + 1)).toNat

def hexN' (K : List Int) : Nat → ByteArray
  | 0 => { data := #[] }
  | i + 1 => (hexN' K i) ++ hexH K i ++ hexL K i
@[irreducible] def hexN (K : List Int) (i : Nat) : ByteArray := hexN' K i
theorem hexN_0 (K : List Int) : hexN K 0 = { data := #[] } := by unfold hexN; rfl
theorem hexN_s (K : List Int) (i : Nat) : hexN K (i + 1) = (hexN K i) ++ hexH K i ++ hexL K i := by unfold hexN; rfl

theorem hex_h {K : List Int} (hK : Byt K) (k : Nat) : 0 ≤ (gi K k).fdiv (2 ^ min (4 : Int).toNat IntKind.u8.bits) ∧ (gi K k).fdiv (2 ^ min (4 : Int).toNat IntKind.u8.bits) ≤ IntKind.u8.wrap ((gi K k).fdiv (2 ^ min (4 : Int).toNat IntKind.u8.bits) + 1) ∧ IntKind.u8.wrap ((gi K k).fdiv (2 ^ min (4 : Int).toNat IntKind.u8.bits) + 1) ≤ (digitS.size : Int) ∧ (gi K k).fdiv (2 ^ min (4 : Int).toNat IntKind.u8.bits) = gi K k / 16 ∧ IntKind.u8.wrap ((gi K k).fdiv (2 ^ min (4 : Int).toNat IntKind.u8.bits) + 1) = gi K k / 16 + 1 := by
  have h := hK k
  have e : (gi K k).fdiv (2 ^ min (4 : Int).toNat IntKind.u8.bits) = gi K k / 16 := by
    rw [show (2 : Int) ^ min (4 : Int).toNat IntKind.u8.bits = 16 from by decide, Int.fdiv_eq_ediv_of_nonneg _ (by omega)]
  have e2 : IntKind.u8.wrap ((gi K k).fdiv (2 ^ min (4 : Int).toNat IntKind.u8.bits) + 1) = gi K k / 16 + 1 := by rw [e, IntKind.wrap_u8]; omega
  have e3 : (digitS.size : Int) = 16 := rfl
  rw [e2, e, e3]
  omega
theorem hex_l {K : List Int} (hK : Byt K) (k : Nat) : 0 ≤ bits .and .u8 (gi K k) 15 ∧ bits .and .u8 (gi K k) 15 ≤ IntKind.u8.wrap (bits .and .u8 (gi K k) 15 + 1) ∧ IntKind.u8.wrap (bits .and .u8 (gi K k) 15 + 1) ≤ (digitS.size : Int) ∧ bits .and .u8 (gi K k) 15 = gi K k % 16 ∧ IntKind.u8.wrap (bits .and .u8 (gi K k) 15 + 1) = gi K k % 16 + 1 := by
  have h := hK k
  have e : bits .and .u8 (gi K k) 15 = gi K k % 16 := u8_and15 _ h.1 h.2
  have e2 : IntKind.u8.wrap (bits .and .u8 (gi K k) 15 + 1) = gi K k % 16 + 1 := by rw [e, IntKind.wrap_u8]; omega
  have e3 : (digitS.size : Int) = 16 := rfl
  rw [e2, e, e3]
  omega
theorem digitS_cut (i j : Nat) : (digitS.extract i j).size ≤ 16 := by
  rw [ByteArray.size_extract]
  have : digitS.size = 16 := rfl
  omega
theorem hexH_size (K : List Int) (k : Nat) : (hexH K k).size ≤ 16 := by unfold hexH; exact digitS_cut _ _
theorem hexL_size (K : List Int) (k : Nat) : (hexL K k).size ≤ 16 := by unfold hexL; exact digitS_cut _ _
theorem hexN_size (K : List Int) : ∀ k, (hexN K k).size ≤ 32 * k
  | 0 => by rw [hexN_0]; exact Nat.le_refl _
  | k + 1 => by
    have h := hexN_size K k
    have h1 := hexH_size K k
    have h2 := hexL_size K k
    rw [hexN_s, ByteArray.size_append, ByteArray.size_append]
    omega


namespace Sp
theorem hexHV {P : Program} {tab : Tab} {w0 : World} {mu : List Nat} {bs : Mem} {l : List Value} {dst : Option Tmp} {ty : TypeId} {pos : String} {af : Array Edge} {gd : Option (Nat × Bool)} (ht : TabOk P tab) {t : TypeId} {x lo hi : Operand} {K : List Int} {k : Nat} {sz : Nat} (hl : look tab t = some (.str, sz)) (hx : evL l x = .string digitS)
    (hlo : evL l lo = .int .u8 ((gi K k).fdiv (2 ^ min (4 : Int).toNat IntKind.u8.bits))) (hhi : evL l hi = .int .u8 (IntKind.u8.wrap ((gi K k).fdiv (2 ^ min (4 : Int).toNat IntKind.u8.bits) + 1))) (h : 0 ≤ (gi K k).fdiv (2 ^ min (4 : Int).toNat IntKind.u8.bits) ∧ (gi K k).fdiv (2 ^ min (4 : Int).toNat IntKind.u8.bits) ≤ IntKind.u8.wrap ((gi K k).fdiv (2 ^ min (4 : Int).toNat IntKind.u8.bits) + 1) ∧ IntKind.u8.wrap ((gi K k).fdiv (2 ^ min (4 : Int).toNat IntKind.u8.bits) + 1) ≤ (digitS.size : Int)) :
    ValO P w0 mu bs l ⟨dst, .slice t x (some lo) (some hi) none, ty, pos, af, gd⟩ (.string (hexH K k)) := by
  unfold hexH
  exact ValO.cutStr ht hl hx hlo hhi h.1 h.2.1 h.2.2
theorem hexLV {P : Program} {tab : Tab} {w0 : World} {mu : List Nat} {bs : Mem} {l : List Value} {dst : Option Tmp} {ty : TypeId} {pos : String} {af : Array Edge} {gd : Option (Nat × Bool)} (ht : TabOk P tab) {t : TypeId} {x lo hi : Operand} {K : List Int} {k : Nat} {sz : Nat} (hl : look tab t = some (.str, sz)) (hx : evL l x = .string digitS)
    (hlo : evL l lo = .int .u8 (bits .and .u8 (gi K k) 15)) (hhi : evL l hi = .int .u8 (IntKind.u8.wrap (bits .and .u8 (gi K k) 15 + 1))) (h : 0 ≤ bits .and .u8 (gi K k) 15 ∧ bits .and .u8 (gi K k) 15 ≤ IntKind.u8.wrap (bits .and .u8 (gi K k) 15 + 1) ∧ IntKind.u8.wrap (bits .and .u8 (gi K k) 15 + 1) ≤ (digitS.size : Int)) :
    ValO P w0 mu bs l ⟨dst, .slice t x (some lo) (some hi) none, ty, pos, af, gd⟩ (.string (hexL K k)) := by
  unfold hexL
  exact ValO.cutStr ht hl hx hlo hhi h.1 h.2.1 h.2.2
end Sp


set_option maxRecDepth 20000 in
set_option maxHeartbeats 1000000 in
theorem hex_any (K : List Int) (lK : K.length = 32) (hK : Byt K) (w : World) : Calls Try.prog 39 #[.agg (ints .u8 K)] w fun e w' => e = .returned (.string (hexN K 32)) ∧ Below w.heap.size w w' := by
  refine pureE Try.func39 Try.ntmps39 Try.results39 ?_
  have tok_kb : True := trivial
  repeat (first | ((with_reducible refine SP.region (id := 0) ?_); refine SL.box (by first | (dsimp only [evL, nth, Value.cells]; done) | (dsimp only [evL, nth, Value.cells]; rfl)) (fun _ => bpp) ?_; (first | (have _t := tok_kb; clear _t tok_kb; intro kb) | intro _); refine SL.val (ValO.ev tabOk (by rfl)) bpp ?_; (with_reducible refine SL.nil ?_)) | ((with_reducible refine SP.region (id := 1) ?_); refine SL.val (ValO.ev tabOk (by rfl)) bpp ?_; (with_reducible refine SL.nil ?_)) | ((with_reducible refine SP.region (id := 2) ?_); refine SL.val (ValO.ev tabOk (by rfl)) bpp ?_; (with_reducible refine SL.nil ?_)) | ((with_reducible refine SP.seqK ?_); intro _ _) | (with_reducible refine thenK_normal ?_) | (refine useK (by assumption) ?_) | (with_reducible refine SP.block ?_) | (with_reducible refine thenK_exit ?_) | (with_reducible refine thenK_ret ?_) | (with_reducible refine blockK_normal ?_) | (with_reducible refine blockK_ret ?_) | (with_reducible refine blockK_eq ?_) | (with_reducible refine blockK_ne rfl ?_) | (with_reducible refine SP.skip ?_) | (with_reducible refine SP.ret ?_) | (with_reducible refine SP.exit ?_) | ((with_reducible show SP _ _ _ (Code.cond _ _ _) _ _ _); first | (refine SP.condT rfl (by first | rfl | (simp only [decide_eq_true_eq, beq_iff_eq, bne_iff_ne]; omega)) ?_) | (refine SP.condF rfl (by first | rfl | (simp only [decide_eq_false_iff_not, beq_eq_false_iff_ne, bne_eq_false_iff_eq]; omega)) ?_)))
  refine SP.loopN (fun k l bs => l = [nth l 0, .pointer (some ⟨kb, 0, none⟩), nth l 2, .string (hexN K k), .int .i64 (k), nth l 5, nth l 6, nth l 7, nth l 8, nth l 9, nth l 10, nth l 11, nth l 12, nth l 13, nth l 14, nth l 15, nth l 16, nth l 17, nth l 18, nth l 19, nth l 20, nth l 21, nth l 22, nth l 23, nth l 24, nth l 25, nth l 26, nth l 27, nth l 28, nth l 29, nth l 30, nth l 31, nth l 32] ∧ bs = [(kb, ints .u8 K, 46)]) 32 ⟨(by first | rfl | (simp only [hexN_0]; done) | (simp only [hexN_0]; rfl) | (rw [hexN_0]; rfl)), (by first | rfl | (simp only [hexN_0]; done) | (simp only [hexN_0]; rfl) | (rw [hexN_0]; rfl))⟩ ?_
  rintro k lfk _ hkk ⟨hlk, rfl⟩
  refine SP.cast hlk ?_
  clear hlk
  by_cases hltk : k < 32
  · have hk1 : IntKind.i64.wrap ((k : Int) + 1) = ((k + 1 : Nat) : Int) := by rw [IntWalk.i64_in _ (by omega)]; omega
    have hh0 := hex_h hK k
    have hl0 := hex_l hK k
    have hh := And.intro hh0.1 (And.intro hh0.2.1 hh0.2.2.1)
    have hl := And.intro hl0.1 (And.intro hl0.2.1 hl0.2.2.1)
    clear hh0 hl0
    have z0 := hexN_size K k
    have z1 := hexH_size K k
    have z2 := hexL_size K k
    have s1 : ((hexN K k).size : Int) ≤ 8388608 := by omega
    have s2 : ((hexH K k).size : Int) ≤ 8388608 := by omega
    have s3 : ((hexN K k ++ hexH K k).size : Int) ≤ 8388608 := by rw [ByteArray.size_append]; omega
    have s4 : ((hexL K k).size : Int) ≤ 8388608 := by omega
    repeat (first | ((with_reducible refine SP.region (id := 3) ?_); refine SL.val (ValO.ev tabOk (by rfl)) bpp ?_; (first | (refine SL.val (ValO.evB (b := true) tabOk rfl (by first | rfl | (simp only [decide_eq_true_eq, decide_eq_false_iff_not, beq_iff_eq, bne_iff_ne, beq_eq_false_iff_ne, bne_eq_false_iff_eq, ne_eq, gt_iff_lt, ge_iff_le]; omega))) bpp ?_) | (refine SL.val (ValO.evB (b := false) tabOk rfl (by first | rfl | (simp only [decide_eq_true_eq, decide_eq_false_iff_not, beq_iff_eq, bne_iff_ne, beq_eq_false_iff_ne, bne_eq_false_iff_eq, ne_eq, gt_iff_lt, ge_iff_le]; omega))) bpp ?_) | (refine SL.val (ValO.ev tabOk (by rfl)) bpp ?_)); (with_reducible refine SL.nil ?_)) | ((with_reducible refine SP.region (id := 4) ?_); refine SL.val (ValO.ev tabOk (by rfl)) bpp ?_; refine SL.val (ValO.ev tabOk (by rfl)) bpp ?_; refine SL.val (ValO.ev tabOk (by rfl)) bpp ?_; (with_reducible refine SL.nil ?_)) | ((with_reducible show SP _ _ _ (Code.region _ _ true) _ _ _); first | (refine SPa (id := 5) [] [] ([]) [0, 1, 2, 3, 4, 5, 6, 7, 8, 9, 10, 11, 12, 13, 14, 15, 16, 17, 18, 19, 20, 21, 22, 23] follows ?_; refine SF.pure tabOk rfl rfl rfl bpp ?_; refine SF.pure tabOk rfl rfl rfl bpp ?_; refine SF.val rfl rfl rfl rfl (ValO.idxA tabOk _ _ rfl _ _ rfl _ _ _ _ rfl (by first | omega | (simp [lK]; done) | (simp [lK]; omega)) (by first | omega | (simp [lK]; done) | (simp [lK]; omega)) _ (by first | (simp only [Nat.zero_add, Nat.mul_one, Nat.one_mul, Int.toNat_natCast]; done) | (simp only [Nat.zero_add, Nat.mul_one, Nat.one_mul, Int.toNat_natCast]; rfl) | rfl)) bpp ?_; refine SF.val rfl rfl rfl rfl (ValO.ldInt tabOk _ _ rfl _ _ rfl _ _ (by first | exact RdA.own g0 | exact RdA.own g1 | exact RdA.own g2 | exact RdA.own g3 | exact RdA.own g4 | exact RdA.own g5 | exact RdA.own g6 | exact RdA.own g7 | exact RdA.own g8 | exact RdA.own g9 | exact RdA.own g10 | exact RdA.own g11 | exact RdA.own g12 | exact RdA.own g13 | exact RdA.own g14 | exact RdA.own g15) (by first | omega | (simp [lK]; done) | (simp [lK]; omega))) bpp ?_; refine SF.val rfl rfl rfl rfl (ValO.ev tabOk (by rfl)) bpp ?_; refine SF.pure tabOk rfl rfl rfl bpp ?_; refine SF.val rfl rfl rfl rfl (ValO.idxA tabOk _ _ rfl _ _ rfl _ _ _ _ rfl (by first | omega | (simp [lK]; done) | (simp [lK]; omega)) (by first | omega | (simp [lK]; done) | (simp [lK]; omega)) _ (by first | (simp only [Nat.zero_add, Nat.mul_one, Nat.one_mul, Int.toNat_natCast]; done) | (simp only [Nat.zero_add, Nat.mul_one, Nat.one_mul, Int.toNat_natCast]; rfl) | rfl)) bpp ?_; refine SF.val rfl rfl rfl rfl (ValO.ldInt tabOk _ _ rfl _ _ rfl _ _ (by first | exact RdA.own g0 | exact RdA.own g1 | exact RdA.own g2 | exact RdA.own g3 | exact RdA.own g4 | exact RdA.own g5 | exact RdA.own g6 | exact RdA.own g7 | exact RdA.own g8 | exact RdA.own g9 | exact RdA.own g10 | exact RdA.own g11 | exact RdA.own g12 | exact RdA.own g13 | exact RdA.own g14 | exact RdA.own g15) (by first | omega | (simp [lK]; done) | (simp [lK]; omega))) bpp ?_; refine SF.val rfl rfl rfl rfl (ValO.ev tabOk (by rfl)) bpp ?_; refine SF.val rfl rfl rfl rfl (ValO.ev tabOk (by rfl)) bpp ?_; refine SF.val rfl rfl rfl rfl (hexHV tabOk rfl rfl rfl rfl hh) bpp ?_; refine SF.val rfl rfl rfl rfl (ValO.addStr rfl rfl s1 s2) bpp ?_; refine SF.pure tabOk rfl rfl rfl bpp ?_; refine SF.val rfl rfl rfl rfl (ValO.idxA tabOk _ _ rfl _ _ rfl _ _ _ _ rfl (by first | omega | (simp [lK]; done) | (simp [lK]; omega)) (by first | omega | (simp [lK]; done) | (simp [lK]; omega)) _ (by first | (simp only [Nat.zero_add, Nat.mul_one, Nat.one_mul, Int.toNat_natCast]; done) | (simp only [Nat.zero_add, Nat.mul_one, Nat.one_mul, Int.toNat_natCast]; rfl) | rfl)) bpp ?_; refine SF.val rfl rfl rfl rfl (ValO.ldInt tabOk _ _ rfl _ _ rfl _ _ (by first | exact RdA.own g0 | exact RdA.own g1 | exact RdA.own g2 | exact RdA.own g3 | exact RdA.own g4 | exact RdA.own g5 | exact RdA.own g6 | exact RdA.own g7 | exact RdA.own g8 | exact RdA.own g9 | exact RdA.own g10 | exact RdA.own g11 | exact RdA.own g12 | exact RdA.own g13 | exact RdA.own g14 | exact RdA.own g15) (by first | omega | (simp [lK]; done) | (simp [lK]; omega))) bpp ?_; refine SF.val rfl rfl rfl rfl (ValO.ev tabOk (by rfl)) bpp ?_; refine SF.pure tabOk rfl rfl rfl bpp ?_; refine SF.val rfl rfl rfl rfl (ValO.idxA tabOk _ _ rfl _ _ rfl _ _ _ _ rfl (by first | omega | (simp [lK]; done) | (simp [lK]; omega)) (by first | omega | (simp [lK]; done) | (simp [lK]; omega)) _ (by first | (simp only [Nat.zero_add, Nat.mul_one, Nat.one_mul, Int.toNat_natCast]; done) | (simp only [Nat.zero_add, Nat.mul_one, Nat.one_mul, Int.toNat_natCast]; rfl) | rfl)) bpp ?_; refine SF.val rfl rfl rfl rfl (ValO.ldInt tabOk _ _ rfl _ _ rfl _ _ (by first | exact RdA.own g0 | exact RdA.own g1 | exact RdA.own g2 | exact RdA.own g3 | exact RdA.own g4 | exact RdA.own g5 | exact RdA.own g6 | exact RdA.own g7 | exact RdA.own g8 | exact RdA.own g9 | exact RdA.own g10 | exact RdA.own g11 | exact RdA.own g12 | exact RdA.own g13 | exact RdA.own g14 | exact RdA.own g15) (by first | omega | (simp [lK]; done) | (simp [lK]; omega))) bpp ?_; refine SF.val rfl rfl rfl rfl (ValO.ev tabOk (by rfl)) bpp ?_; refine SF.val rfl rfl rfl rfl (ValO.ev tabOk (by rfl)) bpp ?_; refine SF.val rfl rfl rfl rfl (hexLV tabOk rfl rfl rfl rfl hl) bpp ?_; refine SF.val rfl rfl rfl rfl (ValO.addStr rfl rfl s3 s4) bpp ?_; refine SF.pure tabOk rfl rfl rfl bpp ?_; refine SF.done ?_)) | ((with_reducible refine SP.seqK ?_); intro _ _) | (with_reducible refine thenK_normal ?_) | (refine useK (by assumption) ?_) | (with_reducible refine SP.block ?_) | (with_reducible refine thenK_exit ?_) | (with_reducible refine thenK_ret ?_) | (with_reducible refine blockK_normal ?_) | (with_reducible refine blockK_ret ?_) | (with_reducible refine blockK_eq ?_) | (with_reducible refine blockK_ne rfl ?_) | (with_reducible refine SP.skip ?_) | (with_reducible refine SP.ret ?_) | (with_reducible refine SP.exit ?_) | ((with_reducible show SP _ _ _ (Code.cond _ _ _) _ _ _); first | (refine SP.condT rfl (by first | rfl | (simp only [decide_eq_true_eq, beq_iff_eq, bne_iff_ne]; omega)) ?_) | (refine SP.condF rfl (by first | rfl | (simp only [decide_eq_false_iff_not, beq_eq_false_iff_ne, bne_eq_false_iff_eq]; omega)) ?_)))
    simp only [hk1]
    exact ⟨hltk, (by first | rfl | (simp only [hexN_s]; done) | (simp only [hexN_s]; rfl) | (rw [hexN_s]; rfl)), (by first | rfl | (simp only [hexN_s]; done) | (simp only [hexN_s]; rfl) | (rw [hexN_s]; rfl))⟩
  · have hendk : k = 32 := by omega
    replace hendk := Lib.hid hendk
    repeat (first | ((with_reducible refine SP.region (id := 3) ?_); refine SL.val (ValO.ev tabOk (by rfl)) bpp ?_; (first | (refine SL.val (ValO.evB (b := true) tabOk rfl (by first | rfl | (simp only [decide_eq_true_eq, decide_eq_false_iff_not, beq_iff_eq, bne_iff_ne, beq_eq_false_iff_ne, bne_eq_false_iff_eq, ne_eq, gt_iff_lt, ge_iff_le]; omega))) bpp ?_) | (refine SL.val (ValO.evB (b := false) tabOk rfl (by first | rfl | (simp only [decide_eq_true_eq, decide_eq_false_iff_not, beq_iff_eq, bne_iff_ne, beq_eq_false_iff_ne, bne_eq_false_iff_eq, ne_eq, gt_iff_lt, ge_iff_le]; omega))) bpp ?_) | (refine SL.val (ValO.ev tabOk (by rfl)) bpp ?_)); (with_reducible refine SL.nil ?_)) | ((with_reducible refine SP.region (id := 6) ?_); refine SL.val (ValO.ev tabOk (by rfl)) bpp ?_; refine SL.val (ValO.ev tabOk (by rfl)) bpp ?_; (with_reducible refine SL.nil ?_)) | ((with_reducible refine SP.seqK ?_); intro _ _) | (with_reducible refine thenK_normal ?_) | (refine useK (by assumption) ?_) | (with_reducible refine SP.block ?_) | (with_reducible refine thenK_exit ?_) | (with_reducible refine thenK_ret ?_) | (with_reducible refine blockK_normal ?_) | (with_reducible refine blockK_ret ?_) | (with_reducible refine blockK_eq ?_) | (with_reducible refine blockK_ne rfl ?_) | (with_reducible refine SP.skip ?_) | (with_reducible refine SP.ret ?_) | (with_reducible refine SP.exit ?_) | ((with_reducible show SP _ _ _ (Code.cond _ _ _) _ _ _); first | (refine SP.condT rfl (by first | rfl | (simp only [decide_eq_true_eq, beq_iff_eq, bne_iff_ne]; omega)) ?_) | (refine SP.condF rfl (by first | rfl | (simp only [decide_eq_false_iff_not, beq_eq_false_iff_ne, bne_eq_false_iff_eq]; omega)) ?_)))
    have hq := hendk.out; clear hendk; subst hq
    refine doneK.mk rfl (ResO.tmp rfl) rfl


end Go.Proofs.Ytmchkfganpgheaa
