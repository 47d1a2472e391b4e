/-
  Nonces: the code's and the document's.
  Boxes in one form: what Seal and Open answer, of all lengths, the code's and the document's.
-/
import Derived.Test.YthbmlpiplfbehaaAeTS
import Derived.Test.YthbmlpiplfbehaaCiY
import Derived.Test.YthbmlpiplfbehaaDoc6
namespace Go.Proofs.Ythbmlpiplfbehaa
set_option linter.unusedSimpArgs false
set_option linter.unusedVariables false
open Go Go.RowKit

open Sp F M

def nnI' (v : Nat) : Nat → List Int
  | 0 => List.replicate 12 0
  | i + 1 => (nnI' v i).set (4 + i) (IntKind.u8.wrap ((v / 2 ^ (8 * i) : Nat) : Int))
@[irreducible] def nnI (v i : Nat) : List Int := nnI' v i
theorem nnI_0 (v : Nat) : nnI v 0 = List.replicate 12 0 := by unfold nnI; rfl
theorem nnI_s (v i : Nat) : nnI v (i + 1) = (nnI v i).set (4 + i) (IntKind.u8.wrap ((v / 2 ^ (8 * i) : Nat) : Int)) := by unfold nnI; rfl
theorem nnI_length (v : Nat) : ∀ i, (nnI v i).length = 12
  | 0 => by rw [nnI_0]; rfl
  | i + 1 => by rw [nnI_s, List.length_set, nnI_length v i]
attribute [simp] nnI_length
theorem sh8 (v k : Nat) : Int.fdiv ((v / 2 ^ (8 * k) : Nat) : Int) (2 ^ (min 8 IntKind.i64.bits)) = ((v / 2 ^ (8 * (k + 1)) : Nat) : Int) := by
  show Int.fdiv ((v / 2 ^ (8 * k) : Nat) : Int) 256 = _
  rw [Int.fdiv_eq_ediv_of_nonneg _ (by omega), show (256 : Int) = ((256 : Nat) : Int) from rfl, ← Int.natCast_ediv, Nat.div_div_eq_div_mul, show 2 ^ (8 * k) * 256 = 2 ^ (8 * (k + 1)) by rw [Nat.mul_add, Nat.pow_add]]
attribute [simp] nnI_length
set_option maxRecDepth 20000 in
theorem nonce_bad0 (v : Int) (h1 : v < 0) (w : World) : Calls Try.prog 25 #[.int .i64 v] w fun e w' => e = .returned (.tuple #[.agg (ints .u8 (List.replicate 12 0)), .int .i64 9]) ∧ Below w.heap.size w w' := by
  have tok_ob : True := trivial
  refine pureE Try.func25 Try.ntmps25 Try.results25 ?_
  repeat (first | ((with_reducible refine SP.region (id := 0) ?_); refine SL.al zero_44 ?_; (first | (have _t := tok_ob; clear _t tok_ob; intro ob) | intro _); refine SL.e tabOk ?_; (with_reducible refine SL.nil ?_)) | ((with_reducible refine SP.region (id := 1) ?_); refine SL.e tabOk ?_; (first | (refine SL.c true tabOk ?_) | (refine SL.c false tabOk ?_) | (refine SL.e tabOk ?_)); refine SL.e tabOk ?_; (first | (refine SL.gT ?_; refine SL.e tabOk ?_) | refine SL.gF ?_); (first | (refine SL.gT ?_; (first | (refine SL.c true tabOk ?_) | (refine SL.c false tabOk ?_) | (refine SL.e tabOk ?_))) | refine SL.gF ?_); refine SL.e tabOk ?_; (with_reducible refine SL.nil ?_)) | ((with_reducible refine SP.region (id := 2) ?_); refine SL.ldR tabOk ?_; refine SL.stR tabOk ?_; refine SL.e tabOk ?_; (with_reducible refine SL.nil ?_)) | ((with_reducible refine SP.seqK ?_); intro _ _) | (with_reducible refine thenK_normal ?_) | (refine useK (by assumption) ?_) | (with_reducible refine thenK_ret ?_) | (with_reducible refine SP.ret ?_) | ((with_reducible show SP _ _ _ (Code.cond _ _ _) _ _ _); first | (refine SP.condT rfl (by first | rfl | (simp only [decide_eq_true_eq, beq_iff_eq, bne_iff_ne]; first | done | omega)) ?_)))
  refine doneK.mk rfl (ResO.cellTmp tabOk rfl rfl rfl (by first | exact RdA.own g0 | exact RdA.own g1 | exact RdA.own g2 | exact RdA.own g3 | exact RdA.own g4 | exact RdA.own g5 | exact RdA.own g6 | exact RdA.own g7 | exact RdA.own g8 | exact RdA.own g9 | exact RdA.own g10 | exact RdA.own g11 | exact RdA.own g12 | exact RdA.own g13 | exact RdA.own g14 | exact RdA.own g15) (by first | (simp [ints_size]; done) | (simp [ints_size]; omega)) rfl) rfl

set_option maxRecDepth 20000 in
theorem nonce_bad1 (v : Int) (h1 : ¬ v < 0) (h2 : 9007199254740991 < v) (w : World) : Calls Try.prog 25 #[.int .i64 v] w fun e w' => e = .returned (.tuple #[.agg (ints .u8 (List.replicate 12 0)), .int .i64 9]) ∧ Below w.heap.size w w' := by
  have tok_ob : True := trivial
  refine pureE Try.func25 Try.ntmps25 Try.results25 ?_
  repeat (first | ((with_reducible refine SP.region (id := 0) ?_); refine SL.al zero_44 ?_; (first | (have _t := tok_ob; clear _t tok_ob; intro ob) | intro _); refine SL.e tabOk ?_; (with_reducible refine SL.nil ?_)) | ((with_reducible refine SP.region (id := 1) ?_); refine SL.e tabOk ?_; (first | (refine SL.c true tabOk ?_) | (refine SL.c false tabOk ?_) | (refine SL.e tabOk ?_)); refine SL.e tabOk ?_; (first | (refine SL.gT ?_; refine SL.e tabOk ?_) | refine SL.gF ?_); (first | (refine SL.gT ?_; (first | (refine SL.c true tabOk ?_) | (refine SL.c false tabOk ?_) | (refine SL.e tabOk ?_))) | refine SL.gF ?_); refine SL.e tabOk ?_; (with_reducible refine SL.nil ?_)) | ((with_reducible refine SP.region (id := 2) ?_); refine SL.ldR tabOk ?_; refine SL.stR tabOk ?_; refine SL.e tabOk ?_; (with_reducible refine SL.nil ?_)) | ((with_reducible refine SP.seqK ?_); intro _ _) | (with_reducible refine thenK_normal ?_) | (refine useK (by assumption) ?_) | (with_reducible refine thenK_ret ?_) | (with_reducible refine SP.ret ?_) | ((with_reducible show SP _ _ _ (Code.cond _ _ _) _ _ _); first | (refine SP.condT rfl (by first | rfl | (simp only [decide_eq_true_eq, beq_iff_eq, bne_iff_ne]; first | done | omega)) ?_)))
  refine doneK.mk rfl (ResO.cellTmp tabOk rfl rfl rfl (by first | exact RdA.own g0 | exact RdA.own g1 | exact RdA.own g2 | exact RdA.own g3 | exact RdA.own g4 | exact RdA.own g5 | exact RdA.own g6 | exact RdA.own g7 | exact RdA.own g8 | exact RdA.own g9 | exact RdA.own g10 | exact RdA.own g11 | exact RdA.own g12 | exact RdA.own g13 | exact RdA.own g14 | exact RdA.own g15) (by first | (simp [ints_size]; done) | (simp [ints_size]; omega)) rfl) rfl

set_option maxRecDepth 20000 in
set_option maxHeartbeats 1000000 in
theorem nonce_ok (v : Nat) (h1 : v ≤ 9007199254740991) (w : World) : Calls Try.prog 25 #[.int .i64 v] w fun e w' => e = .returned (.tuple #[.agg (ints .u8 (nnI v 8)), .int .i64 0]) ∧ Below w.heap.size w w' := by
  have tok_ob : True := trivial
  refine pureE Try.func25 Try.ntmps25 Try.results25 ?_
  repeat (first | ((with_reducible refine SP.region (id := 0) ?_); refine SL.al zero_44 ?_; (first | (have _t := tok_ob; clear _t tok_ob; intro ob) | intro _); refine SL.e tabOk ?_; (with_reducible refine SL.nil ?_)) | ((with_reducible refine SP.region (id := 1) ?_); refine SL.e tabOk ?_; (first | (refine SL.c true tabOk ?_) | (refine SL.c false tabOk ?_) | (refine SL.e tabOk ?_)); refine SL.e tabOk ?_; (first | (refine SL.gT ?_; refine SL.e tabOk ?_) | refine SL.gF ?_); (first | (refine SL.gT ?_; (first | (refine SL.c true tabOk ?_) | (refine SL.c false tabOk ?_) | (refine SL.e tabOk ?_))) | refine SL.gF ?_); refine SL.e tabOk ?_; (with_reducible refine SL.nil ?_)) | ((with_reducible refine SP.region (id := 3) ?_); refine SL.e tabOk ?_; (with_reducible refine SL.nil ?_)) | ((with_reducible refine SP.seqK ?_); intro _ _) | (with_reducible refine thenK_normal ?_) | (refine useK (by assumption) ?_) | (with_reducible refine SP.block ?_) | (with_reducible refine SP.skip ?_) | ((with_reducible show SP _ _ _ (Code.cond _ _ _) _ _ _); first | (refine SP.condF rfl (by first | rfl | (simp only [decide_eq_false_iff_not, beq_eq_false_iff_ne, bne_eq_false_iff_eq]; first | done | omega)) ?_)))
  refine SP.loopN (fun k l bs => l = [.int .i64 ((v / 2 ^ (8 * k) : Nat) : Int), nth l 1, .pointer (some ⟨ob, 0, none⟩), nth l 3, .int .i64 ((4 + k : Nat)), nth l 5, nth l 6, nth l 7, nth l 8, nth l 9, nth l 10, nth l 11, nth l 12, nth l 13, nth l 14, nth l 15, nth l 16, nth l 17, nth l 18, nth l 19, nth l 20, nth l 21, nth l 22] ∧ bs = [(ob, ints .u8 (nnI v k), 44)]) 8 ⟨by rw [Nat.mul_zero, Nat.pow_zero, Nat.div_one]; rfl, by rw [nnI_0]⟩ ?_
  rintro k lfk _ hkk ⟨hlk, rfl⟩
  refine SP.cast hlk ?_
  clear hlk
  by_cases hltk : k < 8
  · have hk1 : IntKind.i64.wrap (((4 + k : Nat) : Int) + 1) = ((4 + (k + 1) : Nat) : Int) := by rw [IntWalk.i64_in _ (by omega)]; omega
    have hs := sh8 v k
    repeat (first | ((with_reducible refine SP.region (id := 4) ?_); refine SL.e tabOk ?_; refine SL.e tabOk ?_; (with_reducible refine SL.nil ?_)) | ((with_reducible refine SP.region (id := 5) ?_); refine SL.e tabOk ?_; refine SL.e tabOk ?_; refine SL.e tabOk ?_; (with_reducible refine SL.nil ?_)) | ((with_reducible refine SP.region (id := 6) ?_); refine SL.e tabOk ?_; refine SL.e tabOk ?_; refine SL.e tabOk ?_; refine SL.ixA tabOk ?_; refine SL.stI tabOk ?_; (with_reducible refine SL.nil ?_)) | ((with_reducible refine SP.region (id := 7) ?_); refine SL.e tabOk ?_; refine SL.e tabOk ?_; refine SL.e tabOk ?_; (with_reducible refine SL.nil ?_)) | ((with_reducible refine SP.seqK ?_); intro _ _) | (with_reducible refine thenK_normal ?_) | (refine useK (by assumption) ?_) | (with_reducible refine SP.block ?_) | (with_reducible refine SP.skip ?_) | ((with_reducible show SP _ _ _ (Code.cond _ _ _) _ _ _); first | (refine SP.condT rfl (by first | rfl | (simp only [decide_eq_true_eq, beq_iff_eq, bne_iff_ne]; first | done | omega)) ?_)))
    simp only [hk1, hs]
    exact ⟨hltk, rfl, by rw [nnI_s]⟩
  · have hendk : k = 8 := by omega
    replace hendk := Lib.hid hendk
    repeat (first | ((with_reducible refine SP.region (id := 4) ?_); refine SL.e tabOk ?_; refine SL.e tabOk ?_; (with_reducible refine SL.nil ?_)) | ((with_reducible refine SP.seqK ?_); intro _ _) | (with_reducible refine thenK_normal ?_) | (refine useK (by assumption) ?_) | (with_reducible refine SP.exit ?_) | ((with_reducible show SP _ _ _ (Code.cond _ _ _) _ _ _); first | (refine SP.condF rfl (by first | rfl | (simp only [decide_eq_false_iff_not, beq_eq_false_iff_ne, bne_eq_false_iff_eq]; first | done | omega)) ?_)))
    have hq := hendk.out; clear hendk; subst hq
    repeat (first | ((with_reducible refine SP.region (id := 8) ?_); refine SL.ldR tabOk ?_; refine SL.stR tabOk ?_; refine SL.e tabOk ?_; (with_reducible refine SL.nil ?_)) | (with_reducible refine thenK_normal ?_) | (refine useK (by assumption) ?_) | (with_reducible refine SP.ret ?_))
    refine doneK.mk rfl (ResO.cellTmp tabOk rfl rfl rfl (by first | exact RdA.own g0 | exact RdA.own g1 | exact RdA.own g2 | exact RdA.own g3 | exact RdA.own g4 | exact RdA.own g5 | exact RdA.own g6 | exact RdA.own g7 | exact RdA.own g8 | exact RdA.own g9 | exact RdA.own g10 | exact RdA.own g11 | exact RdA.own g12 | exact RdA.own g13 | exact RdA.own g14 | exact RdA.own g15) (by first | (simp [ints_size]; done) | (simp [ints_size]; omega)) rfl) rfl

theorem nonce_bad (v : Int) (h : v < 0 ∨ 9007199254740991 < v) (w : World) : Calls Try.prog 25 #[.int .i64 v] w fun e w' => e = .returned (.tuple #[.agg (ints .u8 (List.replicate 12 0)), .int .i64 9]) ∧ Below w.heap.size w w' := by
  by_cases h1 : v < 0
  · exact nonce_bad0 v h1 w
  · exact nonce_bad1 v h1 (by omega) w

attribute [simp] nnI_length
theorem shk (v k : Nat) (hk : k < 8) : Int.fdiv ((v : Nat) : Int) (2 ^ (min (Int.toNat (IntKind.i64.wrap (8 * (k : Int)))) IntKind.i64.bits)) = ((v / 2 ^ (8 * k) : Nat) : Int) := by
  rw [IntWalk.i64_in _ (by omega), show (8 * (k : Int)) = ((8 * k : Nat) : Int) by omega, Int.toNat_natCast, show min (8 * k) IntKind.i64.bits = 8 * k by show min (8 * k) 64 = _; omega, Int.fdiv_eq_ediv_of_nonneg _ (Int.le_of_lt (Int.pow_pos (by decide))), show ((2 : Int) ^ (8 * k)) = ((2 ^ (8 * k) : Nat) : Int) by simp, ← Int.natCast_ediv]
set_option maxRecDepth 20000 in
set_option maxHeartbeats 1000000 in
theorem rnonce_ok (v : Nat) (h1 : v ≤ 9007199254740991) (w : World) : Calls Try.prog 33 #[.int .i64 v] w fun e w' => e = .returned (.tuple #[.agg (ints .u8 (nnI v 8)), .int .i64 0]) ∧ Below w.heap.size w w' := by
  have tok_ob : True := trivial
  have tok_nb : True := trivial
  refine pureE Try.func33 Try.ntmps33 Try.results33 ?_
  repeat (first | ((with_reducible refine SP.region (id := 0) ?_); refine SL.al zero_44 ?_; (first | (have _t := tok_ob; clear _t tok_ob; intro ob) | (have _t := tok_nb; clear _t tok_nb; intro nb) | intro _); refine SL.e tabOk ?_; (with_reducible refine SL.nil ?_)) | ((with_reducible refine SP.region (id := 1) ?_); refine SL.al zero_44 ?_; (first | (have _t := tok_ob; clear _t tok_ob; intro ob) | (have _t := tok_nb; clear _t tok_nb; intro nb) | intro _); (with_reducible refine SL.nil ?_)) | ((with_reducible refine SP.region (id := 2) ?_); refine SL.e tabOk ?_; (first | (refine SL.c true tabOk ?_) | (refine SL.c false tabOk ?_) | (refine SL.e tabOk ?_)); refine SL.e tabOk ?_; (first | (refine SL.gT ?_; refine SL.e tabOk ?_) | refine SL.gF ?_); (first | (refine SL.gT ?_; (first | (refine SL.c true tabOk ?_) | (refine SL.c false tabOk ?_) | (refine SL.e tabOk ?_))) | refine SL.gF ?_); refine SL.e tabOk ?_; (with_reducible refine SL.nil ?_)) | ((with_reducible refine SP.region (id := 4) ?_); refine SL.e tabOk ?_; (with_reducible refine SL.nil ?_)) | ((with_reducible refine SP.seqK ?_); intro _ _) | (with_reducible refine thenK_normal ?_) | (refine useK (by assumption) ?_) | (with_reducible refine SP.block ?_) | (with_reducible refine SP.skip ?_) | ((with_reducible show SP _ _ _ (Code.cond _ _ _) _ _ _); first | (refine SP.condF rfl (by first | rfl | (simp only [decide_eq_false_iff_not, beq_eq_false_iff_ne, bne_eq_false_iff_eq]; first | done | omega)) ?_)))
  refine SP.loopN (fun k l bs => l = [.int .i64 ((v : Nat) : Int), nth l 1, .pointer (some ⟨ob, 0, none⟩), nth l 3, .pointer (some ⟨nb, 0, none⟩), .int .i64 ((k : Nat)), nth l 6, nth l 7, nth l 8, nth l 9, nth l 10, nth l 11, nth l 12, nth l 13, nth l 14, nth l 15, nth l 16, nth l 17, nth l 18, nth l 19, nth l 20, nth l 21, nth l 22, nth l 23, nth l 24, nth l 25] ∧ bs = [(nb, ints .u8 (nnI v k), 44), (ob, ints .u8 (List.replicate 12 0), 44)]) 8 ⟨rfl, by rw [nnI_0]⟩ ?_
  rintro k lfk _ hkk ⟨hlk, rfl⟩
  refine SP.cast hlk ?_
  clear hlk
  by_cases hltk : k < 8
  · have hk1 : IntKind.i64.wrap ((k : Int) + 1) = ((k + 1 : Nat) : Int) := by rw [IntWalk.i64_in _ (by omega)]; omega
    have f4 : IntKind.i64.wrap (4 + (k : Int)) = ((4 + k : Nat) : Int) := by rw [IntWalk.i64_in _ (by omega)]; omega
    have f8 : IntKind.i64.wrap (8 * (k : Int)) = ((8 * k : Nat) : Int) := by rw [IntWalk.i64_in _ (by omega)]; omega
    have hsh := shk v k hltk
    repeat (first | ((with_reducible refine SP.region (id := 5) ?_); refine SL.e tabOk ?_; refine SL.e tabOk ?_; (with_reducible refine SL.nil ?_)) | ((with_reducible refine SP.region (id := 6) ?_); refine SL.e tabOk ?_; refine SL.e tabOk ?_; refine SL.e tabOk ?_; (with_reducible refine SL.nil ?_)) | ((with_reducible refine SP.region (id := 7) ?_); refine SL.e tabOk ?_; refine SL.e tabOk ?_; refine SL.e tabOk ?_; refine SL.e tabOk ?_; refine SL.e tabOk ?_; refine SL.sh ?_; refine SL.e tabOk ?_; refine SL.ixA tabOk ?_ (hm := by first | (simp only [f4, Nat.zero_add, Nat.mul_one, Nat.one_mul, Int.toNat_natCast]; done) | (simp only [f4, Nat.zero_add, Nat.mul_one, Nat.one_mul, Int.toNat_natCast]; rfl) | rfl); refine SL.stI tabOk ?_; (with_reducible refine SL.nil ?_)) | ((with_reducible refine SP.seqK ?_); intro _ _) | (with_reducible refine thenK_normal ?_) | (refine useK (by assumption) ?_) | (with_reducible refine SP.block ?_) | (with_reducible refine SP.skip ?_) | ((with_reducible show SP _ _ _ (Code.cond _ _ _) _ _ _); first | (refine SP.condT rfl (by first | rfl | (simp only [decide_eq_true_eq, beq_iff_eq, bne_iff_ne]; first | done | omega)) ?_)))
    simp only [hk1]
    exact ⟨hltk, rfl, by rw [nnI_s, ← hsh]⟩
  · have hendk : k = 8 := by omega
    replace hendk := Lib.hid hendk
    repeat (first | ((with_reducible refine SP.region (id := 5) ?_); refine SL.e tabOk ?_; refine SL.e tabOk ?_; (with_reducible refine SL.nil ?_)) | ((with_reducible refine SP.seqK ?_); intro _ _) | (with_reducible refine thenK_normal ?_) | (refine useK (by assumption) ?_) | (with_reducible refine SP.exit ?_) | ((with_reducible show SP _ _ _ (Code.cond _ _ _) _ _ _); first | (refine SP.condF rfl (by first | rfl | (simp only [decide_eq_false_iff_not, beq_eq_false_iff_ne, bne_eq_false_iff_eq]; first | done | omega)) ?_)))
    have hq := hendk.out; clear hendk; subst hq
    repeat (first | ((with_reducible refine SP.region (id := 8) ?_); refine SL.ldR tabOk ?_; refine SL.stR tabOk ?_; refine SL.e tabOk ?_; (with_reducible refine SL.nil ?_)) | (with_reducible refine thenK_normal ?_) | (refine useK (by assumption) ?_) | (with_reducible refine SP.ret ?_))
    refine doneK.mk rfl (ResO.cellTmp tabOk rfl rfl rfl (by first | exact RdA.own g0 | exact RdA.own g1 | exact RdA.own g2 | exact RdA.own g3 | exact RdA.own g4 | exact RdA.own g5 | exact RdA.own g6 | exact RdA.own g7 | exact RdA.own g8 | exact RdA.own g9 | exact RdA.own g10 | exact RdA.own g11 | exact RdA.own g12 | exact RdA.own g13 | exact RdA.own g14 | exact RdA.own g15) (by first | (simp [ints_size]; done) | (simp [ints_size]; omega)) rfl) rfl
end Go.Proofs.Ythbmlpiplfbehaa

namespace Go.Proofs.Ythbmlpiplfbehaa
set_option linter.unusedSimpArgs false
set_option linter.unusedVariables false
open Go Go.RowKit
namespace Sp
open F M
/-- The nonce of a number. -/
@[irreducible] def nonV (n : Int) : List Int := nnI n.toNat 8
theorem nonV_length (n : Int) : (nonV n).length = 12 := by unfold nonV; simp
attribute [simp] nonV_length
theorem nnI_byts (v : Nat) : ∀ i, Byts (nnI v i)
  | 0 => by rw [nnI_0]; exact byts_rep _
  | i + 1 => by
    rw [nnI_s]
    refine (nnI_byts v i).upd2 _ ?_
    rw [IntKind.wrap_u8]
    omega
theorem nonV_byts (n : Int) : Byts (nonV n) := by unfold nonV; exact nnI_byts _ _
theorem nonce_n {n : Int} (h0 : 0 ≤ n) (h1 : n < 9007199254740991) (w : World) : Calls Try.prog 25 #[.int .i64 n] w fun e w' => e = .returned (.tuple #[.agg (ints .u8 (nonV n)), .int .i64 0]) ∧ Below w.heap.size w w' := by
  have := nonce_ok n.toNat (by omega) w
  rwa [Int.toNat_of_nonneg h0, show nnI n.toNat 8 = nonV n by unfold nonV; rfl] at this
theorem rnonce_n {n : Int} (h0 : 0 ≤ n) (h1 : n < 9007199254740991) (w : World) : Calls Try.prog 33 #[.int .i64 n] w fun e w' => e = .returned (.tuple #[.agg (ints .u8 (nonV n)), .int .i64 0]) ∧ Below w.heap.size w w' := by
  have := rnonce_ok n.toNat (by omega) w
  rwa [Int.toNat_of_nonneg h0, show nnI n.toNat 8 = nonV n by unfold nonV; rfl] at this
/-- What is wrong with a text. -/
@[irreducible] def sE (A B : List Int) : Int := if 4096 < A.length ∨ 4096 < B.length then 5 else 0
@[irreducible] def sX (K N A B : List Int) : List Int := if 4096 < A.length ∨ 4096 < B.length then [] else sealV K N A B
/-- What is wrong with a box. -/
@[irreducible] def oE (K N A X : List Int) : Int := if 4096 < A.length ∨ 4112 < X.length then 5 else if X.length < 16 then 3 else if aeT K N A (X.take (X.length - 16)) = X.drop (X.length - 16) then 0 else 60
@[irreducible] def oX (K N A X : List Int) : List Int := if oE K N A X = 0 then xo K 1 N (X.take (X.length - 16)) else []
theorem sE_long {A B : List Int} (h : 4096 < A.length ∨ 4096 < B.length) : sE A B = 5 := by unfold sE; rw [if_pos h]
theorem sE_ok {A B : List Int} (h1 : A.length ≤ 4096) (h2 : B.length ≤ 4096) : sE A B = 0 := by unfold sE; rw [if_neg (by omega)]
theorem sX_long {K N A B : List Int} (h : 4096 < A.length ∨ 4096 < B.length) : sX K N A B = [] := by unfold sX; rw [if_pos h]
theorem sX_ok {K N A B : List Int} (h1 : A.length ≤ 4096) (h2 : B.length ≤ 4096) : sX K N A B = sealV K N A B := by unfold sX; rw [if_neg (by omega)]
theorem oE_long {K N A X : List Int} (h : 4096 < A.length ∨ 4112 < X.length) : oE K N A X = 5 := by unfold oE; rw [if_pos h]
theorem oE_short {K N A X : List Int} (h1 : A.length ≤ 4096) (h2 : X.length < 16) : oE K N A X = 3 := by unfold oE; rw [if_neg (by omega), if_pos h2]
theorem oE_ok {K N A X : List Int} (h1 : A.length ≤ 4096) (h2 : 16 ≤ X.length) (h3 : X.length ≤ 4112) (h : boxOk K N A X X.length) : oE K N A X = 0 := by
  unfold oE; rw [if_neg (by omega), if_neg (by omega)]; unfold boxOk at h; rw [if_pos h]
theorem oE_bad {K N A X : List Int} (h1 : A.length ≤ 4096) (h2 : 16 ≤ X.length) (h3 : X.length ≤ 4112) (h : ¬ boxOk K N A X X.length) : oE K N A X = 60 := by
  unfold oE; rw [if_neg (by omega), if_neg (by omega)]; unfold boxOk at h; rw [if_neg h]
theorem oX_ok {K N A X : List Int} (h : oE K N A X = 0) : oX K N A X = xo K 1 N (X.take (X.length - 16)) := by unfold oX; rw [if_pos h]
theorem oX_bad {K N A X : List Int} (h : oE K N A X ≠ 0) : oX K N A X = [] := by unfold oX; rw [if_neg h]
theorem sX_byts {K N A B : List Int} (hB : Byts B) : Byts (sX K N A B) := by
  by_cases h : 4096 < A.length ∨ 4096 < B.length
  · rw [sX_long h]; exact fun j => by simp [gi]
  · rw [sX_ok (by omega) (by omega)]; exact sealV_byts _ _ _ hB
theorem oX_byts {K N A X : List Int} (hB : Byts X) : Byts (oX K N A X) := by
  by_cases h : oE K N A X = 0
  · rw [oX_ok h]; exact xo_byts _ _ _ (hB.take2 _)
  · rw [oX_bad h]; exact fun j => by simp [gi]
/-- Where a call that answers bytes and a number ends. -/
def BoxPost (w : World) (X : List Int) (n : Int) (e : Ending) (w' : World) : Prop := ∃ q c abs, e = .returned (.tuple #[.slice q X.length c, .int .i64 n]) ∧ AO q X.length c X abs ∧ OwnM w [] w' abs
theorem BoxPost.nil {w w' : World} {n : Int} (h : Below w.heap.size w w') : BoxPost w [] n (.returned (.tuple #[.slice none 0 0, .int .i64 n])) w' :=
  ⟨none, 0, [], rfl, AO.nil, by simpa using (OwnM.start w).grow h⟩
section
variable (K N : List Int) (hK : K.length = 32) (hN : N.length = 12) (p q : Option Addr) (c d : Nat) (A B : List Int) (bK : Byts K) (bN : Byts N) (bA : Byts A) (bB : Byts B) (w : World) (hSA : Sl w p A.length c A) (hSB : Sl w q B.length d B) (hn : A.length ≤ 140737488355328) (hm : B.length ≤ 140737488355328)
include hK hN bA bB hSA hSB hn hm
theorem seal_u : Calls Try.prog 26 #[.agg (ints .u8 K), .agg (ints .u8 N), .slice p A.length c, .slice q B.length d] w (BoxPost w (sX K N A B) (sE A B)) := by
  by_cases h : 4096 < A.length ∨ 4096 < B.length
  · rw [sX_long h, sE_long h]
    refine (seal_long K N hK hN p q _ c _ d A B w hSA hSB h hn hm).mono ?_
    rintro e w' ⟨rfl, hb⟩
    exact .nil hb
  · rw [sX_ok (by omega) (by omega), sE_ok (by omega) (by omega)]
    refine (seal_ok K N hK hN p q _ c _ d A B w hSA hSB bA bB (by omega) (by omega)).mono ?_
    rintro e w' ⟨q, c, abs, rfl, ha, hw⟩
    exact ⟨q, c, abs, by rw [sealV_length], by rw [sealV_length]; exact ha, hw⟩
theorem open_u : Calls Try.prog 37 #[.agg (ints .u8 K), .agg (ints .u8 N), .slice p A.length c, .slice q B.length d] w (BoxPost w (oX K N A B) (oE K N A B)) := by
  by_cases h : 4096 < A.length ∨ 4112 < B.length
  · have h1 := oE_long (K := K) (N := N) h
    rw [oX_bad (by rw [h1]; decide), h1]
    refine (open_long K N hK hN p q _ c _ d A B w hSA hSB h hn hm).mono ?_
    rintro e w' ⟨rfl, hb⟩
    exact .nil hb
  · by_cases h2 : B.length < 16
    · have h1 := oE_short (K := K) (N := N) (A := A) (by omega) h2
      rw [oX_bad (by rw [h1]; decide), h1]
      refine (open_short K N hK hN p q _ c _ d A B w hSA hSB (by omega) h2).mono ?_
      rintro e w' ⟨rfl, hb⟩
      exact .nil hb
    · by_cases h3 : boxOk K N A B B.length
      · have h1 := oE_ok (by omega) (by omega) (by omega) h3
        rw [oX_ok h1, h1]
        refine (open_ok K N hK hN p q _ c _ d A B w hSA hSB bA bB (by omega) (by omega) (by omega) h3).mono ?_
        have e1 : (xo K 1 N (B.take (B.length - 16))).length = B.length - 16 := by simp
        rintro e w' ⟨q, c, abs, rfl, ha, hw⟩
        exact ⟨q, c, abs, by rw [e1], by rw [e1]; exact ha, hw⟩
      · have h1 := oE_bad (by omega) (by omega) (by omega) h3
        rw [oX_bad (by rw [h1]; decide), h1]
        refine (open_bad K N hK hN p q _ c _ d A B w hSA hSB bA bB (by omega) (by omega) (by omega) h3).mono ?_
        rintro e w' ⟨rfl, hb⟩
        exact .nil hb
include bK bN
theorem rseal_u : Calls Try.prog 34 #[.agg (ints .u8 K), .agg (ints .u8 N), .slice p A.length c, .slice q B.length d] w (BoxPost w (sX K N A B) (sE A B)) := by
  by_cases h : 4096 < A.length ∨ 4096 < B.length
  · rw [sX_long h, sE_long h]
    refine (rseal_long K N hK hN p q _ c _ d A B w hSA hSB h hn hm).mono ?_
    rintro e w' ⟨rfl, hb⟩
    exact .nil hb
  · rw [sX_ok (by omega) (by omega), sE_ok (by omega) (by omega)]
    refine (rseal_ok K N hK hN p q _ c _ d A B w hSA hSB bK bN bA bB (by omega) (by omega)).mono ?_
    rintro e w' ⟨av, abs, rfl, ha, hw⟩
    obtain ⟨q, c, rfl, ha2⟩ := AllO.ao ha rfl
    exact ⟨q, c, abs, rfl, ha2, hw⟩
theorem ropen_u : Calls Try.prog 51 #[.agg (ints .u8 K), .agg (ints .u8 N), .slice p A.length c, .slice q B.length d] w (BoxPost w (oX K N A B) (oE K N A B)) := by
  by_cases h : 4096 < A.length ∨ 4112 < B.length
  · have h1 := oE_long (K := K) (N := N) h
    rw [oX_bad (by rw [h1]; decide), h1]
    refine (ropen_long K N hK hN p q _ c _ d A B w hSA hSB h hn hm).mono ?_
    rintro e w' ⟨rfl, hb⟩
    exact .nil hb
  · by_cases h2 : B.length < 16
    · have h1 := oE_short (K := K) (N := N) (A := A) (by omega) h2
      rw [oX_bad (by rw [h1]; decide), h1]
      refine (ropen_short K N hK hN p q _ c _ d A B w hSA hSB (by omega) h2).mono ?_
      rintro e w' ⟨rfl, hb⟩
      exact .nil hb
    · by_cases h3 : boxOk K N A B B.length
      · have h1 := oE_ok (by omega) (by omega) (by omega) h3
        rw [oX_ok h1, h1]
        refine (ropen_ok K N hK hN p q _ c _ d A B w hSA hSB bK bN bA bB (by omega) (by omega) (by omega) h3).mono ?_
        rintro e w' ⟨av, abs, rfl, ha, hw⟩
        obtain ⟨q, c, rfl, ha2⟩ := AllO.ao ha rfl
        exact ⟨q, c, abs, rfl, ha2, hw⟩
      · have h1 := oE_bad (by omega) (by omega) (by omega) h3
        rw [oX_bad (by rw [h1]; decide), h1]
        refine (ropen_bad K N hK hN p q _ c _ d A B w hSA hSB bK bN bA bB (by omega) (by omega) (by omega) h3).mono ?_
        rintro e w' ⟨rfl, hb⟩
        exact .nil hb
end
end Sp
end Go.Proofs.Ythbmlpiplfbehaa
