/-
  Nonces: the code's and the document's.
-/
import Derived.Test.YthbmlpiplfbehaaAeTS
namespace Go.Proofs.Ythbmlpiplfbehaa
set_option linter.unusedSimpArgs false
set_option linter.unusedVariables false
open Go Go.RowKit

open Sp F M

theorem i64_or_nat (a b : Nat) (ha : a < 9223372036854775808) (hb : b < 9223372036854775808) : bits .or .i64 (a : Int) (b : Int) = ((a ||| b : Nat) : Int) := by
  have hx : a ||| b < 2 ^ 63 := Nat.or_lt_two_pow (by omega) (by omega)
  have e : ∀ n : Nat, n < 9223372036854775808 → (BitVec.ofInt 64 (n : Int)).toNat = n := fun n hn => by
    rw [BitVec.toNat_ofInt]
    omega
  show IntKind.i64.wrap ((BitVec.ofInt 64 (a : Int) ||| BitVec.ofInt 64 (b : Int)).toNat : Int) = _
  rw [BitVec.toNat_or, e a ha, e b hb, IntKind.wrap_i64]
  omega
def nnI' (v : Nat) : Nat → List Int
  | 0 => List.replicate 12 0
  | i + 1 => (nnI' v i).set (4 + i) (IntKind.u8.wrap ((v / 2 ^ (8 * i) : Nat) : Int))
@[irreducible] def nnI (v i : Nat) : List Int := nnI' v i
theorem nnI_0 (v : Nat) : nnI v 0 = List.replicate 12 0 := by unfold nnI; rfl
theorem nnI_s (v i : Nat) : nnI v (i + 1) = (nnI v i).set (4 + i) (IntKind.u8.wrap ((v / 2 ^ (8 * i) : Nat) : Int)) := by unfold nnI; rfl
theorem nnI_length (v : Nat) : ∀ i, (nnI v i).length = 12
  | 0 => by rw [nnI_0]; rfl
  | i + 1 => by rw [nnI_s, List.length_set, nnI_length v i]
attribute [simp] nnI_length
theorem nnI_gi (v k : Nat) : ∀ i, k < i → i ≤ 8 → gi (nnI v i) (4 + k) = IntKind.u8.wrap ((v / 2 ^ (8 * k) : Nat) : Int)
  | i + 1, h, hi => by
    rw [nnI_s]
    by_cases hk : k = i
    · subst hk; exact gi_same _ _ _ (by simp; omega)
    · rw [gi_upd _ _ _ _ (by omega)]; exact nnI_gi v k i (by omega) (by omega)
theorem sh8 (v k : Nat) : Int.fdiv ((v / 2 ^ (8 * k) : Nat) : Int) (2 ^ (min 8 IntKind.i64.bits)) = ((v / 2 ^ (8 * (k + 1)) : Nat) : Int) := by
  show Int.fdiv ((v / 2 ^ (8 * k) : Nat) : Int) 256 = _
  rw [Int.fdiv_eq_ediv_of_nonneg _ (by omega), show (256 : Int) = ((256 : Nat) : Int) from rfl, ← Int.natCast_ediv, Nat.div_div_eq_div_mul, show 2 ^ (8 * k) * 256 = 2 ^ (8 * (k + 1)) by rw [Nat.mul_add, Nat.pow_add]]
theorem up8 (v j : Nat) (hv : v ≤ 9007199254740991) (hj : j < 8) : bits .or .i64 (IntKind.i64.wrap (((v / 2 ^ (8 * (8 - j)) : Nat) : Int) * 2 ^ (min 8 IntKind.i64.bits))) (IntKind.i64.wrap (IntKind.u8.wrap ((v / 2 ^ (8 * (7 - j)) : Nat) : Int))) = ((v / 2 ^ (8 * (8 - (j + 1))) : Nat) : Int) := by
  have e1 : 8 - (j + 1) = 7 - j := by omega
  have e2 : v / 2 ^ (8 * (8 - j)) = v / 2 ^ (8 * (7 - j)) / 256 := by
    rw [Nat.div_div_eq_div_mul, show 2 ^ (8 * (7 - j)) * 256 = 2 ^ (8 * (8 - j)) by rw [show 8 * (8 - j) = 8 * (7 - j) + 8 by omega, Nat.pow_add]]
  rw [e1, e2]
  have hle : v / 2 ^ (8 * (7 - j)) ≤ v := Nat.div_le_self _ _
  generalize v / 2 ^ (8 * (7 - j)) = u at *
  show bits .or .i64 (IntKind.i64.wrap (((u / 256 : Nat) : Int) * 256)) _ = _
  rw [IntWalk.i64_in (((u / 256 : Nat) : Int) * 256) (by omega), IntKind.wrap_u8, show ((u : Int) % 256) = ((u % 256 : Nat) : Int) by omega, IntWalk.i64_in (((u % 256 : Nat)) : Int) (by omega), show ((u / 256 : Nat) : Int) * 256 = ((u / 256 * 2 ^ 8 : Nat) : Int) by omega, i64_or_nat _ _ (by omega) (by omega)]
  have h := Nat.shiftLeft_add_eq_or_of_lt (i := 8) (show u % 256 < 2 ^ 8 by omega) (u / 256)
  rw [Nat.shiftLeft_eq] at h
  rw [← h]
  omega

attribute [simp] nnI_length
set_option maxRecDepth 20000 in
theorem nonce_bad0 (v : Int) (h1 : v < 0) (w : World) : Calls Try.prog 25 #[.int .i64 v] w fun e w' => e = .returned (.tuple #[.agg (ints .u8 (List.replicate 12 0)), .int .i64 9]) ∧ Below w.heap.size w w' := by
  have tok_ob : True := trivial
  refine pure_of_SP Try.func25 rfl [.int .i64 v, undef, undef, undef, undef, undef, undef, undef, undef, undef, undef, undef, undef, undef, undef, undef, undef, undef, undef, undef, undef, undef, undef] (by simp only [Try.ntmps25, List.size_toArray, List.length_cons, List.length_nil, Nat.reduceAdd, Nat.reduceSub, Array.replicate_succ, Array.replicate_zero, List.push_toArray, List.append_toArray, List.nil_append, List.cons_append]) _ Try.results25 _ ?_
  repeat (first | ((with_reducible refine SP.region (id := 0) ?_); refine SL.al zero_44 ?_; (first | (have _t := tok_ob; clear _t tok_ob; intro ob) | intro _); refine SL.e tabOk ?_; (with_reducible refine SL.nil ?_)) | ((with_reducible refine SP.region (id := 1) ?_); refine SL.e tabOk ?_; (first | (refine SL.c true tabOk ?_) | (refine SL.c false tabOk ?_) | (refine SL.e tabOk ?_)); refine SL.e tabOk ?_; (first | (refine SL.gT ?_; refine SL.e tabOk ?_) | refine SL.gF ?_); (first | (refine SL.gT ?_; (first | (refine SL.c true tabOk ?_) | (refine SL.c false tabOk ?_) | (refine SL.e tabOk ?_))) | refine SL.gF ?_); refine SL.e tabOk ?_; (with_reducible refine SL.nil ?_)) | ((with_reducible refine SP.region (id := 2) ?_); refine SL.ldR tabOk ?_; refine SL.stR tabOk ?_; refine SL.e tabOk ?_; (with_reducible refine SL.nil ?_)) | ((with_reducible refine SP.seqK ?_); intro _ _) | (with_reducible refine thenK_normal ?_) | (refine useK (by assumption) ?_) | (with_reducible refine thenK_ret ?_) | (with_reducible refine SP.ret ?_) | ((with_reducible show SP _ _ _ (Code.cond _ _ _) _ _ _); first | (refine SP.condT rfl (by first | rfl | (simp only [decide_eq_true_eq, beq_iff_eq, bne_iff_ne]; first | done | omega)) ?_)))
  refine doneK.mk rfl (ResO.cellTmp tabOk rfl rfl rfl (by first | exact RdA.own g0 | exact RdA.own g1 | exact RdA.own g2 | exact RdA.own g3 | exact RdA.own g4 | exact RdA.own g5 | exact RdA.own g6 | exact RdA.own g7 | exact RdA.own g8 | exact RdA.own g9 | exact RdA.own g10 | exact RdA.own g11 | exact RdA.own g12 | exact RdA.own g13 | exact RdA.own g14 | exact RdA.own g15) (by first | (simp [ints_size]; done) | (simp [ints_size]; omega)) rfl) rfl

set_option maxRecDepth 20000 in
theorem nonce_bad1 (v : Int) (h1 : ¬ v < 0) (h2 : 9007199254740991 < v) (w : World) : Calls Try.prog 25 #[.int .i64 v] w fun e w' => e = .returned (.tuple #[.agg (ints .u8 (List.replicate 12 0)), .int .i64 9]) ∧ Below w.heap.size w w' := by
  have tok_ob : True := trivial
  refine pure_of_SP Try.func25 rfl [.int .i64 v, undef, undef, undef, undef, undef, undef, undef, undef, undef, undef, undef, undef, undef, undef, undef, undef, undef, undef, undef, undef, undef, undef] (by simp only [Try.ntmps25, List.size_toArray, List.length_cons, List.length_nil, Nat.reduceAdd, Nat.reduceSub, Array.replicate_succ, Array.replicate_zero, List.push_toArray, List.append_toArray, List.nil_append, List.cons_append]) _ Try.results25 _ ?_
  repeat (first | ((with_reducible refine SP.region (id := 0) ?_); refine SL.al zero_44 ?_; (first | (have _t := tok_ob; clear _t tok_ob; intro ob) | intro _); refine SL.e tabOk ?_; (with_reducible refine SL.nil ?_)) | ((with_reducible refine SP.region (id := 1) ?_); refine SL.e tabOk ?_; (first | (refine SL.c true tabOk ?_) | (refine SL.c false tabOk ?_) | (refine SL.e tabOk ?_)); refine SL.e tabOk ?_; (first | (refine SL.gT ?_; refine SL.e tabOk ?_) | refine SL.gF ?_); (first | (refine SL.gT ?_; (first | (refine SL.c true tabOk ?_) | (refine SL.c false tabOk ?_) | (refine SL.e tabOk ?_))) | refine SL.gF ?_); refine SL.e tabOk ?_; (with_reducible refine SL.nil ?_)) | ((with_reducible refine SP.region (id := 2) ?_); refine SL.ldR tabOk ?_; refine SL.stR tabOk ?_; refine SL.e tabOk ?_; (with_reducible refine SL.nil ?_)) | ((with_reducible refine SP.seqK ?_); intro _ _) | (with_reducible refine thenK_normal ?_) | (refine useK (by assumption) ?_) | (with_reducible refine thenK_ret ?_) | (with_reducible refine SP.ret ?_) | ((with_reducible show SP _ _ _ (Code.cond _ _ _) _ _ _); first | (refine SP.condT rfl (by first | rfl | (simp only [decide_eq_true_eq, beq_iff_eq, bne_iff_ne]; first | done | omega)) ?_)))
  refine doneK.mk rfl (ResO.cellTmp tabOk rfl rfl rfl (by first | exact RdA.own g0 | exact RdA.own g1 | exact RdA.own g2 | exact RdA.own g3 | exact RdA.own g4 | exact RdA.own g5 | exact RdA.own g6 | exact RdA.own g7 | exact RdA.own g8 | exact RdA.own g9 | exact RdA.own g10 | exact RdA.own g11 | exact RdA.own g12 | exact RdA.own g13 | exact RdA.own g14 | exact RdA.own g15) (by first | (simp [ints_size]; done) | (simp [ints_size]; omega)) rfl) rfl

set_option maxRecDepth 20000 in
set_option maxHeartbeats 1000000 in
theorem nonce_ok (v : Nat) (h1 : v ≤ 9007199254740991) (w : World) : Calls Try.prog 25 #[.int .i64 v] w fun e w' => e = .returned (.tuple #[.agg (ints .u8 (nnI v 8)), .int .i64 0]) ∧ Below w.heap.size w w' := by
  have tok_ob : True := trivial
  refine pure_of_SP Try.func25 rfl [.int .i64 ((v : Nat) : Int), undef, undef, undef, undef, undef, undef, undef, undef, undef, undef, undef, undef, undef, undef, undef, undef, undef, undef, undef, undef, undef, undef] (by simp only [Try.ntmps25, List.size_toArray, List.length_cons, List.length_nil, Nat.reduceAdd, Nat.reduceSub, Array.replicate_succ, Array.replicate_zero, List.push_toArray, List.append_toArray, List.nil_append, List.cons_append]) _ Try.results25 _ ?_
  repeat (first | ((with_reducible refine SP.region (id := 0) ?_); refine SL.al zero_44 ?_; (first | (have _t := tok_ob; clear _t tok_ob; intro ob) | intro _); refine SL.e tabOk ?_; (with_reducible refine SL.nil ?_)) | ((with_reducible refine SP.region (id := 1) ?_); refine SL.e tabOk ?_; (first | (refine SL.c true tabOk ?_) | (refine SL.c false tabOk ?_) | (refine SL.e tabOk ?_)); refine SL.e tabOk ?_; (first | (refine SL.gT ?_; refine SL.e tabOk ?_) | refine SL.gF ?_); (first | (refine SL.gT ?_; (first | (refine SL.c true tabOk ?_) | (refine SL.c false tabOk ?_) | (refine SL.e tabOk ?_))) | refine SL.gF ?_); refine SL.e tabOk ?_; (with_reducible refine SL.nil ?_)) | ((with_reducible refine SP.region (id := 3) ?_); refine SL.e tabOk ?_; (with_reducible refine SL.nil ?_)) | ((with_reducible refine SP.seqK ?_); intro _ _) | (with_reducible refine thenK_normal ?_) | (refine useK (by assumption) ?_) | (with_reducible refine SP.block ?_) | (with_reducible refine SP.skip ?_) | ((with_reducible show SP _ _ _ (Code.cond _ _ _) _ _ _); first | (refine SP.condF rfl (by first | rfl | (simp only [decide_eq_false_iff_not, beq_eq_false_iff_ne, bne_eq_false_iff_eq]; first | done | omega)) ?_)))
  refine SP.loopN (fun k l bs => l = [.int .i64 ((v / 2 ^ (8 * k) : Nat) : Int), nth l 1, .pointer (some ⟨ob, 0, none⟩), nth l 3, .int .i64 ((4 + k : Nat)), nth l 5, nth l 6, nth l 7, nth l 8, nth l 9, nth l 10, nth l 11, nth l 12, nth l 13, nth l 14, nth l 15, nth l 16, nth l 17, nth l 18, nth l 19, nth l 20, nth l 21, nth l 22] ∧ bs = [(ob, ints .u8 (nnI v k), 44)]) 8 ⟨by rw [Nat.mul_zero, Nat.pow_zero, Nat.div_one]; rfl, by rw [nnI_0]⟩ ?_
  rintro k lfk _ hkk ⟨hlk, rfl⟩
  refine SP.cast hlk ?_
  clear hlk
  by_cases hltk : k < 8
  · have hk1 : IntKind.i64.wrap (((4 + k : Nat) : Int) + 1) = ((4 + (k + 1) : Nat) : Int) := by rw [IntWalk.i64_in _ (by omega)]; omega
    have hs := sh8 v k
    repeat (first | ((with_reducible refine SP.region (id := 4) ?_); refine SL.e tabOk ?_; refine SL.e tabOk ?_; (with_reducible refine SL.nil ?_)) | ((with_reducible refine SP.region (id := 5) ?_); refine SL.e tabOk ?_; refine SL.e tabOk ?_; refine SL.e tabOk ?_; (with_reducible refine SL.nil ?_)) | ((with_reducible refine SP.region (id := 6) ?_); refine SL.e tabOk ?_; refine SL.e tabOk ?_; refine SL.e tabOk ?_; refine SL.ixA tabOk ?_; refine SL.stI tabOk ?_; (with_reducible refine SL.nil ?_)) | ((with_reducible refine SP.region (id := 7) ?_); refine SL.e tabOk ?_; refine SL.e tabOk ?_; refine SL.e tabOk ?_; (with_reducible refine SL.nil ?_)) | ((with_reducible refine SP.seqK ?_); intro _ _) | (with_reducible refine thenK_normal ?_) | (refine useK (by assumption) ?_) | (with_reducible refine SP.block ?_) | (with_reducible refine SP.skip ?_) | ((with_reducible show SP _ _ _ (Code.cond _ _ _) _ _ _); first | (refine SP.condT rfl (by first | rfl | (simp only [decide_eq_true_eq, beq_iff_eq, bne_iff_ne]; first | done | omega)) ?_)))
    simp only [hk1, hs]
    exact ⟨hltk, rfl, by rw [nnI_s]⟩
  · have hendk : k = 8 := by omega
    replace hendk := Lib.hid hendk
    repeat (first | ((with_reducible refine SP.region (id := 4) ?_); refine SL.e tabOk ?_; refine SL.e tabOk ?_; (with_reducible refine SL.nil ?_)) | ((with_reducible refine SP.seqK ?_); intro _ _) | (with_reducible refine thenK_normal ?_) | (refine useK (by assumption) ?_) | (with_reducible refine SP.exit ?_) | ((with_reducible show SP _ _ _ (Code.cond _ _ _) _ _ _); first | (refine SP.condF rfl (by first | rfl | (simp only [decide_eq_false_iff_not, beq_eq_false_iff_ne, bne_eq_false_iff_eq]; first | done | omega)) ?_)))
    have hq := hendk.out; clear hendk; subst hq
    repeat (first | ((with_reducible refine SP.region (id := 8) ?_); refine SL.ldR tabOk ?_; refine SL.stR tabOk ?_; refine SL.e tabOk ?_; (with_reducible refine SL.nil ?_)) | (with_reducible refine thenK_normal ?_) | (refine useK (by assumption) ?_) | (with_reducible refine SP.ret ?_))
    refine doneK.mk rfl (ResO.cellTmp tabOk rfl rfl rfl (by first | exact RdA.own g0 | exact RdA.own g1 | exact RdA.own g2 | exact RdA.own g3 | exact RdA.own g4 | exact RdA.own g5 | exact RdA.own g6 | exact RdA.own g7 | exact RdA.own g8 | exact RdA.own g9 | exact RdA.own g10 | exact RdA.own g11 | exact RdA.own g12 | exact RdA.own g13 | exact RdA.own g14 | exact RdA.own g15) (by first | (simp [ints_size]; done) | (simp [ints_size]; omega)) rfl) rfl

theorem nonce_bad (v : Int) (h : v < 0 ∨ 9007199254740991 < v) (w : World) : Calls Try.prog 25 #[.int .i64 v] w fun e w' => e = .returned (.tuple #[.agg (ints .u8 (List.replicate 12 0)), .int .i64 9]) ∧ Below w.heap.size w w' := by
  by_cases h1 : v < 0
  · exact nonce_bad0 v h1 w
  · exact nonce_bad1 v h1 (by omega) w

attribute [simp] nnI_length
set_option maxRecDepth 20000 in
theorem rnonce_bad0 (v : Int) (h1 : v < 0) (w : World) : Calls Try.prog 33 #[.int .i64 v] w fun e w' => e = .returned (.tuple #[.agg (ints .u8 (List.replicate 12 0)), .int .i64 9]) ∧ Below w.heap.size w w' := by
  have tok_ob : True := trivial
  have tok_nb : True := trivial
  refine pure_of_SP Try.func33 rfl [.int .i64 v, undef, undef, undef, undef, undef, undef, undef, undef, undef, undef, undef, undef, undef, undef, undef, undef, undef, undef, undef, undef, undef, undef, undef, undef, undef] (by simp only [Try.ntmps33, List.size_toArray, List.length_cons, List.length_nil, Nat.reduceAdd, Nat.reduceSub, Array.replicate_succ, Array.replicate_zero, List.push_toArray, List.append_toArray, List.nil_append, List.cons_append]) _ Try.results33 _ ?_
  repeat (first | ((with_reducible refine SP.region (id := 0) ?_); refine SL.al zero_44 ?_; (first | (have _t := tok_ob; clear _t tok_ob; intro ob) | (have _t := tok_nb; clear _t tok_nb; intro nb) | intro _); refine SL.e tabOk ?_; (with_reducible refine SL.nil ?_)) | ((with_reducible refine SP.region (id := 1) ?_); refine SL.al zero_44 ?_; (first | (have _t := tok_ob; clear _t tok_ob; intro ob) | (have _t := tok_nb; clear _t tok_nb; intro nb) | intro _); (with_reducible refine SL.nil ?_)) | ((with_reducible refine SP.region (id := 2) ?_); refine SL.e tabOk ?_; (first | (refine SL.c true tabOk ?_) | (refine SL.c false tabOk ?_) | (refine SL.e tabOk ?_)); refine SL.e tabOk ?_; (first | (refine SL.gT ?_; refine SL.e tabOk ?_) | refine SL.gF ?_); (first | (refine SL.gT ?_; (first | (refine SL.c true tabOk ?_) | (refine SL.c false tabOk ?_) | (refine SL.e tabOk ?_))) | refine SL.gF ?_); refine SL.e tabOk ?_; (with_reducible refine SL.nil ?_)) | ((with_reducible refine SP.region (id := 3) ?_); refine SL.ldR tabOk ?_; refine SL.stR tabOk ?_; refine SL.e tabOk ?_; (with_reducible refine SL.nil ?_)) | ((with_reducible refine SP.seqK ?_); intro _ _) | (with_reducible refine thenK_normal ?_) | (refine useK (by assumption) ?_) | (with_reducible refine thenK_ret ?_) | (with_reducible refine SP.ret ?_) | ((with_reducible show SP _ _ _ (Code.cond _ _ _) _ _ _); first | (refine SP.condT rfl (by first | rfl | (simp only [decide_eq_true_eq, beq_iff_eq, bne_iff_ne]; first | done | omega)) ?_)))
  refine doneK.mk rfl (ResO.cellTmp tabOk rfl rfl rfl (by first | exact RdA.own g0 | exact RdA.own g1 | exact RdA.own g2 | exact RdA.own g3 | exact RdA.own g4 | exact RdA.own g5 | exact RdA.own g6 | exact RdA.own g7 | exact RdA.own g8 | exact RdA.own g9 | exact RdA.own g10 | exact RdA.own g11 | exact RdA.own g12 | exact RdA.own g13 | exact RdA.own g14 | exact RdA.own g15) (by first | (simp [ints_size]; done) | (simp [ints_size]; omega)) rfl) rfl

set_option maxRecDepth 20000 in
theorem rnonce_bad1 (v : Int) (h1 : ¬ v < 0) (h2 : 9007199254740991 < v) (w : World) : Calls Try.prog 33 #[.int .i64 v] w fun e w' => e = .returned (.tuple #[.agg (ints .u8 (List.replicate 12 0)), .int .i64 9]) ∧ Below w.heap.size w w' := by
  have tok_ob : True := trivial
  have tok_nb : True := trivial
  refine pure_of_SP Try.func33 rfl [.int .i64 v, undef, undef, undef, undef, undef, undef, undef, undef, undef, undef, undef, undef, undef, undef, undef, undef, undef, undef, undef, undef, undef, undef, undef, undef, undef] (by simp only [Try.ntmps33, List.size_toArray, List.length_cons, List.length_nil, Nat.reduceAdd, Nat.reduceSub, Array.replicate_succ, Array.replicate_zero, List.push_toArray, List.append_toArray, List.nil_append, List.cons_append]) _ Try.results33 _ ?_
  repeat (first | ((with_reducible refine SP.region (id := 0) ?_); refine SL.al zero_44 ?_; (first | (have _t := tok_ob; clear _t tok_ob; intro ob) | (have _t := tok_nb; clear _t tok_nb; intro nb) | intro _); refine SL.e tabOk ?_; (with_reducible refine SL.nil ?_)) | ((with_reducible refine SP.region (id := 1) ?_); refine SL.al zero_44 ?_; (first | (have _t := tok_ob; clear _t tok_ob; intro ob) | (have _t := tok_nb; clear _t tok_nb; intro nb) | intro _); (with_reducible refine SL.nil ?_)) | ((with_reducible refine SP.region (id := 2) ?_); refine SL.e tabOk ?_; (first | (refine SL.c true tabOk ?_) | (refine SL.c false tabOk ?_) | (refine SL.e tabOk ?_)); refine SL.e tabOk ?_; (first | (refine SL.gT ?_; refine SL.e tabOk ?_) | refine SL.gF ?_); (first | (refine SL.gT ?_; (first | (refine SL.c true tabOk ?_) | (refine SL.c false tabOk ?_) | (refine SL.e tabOk ?_))) | refine SL.gF ?_); refine SL.e tabOk ?_; (with_reducible refine SL.nil ?_)) | ((with_reducible refine SP.region (id := 3) ?_); refine SL.ldR tabOk ?_; refine SL.stR tabOk ?_; refine SL.e tabOk ?_; (with_reducible refine SL.nil ?_)) | ((with_reducible refine SP.seqK ?_); intro _ _) | (with_reducible refine thenK_normal ?_) | (refine useK (by assumption) ?_) | (with_reducible refine thenK_ret ?_) | (with_reducible refine SP.ret ?_) | ((with_reducible show SP _ _ _ (Code.cond _ _ _) _ _ _); first | (refine SP.condT rfl (by first | rfl | (simp only [decide_eq_true_eq, beq_iff_eq, bne_iff_ne]; first | done | omega)) ?_)))
  refine doneK.mk rfl (ResO.cellTmp tabOk rfl rfl rfl (by first | exact RdA.own g0 | exact RdA.own g1 | exact RdA.own g2 | exact RdA.own g3 | exact RdA.own g4 | exact RdA.own g5 | exact RdA.own g6 | exact RdA.own g7 | exact RdA.own g8 | exact RdA.own g9 | exact RdA.own g10 | exact RdA.own g11 | exact RdA.own g12 | exact RdA.own g13 | exact RdA.own g14 | exact RdA.own g15) (by first | (simp [ints_size]; done) | (simp [ints_size]; omega)) rfl) rfl

theorem shk (v k : Nat) (hk : k < 8) : Int.fdiv ((v : Nat) : Int) (2 ^ (min (Int.toNat (IntKind.i64.wrap (8 * (k : Int)))) IntKind.i64.bits)) = ((v / 2 ^ (8 * k) : Nat) : Int) := by
  rw [IntWalk.i64_in _ (by omega), show (8 * (k : Int)) = ((8 * k : Nat) : Int) by omega, Int.toNat_natCast, show min (8 * k) IntKind.i64.bits = 8 * k by show min (8 * k) 64 = _; omega, Int.fdiv_eq_ediv_of_nonneg _ (Int.le_of_lt (Int.pow_pos (by decide))), show ((2 : Int) ^ (8 * k)) = ((2 ^ (8 * k) : Nat) : Int) by simp, ← Int.natCast_ediv]
set_option maxRecDepth 20000 in
set_option maxHeartbeats 1000000 in
theorem rnonce_ok (v : Nat) (h1 : v ≤ 9007199254740991) (w : World) : Calls Try.prog 33 #[.int .i64 v] w fun e w' => e = .returned (.tuple #[.agg (ints .u8 (nnI v 8)), .int .i64 0]) ∧ Below w.heap.size w w' := by
  have tok_ob : True := trivial
  have tok_nb : True := trivial
  refine pure_of_SP Try.func33 rfl [.int .i64 ((v : Nat) : Int), undef, undef, undef, undef, undef, undef, undef, undef, undef, undef, undef, undef, undef, undef, undef, undef, undef, undef, undef, undef, undef, undef, undef, undef, undef] (by simp only [Try.ntmps33, List.size_toArray, List.length_cons, List.length_nil, Nat.reduceAdd, Nat.reduceSub, Array.replicate_succ, Array.replicate_zero, List.push_toArray, List.append_toArray, List.nil_append, List.cons_append]) _ Try.results33 _ ?_
  repeat (first | ((with_reducible refine SP.region (id := 0) ?_); refine SL.al zero_44 ?_; (first | (have _t := tok_ob; clear _t tok_ob; intro ob) | (have _t := tok_nb; clear _t tok_nb; intro nb) | intro _); refine SL.e tabOk ?_; (with_reducible refine SL.nil ?_)) | ((with_reducible refine SP.region (id := 1) ?_); refine SL.al zero_44 ?_; (first | (have _t := tok_ob; clear _t tok_ob; intro ob) | (have _t := tok_nb; clear _t tok_nb; intro nb) | intro _); (with_reducible refine SL.nil ?_)) | ((with_reducible refine SP.region (id := 2) ?_); refine SL.e tabOk ?_; (first | (refine SL.c true tabOk ?_) | (refine SL.c false tabOk ?_) | (refine SL.e tabOk ?_)); refine SL.e tabOk ?_; (first | (refine SL.gT ?_; refine SL.e tabOk ?_) | refine SL.gF ?_); (first | (refine SL.gT ?_; (first | (refine SL.c true tabOk ?_) | (refine SL.c false tabOk ?_) | (refine SL.e tabOk ?_))) | refine SL.gF ?_); refine SL.e tabOk ?_; (with_reducible refine SL.nil ?_)) | ((with_reducible refine SP.region (id := 4) ?_); refine SL.e tabOk ?_; (with_reducible refine SL.nil ?_)) | ((with_reducible refine SP.seqK ?_); intro _ _) | (with_reducible refine thenK_normal ?_) | (refine useK (by assumption) ?_) | (with_reducible refine SP.block ?_) | (with_reducible refine SP.skip ?_) | ((with_reducible show SP _ _ _ (Code.cond _ _ _) _ _ _); first | (refine SP.condF rfl (by first | rfl | (simp only [decide_eq_false_iff_not, beq_eq_false_iff_ne, bne_eq_false_iff_eq]; first | done | omega)) ?_)))
  refine SP.loopN (fun k l bs => l = [.int .i64 ((v : Nat) : Int), nth l 1, .pointer (some ⟨ob, 0, none⟩), nth l 3, .pointer (some ⟨nb, 0, none⟩), .int .i64 ((k : Nat)), nth l 6, nth l 7, nth l 8, nth l 9, nth l 10, nth l 11, nth l 12, nth l 13, nth l 14, nth l 15, nth l 16, nth l 17, nth l 18, nth l 19, nth l 20, nth l 21, nth l 22, nth l 23, nth l 24, nth l 25] ∧ bs = [(nb, ints .u8 (nnI v k), 44), (ob, ints .u8 (List.replicate 12 0), 44)]) 8 ⟨rfl, by rw [nnI_0]⟩ ?_
  rintro k lfk _ hkk ⟨hlk, rfl⟩
  refine SP.cast hlk ?_
  clear hlk
  by_cases hltk : k < 8
  · have hk1 : IntKind.i64.wrap ((k : Int) + 1) = ((k + 1 : Nat) : Int) := by rw [IntWalk.i64_in _ (by omega)]; omega
    have f4 : IntKind.i64.wrap (4 + (k : Int)) = ((4 + k : Nat) : Int) := by rw [IntWalk.i64_in _ (by omega)]; omega
    have f8 : IntKind.i64.wrap (8 * (k : Int)) = ((8 * k : Nat) : Int) := by rw [IntWalk.i64_in _ (by omega)]; omega
    have hsh := shk v k hltk
    repeat (first | ((with_reducible refine SP.region (id := 5) ?_); refine SL.e tabOk ?_; refine SL.e tabOk ?_; (with_reducible refine SL.nil ?_)) | ((with_reducible refine SP.region (id := 6) ?_); refine SL.e tabOk ?_; refine SL.e tabOk ?_; refine SL.e tabOk ?_; (with_reducible refine SL.nil ?_)) | ((with_reducible refine SP.region (id := 7) ?_); refine SL.e tabOk ?_; refine SL.e tabOk ?_; refine SL.e tabOk ?_; refine SL.e tabOk ?_; refine SL.e tabOk ?_; refine SL.sh ?_; refine SL.e tabOk ?_; refine SL.ixA tabOk ?_ (hm := by first | (simp only [f4, Nat.zero_add, Nat.mul_one, Nat.one_mul, Int.toNat_natCast]; done) | (simp only [f4, Nat.zero_add, Nat.mul_one, Nat.one_mul, Int.toNat_natCast]; rfl) | rfl); refine SL.stI tabOk ?_; (with_reducible refine SL.nil ?_)) | ((with_reducible refine SP.seqK ?_); intro _ _) | (with_reducible refine thenK_normal ?_) | (refine useK (by assumption) ?_) | (with_reducible refine SP.block ?_) | (with_reducible refine SP.skip ?_) | ((with_reducible show SP _ _ _ (Code.cond _ _ _) _ _ _); first | (refine SP.condT rfl (by first | rfl | (simp only [decide_eq_true_eq, beq_iff_eq, bne_iff_ne]; first | done | omega)) ?_)))
    simp only [hk1]
    exact ⟨hltk, rfl, by rw [nnI_s, ← hsh]⟩
  · have hendk : k = 8 := by omega
    replace hendk := Lib.hid hendk
    repeat (first | ((with_reducible refine SP.region (id := 5) ?_); refine SL.e tabOk ?_; refine SL.e tabOk ?_; (with_reducible refine SL.nil ?_)) | ((with_reducible refine SP.seqK ?_); intro _ _) | (with_reducible refine thenK_normal ?_) | (refine useK (by assumption) ?_) | (with_reducible refine SP.exit ?_) | ((with_reducible show SP _ _ _ (Code.cond _ _ _) _ _ _); first | (refine SP.condF rfl (by first | rfl | (simp only [decide_eq_false_iff_not, beq_eq_false_iff_ne, bne_eq_false_iff_eq]; first | done | omega)) ?_)))
    have hq := hendk.out; clear hendk; subst hq
    repeat (first | ((with_reducible refine SP.region (id := 8) ?_); refine SL.ldR tabOk ?_; refine SL.stR tabOk ?_; refine SL.e tabOk ?_; (with_reducible refine SL.nil ?_)) | (with_reducible refine thenK_normal ?_) | (refine useK (by assumption) ?_) | (with_reducible refine SP.ret ?_))
    refine doneK.mk rfl (ResO.cellTmp tabOk rfl rfl rfl (by first | exact RdA.own g0 | exact RdA.own g1 | exact RdA.own g2 | exact RdA.own g3 | exact RdA.own g4 | exact RdA.own g5 | exact RdA.own g6 | exact RdA.own g7 | exact RdA.own g8 | exact RdA.own g9 | exact RdA.own g10 | exact RdA.own g11 | exact RdA.own g12 | exact RdA.own g13 | exact RdA.own g14 | exact RdA.own g15) (by first | (simp [ints_size]; done) | (simp [ints_size]; omega)) rfl) rfl
theorem rnonce_bad (v : Int) (h : v < 0 ∨ 9007199254740991 < v) (w : World) : Calls Try.prog 33 #[.int .i64 v] w fun e w' => e = .returned (.tuple #[.agg (ints .u8 (List.replicate 12 0)), .int .i64 9]) ∧ Below w.heap.size w w' := by
  by_cases h1 : v < 0
  · exact rnonce_bad0 v h1 w
  · exact rnonce_bad1 v h1 (by omega) w

end Go.Proofs.Ythbmlpiplfbehaa
