/-
  The document's r, product and least number: what the code computes.
-/
import Derived.Test.YthbmlpiplfbehaaPolyRa
namespace Go.Proofs.Ythbmlpiplfbehaa
set_option linter.unusedSimpArgs false
set_option linter.unusedVariables false
open Go Go.RowKit

namespace Sp
open F
def lsI' (h : List Int) : Nat → Int × List Int
  | 0 => (5, List.replicate 17 0)
  | i + 1 => (IntKind.i64.wrap ((IntKind.i64.wrap ((gi h i) + ((lsI' h i).1))).tdiv 256), ((lsI' h i).2).set i ((IntKind.i64.wrap ((gi h i) + ((lsI' h i).1))).tmod 256))
@[irreducible] def lsI (h : List Int) (i : Nat) : Int × List Int := lsI' h i
theorem lsI_0 (h : List Int) : lsI h 0 = (5, List.replicate 17 0) := by unfold lsI; rfl
theorem lsI_s (h : List Int) (i : Nat) : lsI h (i + 1) = (IntKind.i64.wrap ((IntKind.i64.wrap ((gi h i) + ((lsI h i).1))).tdiv 256), ((lsI h i).2).set i ((IntKind.i64.wrap ((gi h i) + ((lsI h i).1))).tmod 256)) := by unfold lsI; rfl
theorem lsI_length1 (h : List Int) : ∀ i, (lsI h i).2.length = (List.replicate 17 0).length
  | 0 => by simp [lsI_0]
  | i + 1 => by rw [lsI_s]; simp [lsI_length1 h i]
attribute [simp] lsI_length1
@[irreducible] def lsR (h : List Int) : List Int := if gi (lsI h 17).2 16 < 4 then h else (lsI h 17).2.set 16 (IntKind.i64.wrap (gi (lsI h 17).2 16 - 4))
theorem lsR_length (h : List Int) (hh : h.length = 17) : (lsR h).length = 17 := by unfold lsR; split <;> simp [hh]

set_option maxRecDepth 20000 in
set_option maxHeartbeats 1000000 in
theorem least_any (h : List Int) (hh : h.length = 17) (w : World) : Calls Try.prog 68 #[.agg (ints .i64 h)] w fun e w' => e = .returned (.agg (ints .i64 (lsR h))) ∧ Below w.heap.size w w' := by
  have tok_hb : True := trivial
  have tok_ob : True := trivial
  have tok_tb : True := trivial
  refine pureE Try.func68 Try.ntmps68 Try.results68 ?_
  repeat (first | ((with_reducible refine SP.region (id := 0) ?_); refine SL.bx ?_; (first | (have _t := tok_hb; clear _t tok_hb; intro hb) | (have _t := tok_ob; clear _t tok_ob; intro ob) | (have _t := tok_tb; clear _t tok_tb; intro tb) | intro _); refine SL.al zero_105 ?_; (first | (have _t := tok_hb; clear _t tok_hb; intro hb) | (have _t := tok_ob; clear _t tok_ob; intro ob) | (have _t := tok_tb; clear _t tok_tb; intro tb) | intro _); (with_reducible refine SL.nil ?_)) | ((with_reducible refine SP.region (id := 1) ?_); refine SL.al zero_105 ?_; (first | (have _t := tok_hb; clear _t tok_hb; intro hb) | (have _t := tok_ob; clear _t tok_ob; intro ob) | (have _t := tok_tb; clear _t tok_tb; intro tb) | intro _); (with_reducible refine SL.nil ?_)) | ((with_reducible refine SP.region (id := 2) ?_); refine SL.e tabOk ?_; (with_reducible refine SL.nil ?_)) | ((with_reducible refine SP.region (id := 3) ?_); refine SL.e tabOk ?_; (with_reducible refine SL.nil ?_)) | ((with_reducible refine SP.seqK ?_); intro _ _) | (with_reducible refine thenK_normal ?_) | (refine useK (by assumption) ?_) | (with_reducible refine SP.block ?_))
  refine SP.loopN (fun k l bs => l = [.agg (ints .i64 h), .pointer (some ⟨hb, 0, none⟩), .pointer (some ⟨ob, 0, none⟩), .pointer (some ⟨tb, 0, none⟩), .int .i64 ((lsI h k).1), .int .i64 (k : Nat), nth l 6, nth l 7, nth l 8, nth l 9, nth l 10, nth l 11, nth l 12, nth l 13, nth l 14, nth l 15, nth l 16, nth l 17, nth l 18, nth l 19, nth l 20, nth l 21, nth l 22, nth l 23, nth l 24, nth l 25, nth l 26, nth l 27, nth l 28, nth l 29, nth l 30] ∧ bs = [(tb, ints .i64 ((lsI h k).2), 105), (ob, ints .i64 (List.replicate 17 0), 105), (hb, ints .i64 h, 105)]) 17 ⟨(by first | rfl | (simp only [lsI_0]; done) | (simp only [lsI_0]; rfl) | (rw [lsI_0]; rfl)), (by first | rfl | (simp only [lsI_0]; done) | (simp only [lsI_0]; rfl) | (rw [lsI_0]; rfl))⟩ ?_
  rintro k lfk _ hkk ⟨hlk, rfl⟩
  refine SP.cast hlk ?_
  clear hlk
  by_cases hltk : k < 17
  · have hk1 : IntKind.i64.wrap ((k : Int) + 1) = ((k + 1 : Nat) : Int) := by rw [IntWalk.i64_in _ (by omega)]; omega
    repeat (first | ((with_reducible refine SP.region (id := 4) ?_); refine SL.e tabOk ?_; refine SL.e tabOk ?_; (with_reducible refine SL.nil ?_)) | ((with_reducible refine SP.seqK ?_); intro _ _) | (with_reducible refine thenK_normal ?_) | (refine useK (by assumption) ?_) | (with_reducible refine SP.block ?_) | (with_reducible refine SP.skip ?_) | ((with_reducible show SP _ _ _ (Code.cond _ _ _) _ _ _); first | (refine SP.condT rfl (by first | rfl | (simp only [decide_eq_true_eq, beq_iff_eq, bne_iff_ne]; omega)) ?_)))
    repeat (first | ((with_reducible refine SP.region (id := 6) ?_); refine SL.e tabOk ?_; refine SL.ixA tabOk ?_; refine SL.ldI tabOk ?_; refine SL.e tabOk ?_; refine SL.e tabOk ?_; refine SL.e tabOk ?_; (with_reducible refine SL.nil ?_)) | ((with_reducible refine SP.region (id := 7) ?_); refine SL.e tabOk ?_; refine SL.e tabOk ?_; refine SL.e tabOk ?_; refine SL.ixA tabOk ?_; refine SL.stI tabOk ?_; (with_reducible refine SL.nil ?_)) | ((with_reducible refine SP.region (id := 8) ?_); refine SL.e tabOk ?_; refine SL.e tabOk ?_; refine SL.e tabOk ?_; (with_reducible refine SL.nil ?_)) | ((with_reducible refine SP.seqK ?_); intro _ _) | (with_reducible refine thenK_normal ?_) | (refine useK (by assumption) ?_))
    repeat (first | ((with_reducible refine SP.region (id := 5) ?_); refine SL.e tabOk ?_; refine SL.e tabOk ?_; refine SL.e tabOk ?_; (with_reducible refine SL.nil ?_)) | (with_reducible refine thenK_normal ?_))
    simp only [hk1]
    exact ⟨hltk, (by first | rfl | (simp only [lsI_s]; done) | (simp only [lsI_s]; rfl) | (rw [lsI_s]; rfl)), (by first | rfl | (simp only [lsI_s]; done) | (simp only [lsI_s]; rfl) | (rw [lsI_s]; rfl))⟩
  · have hendk : k = 17 := by omega
    replace hendk := Lib.hid hendk
    repeat (first | ((with_reducible refine SP.region (id := 4) ?_); refine SL.e tabOk ?_; refine SL.e tabOk ?_; (with_reducible refine SL.nil ?_)) | ((with_reducible refine SP.seqK ?_); intro _ _) | (with_reducible refine thenK_normal ?_) | (refine useK (by assumption) ?_) | (with_reducible refine SP.exit ?_) | ((with_reducible show SP _ _ _ (Code.cond _ _ _) _ _ _); first | (refine SP.condF rfl (by first | rfl | (simp only [decide_eq_false_iff_not, beq_eq_false_iff_ne, bne_eq_false_iff_eq]; omega)) ?_)))
    have hq := hendk.out; clear hendk; subst hq
    by_cases hc : gi (lsI h 17).2 16 < 4
    · repeat (first | ((with_reducible refine SP.region (id := 9) ?_); refine SL.e tabOk ?_; refine SL.ldI tabOk ?_; refine SL.e tabOk ?_; (with_reducible refine SL.nil ?_)) | ((with_reducible refine SP.region (id := 10) ?_); refine SL.ldR tabOk ?_; refine SL.stR tabOk ?_; (with_reducible refine SL.nil ?_)) | ((with_reducible refine SP.seqK ?_); intro _ _) | (with_reducible refine thenK_normal ?_) | (refine useK (by assumption) ?_) | (with_reducible refine thenK_ret ?_) | (with_reducible refine SP.ret ?_) | ((with_reducible show SP _ _ _ (Code.cond _ _ _) _ _ _); first | (refine SP.condT rfl (by first | rfl | (simp only [decide_eq_true_eq, beq_iff_eq, bne_iff_ne]; omega)) ?_)))
      refine doneK.mk rfl (ResO.cell tabOk rfl rfl rfl (by first | exact RdA.own g0 | exact RdA.own g1 | exact RdA.own g2 | exact RdA.own g3 | exact RdA.own g4 | exact RdA.own g5 | exact RdA.own g6 | exact RdA.own g7 | exact RdA.own g8 | exact RdA.own g9 | exact RdA.own g10 | exact RdA.own g11 | exact RdA.own g12 | exact RdA.own g13 | exact RdA.own g14 | exact RdA.own g15) (by first | (simp [ints_size]; done) | (simp [ints_size]; omega))) (by unfold lsR; rw [if_pos hc])
    · repeat (first | ((with_reducible refine SP.region (id := 9) ?_); refine SL.e tabOk ?_; refine SL.ldI tabOk ?_; refine SL.e tabOk ?_; (with_reducible refine SL.nil ?_)) | ((with_reducible refine SP.region (id := 11) ?_); refine SL.e tabOk ?_; refine SL.ldI tabOk ?_; refine SL.e tabOk ?_; refine SL.e tabOk ?_; refine SL.stI tabOk ?_; (with_reducible refine SL.nil ?_)) | ((with_reducible refine SP.region (id := 12) ?_); refine SL.ldR tabOk ?_; refine SL.stR tabOk ?_; (with_reducible refine SL.nil ?_)) | ((with_reducible refine SP.seqK ?_); intro _ _) | (with_reducible refine thenK_normal ?_) | (refine useK (by assumption) ?_) | (with_reducible refine SP.skip ?_) | (with_reducible refine SP.ret ?_) | ((with_reducible show SP _ _ _ (Code.cond _ _ _) _ _ _); first | (refine SP.condF rfl (by first | rfl | (simp only [decide_eq_false_iff_not, beq_eq_false_iff_ne, bne_eq_false_iff_eq]; omega)) ?_)))
      refine doneK.mk rfl (ResO.cell tabOk rfl rfl rfl (by first | exact RdA.own g0 | exact RdA.own g1 | exact RdA.own g2 | exact RdA.own g3 | exact RdA.own g4 | exact RdA.own g5 | exact RdA.own g6 | exact RdA.own g7 | exact RdA.own g8 | exact RdA.own g9 | exact RdA.own g10 | exact RdA.own g11 | exact RdA.own g12 | exact RdA.own g13 | exact RdA.own g14 | exact RdA.own g15) (by first | (simp [ints_size]; done) | (simp [ints_size]; omega))) (by unfold lsR; rw [if_neg hc])

/-- One product, added at its place. -/
@[irreducible] def tmS (a b : List Int) (i k : Nat) (o : List Int) : List Int :=
  if i + k < 17 then o.set (i + k) (IntKind.i64.wrap (gi o (i + k) + IntKind.i64.wrap (gi a i * gi b k))) else o.set (i + k - 17) (IntKind.i64.wrap (gi o (i + k - 17) + IntKind.i64.wrap (IntKind.i64.wrap (320 * gi a i) * gi b k)))
theorem tmS_length (a b : List Int) (i k : Nat) (o : List Int) : (tmS a b i k o).length = o.length := by unfold tmS; split <;> simp
attribute [simp] tmS_length
def tmK' (a b o : List Int) (n : Nat) : Nat → List Int
  | 0 => o
  | i + 1 => tmS a b n i (tmK' a b o n i)
@[irreducible] def tmK (a b o : List Int) (n i : Nat) : List Int := tmK' a b o n i
theorem tmK_0 (a b o : List Int) (n : Nat) : tmK a b o n 0 = o := by unfold tmK; rfl
theorem tmK_s (a b o : List Int) (n i : Nat) : tmK a b o n (i + 1) = tmS a b n i (tmK a b o n i) := by unfold tmK; rfl
theorem tmK_length (a b o : List Int) (n : Nat) : ∀ i, (tmK a b o n i).length = o.length
  | 0 => by rw [tmK_0]
  | i + 1 => by rw [tmK_s]; simp [tmK_length a b o n i]
attribute [simp] tmK_length
def tmO' (a b : List Int) : Nat → List Int
  | 0 => List.replicate 17 0
  | i + 1 => tmK a b (tmO' a b i) i 17
@[irreducible] def tmO (a b : List Int) (i : Nat) : List Int := tmO' a b i
theorem tmO_0 (a b : List Int) : tmO a b 0 = List.replicate 17 0 := by unfold tmO; rfl
theorem tmO_s (a b : List Int) (i : Nat) : tmO a b (i + 1) = tmK a b (tmO a b i) i 17 := by unfold tmO; rfl
theorem tmO_length (a b : List Int) : ∀ i, (tmO a b i).length = 17
  | 0 => by simp [tmO_0]
  | i + 1 => by rw [tmO_s]; simp [tmO_length a b i]
attribute [simp] tmO_length
@[irreducible] def tmR (a b : List Int) : List Int := crN (tmO a b 17) 3
theorem tmR_length (a b : List Int) : (tmR a b).length = 17 := by unfold tmR; simp [crN_length]

set_option maxRecDepth 20000 in
set_option maxHeartbeats 1000000 in
theorem times_any (a b : List Int) (ha : a.length = 17) (hb : b.length = 17) (w : World) : Calls Try.prog 66 #[.agg (ints .i64 a), .agg (ints .i64 b)] w fun e w' => e = .returned (.agg (ints .i64 (tmR a b))) ∧ Below w.heap.size w w' := by
  have tok_ab : True := trivial
  have tok_bb : True := trivial
  have tok_ob : True := trivial
  have tok_pb : True := trivial
  refine pureE Try.func66 Try.ntmps66 Try.results66 ?_
  repeat (first | ((with_reducible refine SP.region (id := 0) ?_); refine SL.bx ?_; (first | (have _t := tok_ab; clear _t tok_ab; intro ab) | (have _t := tok_bb; clear _t tok_bb; intro bb) | (have _t := tok_ob; clear _t tok_ob; intro ob) | (have _t := tok_pb; clear _t tok_pb; intro pb) | intro _); refine SL.bx ?_; (first | (have _t := tok_ab; clear _t tok_ab; intro ab) | (have _t := tok_bb; clear _t tok_bb; intro bb) | (have _t := tok_ob; clear _t tok_ob; intro ob) | (have _t := tok_pb; clear _t tok_pb; intro pb) | intro _); refine SL.al zero_105 ?_; (first | (have _t := tok_ab; clear _t tok_ab; intro ab) | (have _t := tok_bb; clear _t tok_bb; intro bb) | (have _t := tok_ob; clear _t tok_ob; intro ob) | (have _t := tok_pb; clear _t tok_pb; intro pb) | intro _); (with_reducible refine SL.nil ?_)) | ((with_reducible refine SP.region (id := 1) ?_); refine SL.al zero_105 ?_; (first | (have _t := tok_ab; clear _t tok_ab; intro ab) | (have _t := tok_bb; clear _t tok_bb; intro bb) | (have _t := tok_ob; clear _t tok_ob; intro ob) | (have _t := tok_pb; clear _t tok_pb; intro pb) | intro _); (with_reducible refine SL.nil ?_)) | ((with_reducible refine SP.region (id := 2) ?_); refine SL.e tabOk ?_; (with_reducible refine SL.nil ?_)) | ((with_reducible refine SP.seqK ?_); intro _ _) | (with_reducible refine thenK_normal ?_) | (refine useK (by assumption) ?_) | (with_reducible refine SP.block ?_))
  refine SP.loopN (fun i l bs => l = [.agg (ints .i64 a), .agg (ints .i64 b), .pointer (some ⟨ab, 0, none⟩), .pointer (some ⟨bb, 0, none⟩), .pointer (some ⟨ob, 0, none⟩), .pointer (some ⟨pb, 0, none⟩), .int .i64 ((i : Nat)), nth l 7, nth l 8, nth l 9, nth l 10, nth l 11, nth l 12, nth l 13, nth l 14, nth l 15, nth l 16, nth l 17, nth l 18, nth l 19, nth l 20, nth l 21, nth l 22, nth l 23, nth l 24, nth l 25, nth l 26, nth l 27, nth l 28, nth l 29, nth l 30, nth l 31, nth l 32, nth l 33, nth l 34, nth l 35, nth l 36, nth l 37, nth l 38, nth l 39, nth l 40, nth l 41, nth l 42, nth l 43, nth l 44, nth l 45, nth l 46, nth l 47, nth l 48, nth l 49, nth l 50, nth l 51, nth l 52, nth l 53, nth l 54, nth l 55, nth l 56, nth l 57, nth l 58] ∧ bs = [(pb, ints .i64 (tmO a b i), 105), (ob, ints .i64 (List.replicate 17 0), 105), (bb, ints .i64 b, 105), (ab, ints .i64 a, 105)]) 17 ⟨(by first | rfl | (simp only [tmO_0]; done) | (simp only [tmO_0]; rfl) | (rw [tmO_0]; rfl)), (by first | rfl | (simp only [tmO_0]; done) | (simp only [tmO_0]; rfl) | (rw [tmO_0]; rfl))⟩ ?_
  rintro i lfi _ hki ⟨hli, rfl⟩
  refine SP.cast hli ?_
  clear hli
  by_cases hlti : i < 17
  · have hi1 : IntKind.i64.wrap ((i : Int) + 1) = ((i + 1 : Nat) : Int) := by rw [IntWalk.i64_in _ (by omega)]; omega
    repeat (first | ((with_reducible refine SP.region (id := 3) ?_); refine SL.e tabOk ?_; refine SL.e tabOk ?_; (with_reducible refine SL.nil ?_)) | ((with_reducible refine SP.region (id := 5) ?_); refine SL.e tabOk ?_; (with_reducible refine SL.nil ?_)) | ((with_reducible refine SP.seqK ?_); intro _ _) | (with_reducible refine thenK_normal ?_) | (refine useK (by assumption) ?_) | (with_reducible refine SP.block ?_) | (with_reducible refine SP.skip ?_) | ((with_reducible show SP _ _ _ (Code.cond _ _ _) _ _ _); first | (refine SP.condT rfl (by first | rfl | (simp only [decide_eq_true_eq, beq_iff_eq, bne_iff_ne]; omega)) ?_)))
    clear hi1
    refine SP.loopN (fun k l bs => l = [.agg (ints .i64 a), .agg (ints .i64 b), .pointer (some ⟨ab, 0, none⟩), .pointer (some ⟨bb, 0, none⟩), .pointer (some ⟨ob, 0, none⟩), .pointer (some ⟨pb, 0, none⟩), .int .i64 ((i : Nat)), .int .i64 ((k : Nat)), nth l 8, nth l 9, nth l 10, nth l 11, nth l 12, nth l 13, nth l 14, nth l 15, nth l 16, nth l 17, nth l 18, nth l 19, nth l 20, nth l 21, nth l 22, nth l 23, nth l 24, nth l 25, nth l 26, nth l 27, nth l 28, nth l 29, nth l 30, nth l 31, nth l 32, nth l 33, nth l 34, nth l 35, nth l 36, nth l 37, nth l 38, nth l 39, nth l 40, nth l 41, nth l 42, nth l 43, nth l 44, nth l 45, nth l 46, nth l 47, nth l 48, nth l 49, nth l 50, nth l 51, nth l 52, nth l 53, nth l 54, nth l 55, nth l 56, nth l 57, nth l 58] ∧ bs = [(pb, ints .i64 (tmK a b (tmO a b i) i k), 105), (ob, ints .i64 (List.replicate 17 0), 105), (bb, ints .i64 b, 105), (ab, ints .i64 a, 105)]) 17 ⟨(by first | rfl | (simp only [tmK_0]; done) | (simp only [tmK_0]; rfl) | (rw [tmK_0]; rfl)), (by first | rfl | (simp only [tmK_0]; done) | (simp only [tmK_0]; rfl) | (rw [tmK_0]; rfl))⟩ ?_
    rintro k lfk _ hkk ⟨hlk, rfl⟩
    refine SP.cast hlk ?_
    clear hlk
    by_cases hltk : k < 17
    · have hk1 : IntKind.i64.wrap ((k : Int) + 1) = ((k + 1 : Nat) : Int) := by rw [IntWalk.i64_in _ (by omega)]; omega
      have fik : IntKind.i64.wrap ((i : Int) + (k : Int)) = ((i + k : Nat) : Int) := by rw [IntWalk.i64_in _ (by omega)]; omega
      have hc17 : 17 ≤ i + k → IntKind.i64.wrap (((i + k : Nat) : Int) - 17) = ((i + k - 17 : Nat) : Int) := fun h => by rw [IntWalk.i64_in _ (by omega)]; omega
      by_cases hc : i + k < 17
      · repeat (first | ((with_reducible refine SP.region (id := 6) ?_); refine SL.e tabOk ?_; refine SL.e tabOk ?_; (with_reducible refine SL.nil ?_)) | ((with_reducible refine SP.region (id := 7) ?_); refine SL.e tabOk ?_; refine SL.e tabOk ?_; refine SL.e tabOk ?_; (with_reducible refine SL.nil ?_)) | ((with_reducible refine SP.region (id := 8) ?_); refine SL.e tabOk ?_; refine SL.e tabOk ?_; refine SL.e tabOk ?_; refine SL.e tabOk ?_; (with_reducible refine SL.nil ?_)) | ((with_reducible show SP _ _ _ (Code.region _ _ true) _ _ _); first | (refine SPa (id := 9) [17] [] ([]) [0, 1, 2, 3, 4, 5, 6, 7, 8, 9, 10, 11, 12, 13, 14, 15, 16, 17] follows ?_; refine SF.p tabOk ?_; refine SF.p tabOk ?_; refine SF.e tabOk ?_; refine SF.p tabOk ?_; refine SF.p tabOk ?_; refine SF.e tabOk ?_; refine SF.ixA tabOk ?_ (hm := by first | (simp only [fik, Nat.zero_add, Nat.mul_one, Nat.one_mul, Int.toNat_natCast]; done) | (simp only [fik, Nat.zero_add, Nat.mul_one, Nat.one_mul, Int.toNat_natCast]; rfl) | rfl); refine SF.ldI tabOk ?_; refine SF.p tabOk ?_; refine SF.ixA tabOk ?_ (hm := by first | (simp only [fik, Nat.zero_add, Nat.mul_one, Nat.one_mul, Int.toNat_natCast]; done) | (simp only [fik, Nat.zero_add, Nat.mul_one, Nat.one_mul, Int.toNat_natCast]; rfl) | rfl); refine SF.ldI tabOk ?_; refine SF.p tabOk ?_; refine SF.ixA tabOk ?_ (hm := by first | (simp only [fik, Nat.zero_add, Nat.mul_one, Nat.one_mul, Int.toNat_natCast]; done) | (simp only [fik, Nat.zero_add, Nat.mul_one, Nat.one_mul, Int.toNat_natCast]; rfl) | rfl); refine SF.ldI tabOk ?_; refine SF.e tabOk ?_; refine SF.e tabOk ?_; refine SF.ixA tabOk ?_ (hm := by first | (simp only [fik, Nat.zero_add, Nat.mul_one, Nat.one_mul, Int.toNat_natCast]; done) | (simp only [fik, Nat.zero_add, Nat.mul_one, Nat.one_mul, Int.toNat_natCast]; rfl) | rfl); refine SF.stI tabOk ?_; refine SF.done ?_)) | ((with_reducible refine SP.seqK ?_); intro _ _) | (with_reducible refine thenK_normal ?_) | (refine useK (by assumption) ?_) | (with_reducible refine SP.block ?_) | (with_reducible refine SP.skip ?_) | ((with_reducible show SP _ _ _ (Code.cond _ _ _) _ _ _); first | (refine SP.condT rfl (by first | rfl | (simp only [decide_eq_true_eq, beq_iff_eq, bne_iff_ne]; omega)) ?_)))
        simp only [hk1]
        exact ⟨hltk, rfl, (by rw [tmK_s]; unfold tmS; rw [if_pos hc])⟩
      have fik3 : IntKind.i64.wrap (IntKind.i64.wrap ((i : Int) + (k : Int)) - 17) = ((i + k - 17 : Nat) : Int) := by rw [fik]; exact hc17 (by omega)
      · repeat (first | ((with_reducible refine SP.region (id := 6) ?_); refine SL.e tabOk ?_; refine SL.e tabOk ?_; (with_reducible refine SL.nil ?_)) | ((with_reducible refine SP.region (id := 7) ?_); refine SL.e tabOk ?_; refine SL.e tabOk ?_; refine SL.e tabOk ?_; (with_reducible refine SL.nil ?_)) | ((with_reducible refine SP.region (id := 8) ?_); refine SL.e tabOk ?_; refine SL.e tabOk ?_; refine SL.e tabOk ?_; refine SL.e tabOk ?_; (with_reducible refine SL.nil ?_)) | ((with_reducible show SP _ _ _ (Code.region _ _ true) _ _ _); first | (refine SPa (id := 10) [20] [] ([]) [0, 1, 2, 3, 4, 5, 6, 7, 8, 9, 10, 11, 12, 13, 14, 15, 16, 17, 18, 19, 20] follows ?_; refine SF.p tabOk ?_; refine SF.p tabOk ?_; refine SF.e tabOk ?_; refine SF.e tabOk ?_; refine SF.p tabOk ?_; refine SF.p tabOk ?_; refine SF.e tabOk ?_; refine SF.e tabOk ?_; refine SF.ixA tabOk ?_ (hm := by first | (simp only [fik3, Nat.zero_add, Nat.mul_one, Nat.one_mul, Int.toNat_natCast]; done) | (simp only [fik3, Nat.zero_add, Nat.mul_one, Nat.one_mul, Int.toNat_natCast]; rfl) | rfl); refine SF.ldI tabOk ?_; refine SF.p tabOk ?_; refine SF.ixA tabOk ?_ (hm := by first | (simp only [fik3, Nat.zero_add, Nat.mul_one, Nat.one_mul, Int.toNat_natCast]; done) | (simp only [fik3, Nat.zero_add, Nat.mul_one, Nat.one_mul, Int.toNat_natCast]; rfl) | rfl); refine SF.ldI tabOk ?_; refine SF.e tabOk ?_; refine SF.p tabOk ?_; refine SF.ixA tabOk ?_ (hm := by first | (simp only [fik3, Nat.zero_add, Nat.mul_one, Nat.one_mul, Int.toNat_natCast]; done) | (simp only [fik3, Nat.zero_add, Nat.mul_one, Nat.one_mul, Int.toNat_natCast]; rfl) | rfl); refine SF.ldI tabOk ?_; refine SF.e tabOk ?_; refine SF.e tabOk ?_; refine SF.ixA tabOk ?_ (hm := by first | (simp only [fik3, Nat.zero_add, Nat.mul_one, Nat.one_mul, Int.toNat_natCast]; done) | (simp only [fik3, Nat.zero_add, Nat.mul_one, Nat.one_mul, Int.toNat_natCast]; rfl) | rfl); refine SF.stI tabOk ?_; refine SF.done ?_)) | ((with_reducible refine SP.seqK ?_); intro _ _) | (with_reducible refine thenK_normal ?_) | (refine useK (by assumption) ?_) | (with_reducible refine SP.block ?_) | (with_reducible refine SP.skip ?_) | ((with_reducible show SP _ _ _ (Code.cond _ _ _) _ _ _); first | (refine SP.condT rfl (by first | rfl | (simp only [decide_eq_true_eq, beq_iff_eq, bne_iff_ne]; omega)) ?_) | (refine SP.condF rfl (by first | rfl | (simp only [decide_eq_false_iff_not, beq_eq_false_iff_ne, bne_eq_false_iff_eq]; omega)) ?_)))
        simp only [hk1]
        exact ⟨hltk, rfl, (by rw [tmK_s]; unfold tmS; rw [if_neg hc])⟩
    · have hendk : k = 17 := by omega
      replace hendk := Lib.hid hendk
      repeat (first | ((with_reducible refine SP.region (id := 6) ?_); refine SL.e tabOk ?_; refine SL.e tabOk ?_; (with_reducible refine SL.nil ?_)) | ((with_reducible refine SP.seqK ?_); intro _ _) | (with_reducible refine thenK_normal ?_) | (refine useK (by assumption) ?_) | (with_reducible refine SP.exit ?_) | ((with_reducible show SP _ _ _ (Code.cond _ _ _) _ _ _); first | (refine SP.condF rfl (by first | rfl | (simp only [decide_eq_false_iff_not, beq_eq_false_iff_ne, bne_eq_false_iff_eq]; omega)) ?_)))
      have hq := hendk.out; clear hendk; subst hq
      have hi1 : IntKind.i64.wrap ((i : Int) + 1) = ((i + 1 : Nat) : Int) := by rw [IntWalk.i64_in _ (by omega)]; omega
      repeat (first | ((with_reducible refine SP.region (id := 4) ?_); refine SL.e tabOk ?_; refine SL.e tabOk ?_; refine SL.e tabOk ?_; (with_reducible refine SL.nil ?_)) | (with_reducible refine thenK_normal ?_))
      simp only [hi1]
      exact ⟨hlti, (by first | rfl | (simp only [tmO_s]; done) | (simp only [tmO_s]; rfl) | (rw [tmO_s]; rfl)), (by first | rfl | (simp only [tmO_s]; done) | (simp only [tmO_s]; rfl) | (rw [tmO_s]; rfl))⟩
  · have hendi : i = 17 := by omega
    replace hendi := Lib.hid hendi
    repeat (first | ((with_reducible refine SP.region (id := 3) ?_); refine SL.e tabOk ?_; refine SL.e tabOk ?_; (with_reducible refine SL.nil ?_)) | ((with_reducible refine SP.seqK ?_); intro _ _) | (with_reducible refine thenK_normal ?_) | (refine useK (by assumption) ?_) | (with_reducible refine SP.exit ?_) | ((with_reducible show SP _ _ _ (Code.cond _ _ _) _ _ _); first | (refine SP.condF rfl (by first | rfl | (simp only [decide_eq_false_iff_not, beq_eq_false_iff_ne, bne_eq_false_iff_eq]; omega)) ?_)))
    have hq := hendi.out; clear hendi; subst hq
    repeat (first | ((with_reducible refine SP.region (id := 11) ?_); refine SL.ldR tabOk ?_; refine SL.v (ValO.call ent_67 _ rfl _ (fun w _ => carry_any _ (by simp) w)) ?_; refine SL.stR tabOk ?_; (with_reducible refine SL.nil ?_)) | (with_reducible refine thenK_normal ?_) | (refine useK (by assumption) ?_) | (with_reducible refine SP.ret ?_))
    refine doneK.mk rfl (ResO.cell tabOk rfl rfl rfl (by first | exact RdA.own g0 | exact RdA.own g1 | exact RdA.own g2 | exact RdA.own g3 | exact RdA.own g4 | exact RdA.own g5 | exact RdA.own g6 | exact RdA.own g7 | exact RdA.own g8 | exact RdA.own g9 | exact RdA.own g10 | exact RdA.own g11 | exact RdA.own g12 | exact RdA.own g13 | exact RdA.own g14 | exact RdA.own g15) (by first | (simp [ints_size]; done) | (simp [ints_size]; omega))) (by unfold tmR; rfl)
@[irreducible] def rrS (K : List Int) (i : Nat) (o : List Int) : List Int :=
  let a := o.set i (IntKind.i64.wrap (gi K i))
  let b := if i % 4 = 3 then a.set i ((gi a i).tmod 16) else a
  if i = 4 ∨ i = 8 ∨ i = 12 then b.set i (IntKind.i64.wrap (gi b i - (gi b i).tmod 4)) else b
theorem rrS_length (K : List Int) (i : Nat) (o : List Int) : (rrS K i o).length = o.length := by unfold rrS; dsimp only; split <;> split <;> simp
attribute [simp] rrS_length
def rrI' (K : List Int) : Nat → List Int
  | 0 => List.replicate 17 0
  | i + 1 => rrS K i (rrI' K i)
@[irreducible] def rrI (K : List Int) (i : Nat) : List Int := rrI' K i
theorem rrI_0 (K : List Int) : rrI K 0 = List.replicate 17 0 := by unfold rrI; rfl
theorem rrI_s (K : List Int) (i : Nat) : rrI K (i + 1) = rrS K i (rrI K i) := by unfold rrI; rfl
theorem rrI_length (K : List Int) : ∀ i, (rrI K i).length = 17
  | 0 => by simp [rrI_0]
  | i + 1 => by rw [rrI_s]; simp [rrI_length K i]
attribute [simp] rrI_length
set_option maxRecDepth 20000 in
set_option maxHeartbeats 1000000 in
theorem rr_any (K : List Int) (hK : K.length = 32) (w : World) : Calls Try.prog 65 #[.agg (ints .u8 K)] w fun e w' => e = .returned (.agg (ints .i64 (rrI K 16))) ∧ Below w.heap.size w w' := by
  have tok_kb : True := trivial
  have tok_ob : True := trivial
  have tok_rb : True := trivial
  refine pureE Try.func65 Try.ntmps65 Try.results65 ?_
  repeat (first | ((with_reducible refine SP.region (id := 0) ?_); refine SL.bx ?_; (first | (have _t := tok_kb; clear _t tok_kb; intro kb) | (have _t := tok_ob; clear _t tok_ob; intro ob) | (have _t := tok_rb; clear _t tok_rb; intro rb) | intro _); refine SL.al zero_105 ?_; (first | (have _t := tok_kb; clear _t tok_kb; intro kb) | (have _t := tok_ob; clear _t tok_ob; intro ob) | (have _t := tok_rb; clear _t tok_rb; intro rb) | intro _); (with_reducible refine SL.nil ?_)) | ((with_reducible refine SP.region (id := 1) ?_); refine SL.al zero_105 ?_; (first | (have _t := tok_kb; clear _t tok_kb; intro kb) | (have _t := tok_ob; clear _t tok_ob; intro ob) | (have _t := tok_rb; clear _t tok_rb; intro rb) | intro _); (with_reducible refine SL.nil ?_)) | ((with_reducible refine SP.region (id := 2) ?_); refine SL.e tabOk ?_; (with_reducible refine SL.nil ?_)) | ((with_reducible refine SP.seqK ?_); intro _ _) | (with_reducible refine thenK_normal ?_) | (refine useK (by assumption) ?_) | (with_reducible refine SP.block ?_))
  refine SP.loopN (fun k l bs => l = [.agg (ints .u8 K), .pointer (some ⟨kb, 0, none⟩), .pointer (some ⟨ob, 0, none⟩), .pointer (some ⟨rb, 0, none⟩), .int .i64 ((k : Nat)), nth l 5, nth l 6, nth l 7, nth l 8, nth l 9, nth l 10, nth l 11, nth l 12, nth l 13, nth l 14, nth l 15, nth l 16, nth l 17, nth l 18, nth l 19, nth l 20, nth l 21, nth l 22, nth l 23, nth l 24, nth l 25, nth l 26, nth l 27, nth l 28, nth l 29, nth l 30, nth l 31, nth l 32, nth l 33, nth l 34, nth l 35, nth l 36, nth l 37, nth l 38, nth l 39, nth l 40, nth l 41, nth l 42, nth l 43, nth l 44] ∧ bs = [(rb, ints .i64 (rrI K k), 105), (ob, ints .i64 (List.replicate 17 0), 105), (kb, ints .u8 K, 23)]) 16 ⟨(by first | rfl | (simp only [rrI_0]; done) | (simp only [rrI_0]; rfl) | (rw [rrI_0]; rfl)), (by first | rfl | (simp only [rrI_0]; done) | (simp only [rrI_0]; rfl) | (rw [rrI_0]; rfl))⟩ ?_
  rintro k lfk _ hkk ⟨hlk, rfl⟩
  refine SP.cast hlk ?_
  clear hlk
  by_cases hltk : k < 16
  · have hk1 : IntKind.i64.wrap ((k : Int) + 1) = ((k + 1 : Nat) : Int) := by rw [IntWalk.i64_in _ (by omega)]; omega
    have hs := rrI_s K k
    have hl := rrI_length K k
    generalize rrI K k = ra at *
    generalize rrI K (k + 1) = rn at *
    rcases (by omega : k = 0 ∨ k = 1 ∨ k = 2 ∨ k = 3 ∨ k = 4 ∨ k = 5 ∨ k = 6 ∨ k = 7 ∨ k = 8 ∨ k = 9 ∨ k = 10 ∨ k = 11 ∨ k = 12 ∨ k = 13 ∨ k = 14 ∨ k = 15) with rfl | rfl | rfl | rfl | rfl | rfl | rfl | rfl | rfl | rfl | rfl | rfl | rfl | rfl | rfl | rfl
    all_goals
      repeat (first | ((with_reducible refine SP.region (id := 3) ?_); refine SL.e tabOk ?_; refine SL.e tabOk ?_; (with_reducible refine SL.nil ?_)) | ((with_reducible refine SP.region (id := 4) ?_); refine SL.e tabOk ?_; refine SL.e tabOk ?_; refine SL.e tabOk ?_; (with_reducible refine SL.nil ?_)) | ((with_reducible refine SP.region (id := 5) ?_); refine SL.e tabOk ?_; refine SL.e tabOk ?_; refine SL.ixA tabOk ?_; refine SL.ldI tabOk ?_; refine SL.e tabOk ?_; refine SL.ixA tabOk ?_; refine SL.stI tabOk ?_; (with_reducible refine SL.nil ?_)) | ((with_reducible refine SP.region (id := 6) ?_); refine SL.e tabOk ?_; refine SL.e tabOk ?_; refine SL.e tabOk ?_; (with_reducible refine SL.nil ?_)) | ((with_reducible refine SP.region (id := 7) ?_); refine SL.e tabOk ?_; refine SL.e tabOk ?_; refine SL.ixA tabOk ?_; refine SL.ldI tabOk ?_; refine SL.e tabOk ?_; refine SL.ixA tabOk ?_; refine SL.stI tabOk ?_; (with_reducible refine SL.nil ?_)) | ((with_reducible refine SP.region (id := 8) ?_); refine SL.e tabOk ?_; (first | (refine SL.c true tabOk ?_) | (refine SL.c false tabOk ?_) | (refine SL.e tabOk ?_)); refine SL.e tabOk ?_; (first | (refine SL.gT ?_; refine SL.e tabOk ?_) | refine SL.gF ?_); (first | (refine SL.gT ?_; (first | (refine SL.c true tabOk ?_) | (refine SL.c false tabOk ?_) | (refine SL.e tabOk ?_))) | refine SL.gF ?_); refine SL.e tabOk ?_; refine SL.e tabOk ?_; (first | (refine SL.gT ?_; refine SL.e tabOk ?_) | refine SL.gF ?_); (first | (refine SL.gT ?_; (first | (refine SL.c true tabOk ?_) | (refine SL.c false tabOk ?_) | (refine SL.e tabOk ?_))) | refine SL.gF ?_); refine SL.e tabOk ?_; (with_reducible refine SL.nil ?_)) | ((with_reducible show SP _ _ _ (Code.region _ _ true) _ _ _); first | (refine SPa (id := 9) [10] [] ([]) [0, 1, 2, 3, 4, 5, 6, 7, 8, 9, 10] follows ?_; refine SF.p tabOk ?_; refine SF.p tabOk ?_; refine SF.ixA tabOk ?_; refine SF.ldI tabOk ?_; refine SF.p tabOk ?_; refine SF.ixA tabOk ?_; refine SF.ldI tabOk ?_; refine SF.e tabOk ?_; refine SF.e tabOk ?_; refine SF.ixA tabOk ?_; refine SF.stI tabOk ?_; refine SF.done ?_)) | ((with_reducible refine SP.seqK ?_); intro _ _) | (with_reducible refine thenK_normal ?_) | (refine useK (by assumption) ?_) | (with_reducible refine SP.block ?_) | (with_reducible refine SP.skip ?_) | ((with_reducible show SP _ _ _ (Code.cond _ _ _) _ _ _); first | (refine SP.condT rfl (by first | rfl | (simp only [decide_eq_true_eq, beq_iff_eq, bne_iff_ne]; omega)) ?_) | (refine SP.condF rfl (by first | rfl | (simp only [decide_eq_false_iff_not, beq_eq_false_iff_ne, bne_eq_false_iff_eq]; omega)) ?_)))
      simp only [hk1]
      exact ⟨hltk, rfl, (by rw [hs]; unfold rrS; rfl)⟩
  · have hendk : k = 16 := by omega
    replace hendk := Lib.hid hendk
    repeat (first | ((with_reducible refine SP.region (id := 3) ?_); refine SL.e tabOk ?_; refine SL.e tabOk ?_; (with_reducible refine SL.nil ?_)) | ((with_reducible refine SP.seqK ?_); intro _ _) | (with_reducible refine thenK_normal ?_) | (refine useK (by assumption) ?_) | (with_reducible refine SP.exit ?_) | ((with_reducible show SP _ _ _ (Code.cond _ _ _) _ _ _); first | (refine SP.condF rfl (by first | rfl | (simp only [decide_eq_false_iff_not, beq_eq_false_iff_ne, bne_eq_false_iff_eq]; omega)) ?_)))
    have hq := hendk.out; clear hendk; subst hq
    repeat (first | ((with_reducible refine SP.region (id := 10) ?_); refine SL.ldR tabOk ?_; refine SL.stR tabOk ?_; (with_reducible refine SL.nil ?_)) | (with_reducible refine thenK_normal ?_) | (refine useK (by assumption) ?_) | (with_reducible refine SP.ret ?_))
    refine doneK.mk rfl (ResO.cell tabOk rfl rfl rfl (by first | exact RdA.own g0 | exact RdA.own g1 | exact RdA.own g2 | exact RdA.own g3 | exact RdA.own g4 | exact RdA.own g5 | exact RdA.own g6 | exact RdA.own g7 | exact RdA.own g8 | exact RdA.own g9 | exact RdA.own g10 | exact RdA.own g11 | exact RdA.own g12 | exact RdA.own g13 | exact RdA.own g14 | exact RdA.own g15) (by first | (simp [ints_size]; done) | (simp [ints_size]; omega))) rfl
end Sp
end Go.Proofs.Ythbmlpiplfbehaa
