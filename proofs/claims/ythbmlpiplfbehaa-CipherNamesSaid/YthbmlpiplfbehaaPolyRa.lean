/-
  The document's tag: carries, products, the least number: what the code computes.
-/
import Derived.Test.YthbmlpiplfbehaaTab
import Derived.KernelRfl
import Derived.Lib.Hide
namespace Go.Proofs.Ythbmlpiplfbehaa
set_option linter.unusedSimpArgs false
set_option linter.unusedVariables false
open Go Go.RowKit

namespace Sp
open F
def crI' (h : List Int) : Nat → Int × List Int
  | 0 => (0, h)
  | i + 1 => (IntKind.i64.wrap ((IntKind.i64.wrap (gi (crI' h i).2 i + (crI' h i).1)).tdiv 256), (crI' h i).2.set i ((IntKind.i64.wrap (gi (crI' h i).2 i + (crI' h i).1)).tmod 256))
@[irreducible] def crI (h : List Int) (i : Nat) : Int × List Int := crI' h i
theorem crI_0 (h : List Int) : crI h 0 = (0, h) := by unfold crI; rfl
theorem crI_s (h : List Int) (i : Nat) : crI h (i + 1) = (IntKind.i64.wrap ((IntKind.i64.wrap (gi (crI h i).2 i + (crI h i).1)).tdiv 256), (crI h i).2.set i ((IntKind.i64.wrap (gi (crI h i).2 i + (crI h i).1)).tmod 256)) := by unfold crI; rfl

theorem crI_length (h : List Int) : ∀ i, (crI h i).2.length = h.length
  | 0 => by rw [crI_0]
  | i + 1 => by simp [crI_s, crI_length h i]
@[irreducible] def crR (h : List Int) : List Int :=
  ((crI h 17).2.set 16 ((gi (crI h 17).2 16).tmod 4)).set 0 (IntKind.i64.wrap (gi ((crI h 17).2.set 16 ((gi (crI h 17).2 16).tmod 4)) 0 + IntKind.i64.wrap (5 * IntKind.i64.wrap (IntKind.i64.wrap ((crI h 17).1 * 64) + IntKind.i64.wrap ((gi (crI h 17).2 16).tdiv 4)))))
theorem crR_length (h : List Int) : (crR h).length = h.length := by simp [crR, crI_length]
def crN' (h : List Int) : Nat → List Int
  | 0 => h
  | i + 1 => crR (crN' h i)
@[irreducible] def crN (h : List Int) (i : Nat) : List Int := crN' h i
theorem crN_0 (h : List Int) : crN h 0 = h := by unfold crN; rfl
theorem crN_s (h : List Int) (i : Nat) : crN h (i + 1) = crR (crN h i) := by unfold crN; rfl
theorem crN_length (h : List Int) : ∀ k, (crN h k).length = h.length
  | 0 => by rw [crN_0]
  | k + 1 => by simp [crN_s, crR_length, crN_length h k]
attribute [simp] crI_length crN_length crR_length
set_option maxRecDepth 20000 in
set_option maxHeartbeats 1000000 in
theorem carry_any (h : List Int) (hh : h.length = 17) (w : World) : Calls Try.prog 67 #[.agg (ints .i64 h)] w fun e w' => e = .returned (.agg (ints .i64 (crN h 3))) ∧ Below w.heap.size w w' := by
  refine pureE Try.func67 Try.ntmps67 Try.results67 ?_
  have tok_b1 : True := trivial
  have tok_b2 : True := trivial
  repeat (first | ((with_reducible refine SP.region (id := 0) ?_); refine SL.bx ?_; (first | (have _t := tok_b1; clear _t tok_b1; intro b1) | (have _t := tok_b2; clear _t tok_b2; intro b2) | intro _); refine SL.al zero_105 ?_; (first | (have _t := tok_b1; clear _t tok_b1; intro b1) | (have _t := tok_b2; clear _t tok_b2; intro b2) | intro _); (with_reducible refine SL.nil ?_)) | ((with_reducible refine SP.region (id := 1) ?_); refine SL.e tabOk ?_; (with_reducible refine SL.nil ?_)) | ((with_reducible refine SP.seqK ?_); intro _ _) | (with_reducible refine thenK_normal ?_) | (refine useK (by assumption) ?_) | (with_reducible refine SP.block ?_))
  refine SP.loopN (fun k l bs => l = [nth l 0, .pointer (some ⟨b1, 0, none⟩), .pointer (some ⟨b2, 0, none⟩), .int .i64 ((k : Nat)), nth l 4, nth l 5, nth l 6, nth l 7, nth l 8, nth l 9, nth l 10, nth l 11, nth l 12, nth l 13, nth l 14, nth l 15, nth l 16, nth l 17, nth l 18, nth l 19, nth l 20, nth l 21, nth l 22, nth l 23, nth l 24, nth l 25, nth l 26, nth l 27, nth l 28, nth l 29, nth l 30, nth l 31, nth l 32, nth l 33, nth l 34, nth l 35, nth l 36, nth l 37, nth l 38, nth l 39, nth l 40, nth l 41, nth l 42, nth l 43] ∧ bs = [(b2, ints .i64 (List.replicate 17 0), 105), (b1, ints .i64 (crN h k), 105)]) 3 ⟨(by first | rfl | (simp only [crN_0]; done) | (simp only [crN_0]; rfl) | (rw [crN_0]; rfl)), (by first | rfl | (simp only [crN_0]; done) | (simp only [crN_0]; rfl) | (rw [crN_0]; rfl))⟩ ?_
  rintro k lfk _ hkk ⟨hlk, rfl⟩
  refine SP.cast hlk ?_
  clear hlk
  by_cases hltk : k < 3
  · have hk1 : IntKind.i64.wrap ((k : Int) + 1) = ((k + 1 : Nat) : Int) := by rw [IntWalk.i64_in _ (by omega)]; omega
    repeat (first | ((with_reducible refine SP.region (id := 2) ?_); refine SL.e tabOk ?_; refine SL.e tabOk ?_; (with_reducible refine SL.nil ?_)) | ((with_reducible refine SP.region (id := 4) ?_); refine SL.e tabOk ?_; (with_reducible refine SL.nil ?_)) | ((with_reducible refine SP.region (id := 5) ?_); refine SL.e tabOk ?_; (with_reducible refine SL.nil ?_)) | ((with_reducible refine SP.seqK ?_); intro _ _) | (with_reducible refine thenK_normal ?_) | (refine useK (by assumption) ?_) | (with_reducible refine SP.block ?_) | (with_reducible refine SP.skip ?_) | ((with_reducible show SP _ _ _ (Code.cond _ _ _) _ _ _); first | (refine SP.condT rfl (by first | rfl | (simp only [decide_eq_true_eq, beq_iff_eq, bne_iff_ne]; omega)) ?_)))
    clear hk1
    refine SP.loopN (fun i l bs => l = [nth l 0, .pointer (some ⟨b1, 0, none⟩), .pointer (some ⟨b2, 0, none⟩), .int .i64 ((k : Nat)), .int .i64 (crI (crN h k) i).1, .int .i64 ((i : Nat)), nth l 6, nth l 7, nth l 8, nth l 9, nth l 10, nth l 11, nth l 12, nth l 13, nth l 14, nth l 15, nth l 16, nth l 17, nth l 18, nth l 19, nth l 20, nth l 21, nth l 22, nth l 23, nth l 24, nth l 25, nth l 26, nth l 27, nth l 28, nth l 29, nth l 30, nth l 31, nth l 32, nth l 33, nth l 34, nth l 35, nth l 36, nth l 37, nth l 38, nth l 39, nth l 40, nth l 41, nth l 42, nth l 43] ∧ bs = [(b2, ints .i64 (List.replicate 17 0), 105), (b1, ints .i64 (crI (crN h k) i).2, 105)]) 17 ⟨(by first | rfl | (simp only [crI_0]; done) | (simp only [crI_0]; rfl) | (rw [crI_0]; rfl)), (by first | rfl | (simp only [crI_0]; done) | (simp only [crI_0]; rfl) | (rw [crI_0]; rfl))⟩ ?_
    rintro i lfi _ hki ⟨hli, rfl⟩
    refine SP.cast hli ?_
    clear hli
    by_cases hlti : i < 17
    · have hi1 : IntKind.i64.wrap ((i : Int) + 1) = ((i + 1 : Nat) : Int) := by rw [IntWalk.i64_in _ (by omega)]; omega
      repeat (first | ((with_reducible refine SP.region (id := 6) ?_); refine SL.e tabOk ?_; refine SL.e tabOk ?_; (with_reducible refine SL.nil ?_)) | ((with_reducible refine SP.region (id := 7) ?_); refine SL.e tabOk ?_; refine SL.e tabOk ?_; refine SL.e tabOk ?_; (with_reducible refine SL.nil ?_)) | ((with_reducible refine SP.region (id := 8) ?_); refine SL.e tabOk ?_; refine SL.ixA tabOk ?_; refine SL.ldI tabOk ?_; refine SL.e tabOk ?_; refine SL.e tabOk ?_; refine SL.e tabOk ?_; (with_reducible refine SL.nil ?_)) | ((with_reducible refine SP.region (id := 9) ?_); refine SL.e tabOk ?_; refine SL.e tabOk ?_; refine SL.e tabOk ?_; refine SL.ixA tabOk ?_; refine SL.stI tabOk ?_; (with_reducible refine SL.nil ?_)) | ((with_reducible refine SP.region (id := 10) ?_); refine SL.e tabOk ?_; refine SL.e tabOk ?_; refine SL.e tabOk ?_; (with_reducible refine SL.nil ?_)) | ((with_reducible refine SP.seqK ?_); intro _ _) | (with_reducible refine thenK_normal ?_) | (refine useK (by assumption) ?_) | (with_reducible refine SP.block ?_) | (with_reducible refine SP.skip ?_) | ((with_reducible show SP _ _ _ (Code.cond _ _ _) _ _ _); first | (refine SP.condT rfl (by first | rfl | (simp only [decide_eq_true_eq, beq_iff_eq, bne_iff_ne]; omega)) ?_)))
      simp only [hi1]
      exact ⟨hlti, (by first | rfl | (simp only [crI_s]; done) | (simp only [crI_s]; rfl) | (rw [crI_s]; rfl)), (by first | rfl | (simp only [crI_s]; done) | (simp only [crI_s]; rfl) | (rw [crI_s]; rfl))⟩
    · have hendi : i = 17 := by omega
      replace hendi := Lib.hid hendi
      repeat (first | ((with_reducible refine SP.region (id := 3) ?_); refine SL.e tabOk ?_; refine SL.e tabOk ?_; refine SL.e tabOk ?_; (with_reducible refine SL.nil ?_)) | ((with_reducible refine SP.region (id := 6) ?_); refine SL.e tabOk ?_; refine SL.e tabOk ?_; (with_reducible refine SL.nil ?_)) | ((with_reducible refine SP.region (id := 11) ?_); refine SL.e tabOk ?_; refine SL.e tabOk ?_; refine SL.e tabOk ?_; refine SL.ldI tabOk ?_; refine SL.e tabOk ?_; refine SL.e tabOk ?_; refine SL.e tabOk ?_; (with_reducible refine SL.nil ?_)) | ((with_reducible refine SP.region (id := 12) ?_); refine SL.e tabOk ?_; refine SL.ldI tabOk ?_; refine SL.e tabOk ?_; refine SL.e tabOk ?_; refine SL.stI tabOk ?_; (with_reducible refine SL.nil ?_)) | ((with_reducible refine SP.region (id := 13) ?_); refine SL.e tabOk ?_; refine SL.ldI tabOk ?_; refine SL.e tabOk ?_; refine SL.e tabOk ?_; refine SL.e tabOk ?_; refine SL.e tabOk ?_; refine SL.stI tabOk ?_; (with_reducible refine SL.nil ?_)) | ((with_reducible refine SP.seqK ?_); intro _ _) | (with_reducible refine thenK_normal ?_) | (refine useK (by assumption) ?_) | (with_reducible refine SP.exit ?_) | ((with_reducible show SP _ _ _ (Code.cond _ _ _) _ _ _); first | (refine SP.condF rfl (by first | rfl | (simp only [decide_eq_false_iff_not, beq_eq_false_iff_ne, bne_eq_false_iff_eq]; omega)) ?_)))
      have hq := hendi.out; clear hendi; subst hq
      have hk1 : IntKind.i64.wrap ((k : Int) + 1) = ((k + 1 : Nat) : Int) := by rw [IntWalk.i64_in _ (by omega)]; omega
      simp only [hk1]
      exact ⟨hltk, (by first | rfl | (simp only [crN_s, crR]; done) | (simp only [crN_s, crR]; rfl) | (rw [crN_s, crR]; rfl)), (by first | rfl | (simp only [crN_s, crR]; done) | (simp only [crN_s, crR]; rfl) | (rw [crN_s, crR]; rfl))⟩
  · have hendk : k = 3 := by omega
    replace hendk := Lib.hid hendk
    repeat (first | ((with_reducible refine SP.region (id := 2) ?_); refine SL.e tabOk ?_; refine SL.e tabOk ?_; (with_reducible refine SL.nil ?_)) | ((with_reducible refine SP.region (id := 14) ?_); refine SL.ldR tabOk ?_; refine SL.stR tabOk ?_; (with_reducible refine SL.nil ?_)) | ((with_reducible refine SP.seqK ?_); intro _ _) | (with_reducible refine thenK_normal ?_) | (refine useK (by assumption) ?_) | (with_reducible refine SP.ret ?_) | (with_reducible refine SP.exit ?_) | ((with_reducible show SP _ _ _ (Code.cond _ _ _) _ _ _); first | (refine SP.condF rfl (by first | rfl | (simp only [decide_eq_false_iff_not, beq_eq_false_iff_ne, bne_eq_false_iff_eq]; omega)) ?_)))
    have hq := hendk.out; clear hendk; subst hq
    refine doneK.mk rfl (ResO.cell tabOk rfl rfl rfl (by first | exact RdA.own g0 | exact RdA.own g1 | exact RdA.own g2 | exact RdA.own g3 | exact RdA.own g4 | exact RdA.own g5 | exact RdA.own g6 | exact RdA.own g7 | exact RdA.own g8 | exact RdA.own g9 | exact RdA.own g10 | exact RdA.own g11 | exact RdA.own g12 | exact RdA.own g13 | exact RdA.own g14 | exact RdA.own g15) (by first | (simp [ints_size, crI_length, crN_length, crR_length, hh]; done) | (simp [ints_size, crI_length, crN_length, crR_length, hh]; omega))) rfl
end Sp

end Go.Proofs.Ythbmlpiplfbehaa
