/-
  The document's tag: what the code computes.
-/
import Derived.Test.YthbmlpiplfbehaaPolyRb
import Derived.Test.YthbmlpiplfbehaaSl
namespace Go.Proofs.Ythbmlpiplfbehaa
set_option linter.unusedSimpArgs false
set_option linter.unusedVariables false
open Go Go.RowKit

namespace Sp
open F
attribute [simp] tmR_length
def taI' (B h : List Int) (a : Nat) : Nat → List Int
  | 0 => h
  | i + 1 => (taI' B h a i).set i (IntKind.i64.wrap (gi (taI' B h a i) i + IntKind.i64.wrap (gi B (a + i))))
@[irreducible] def taI (B h : List Int) (a : Nat) (i : Nat) : List Int := taI' B h a i
theorem taI_0 (B h : List Int) (a : Nat) : taI B h a 0 = h := by unfold taI; rfl
theorem taI_s (B h : List Int) (a : Nat) (i : Nat) : taI B h a (i + 1) = (taI B h a i).set i (IntKind.i64.wrap (gi (taI B h a i) i + IntKind.i64.wrap (gi B (a + i)))) := by unfold taI; rfl
theorem taI_length (B h : List Int) (a : Nat) : ∀ i, (taI B h a i).length = h.length
  | 0 => by rw [taI_0]
  | i + 1 => by rw [taI_s]; simp [taI_length B h a i]
attribute [simp] taI_length
@[irreducible] def tgS (K B : List Int) (j : Nat) (h : List Int) : List Int :=
  let m := min 16 (B.length - 16 * j)
  let a := taI B h (16 * j) m
  tmR (crN (a.set m (IntKind.i64.wrap (gi a m + 1))) 3) (rrI K 16)
theorem tgS_length (K B : List Int) (j : Nat) (h : List Int) : (tgS K B j h).length = 17 := by unfold tgS; simp
attribute [simp] tgS_length
def tgI' (K B : List Int) : Nat → List Int
  | 0 => List.replicate 17 0
  | i + 1 => tgS K B i (tgI' K B i)
@[irreducible] def tgI (K B : List Int) (i : Nat) : List Int := tgI' K B i
theorem tgI_0 (K B : List Int) : tgI K B 0 = List.replicate 17 0 := by unfold tgI; rfl
theorem tgI_s (K B : List Int) (i : Nat) : tgI K B (i + 1) = tgS K B i (tgI K B i) := by unfold tgI; rfl
theorem tgI_length (K B : List Int) : ∀ i, (tgI K B i).length = 17
  | 0 => by simp [tgI_0]
  | i + 1 => by rw [tgI_s]; simp
attribute [simp] tgI_length
@[irreducible] def tgL (K B : List Int) : List Int := lsR (crN (tgI K B ((B.length + 15) / 16)) 3)
theorem tgL_length (K B : List Int) : (tgL K B).length = 17 := by unfold tgL; rw [lsR_length]; simp [crN_length]
attribute [simp] tgL_length crN_length
def toI' (K : List Int) (B : List Int) : Nat → Int × List Int
  | 0 => (0, List.replicate 16 0)
  | i + 1 => (IntKind.i64.wrap ((IntKind.i64.wrap ((IntKind.i64.wrap ((gi (tgL K B) i) + (IntKind.i64.wrap (gi K (16 + i))))) + ((toI' K B i).1))).tdiv 256), ((toI' K B i).2).set i (IntKind.u8.wrap ((IntKind.i64.wrap ((IntKind.i64.wrap ((gi (tgL K B) i) + (IntKind.i64.wrap (gi K (16 + i))))) + ((toI' K B i).1))).tmod 256)))
@[irreducible] def toI (K : List Int) (B : List Int) (i : Nat) : Int × List Int := toI' K B i
theorem toI_0 (K : List Int) (B : List Int) : toI K B 0 = (0, List.replicate 16 0) := by unfold toI; rfl
theorem toI_s (K : List Int) (B : List Int) (i : Nat) : toI K B (i + 1) = (IntKind.i64.wrap ((IntKind.i64.wrap ((IntKind.i64.wrap ((gi (tgL K B) i) + (IntKind.i64.wrap (gi K (16 + i))))) + ((toI K B i).1))).tdiv 256), ((toI K B i).2).set i (IntKind.u8.wrap ((IntKind.i64.wrap ((IntKind.i64.wrap ((gi (tgL K B) i) + (IntKind.i64.wrap (gi K (16 + i))))) + ((toI K B i).1))).tmod 256))) := by unfold toI; rfl
theorem toI_length1 (K : List Int) (B : List Int) : ∀ i, (toI K B i).2.length = (List.replicate 16 0).length
  | 0 => by simp [toI_0]
  | i + 1 => by rw [toI_s]; simp [toI_length1 K B i]
attribute [simp] toI_length1
@[irreducible] def rtag (K B : List Int) : List Int := (toI K B 16).2
set_option maxRecDepth 20000 in
set_option maxHeartbeats 2000000 in
theorem rtag_any (K : List Int) (hK : K.length = 32) (p : Option Addr) (n c : Nat) (B : List Int) (w : World) (hS : Sl w p n c B) (hmax : n ≤ 140737488355328) : Calls Try.prog 55 #[.agg (ints .u8 K), .slice p n c] w fun e w' => e = .returned (.agg (ints .u8 (rtag K B))) ∧ Below w.heap.size w w' := by
  have hlen := hS.len
  have hc0 := hS.cap
  unfold rtag
  have tok_kb : True := trivial
  have tok_ob : True := trivial
  have tok_hb : True := trivial
  have tok_yb : True := trivial
  have tok_qb : True := trivial
  refine pureE Try.func55 Try.ntmps55 Try.results55 ?_
  repeat (first | ((with_reducible refine SP.region (id := 0) ?_); refine SL.bx ?_; (first | (have _t := tok_kb; clear _t tok_kb; intro kb) | (have _t := tok_ob; clear _t tok_ob; intro ob) | (have _t := tok_hb; clear _t tok_hb; intro hb) | (have _t := tok_yb; clear _t tok_yb; intro yb) | (have _t := tok_qb; clear _t tok_qb; intro qb) | intro _); refine SL.al zero_72 ?_; (first | (have _t := tok_kb; clear _t tok_kb; intro kb) | (have _t := tok_ob; clear _t tok_ob; intro ob) | (have _t := tok_hb; clear _t tok_hb; intro hb) | (have _t := tok_yb; clear _t tok_yb; intro yb) | (have _t := tok_qb; clear _t tok_qb; intro qb) | intro _); (with_reducible refine SL.nil ?_)) | ((with_reducible refine SP.region (id := 1) ?_); refine SL.al zero_105 ?_; (first | (have _t := tok_kb; clear _t tok_kb; intro kb) | (have _t := tok_ob; clear _t tok_ob; intro ob) | (have _t := tok_hb; clear _t tok_hb; intro hb) | (have _t := tok_yb; clear _t tok_yb; intro yb) | (have _t := tok_qb; clear _t tok_qb; intro qb) | intro _); (with_reducible refine SL.nil ?_)) | ((with_reducible refine SP.region (id := 2) ?_); refine SL.ldR tabOk ?_; refine SL.v (ValO.call ent_65 _ rfl _ (fun w _ => rr_any _ hK w)) ?_; refine SL.al zero_105 ?_; (first | (have _t := tok_kb; clear _t tok_kb; intro kb) | (have _t := tok_ob; clear _t tok_ob; intro ob) | (have _t := tok_hb; clear _t tok_hb; intro hb) | (have _t := tok_yb; clear _t tok_yb; intro yb) | (have _t := tok_qb; clear _t tok_qb; intro qb) | intro _); refine SL.stR tabOk ?_; (with_reducible refine SL.nil ?_)) | ((with_reducible refine SP.region (id := 3) ?_); refine SL.e tabOk ?_; (with_reducible refine SL.nil ?_)) | ((with_reducible refine SP.seqK ?_); intro _ _) | (with_reducible refine thenK_normal ?_) | (refine useK (by assumption) ?_) | (with_reducible refine SP.block ?_))
  refine SP.loopN (fun j l bs => l = [.agg (ints .u8 K), .slice p n c, .pointer (some ⟨kb, 0, none⟩), nth l 3, .pointer (some ⟨ob, 0, none⟩), .pointer (some ⟨hb, 0, none⟩), .pointer (some ⟨yb, 0, none⟩), .int .i64 ((16 * j : Nat)), nth l 8, nth l 9, nth l 10, nth l 11, nth l 12, nth l 13, nth l 14, nth l 15, nth l 16, nth l 17, nth l 18, nth l 19, nth l 20, nth l 21, nth l 22, nth l 23, nth l 24, nth l 25, nth l 26, nth l 27, nth l 28, nth l 29, nth l 30, nth l 31, nth l 32, nth l 33, nth l 34, nth l 35, nth l 36, nth l 37, nth l 38, nth l 39, nth l 40, nth l 41, nth l 42, nth l 43, nth l 44, nth l 45, nth l 46, nth l 47, nth l 48, nth l 49, nth l 50, nth l 51, nth l 52, nth l 53, nth l 54, nth l 55, nth l 56, nth l 57, nth l 58, nth l 59, nth l 60, nth l 61, nth l 62, nth l 63, nth l 64, nth l 65, nth l 66, nth l 67, nth l 68, nth l 69, nth l 70, nth l 71, nth l 72, nth l 73, nth l 74, nth l 75, nth l 76, nth l 77, nth l 78, nth l 79, nth l 80] ∧ bs = [(yb, ints .i64 (rrI K 16), 105), (hb, ints .i64 (tgI K B j), 105), (ob, ints .u8 (List.replicate 16 0), 72), (kb, ints .u8 K, 23)]) ((n + 15) / 16) ⟨rfl, (by rw [tgI_0])⟩ ?_
  rintro j lfj _ hkj ⟨hlj, rfl⟩
  refine SP.cast hlj ?_
  clear hlj
  by_cases hltj : 16 * j < n
  · have f16 : IntKind.i64.wrap (((16 * j : Nat) : Int) + 16) = ((16 * (j + 1) : Nat) : Int) := by rw [IntWalk.i64_in _ (by omega)]; omega
    have fd : IntKind.i64.wrap ((n : Int) - ((16 * j : Nat) : Int)) = ((n - 16 * j : Nat) : Int) := by rw [IntWalk.i64_in _ (by omega)]; omega
    obtain ⟨m, hm⟩ : ∃ m, m = min 16 (n - 16 * j) := ⟨_, rfl⟩
    have hmin : (if IntKind.i64.wrap ((n : Int) - ((16 * j : Nat) : Int)) < 16 then IntKind.i64.wrap ((n : Int) - ((16 * j : Nat) : Int)) else 16) = (m : Int) := by rw [fd]; split <;> omega
    have hm16 : m ≤ 16 := by omega
    obtain ⟨sb, off, A, T2, fz, rfl, hsb, hA⟩ := hS.at_ (by omega)
    replace hltj : j < (n + 15) / 16 := by omega
    have hn16 : 16 * j + m ≤ n := by omega
    repeat (first | ((with_reducible refine SP.region (id := 4) ?_); refine SL.e tabOk ?_; refine SL.e tabOk ?_; refine SL.v (ValO.len tabOk (by rfl)) ?_; refine SL.e tabOk ?_; (with_reducible refine SL.nil ?_)) | ((with_reducible refine SP.region (id := 6) ?_); refine SL.e tabOk ?_; refine SL.v (ValO.len tabOk (by rfl)) ?_; refine SL.e tabOk ?_; refine SL.e tabOk ?_; refine SL.v (ValO.min _ _ _ rfl rfl ((m : Nat) : Int) hmin) ?_; refine SL.e tabOk ?_; (with_reducible refine SL.nil ?_)) | ((with_reducible refine SP.region (id := 7) ?_); refine SL.e tabOk ?_; (with_reducible refine SL.nil ?_)) | ((with_reducible refine SP.seqK ?_); intro _ _) | (with_reducible refine thenK_normal ?_) | (refine useK (by assumption) ?_) | (with_reducible refine SP.block ?_) | (with_reducible refine SP.skip ?_) | ((with_reducible show SP _ _ _ (Code.cond _ _ _) _ _ _); first | (refine SP.condT rfl (by first | rfl | (simp only [decide_eq_true_eq, beq_iff_eq, bne_iff_ne]; omega)) ?_)))
    refine SP.loopN (fun i l bs => l = [.agg (ints .u8 K), .slice (some ⟨sb, off, none⟩) n c, .pointer (some ⟨kb, 0, none⟩), nth l 3, .pointer (some ⟨ob, 0, none⟩), .pointer (some ⟨hb, 0, none⟩), .pointer (some ⟨yb, 0, none⟩), .int .i64 ((16 * j : Nat)), .int .i64 ((m : Nat)), .int .i64 ((i : Nat)), nth l 10, nth l 11, nth l 12, nth l 13, nth l 14, nth l 15, nth l 16, nth l 17, nth l 18, nth l 19, nth l 20, nth l 21, nth l 22, nth l 23, nth l 24, nth l 25, nth l 26, nth l 27, nth l 28, nth l 29, nth l 30, nth l 31, nth l 32, nth l 33, nth l 34, nth l 35, nth l 36, nth l 37, nth l 38, nth l 39, nth l 40, nth l 41, nth l 42, nth l 43, nth l 44, nth l 45, nth l 46, nth l 47, nth l 48, nth l 49, nth l 50, nth l 51, nth l 52, nth l 53, nth l 54, nth l 55, nth l 56, nth l 57, nth l 58, nth l 59, nth l 60, nth l 61, nth l 62, nth l 63, nth l 64, nth l 65, nth l 66, nth l 67, nth l 68, nth l 69, nth l 70, nth l 71, nth l 72, nth l 73, nth l 74, nth l 75, nth l 76, nth l 77, nth l 78, nth l 79, nth l 80] ∧ bs = [(yb, ints .i64 (rrI K 16), 105), (hb, ints .i64 (taI B (tgI K B j) (16 * j) i), 105), (ob, ints .u8 (List.replicate 16 0), 72), (kb, ints .u8 K, 23)]) m ⟨(by first | rfl | (simp only [taI_0]; done) | (simp only [taI_0]; rfl) | (rw [taI_0]; rfl)), (by first | rfl | (simp only [taI_0]; done) | (simp only [taI_0]; rfl) | (rw [taI_0]; rfl))⟩ ?_
    rintro i lfi _ hki ⟨hli, rfl⟩
    refine SP.cast hli ?_
    clear hli
    by_cases hlti : i < m
    · have hi1 : IntKind.i64.wrap ((i : Int) + 1) = ((i + 1 : Nat) : Int) := by rw [IntWalk.i64_in _ (by omega)]; omega
      have fa : IntKind.i64.wrap (((16 * j : Nat) : Int) + (i : Int)) = ((16 * j + i : Nat) : Int) := by rw [IntWalk.i64_in _ (by omega)]; omega
      repeat (first | ((with_reducible refine SP.region (id := 8) ?_); refine SL.e tabOk ?_; refine SL.e tabOk ?_; refine SL.e tabOk ?_; (with_reducible refine SL.nil ?_)) | ((with_reducible refine SP.region (id := 9) ?_); refine SL.e tabOk ?_; refine SL.e tabOk ?_; refine SL.e tabOk ?_; (with_reducible refine SL.nil ?_)) | ((with_reducible show SP _ _ _ (Code.region _ _ true) _ _ _); first | (refine SPa (id := 10) [13] [] ([]) [0, 1, 2, 3, 4, 5, 6, 7, 8, 9, 10, 11, 12, 13] follows ?_; refine SF.p tabOk ?_; refine SF.p tabOk ?_; refine SF.ixA tabOk ?_ (hm := by first | (simp only [fa, Nat.zero_add, Nat.mul_one, Nat.one_mul, Int.toNat_natCast]; done) | (simp only [fa, Nat.zero_add, Nat.mul_one, Nat.one_mul, Int.toNat_natCast]; rfl) | rfl); (first | (refine SF.ldI tabOk ?_) | (refine SF.ldC tabOk ?_ (hv := by first | exact (hA _ (by omega))))); refine SF.p tabOk ?_; refine SF.p tabOk ?_; refine SF.p tabOk ?_; refine SF.e tabOk ?_; refine SF.ixS tabOk ?_ (hm := by first | (simp only [fa, Nat.zero_add, Nat.mul_one, Nat.one_mul, Int.toNat_natCast]; done) | (simp only [fa, Nat.zero_add, Nat.mul_one, Nat.one_mul, Int.toNat_natCast]; rfl) | rfl); (first | (refine SF.ldI tabOk ?_) | (refine SF.ldC tabOk ?_ (hv := by first | exact (hA _ (by omega))))); refine SF.e tabOk ?_; refine SF.e tabOk ?_; refine SF.ixA tabOk ?_ (hm := by first | (simp only [fa, Nat.zero_add, Nat.mul_one, Nat.one_mul, Int.toNat_natCast]; done) | (simp only [fa, Nat.zero_add, Nat.mul_one, Nat.one_mul, Int.toNat_natCast]; rfl) | rfl); refine SF.stI tabOk ?_; refine SF.done ?_)) | ((with_reducible refine SP.seqK ?_); intro _ _) | (with_reducible refine thenK_normal ?_) | (refine useK (by assumption) ?_) | (with_reducible refine SP.block ?_) | (with_reducible refine SP.skip ?_) | ((with_reducible show SP _ _ _ (Code.cond _ _ _) _ _ _); first | (refine SP.condT rfl (by first | rfl | (simp only [decide_eq_true_eq, beq_iff_eq, bne_iff_ne]; omega)) ?_)))
      simp only [hi1]
      exact ⟨hlti, (by first | rfl | (simp only [taI_s]; done) | (simp only [taI_s]; rfl) | (rw [taI_s]; rfl)), (by first | rfl | (simp only [taI_s]; done) | (simp only [taI_s]; rfl) | (rw [taI_s]; rfl))⟩
    · have hendi : i = m := by omega
      replace hendi := Lib.hid hendi
      repeat (first | ((with_reducible refine SP.region (id := 8) ?_); refine SL.e tabOk ?_; refine SL.e tabOk ?_; refine SL.e tabOk ?_; (with_reducible refine SL.nil ?_)) | ((with_reducible refine SP.seqK ?_); intro _ _) | (with_reducible refine thenK_normal ?_) | (refine useK (by assumption) ?_) | (with_reducible refine SP.exit ?_) | ((with_reducible show SP _ _ _ (Code.cond _ _ _) _ _ _); first | (refine SP.condF rfl (by first | rfl | (simp only [decide_eq_false_iff_not, beq_eq_false_iff_ne, bne_eq_false_iff_eq]; omega)) ?_)))
      have hq := hendi.out; clear hendi; subst hq
      repeat (first | ((with_reducible refine SP.region (id := 5) ?_); refine SL.e tabOk ?_; refine SL.e tabOk ?_; refine SL.e tabOk ?_; (with_reducible refine SL.nil ?_)) | ((with_reducible refine SP.region (id := 11) ?_); refine SL.e tabOk ?_; refine SL.e tabOk ?_; refine SL.ixA tabOk ?_; (first | (refine SL.ldI tabOk ?_) | (refine SL.ldC tabOk ?_ (hv := by first | exact (hA _ (by omega))))); refine SL.e tabOk ?_; refine SL.ixA tabOk ?_; refine SL.stI tabOk ?_; (with_reducible refine SL.nil ?_)) | ((with_reducible show SP _ _ _ (Code.region _ _ true) _ _ _); first | (refine SPa (id := 12) [4] [] ([]) [0, 1, 2, 3, 4] follows ?_; refine SF.ldR tabOk ?_; refine SF.v (ValO.call ent_67 _ rfl _ (fun w _ => carry_any _ (by simp) w)) ?_; refine SF.ldR tabOk ?_; refine SF.v (ValO.call ent_66 _ rfl _ (fun w _ => times_any _ _ (by simp) (by simp) w)) ?_; refine SF.stR tabOk ?_; refine SF.done ?_)) | (with_reducible refine thenK_normal ?_) | (refine useK (by assumption) ?_))
      simp only [f16]
      refine ⟨hltj, rfl, ?_⟩
      rw [tgI_s]; unfold tgS; rw [hlen, ← hm]
  · have hendj : j = (n + 15) / 16 := by omega
    have hls : (lsR (crN (tgI K B j) 3)).length = 17 := lsR_length _ (by simp)
    repeat (first | ((with_reducible refine SP.region (id := 4) ?_); refine SL.e tabOk ?_; refine SL.e tabOk ?_; refine SL.v (ValO.len tabOk (by rfl)) ?_; refine SL.e tabOk ?_; (with_reducible refine SL.nil ?_)) | ((with_reducible refine SP.region (id := 13) ?_); refine SL.ldR tabOk ?_; refine SL.v (ValO.call ent_67 _ rfl _ (fun w _ => carry_any _ (by simp) w)) ?_; refine SL.v (ValO.call ent_68 _ rfl _ (fun w _ => least_any _ (by simp) w)) ?_; refine SL.stR tabOk ?_; (with_reducible refine SL.nil ?_)) | ((with_reducible refine SP.region (id := 14) ?_); refine SL.al zero_72 ?_; (first | (have _t := tok_kb; clear _t tok_kb; intro kb) | (have _t := tok_ob; clear _t tok_ob; intro ob) | (have _t := tok_hb; clear _t tok_hb; intro hb) | (have _t := tok_yb; clear _t tok_yb; intro yb) | (have _t := tok_qb; clear _t tok_qb; intro qb) | intro _); (with_reducible refine SL.nil ?_)) | ((with_reducible refine SP.region (id := 15) ?_); refine SL.e tabOk ?_; (with_reducible refine SL.nil ?_)) | ((with_reducible refine SP.region (id := 16) ?_); refine SL.e tabOk ?_; (with_reducible refine SL.nil ?_)) | ((with_reducible refine SP.seqK ?_); intro _ _) | (with_reducible refine thenK_normal ?_) | (refine useK (by assumption) ?_) | (with_reducible refine SP.block ?_) | (with_reducible refine SP.exit ?_) | ((with_reducible show SP _ _ _ (Code.cond _ _ _) _ _ _); first | (refine SP.condF rfl (by first | rfl | (simp only [decide_eq_false_iff_not, beq_eq_false_iff_ne, bne_eq_false_iff_eq]; omega)) ?_)))
    clear hls hltj hkj
    subst hlen hendj
    rw [show lsR (crN (tgI K B ((B.length + 15) / 16)) 3) = tgL K B by unfold tgL; rfl]
    refine SP.loopN (fun k l bs => l = [nth l 0, nth l 1, .pointer (some ⟨kb, 0, none⟩), nth l 3, .pointer (some ⟨ob, 0, none⟩), .pointer (some ⟨hb, 0, none⟩), nth l 6, nth l 7, nth l 8, nth l 9, .pointer (some ⟨qb, 0, none⟩), .int .i64 ((toI K B k).1), .int .i64 (k : Nat), nth l 13, nth l 14, nth l 15, nth l 16, nth l 17, nth l 18, nth l 19, nth l 20, nth l 21, nth l 22, nth l 23, nth l 24, nth l 25, nth l 26, nth l 27, nth l 28, nth l 29, nth l 30, nth l 31, nth l 32, nth l 33, nth l 34, nth l 35, nth l 36, nth l 37, nth l 38, nth l 39, nth l 40, nth l 41, nth l 42, nth l 43, nth l 44, nth l 45, nth l 46, nth l 47, nth l 48, nth l 49, nth l 50, nth l 51, nth l 52, nth l 53, nth l 54, nth l 55, nth l 56, nth l 57, nth l 58, nth l 59, nth l 60, nth l 61, nth l 62, nth l 63, nth l 64, nth l 65, nth l 66, nth l 67, nth l 68, nth l 69, nth l 70, nth l 71, nth l 72, nth l 73, nth l 74, nth l 75, nth l 76, nth l 77, nth l 78, nth l 79, nth l 80] ∧ bs = [(qb, ints .u8 ((toI K B k).2), 72), (yb, ints .i64 (rrI K 16), 105), (hb, ints .i64 (tgL K B), 105), (ob, ints .u8 (List.replicate 16 0), 72), (kb, ints .u8 K, 23)]) 16 ⟨(by first | rfl | (simp only [toI_0]; done) | (simp only [toI_0]; rfl) | (rw [toI_0]; rfl)), (by first | rfl | (simp only [toI_0]; done) | (simp only [toI_0]; rfl) | (rw [toI_0]; rfl))⟩ ?_
    rintro k lfk _ hkk ⟨hlk, rfl⟩
    refine SP.cast hlk ?_
    clear hlk
    by_cases hltk : k < 16
    · have hk1 : IntKind.i64.wrap ((k : Int) + 1) = ((k + 1 : Nat) : Int) := by rw [IntWalk.i64_in _ (by omega)]; omega
      have f16k : IntKind.i64.wrap (16 + (k : Int)) = ((16 + k : Nat) : Int) := by rw [IntWalk.i64_in _ (by omega)]; omega
      repeat (first | ((with_reducible refine SP.region (id := 17) ?_); refine SL.e tabOk ?_; refine SL.e tabOk ?_; (with_reducible refine SL.nil ?_)) | ((with_reducible refine SP.seqK ?_); intro _ _) | (with_reducible refine thenK_normal ?_) | (refine useK (by assumption) ?_) | (with_reducible refine SP.block ?_) | (with_reducible refine SP.skip ?_) | ((with_reducible show SP _ _ _ (Code.cond _ _ _) _ _ _); first | (refine SP.condT rfl (by first | rfl | (simp only [decide_eq_true_eq, beq_iff_eq, bne_iff_ne]; omega)) ?_)))
      repeat (first | ((with_reducible refine SP.region (id := 20) ?_); refine SL.e tabOk ?_; refine SL.e tabOk ?_; refine SL.e tabOk ?_; refine SL.e tabOk ?_; refine SL.ixA tabOk ?_ (hm := by first | (simp only [f16k, Nat.zero_add, Nat.mul_one, Nat.one_mul, Int.toNat_natCast]; done) | (simp only [f16k, Nat.zero_add, Nat.mul_one, Nat.one_mul, Int.toNat_natCast]; rfl) | rfl); refine SL.stI tabOk ?_; (with_reducible refine SL.nil ?_)) | ((with_reducible refine SP.region (id := 21) ?_); refine SL.e tabOk ?_; refine SL.e tabOk ?_; refine SL.e tabOk ?_; (with_reducible refine SL.nil ?_)) | ((with_reducible show SP _ _ _ (Code.region _ _ true) _ _ _); first | (refine SPa (id := 19) [] [] ([]) [0, 1, 2, 3, 4, 5, 6, 7, 8, 9, 10, 11] follows ?_; refine SF.p tabOk ?_; refine SF.ixA tabOk ?_ (hm := by first | (simp only [f16k, Nat.zero_add, Nat.mul_one, Nat.one_mul, Int.toNat_natCast]; done) | (simp only [f16k, Nat.zero_add, Nat.mul_one, Nat.one_mul, Int.toNat_natCast]; rfl) | rfl); refine SF.ldI tabOk ?_; refine SF.p tabOk ?_; refine SF.e tabOk ?_; refine SF.ixA tabOk ?_ (hm := by first | (simp only [f16k, Nat.zero_add, Nat.mul_one, Nat.one_mul, Int.toNat_natCast]; done) | (simp only [f16k, Nat.zero_add, Nat.mul_one, Nat.one_mul, Int.toNat_natCast]; rfl) | rfl); refine SF.ldI tabOk ?_; refine SF.e tabOk ?_; refine SF.e tabOk ?_; refine SF.p tabOk ?_; refine SF.e tabOk ?_; refine SF.p tabOk ?_; refine SF.done ?_)) | ((with_reducible refine SP.seqK ?_); intro _ _) | (with_reducible refine thenK_normal ?_) | (refine useK (by assumption) ?_))
      repeat (first | ((with_reducible refine SP.region (id := 18) ?_); refine SL.e tabOk ?_; refine SL.e tabOk ?_; refine SL.e tabOk ?_; (with_reducible refine SL.nil ?_)) | (with_reducible refine thenK_normal ?_))
      simp only [hk1]
      exact ⟨hltk, (by first | rfl | (simp only [toI_s]; done) | (simp only [toI_s]; rfl) | (rw [toI_s]; rfl)), (by first | rfl | (simp only [toI_s]; done) | (simp only [toI_s]; rfl) | (rw [toI_s]; rfl))⟩
    · have hendk : k = 16 := by omega
      replace hendk := Lib.hid hendk
      repeat (first | ((with_reducible refine SP.region (id := 17) ?_); refine SL.e tabOk ?_; refine SL.e tabOk ?_; (with_reducible refine SL.nil ?_)) | ((with_reducible refine SP.seqK ?_); intro _ _) | (with_reducible refine thenK_normal ?_) | (refine useK (by assumption) ?_) | (with_reducible refine SP.exit ?_) | ((with_reducible show SP _ _ _ (Code.cond _ _ _) _ _ _); first | (refine SP.condF rfl (by first | rfl | (simp only [decide_eq_false_iff_not, beq_eq_false_iff_ne, bne_eq_false_iff_eq]; omega)) ?_)))
      have hq := hendk.out; clear hendk; subst hq
      repeat (first | ((with_reducible refine SP.region (id := 22) ?_); refine SL.ldR tabOk ?_; refine SL.stR tabOk ?_; (with_reducible refine SL.nil ?_)) | (with_reducible refine thenK_normal ?_) | (refine useK (by assumption) ?_) | (with_reducible refine SP.ret ?_))
      refine doneK.mk rfl (ResO.cell tabOk rfl rfl rfl (by first | exact RdA.own g0 | exact RdA.own g1 | exact RdA.own g2 | exact RdA.own g3 | exact RdA.own g4 | exact RdA.own g5 | exact RdA.own g6 | exact RdA.own g7 | exact RdA.own g8 | exact RdA.own g9 | exact RdA.own g10 | exact RdA.own g11 | exact RdA.own g12 | exact RdA.own g13 | exact RdA.own g14 | exact RdA.own g15) (by first | (simp [ints_size]; done) | (simp [ints_size]; omega))) rfl
end Sp
end Go.Proofs.Ythbmlpiplfbehaa
