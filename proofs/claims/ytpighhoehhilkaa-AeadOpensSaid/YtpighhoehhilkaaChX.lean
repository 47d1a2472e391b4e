/-
  Bytes with the key stream from a block on: what the code computes.
-/
import Derived.Test.YtpighhoehhilkaaChB
import Derived.Test.YtpighhoehhilkaaPolyPh
import Derived.Test.YtpighhoehhilkaaSlG
namespace Go.Proofs.Ytpighhoehhilkaa
set_option linter.unusedSimpArgs false
set_option linter.unusedVariables false
open Go Go.RowKit

namespace Sp
open F M
/-- A byte of the key stream. -/
@[irreducible] def strm (K : List Int) (ct : Int) (N : List Int) (j : Nat) : Int := gi (chB K (ct + ((j / 64 : Nat) : Int)) N) (j % 64)
theorem strm_at (K : List Int) (ct : Int) (N : List Int) (k i : Nat) (hi : i < 64) : strm K ct N (64 * k + i) = gi (chB K (ct + (k : Int)) N) i := by
  unfold strm
  rw [show (64 * k + i) / 64 = k by omega, show (64 * k + i) % 64 = i by omega]
/-- Bytes with the key stream. -/
@[irreducible] def xo (K : List Int) (ct : Int) (N B : List Int) : List Int := B.mapIdx fun j x => bits .xor .u8 x (strm K ct N j)
theorem xo_length (K : List Int) (ct : Int) (N B : List Int) : (xo K ct N B).length = B.length := by unfold xo; simp
attribute [simp] xo_length
theorem xo_get (K : List Int) (ct : Int) (N B : List Int) (j : Nat) (hj : j < B.length) : (xo K ct N B)[j]? = some (bits .xor .u8 (gi B j) (strm K ct N j)) := by
  unfold xo gi
  rw [List.getElem?_mapIdx, List.getElem?_eq_getElem hj]
  simp [hj]
theorem gi_xo (K : List Int) (ct : Int) (N B : List Int) (j : Nat) (hj : j < B.length) : gi (xo K ct N B) j = bits .xor .u8 (gi B j) (strm K ct N j) := by
  rw [gi, List.getD_eq_getElem?_getD, xo_get _ _ _ _ _ hj]
  rfl
@[irreducible] def xoP (K : List Int) (ct : Int) (N B : List Int) (m : Nat) : List Int := (xo K ct N B).take m ++ List.replicate (B.length - m) 0
theorem xoP_0 (K : List Int) (ct : Int) (N B : List Int) : xoP K ct N B 0 = List.replicate B.length 0 := by unfold xoP; simp
theorem xoP_all (K : List Int) (ct : Int) (N B : List Int) : xoP K ct N B B.length = xo K ct N B := by
  unfold xoP
  rw [List.take_of_length_le (by simp), Nat.sub_self, List.replicate_zero, List.append_nil]
theorem xoP_length (K : List Int) (ct : Int) (N B : List Int) (m : Nat) (hm : m ≤ B.length) : (xoP K ct N B m).length = B.length := by unfold xoP; simp; omega
theorem set_take {L : List Int} {n m : Nat} {v : Int} (hn : L.length = n) (hm : m < n) (hv : L[m]? = some v) : (L.take m ++ List.replicate (n - m) 0).set m v = L.take (m + 1) ++ List.replicate (n - (m + 1)) 0 := by
  have e : List.replicate (n - m) (0 : Int) = 0 :: List.replicate (n - (m + 1)) 0 := by rw [← List.replicate_succ]; congr 1; omega
  have ht : (L.take m).length = m := by simp; omega
  rw [List.set_append_right _ _ (by omega), ht, Nat.sub_self, e, List.set_cons_zero, List.take_add_one, hv]
  simp
theorem xoP_s (K : List Int) (ct : Int) (N B : List Int) (k i : Nat) (hi : i < 64) (hm : 64 * k + i < B.length) :
    (xoP K ct N B (64 * k + i)).set (64 * k + i) (bits .xor .u8 (gi B (64 * k + i)) (gi (chB K (ct + (k : Int)) N) i)) = xoP K ct N B (64 * k + (i + 1)) := by
  unfold xoP
  rw [← strm_at K ct N k i hi, ← Nat.add_assoc]
  exact set_take (xo_length ..) hm (xo_get _ _ _ _ _ hm)
theorem xlim (ct : Int) (n : Nat) (h0 : 0 ≤ ct) (h1 : ct + n < 4294967296) : decide (IntKind.u64.wrap (IntKind.u64.wrap ct + IntKind.u64.wrap (Int.tdiv (IntKind.u64.wrap (IntKind.i64.wrap (IntKind.i64.wrap ((n : Int) + 64) - 1))) 64)) > 4294967296) = false := by
  rw [decide_eq_false_iff_not, IntWalk.i64_in ((n : Int) + 64) (by omega), IntWalk.i64_in ((n : Int) + 64 - 1) (by omega), IntKind.wrap_u64 ((n : Int) + 64 - 1), show ((n : Int) + 64 - 1) % 18446744073709551616 = ((n + 63 : Nat) : Int) by omega,
    show Int.tdiv ((n + 63 : Nat) : Int) 64 = (((n + 63) / 64 : Nat) : Int) from rfl]
  simp only [IntKind.wrap_u64]
  omega

set_option maxRecDepth 20000 in
set_option maxHeartbeats 2000000 in
theorem xor_any (K : List Int) (ct : Int) (N : List Int) (hK : K.length = 32) (hN : N.length = 12) (p : Option Addr) (n c : Nat) (B : List Int) (h0 : 0 ≤ ct) (h1 : ct + n < 4294967296) (w : World) (hS : Sl w p n c B) :
    Calls Try.prog 17 #[.agg (ints .u8 K), .int .u32 ct, .agg (ints .u8 N), .slice p n c] w fun e w' => ∃ xb, e = .returned (.tuple #[.slice (some ⟨xb, 0, none⟩) n n, .int .i64 0]) ∧ OwnM w [] w' [(xb, ints .u8 (xo K ct N B), 5)] := by
  have hlen := hS.len
  have hcap := hS.cap
  have tok_kb : True := trivial
  have tok_nb : True := trivial
  have tok_s2 : True := trivial
  refine new_of_SP Try.func17 rfl [.agg (ints .u8 K), .int .u32 ct, .agg (ints .u8 N), .slice p n c, undef, undef, undef, undef, undef, undef, undef, undef, undef, undef, undef, undef, undef, undef, undef, undef, undef, undef, undef, undef, undef, undef, undef, undef, undef, undef, undef, undef, undef, undef, undef, undef, undef, undef, undef, undef, undef, undef, undef, undef, undef, undef, undef, undef, undef, undef, undef, undef, undef, undef, undef, undef, undef, undef, undef, undef, undef, undef, undef, undef, undef, undef] (by simp only [Try.ntmps17, List.size_toArray, List.length_cons, List.length_nil, Nat.reduceAdd, Nat.reduceSub, Array.replicate_succ, Array.replicate_zero, List.push_toArray, List.append_toArray, List.nil_append, List.cons_append]) _ Try.results17 _ ?_
  repeat (first | ((with_reducible refine SP.region (id := 0) ?_); refine SL.bx ?_; (first | (have _t := tok_kb; clear _t tok_kb; intro kb) | (have _t := tok_nb; clear _t tok_nb; intro nb) | (have _t := tok_s2; clear _t tok_s2; intro s2) | intro _); refine SL.bx ?_; (first | (have _t := tok_kb; clear _t tok_kb; intro kb) | (have _t := tok_nb; clear _t tok_nb; intro nb) | (have _t := tok_s2; clear _t tok_s2; intro s2) | intro _); refine SL.e tabOk ?_; refine SL.e tabOk ?_; (with_reducible refine SL.nil ?_)) | ((with_reducible refine SP.region (id := 1) ?_); refine SL.e tabOk ?_; refine SL.e tabOk ?_; refine SL.e tabOk ?_; refine SL.v (ValO.len tabOk (by rfl)) ?_; refine SL.e tabOk ?_; refine SL.e tabOk ?_; refine SL.e tabOk ?_; refine SL.e tabOk ?_; refine SL.e tabOk ?_; refine SL.c false tabOk ?_ (hb := xlim ct n h0 h1); (with_reducible refine SL.nil ?_)) | ((with_reducible refine SP.region (id := 3) ?_); refine SL.e tabOk ?_; refine SL.v (ValO.len tabOk (by rfl)) ?_; refine SL.made (n := n) tabOk zero_u8 (by omega) (fun xb => ?_); refine SL.e tabOk ?_; (with_reducible refine SL.nil ?_)) | ((with_reducible refine SP.region (id := 4) ?_); refine SL.e tabOk ?_; (with_reducible refine SL.nil ?_)) | ((with_reducible refine SP.seqK ?_); intro _ _) | (with_reducible refine thenK_normal ?_) | (refine useK (by assumption) ?_) | (with_reducible refine SP.block ?_) | (with_reducible refine thenK_exit ?_) | (with_reducible refine thenK_ret ?_) | (with_reducible refine blockK_normal ?_) | (with_reducible refine blockK_ret ?_) | (with_reducible refine blockK_eq ?_) | (with_reducible refine blockK_ne rfl ?_) | (with_reducible refine SP.skip ?_) | (with_reducible refine SP.ret ?_) | (with_reducible refine SP.exit ?_) | ((with_reducible show SP _ _ _ (Code.cond _ _ _) _ _ _); first | (refine SP.condT rfl (by first | rfl | (simp only [decide_eq_true_eq, beq_iff_eq, bne_iff_ne]; first | done | omega)) ?_) | (refine SP.condF rfl (by first | rfl | (simp only [decide_eq_false_iff_not, beq_eq_false_iff_ne, bne_eq_false_iff_eq]; first | done | omega)) ?_)))
  refine SP.loopN (fun k l bs => l = [nth l 0, .int .u32 (ct + (k : Int)), nth l 2, .slice p n c, .pointer (some ⟨kb, 0, none⟩), nth l 5, .pointer (some ⟨nb, 0, none⟩), nth l 7, nth l 8, nth l 9, .slice (some ⟨xb, 0, none⟩) n n, .int .i64 ((64 * k : Nat)), nth l 12, nth l 13, nth l 14, nth l 15, nth l 16, nth l 17, nth l 18, nth l 19, nth l 20, nth l 21, nth l 22, nth l 23, nth l 24, nth l 25, nth l 26, nth l 27, nth l 28, nth l 29, nth l 30, nth l 31, nth l 32, nth l 33, nth l 34, nth l 35, nth l 36, nth l 37, nth l 38, nth l 39, nth l 40, nth l 41, nth l 42, nth l 43, nth l 44, nth l 45, nth l 46, nth l 47, nth l 48, nth l 49, nth l 50, nth l 51, nth l 52, nth l 53, nth l 54, nth l 55, nth l 56, nth l 57, nth l 58, nth l 59, nth l 60, nth l 61, nth l 62, nth l 63, nth l 64, nth l 65] ∧ bs = [(xb, ints .u8 (xoP K ct N B (min (64 * k) n)), 5), (nb, ints .u8 N, 24), (kb, ints .u8 K, 23)]) ((n + 63) / 64) ⟨by first | rfl | (rw [Int.natCast_zero, Int.add_zero]; rfl) | (simp only [Int.natCast_zero, Int.add_zero, Nat.mul_zero]; rfl), by rw [Nat.mul_zero, Nat.zero_min, xoP_0, hlen]⟩ ?_
  rintro k lfk _ hkk ⟨hlk, rfl⟩
  refine SP.cast hlk ?_
  clear hlk
  by_cases hltk : k < (n + 63) / 64
  · have h64 : 64 * k < n := by omega
    obtain ⟨sb, so, A, T, fz, rfl, hb, hA⟩ := hS.at_ (by omega)
    rw [show min (64 * k) n = 64 * k by omega]
    have fk : IntKind.u32.wrap (ct + (k : Int) + 1) = ct + ((k + 1 : Nat) : Int) := by rw [IntKind.wrap_u32]; omega
    have fa : IntKind.i64.wrap (((64 * k : Nat) : Int) + 64) = ((64 * (k + 1) : Nat) : Int) := by rw [IntWalk.i64_in _ (by omega)]; omega
    obtain ⟨z, hz⟩ : ∃ z, z = min (64 * (k + 1)) n := ⟨_, rfl⟩
    have hmin : (if (n : Int) < IntKind.i64.wrap (((64 * k : Nat) : Int) + 64) then (n : Int) else IntKind.i64.wrap (((64 * k : Nat) : Int) + 64)) = (z : Int) := by rw [fa]; split <;> omega
    repeat (first | ((with_reducible refine SP.region (id := 5) ?_); refine SL.e tabOk ?_; refine SL.e tabOk ?_; refine SL.v (ValO.len tabOk (by rfl)) ?_; refine SL.e tabOk ?_; (with_reducible refine SL.nil ?_)) | ((with_reducible refine SP.region (id := 7) ?_); refine SL.ldR tabOk ?_; refine SL.e tabOk ?_; refine SL.ldR tabOk ?_; refine SL.v (ValO.call ent_18 _ rfl _ (fun w1 hw1 => block_any K (ct + (k : Int)) N hK hN w1)) ?_; refine SL.al zero_37 ?_; (first | (have _t := tok_kb; clear _t tok_kb; intro kb) | (have _t := tok_nb; clear _t tok_nb; intro nb) | (have _t := tok_s2; clear _t tok_s2; intro s2) | intro _); refine SL.stR tabOk ?_; (with_reducible refine SL.nil ?_)) | ((with_reducible refine SP.region (id := 8) ?_); refine SL.e tabOk ?_; refine SL.e tabOk ?_; refine SL.e tabOk ?_; refine SL.e tabOk ?_; refine SL.e tabOk ?_; refine SL.v (ValO.len tabOk (by rfl)) ?_; refine SL.v (ValO.min _ _ _ rfl rfl _ hmin) ?_; refine SL.ctS tabOk (64 * k) z ?_; refine SL.v (ValO.len tabOk (by rfl)) ?_; refine SL.e tabOk ?_; (with_reducible refine SL.nil ?_)) | ((with_reducible refine SP.seqK ?_); intro _ _) | (with_reducible refine thenK_normal ?_) | (refine useK (by assumption) ?_) | (with_reducible refine SP.block ?_) | (with_reducible refine thenK_exit ?_) | (with_reducible refine thenK_ret ?_) | (with_reducible refine blockK_normal ?_) | (with_reducible refine blockK_ret ?_) | (with_reducible refine blockK_eq ?_) | (with_reducible refine blockK_ne rfl ?_) | (with_reducible refine SP.skip ?_) | (with_reducible refine SP.ret ?_) | (with_reducible refine SP.exit ?_) | ((with_reducible show SP _ _ _ (Code.cond _ _ _) _ _ _); first | (refine SP.condT rfl (by first | rfl | (simp only [decide_eq_true_eq, beq_iff_eq, bne_iff_ne]; first | done | omega)) ?_) | (refine SP.condF rfl (by first | rfl | (simp only [decide_eq_false_iff_not, beq_eq_false_iff_ne, bne_eq_false_iff_eq]; first | done | omega)) ?_)))
    refine SP.loopN (fun i l bs => l = [nth l 0, .int .u32 (ct + (k : Int)), nth l 2, .slice (some ⟨sb, so, none⟩) n c, .pointer (some ⟨kb, 0, none⟩), nth l 5, .pointer (some ⟨nb, 0, none⟩), nth l 7, nth l 8, nth l 9, .slice (some ⟨xb, 0, none⟩) n n, .int .i64 ((64 * k : Nat)), .pointer (some ⟨s2, 0, none⟩), nth l 13, nth l 14, nth l 15, nth l 16, nth l 17, nth l 18, nth l 19, nth l 20, nth l 21, nth l 22, nth l 23, nth l 24, nth l 25, nth l 26, nth l 27, nth l 28, nth l 29, nth l 30, nth l 31, nth l 32, nth l 33, nth l 34, nth l 35, nth l 36, nth l 37, nth l 38, nth l 39, nth l 40, nth l 41, nth l 42, nth l 43, nth l 44, .slice (some ⟨sb, so + 64 * k, none⟩) (z - 64 * k) (c - 64 * k), .int .i64 ((z - 64 * k : Nat) : Int), .int .i64 ((i : Nat)), nth l 48, nth l 49, nth l 50, nth l 51, nth l 52, nth l 53, nth l 54, nth l 55, nth l 56, nth l 57, nth l 58, nth l 59, nth l 60, nth l 61, nth l 62, nth l 63, nth l 64, nth l 65] ∧ bs = [(s2, ints .u8 (chB K (ct + (k : Int)) N), 37), (xb, ints .u8 (xoP K ct N B (64 * k + i)), 5), (nb, ints .u8 N, 24), (kb, ints .u8 K, 23)]) (z - 64 * k) ⟨rfl, by rw [Nat.add_zero]⟩ ?_
    rintro i lfi _ hki ⟨hli, rfl⟩
    refine SP.cast hli ?_
    clear hli
    have hlx := xoP_length K ct N B (64 * k + i) (by omega)
    by_cases hlti : i < z - 64 * k
    · have hi1 : IntKind.i64.wrap ((i : Int) + 1) = ((i + 1 : Nat) : Int) := by rw [IntWalk.i64_in _ (by omega)]; omega
      have fi : IntKind.i64.wrap (((64 * k : Nat) : Int) + (i : Int)) = ((64 * k + i : Nat) : Int) := by rw [IntWalk.i64_in _ (by omega)]; omega
      have hc1 : A[so + 64 * k + i]? = some (.int .u8 (gi B (64 * k + i))) := by rw [Nat.add_assoc]; exact hA _ (by omega)
      repeat (first | ((with_reducible refine SP.region (id := 9) ?_); refine SL.e tabOk ?_; (with_reducible refine SL.nil ?_)) | ((with_reducible refine SP.region (id := 10) ?_); refine SL.e tabOk ?_; refine SL.ixS tabOk ?_ (hm := by first | (simp only [fi, Nat.zero_add, Nat.mul_one, Nat.one_mul, Int.toNat_natCast]; done) | (simp only [fi, Nat.zero_add, Nat.mul_one, Nat.one_mul, Int.toNat_natCast]; rfl) | rfl); (first | (refine SL.ldI tabOk ?_) | (refine SL.ldC tabOk ?_ (hv := by first | exact hc1))); refine SL.e tabOk ?_; refine SL.e tabOk ?_; (with_reducible refine SL.nil ?_)) | ((with_reducible refine SP.region (id := 11) ?_); refine SL.e tabOk ?_; refine SL.e tabOk ?_; refine SL.e tabOk ?_; refine SL.e tabOk ?_; refine SL.e tabOk ?_; refine SL.e tabOk ?_; refine SL.ixA tabOk ?_ (hm := by first | (simp only [fi, Nat.zero_add, Nat.mul_one, Nat.one_mul, Int.toNat_natCast]; done) | (simp only [fi, Nat.zero_add, Nat.mul_one, Nat.one_mul, Int.toNat_natCast]; rfl) | rfl); (first | (refine SL.ldI tabOk ?_) | (refine SL.ldC tabOk ?_ (hv := by first | exact hc1))); refine SL.e tabOk ?_; refine SL.ixS tabOk ?_ (hm := by first | (simp only [fi, Nat.zero_add, Nat.mul_one, Nat.one_mul, Int.toNat_natCast]; done) | (simp only [fi, Nat.zero_add, Nat.mul_one, Nat.one_mul, Int.toNat_natCast]; rfl) | rfl); refine SL.stI tabOk ?_; (with_reducible refine SL.nil ?_)) | ((with_reducible refine SP.region (id := 12) ?_); refine SL.e tabOk ?_; refine SL.e tabOk ?_; (with_reducible refine SL.nil ?_)) | ((with_reducible refine SP.seqK ?_); intro _ _) | (with_reducible refine thenK_normal ?_) | (refine useK (by assumption) ?_) | (with_reducible refine SP.block ?_) | (with_reducible refine thenK_exit ?_) | (with_reducible refine thenK_ret ?_) | (with_reducible refine blockK_normal ?_) | (with_reducible refine blockK_ret ?_) | (with_reducible refine blockK_eq ?_) | (with_reducible refine blockK_ne rfl ?_) | (with_reducible refine SP.skip ?_) | (with_reducible refine SP.ret ?_) | (with_reducible refine SP.exit ?_) | ((with_reducible show SP _ _ _ (Code.cond _ _ _) _ _ _); first | (refine SP.condT rfl (by first | rfl | (simp only [decide_eq_true_eq, beq_iff_eq, bne_iff_ne]; first | done | omega)) ?_) | (refine SP.condF rfl (by first | rfl | (simp only [decide_eq_false_iff_not, beq_eq_false_iff_ne, bne_eq_false_iff_eq]; first | done | omega)) ?_)))
      simp only [hi1]
      exact ⟨hlti, rfl, by rw [xoP_s K ct N B k i (by omega) (by omega)]⟩
    · have hendi : i = z - 64 * k := by omega
      replace hendi := Lib.hid hendi
      repeat (first | ((with_reducible refine SP.region (id := 9) ?_); refine SL.e tabOk ?_; (with_reducible refine SL.nil ?_)) | ((with_reducible refine SP.seqK ?_); intro _ _) | (with_reducible refine thenK_normal ?_) | (refine useK (by assumption) ?_) | (with_reducible refine SP.block ?_) | (with_reducible refine thenK_exit ?_) | (with_reducible refine thenK_ret ?_) | (with_reducible refine blockK_normal ?_) | (with_reducible refine blockK_ret ?_) | (with_reducible refine blockK_eq ?_) | (with_reducible refine blockK_ne rfl ?_) | (with_reducible refine SP.skip ?_) | (with_reducible refine SP.ret ?_) | (with_reducible refine SP.exit ?_) | ((with_reducible show SP _ _ _ (Code.cond _ _ _) _ _ _); first | (refine SP.condT rfl (by first | rfl | (simp only [decide_eq_true_eq, beq_iff_eq, bne_iff_ne]; first | done | omega)) ?_) | (refine SP.condF rfl (by first | rfl | (simp only [decide_eq_false_iff_not, beq_eq_false_iff_ne, bne_eq_false_iff_eq]; first | done | omega)) ?_)))
      have hq := hendi.out; clear hendi; subst hq
      repeat (first | ((with_reducible refine SP.region (id := 6) ?_); refine SL.sub ?_ (List.Sublist.cons _ (List.Sublist.refl _)); refine SL.e tabOk ?_; refine SL.e tabOk ?_; refine SL.e tabOk ?_; (with_reducible refine SL.nil ?_)) | ((with_reducible refine SP.region (id := 13) ?_); refine SL.e tabOk ?_; refine SL.e tabOk ?_; refine SL.e tabOk ?_; (with_reducible refine SL.nil ?_)) | ((with_reducible refine SP.seqK ?_); intro _ _) | (with_reducible refine thenK_normal ?_) | (refine useK (by assumption) ?_) | (with_reducible refine SP.block ?_) | (with_reducible refine thenK_exit ?_) | (with_reducible refine thenK_ret ?_) | (with_reducible refine blockK_normal ?_) | (with_reducible refine blockK_ret ?_) | (with_reducible refine blockK_eq ?_) | (with_reducible refine blockK_ne rfl ?_) | (with_reducible refine SP.skip ?_) | (with_reducible refine SP.ret ?_) | (with_reducible refine SP.exit ?_) | ((with_reducible show SP _ _ _ (Code.cond _ _ _) _ _ _); first | (refine SP.condT rfl (by first | rfl | (simp only [decide_eq_true_eq, beq_iff_eq, bne_iff_ne]; first | done | omega)) ?_) | (refine SP.condF rfl (by first | rfl | (simp only [decide_eq_false_iff_not, beq_eq_false_iff_ne, bne_eq_false_iff_eq]; first | done | omega)) ?_)))
      simp only [fk, fa]
      exact ⟨hltk, rfl, by rw [show 64 * k + (z - 64 * k) = min (64 * (k + 1)) n by omega]⟩
  · have hendk : k = (n + 63) / 64 := by omega
    replace hendk := Lib.hid hendk
    have hmm : min (64 * k) n = n := by have := hendk.out; omega
    rw [hmm]
    repeat (first | ((with_reducible refine SP.region (id := 5) ?_); refine SL.e tabOk ?_; refine SL.e tabOk ?_; refine SL.v (ValO.len tabOk (by rfl)) ?_; refine SL.e tabOk ?_; (with_reducible refine SL.nil ?_)) | ((with_reducible refine SP.region (id := 14) ?_); refine SL.e tabOk ?_; refine SL.e tabOk ?_; refine SL.e tabOk ?_; (with_reducible refine SL.nil ?_)) | ((with_reducible refine SP.seqK ?_); intro _ _) | (with_reducible refine thenK_normal ?_) | (refine useK (by assumption) ?_) | (with_reducible refine SP.block ?_) | (with_reducible refine thenK_exit ?_) | (with_reducible refine thenK_ret ?_) | (with_reducible refine blockK_normal ?_) | (with_reducible refine blockK_ret ?_) | (with_reducible refine blockK_eq ?_) | (with_reducible refine blockK_ne rfl ?_) | (with_reducible refine SP.skip ?_) | (with_reducible refine SP.ret ?_) | (with_reducible refine SP.exit ?_) | ((with_reducible show SP _ _ _ (Code.cond _ _ _) _ _ _); first | (refine SP.condT rfl (by first | rfl | (simp only [decide_eq_true_eq, beq_iff_eq, bne_iff_ne]; first | done | omega)) ?_) | (refine SP.condF rfl (by first | rfl | (simp only [decide_eq_false_iff_not, beq_eq_false_iff_ne, bne_eq_false_iff_eq]; first | done | omega)) ?_)))
    have hx := xoP_all K ct N B
    rw [hlen] at hx
    exact doneK.mk rfl (ResO.tmp2 rfl rfl) ⟨xb, rfl, by rw [hx]; exact sub1⟩
end Sp

end Go.Proofs.Ytpighhoehhilkaa
