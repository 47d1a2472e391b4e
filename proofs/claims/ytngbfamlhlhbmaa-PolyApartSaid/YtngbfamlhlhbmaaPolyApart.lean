/-
  PolyApart: two tags of the same bytes are as far from each other as both s. No conditions.
-/
import Derived.Test.YtngbfamlhlhbmaaPolyS
import Derived.Test.YtngbfamlhlhbmaaLawS
import Derived.Test.YtngbfamlhlhbmaaPolyK
namespace Go.Proofs.Ytngbfamlhlhbmaa
set_option linter.unusedSimpArgs false
set_option linter.unusedVariables false
open Go Go.RowKit

open Go.ChangeShapes Go.WideShapes Go.ChangeAt Sp F M
@[irreducible] def leS (a b : List Int) (i : Nat) (s : Int × List Int) : Int × List Int :=
  if IntKind.i64.wrap (IntKind.i64.wrap (IntKind.i64.wrap (gi a i) - IntKind.i64.wrap (gi b i)) - s.1) < 0 then (1, s.2.set i (IntKind.u8.wrap (IntKind.i64.wrap (IntKind.i64.wrap (IntKind.i64.wrap (IntKind.i64.wrap (gi a i) - IntKind.i64.wrap (gi b i)) - s.1) + 256)))) else (0, s.2.set i (IntKind.u8.wrap (IntKind.i64.wrap (IntKind.i64.wrap (IntKind.i64.wrap (gi a i) - IntKind.i64.wrap (gi b i)) - s.1))))
theorem leS_length (a b : List Int) (i : Nat) (s : Int × List Int) : (leS a b i s).2.length = s.2.length := by unfold leS; split <;> simp
def leI' (a b : List Int) : Nat → Int × List Int
  | 0 => (0, List.replicate 16 0)
  | i + 1 => leS a b i (leI' a b i)
@[irreducible] def leI (a b : List Int) (i : Nat) : Int × List Int := leI' a b i
theorem leI_0 (a b : List Int) : leI a b 0 = (0, List.replicate 16 0) := by unfold leI; rfl
theorem leI_s (a b : List Int) (i : Nat) : leI a b (i + 1) = leS a b i (leI a b i) := by unfold leI; rfl
theorem leI_length (a b : List Int) : ∀ i, (leI a b i).2.length = 16
  | 0 => by simp [leI_0]
  | i + 1 => by rw [leI_s, leS_length, leI_length a b i]
attribute [simp] leI_length
theorem leI_val {a b : List Int} (ha : Byts a) (hb : Byts b) : ∀ i, i ≤ 16 → ((leI a b i).1 = 0 ∨ (leI a b i).1 = 1) ∧ Byts (leI a b i).2 ∧ (∀ j, i ≤ j → gi (leI a b i).2 j = 0) ∧ sumN 256 (gi (leI a b i).2) i = sumN 256 (gi a) i - sumN 256 (gi b) i + (leI a b i).1 * 256 ^ i
  | 0, _ => by rw [leI_0]; exact ⟨.inl rfl, byts_rep 16, fun j _ => gi_rep 16 j, by simp [sumN]⟩
  | i + 1, hi => by
    obtain ⟨h1, h2, h3, h4⟩ := leI_val ha hb i (by omega)
    have xa := ha i
    have xb := hb i
    have hl := leI_length a b i
    rw [leI_s]
    generalize leI a b i = s at *
    have ex : IntKind.i64.wrap (IntKind.i64.wrap (IntKind.i64.wrap (gi a i) - IntKind.i64.wrap (gi b i)) - s.1) = gi a i - gi b i - s.1 := by rw [wrap_in (x := gi a i) (by omega) (by omega), wrap_in (x := gi b i) (by omega) (by omega), wrap_in (x := gi a i - gi b i) (by omega) (by omega), wrap_in (by omega) (by omega)]
    have key : ∀ v : Int, 0 ≤ v → v < 256 → ∀ d : Int, v = gi a i - gi b i - s.1 + d * 256 → Byts (s.2.set i v) ∧ (∀ j, i + 1 ≤ j → gi (s.2.set i v) j = 0) ∧ sumN 256 (gi (s.2.set i v)) (i + 1) = sumN 256 (gi a) (i + 1) - sumN 256 (gi b) (i + 1) + d * 256 ^ (i + 1) := by
      intro v v0 v1 d hd
      refine ⟨fun j => ?_, fun j hj => by rw [gi_upd _ _ _ _ (by omega)]; exact h3 j (by omega), ?_⟩
      · by_cases hj : j = i
        · subst hj; rw [gi_same _ _ _ (by omega)]; omega
        · rw [gi_upd _ _ _ _ hj]; exact h2 j
      · simp only [sumN]
        rw [sumN_congr (g := gi s.2) (fun j hj => gi_upd _ _ _ _ (by omega)), gi_same _ _ _ (by omega), h4, hd, Int.pow_succ]
        grind
    unfold leS
    rw [ex]
    by_cases hc : gi a i - gi b i - s.1 < 0
    · rw [if_pos hc, wrap_in (x := gi a i - gi b i - s.1 + 256) (by omega) (by omega), IntKind.wrap_u8, Int.emod_eq_of_lt (by omega) (by omega)]
      exact ⟨.inr rfl, key _ (by omega) (by omega) 1 (by omega)⟩
    · rw [if_neg hc, IntKind.wrap_u8, Int.emod_eq_of_lt (by omega) (by omega)]
      exact ⟨.inl rfl, key _ (by omega) (by omega) 0 (by omega)⟩
theorem digN_congr {x y : Int} (h : x % 256 ^ 16 = y % 256 ^ 16) : digN 16 x = digN 16 y := by
  have e : ∀ z, digN 16 z = digN 16 (z % 256 ^ 16) := fun z => by
    have := eq_digN (n := 16) (digN_length 16 z) (digN_dig 16 z)
    rwa [digN_sum] at this
  rw [e x, e y, h]
theorem le_val {a b : List Int} (ha : Byts a) (hb : Byts b) : (leI a b 16).2 = digN 16 (sumN 256 (gi a) 16 - sumN 256 (gi b) 16) := by
  obtain ⟨h1, h2, _, h4⟩ := leI_val ha hb 16 (Nat.le_refl _)
  rw [eq_digN (n := 16) (leI_length a b 16) (fun i _ => h2 i), h4]
  exact digN_congr (by rw [Int.mul_comm, Int.add_mul_emod_self_left])

set_option maxRecDepth 20000 in
set_option maxHeartbeats 1000000 in
theorem less_any (a b : List Int) (la : a.length = 16) (lb : b.length = 16) (w : World) : Calls Try.prog 23 #[.agg (ints .u8 a), .agg (ints .u8 b)] w fun e w' => e = .returned (.agg (ints .u8 (leI a b 16).2)) ∧ Below w.heap.size w w' := by
  have tok_ab : True := trivial
  have tok_bb : True := trivial
  have tok_ob : True := trivial
  have tok_tb : True := trivial
  refine pure_of_SP Try.func23 rfl [.agg (ints .u8 a), .agg (ints .u8 b), undef, undef, undef, undef, undef, undef, undef, undef, undef, undef, undef, undef, undef, undef, undef, undef, undef, undef, undef, undef, undef, undef, undef, undef, undef, undef, undef, undef, undef, undef, undef] (by simp only [Try.ntmps23, List.size_toArray, List.length_cons, List.length_nil, Nat.reduceAdd, Nat.reduceSub, Array.replicate_succ, Array.replicate_zero, List.push_toArray, List.append_toArray, List.nil_append, List.cons_append]) _ Try.results23 _ ?_
  repeat (first | ((with_reducible refine SP.region (id := 0) ?_); refine SL.bx ?_; (first | (have _t := tok_ab; clear _t tok_ab; intro ab) | (have _t := tok_bb; clear _t tok_bb; intro bb) | (have _t := tok_ob; clear _t tok_ob; intro ob) | (have _t := tok_tb; clear _t tok_tb; intro tb) | intro _); refine SL.bx ?_; (first | (have _t := tok_ab; clear _t tok_ab; intro ab) | (have _t := tok_bb; clear _t tok_bb; intro bb) | (have _t := tok_ob; clear _t tok_ob; intro ob) | (have _t := tok_tb; clear _t tok_tb; intro tb) | intro _); refine SL.al zero_26 ?_; (first | (have _t := tok_ab; clear _t tok_ab; intro ab) | (have _t := tok_bb; clear _t tok_bb; intro bb) | (have _t := tok_ob; clear _t tok_ob; intro ob) | (have _t := tok_tb; clear _t tok_tb; intro tb) | intro _); (with_reducible refine SL.nil ?_)) | ((with_reducible refine SP.region (id := 1) ?_); refine SL.al zero_26 ?_; (first | (have _t := tok_ab; clear _t tok_ab; intro ab) | (have _t := tok_bb; clear _t tok_bb; intro bb) | (have _t := tok_ob; clear _t tok_ob; intro ob) | (have _t := tok_tb; clear _t tok_tb; intro tb) | intro _); (with_reducible refine SL.nil ?_)) | ((with_reducible refine SP.region (id := 2) ?_); refine SL.e tabOk ?_; (with_reducible refine SL.nil ?_)) | ((with_reducible refine SP.region (id := 3) ?_); refine SL.e tabOk ?_; (with_reducible refine SL.nil ?_)) | ((with_reducible refine SP.seqK ?_); intro _ _) | (with_reducible refine thenK_normal ?_) | (refine useK (by assumption) ?_) | (with_reducible refine SP.block ?_) | (with_reducible refine thenK_exit ?_) | (with_reducible refine thenK_ret ?_) | (with_reducible refine blockK_normal ?_) | (with_reducible refine blockK_ret ?_) | (with_reducible refine blockK_eq ?_) | (with_reducible refine blockK_ne rfl ?_) | (with_reducible refine SP.skip ?_) | (with_reducible refine SP.ret ?_) | (with_reducible refine SP.exit ?_) | ((with_reducible show SP _ _ _ (Code.cond _ _ _) _ _ _); first | (refine SP.condT rfl (by first | rfl | (simp only [decide_eq_true_eq, beq_iff_eq, bne_iff_ne]; first | done | omega)) ?_) | (refine SP.condF rfl (by first | rfl | (simp only [decide_eq_false_iff_not, beq_eq_false_iff_ne, bne_eq_false_iff_eq]; first | done | omega)) ?_)))
  refine SP.loopN (fun i l bs => l = [.agg (ints .u8 a), .agg (ints .u8 b), .pointer (some ⟨ab, 0, none⟩), .pointer (some ⟨bb, 0, none⟩), .pointer (some ⟨ob, 0, none⟩), .pointer (some ⟨tb, 0, none⟩), .int .i64 (leI a b i).1, .int .i64 ((i : Nat)), nth l 8, nth l 9, nth l 10, nth l 11, nth l 12, nth l 13, nth l 14, nth l 15, nth l 16, nth l 17, nth l 18, nth l 19, nth l 20, nth l 21, nth l 22, nth l 23, nth l 24, nth l 25, nth l 26, nth l 27, nth l 28, nth l 29, nth l 30, nth l 31, nth l 32] ∧ bs = [(tb, ints .u8 (leI a b i).2, 26), (ob, ints .u8 (List.replicate 16 0), 26), (bb, ints .u8 b, 26), (ab, ints .u8 a, 26)]) 16 ⟨(by first | rfl | (simp only [leI_0]; done) | (simp only [leI_0]; rfl) | (rw [leI_0]; rfl)), (by first | rfl | (simp only [leI_0]; done) | (simp only [leI_0]; rfl) | (rw [leI_0]; rfl))⟩ ?_
  rintro i lfi _ hki ⟨hli, rfl⟩
  refine SP.cast hli ?_
  clear hli
  by_cases hlti : i < 16
  · have hi1 : IntKind.i64.wrap ((i : Int) + 1) = ((i + 1 : Nat) : Int) := by rw [IntWalk.i64_in _ (by omega)]; omega
    by_cases hc : IntKind.i64.wrap (IntKind.i64.wrap (IntKind.i64.wrap (gi a i) - IntKind.i64.wrap (gi b i)) - (leI a b i).1) < 0
    · repeat (first | ((with_reducible refine SP.region (id := 4) ?_); refine SL.e tabOk ?_; refine SL.e tabOk ?_; (with_reducible refine SL.nil ?_)) | ((with_reducible refine SP.region (id := 5) ?_); refine SL.e tabOk ?_; refine SL.e tabOk ?_; refine SL.e tabOk ?_; (with_reducible refine SL.nil ?_)) | ((with_reducible refine SP.region (id := 7) ?_); refine SL.e tabOk ?_; (with_reducible refine SL.nil ?_)) | ((with_reducible refine SP.region (id := 8) ?_); refine SL.e tabOk ?_; refine SL.e tabOk ?_; (with_reducible refine SL.nil ?_)) | ((with_reducible refine SP.region (id := 9) ?_); refine SL.e tabOk ?_; refine SL.e tabOk ?_; refine SL.e tabOk ?_; (with_reducible refine SL.nil ?_)) | ((with_reducible refine SP.region (id := 10) ?_); refine SL.e tabOk ?_; (with_reducible refine SL.nil ?_)) | ((with_reducible refine SP.region (id := 11) ?_); refine SL.e tabOk ?_; refine SL.e tabOk ?_; refine SL.e tabOk ?_; refine SL.ixA tabOk ?_; refine SL.stI tabOk ?_; (with_reducible refine SL.nil ?_)) | ((with_reducible show SP _ _ _ (Code.region _ _ true) _ _ _); first | (refine SP_any (id := 6) [] [] ([]) [0, 1, 2, 3, 4, 5, 6, 7, 8, 9, 10, 11] follows (by kernel_rfl) (by first | (simp only [List.filterMap_cons, List.filterMap_nil, List.getElem?_cons_zero, List.getElem?_cons_succ, Option.map_some]; done) | (simp only [List.filterMap_cons, List.filterMap_nil, List.getElem?_cons_zero, List.getElem?_cons_succ, Option.map_some]; rfl)) (by first | exact Kept.nil | (simp [Kept]; done)) ?_; refine SF.p tabOk ?_; refine SF.ixA tabOk ?_; refine SF.ldI tabOk ?_; refine SF.e tabOk ?_; refine SF.p tabOk ?_; refine SF.ixA tabOk ?_; refine SF.ldI tabOk ?_; refine SF.e tabOk ?_; refine SF.e tabOk ?_; refine SF.p tabOk ?_; refine SF.e tabOk ?_; refine SF.p tabOk ?_; refine SF.done ?_)) | ((with_reducible refine SP.seqK ?_); intro _ _) | (with_reducible refine thenK_normal ?_) | (refine useK (by assumption) ?_) | (with_reducible refine SP.block ?_) | (with_reducible refine thenK_exit ?_) | (with_reducible refine thenK_ret ?_) | (with_reducible refine blockK_normal ?_) | (with_reducible refine blockK_ret ?_) | (with_reducible refine blockK_eq ?_) | (with_reducible refine blockK_ne rfl ?_) | (with_reducible refine SP.skip ?_) | (with_reducible refine SP.ret ?_) | (with_reducible refine SP.exit ?_) | ((with_reducible show SP _ _ _ (Code.cond _ _ _) _ _ _); first | (refine SP.condT rfl (by first | rfl | (simp only [decide_eq_true_eq, beq_iff_eq, bne_iff_ne]; first | done | omega)) ?_) | (refine SP.condF rfl (by first | rfl | (simp only [decide_eq_false_iff_not, beq_eq_false_iff_ne, bne_eq_false_iff_eq]; first | done | omega)) ?_)))
      simp only [hi1]
      exact ⟨hlti, (by rw [leI_s]; unfold leS; (try simp only [if_pos hc]); first | done | rfl), (by rw [leI_s]; unfold leS; (try simp only [if_pos hc]); first | done | rfl)⟩
    · repeat (first | ((with_reducible refine SP.region (id := 4) ?_); refine SL.e tabOk ?_; refine SL.e tabOk ?_; (with_reducible refine SL.nil ?_)) | ((with_reducible refine SP.region (id := 5) ?_); refine SL.e tabOk ?_; refine SL.e tabOk ?_; refine SL.e tabOk ?_; (with_reducible refine SL.nil ?_)) | ((with_reducible refine SP.region (id := 7) ?_); refine SL.e tabOk ?_; (with_reducible refine SL.nil ?_)) | ((with_reducible refine SP.region (id := 8) ?_); refine SL.e tabOk ?_; refine SL.e tabOk ?_; (with_reducible refine SL.nil ?_)) | ((with_reducible refine SP.region (id := 11) ?_); refine SL.e tabOk ?_; refine SL.e tabOk ?_; refine SL.e tabOk ?_; refine SL.ixA tabOk ?_; refine SL.stI tabOk ?_; (with_reducible refine SL.nil ?_)) | ((with_reducible show SP _ _ _ (Code.region _ _ true) _ _ _); first | (refine SP_any (id := 6) [] [] ([]) [0, 1, 2, 3, 4, 5, 6, 7, 8, 9, 10, 11] follows (by kernel_rfl) (by first | (simp only [List.filterMap_cons, List.filterMap_nil, List.getElem?_cons_zero, List.getElem?_cons_succ, Option.map_some]; done) | (simp only [List.filterMap_cons, List.filterMap_nil, List.getElem?_cons_zero, List.getElem?_cons_succ, Option.map_some]; rfl)) (by first | exact Kept.nil | (simp [Kept]; done)) ?_; refine SF.p tabOk ?_; refine SF.ixA tabOk ?_; refine SF.ldI tabOk ?_; refine SF.e tabOk ?_; refine SF.p tabOk ?_; refine SF.ixA tabOk ?_; refine SF.ldI tabOk ?_; refine SF.e tabOk ?_; refine SF.e tabOk ?_; refine SF.p tabOk ?_; refine SF.e tabOk ?_; refine SF.p tabOk ?_; refine SF.done ?_)) | ((with_reducible refine SP.seqK ?_); intro _ _) | (with_reducible refine thenK_normal ?_) | (refine useK (by assumption) ?_) | (with_reducible refine SP.block ?_) | (with_reducible refine thenK_exit ?_) | (with_reducible refine thenK_ret ?_) | (with_reducible refine blockK_normal ?_) | (with_reducible refine blockK_ret ?_) | (with_reducible refine blockK_eq ?_) | (with_reducible refine blockK_ne rfl ?_) | (with_reducible refine SP.skip ?_) | (with_reducible refine SP.ret ?_) | (with_reducible refine SP.exit ?_) | ((with_reducible show SP _ _ _ (Code.cond _ _ _) _ _ _); first | (refine SP.condT rfl (by first | rfl | (simp only [decide_eq_true_eq, beq_iff_eq, bne_iff_ne]; first | done | omega)) ?_) | (refine SP.condF rfl (by first | rfl | (simp only [decide_eq_false_iff_not, beq_eq_false_iff_ne, bne_eq_false_iff_eq]; first | done | omega)) ?_)))
      simp only [hi1]
      exact ⟨hlti, (by rw [leI_s]; unfold leS; (try simp only [if_neg hc]); first | done | rfl), (by rw [leI_s]; unfold leS; (try simp only [if_neg hc]); first | done | rfl)⟩
  · have hendi : i = 16 := by omega
    replace hendi := Lib.hid hendi
    repeat (first | ((with_reducible refine SP.region (id := 4) ?_); refine SL.e tabOk ?_; refine SL.e tabOk ?_; (with_reducible refine SL.nil ?_)) | ((with_reducible refine SP.seqK ?_); intro _ _) | (with_reducible refine thenK_normal ?_) | (refine useK (by assumption) ?_) | (with_reducible refine SP.block ?_) | (with_reducible refine thenK_exit ?_) | (with_reducible refine thenK_ret ?_) | (with_reducible refine blockK_normal ?_) | (with_reducible refine blockK_ret ?_) | (with_reducible refine blockK_eq ?_) | (with_reducible refine blockK_ne rfl ?_) | (with_reducible refine SP.skip ?_) | (with_reducible refine SP.ret ?_) | (with_reducible refine SP.exit ?_) | ((with_reducible show SP _ _ _ (Code.cond _ _ _) _ _ _); first | (refine SP.condT rfl (by first | rfl | (simp only [decide_eq_true_eq, beq_iff_eq, bne_iff_ne]; first | done | omega)) ?_) | (refine SP.condF rfl (by first | rfl | (simp only [decide_eq_false_iff_not, beq_eq_false_iff_ne, bne_eq_false_iff_eq]; first | done | omega)) ?_)))
    have hq := hendi.out; clear hendi; subst hq
    repeat (first | ((with_reducible refine SP.region (id := 12) ?_); refine SL.ldR tabOk ?_; refine SL.stR tabOk ?_; (with_reducible refine SL.nil ?_)) | ((with_reducible refine SP.seqK ?_); intro _ _) | (with_reducible refine thenK_normal ?_) | (refine useK (by assumption) ?_) | (with_reducible refine SP.block ?_) | (with_reducible refine thenK_exit ?_) | (with_reducible refine thenK_ret ?_) | (with_reducible refine blockK_normal ?_) | (with_reducible refine blockK_ret ?_) | (with_reducible refine blockK_eq ?_) | (with_reducible refine blockK_ne rfl ?_) | (with_reducible refine SP.skip ?_) | (with_reducible refine SP.ret ?_) | (with_reducible refine SP.exit ?_) | ((with_reducible show SP _ _ _ (Code.cond _ _ _) _ _ _); first | (refine SP.condT rfl (by first | rfl | (simp only [decide_eq_true_eq, beq_iff_eq, bne_iff_ne]; first | done | omega)) ?_) | (refine SP.condF rfl (by first | rfl | (simp only [decide_eq_false_iff_not, beq_eq_false_iff_ne, bne_eq_false_iff_eq]; first | done | omega)) ?_)))
    refine doneK.mk rfl (ResO.cell tabOk rfl rfl rfl (by first | exact RdA.own g0 | exact RdA.own g1 | exact RdA.own g2 | exact RdA.own g3 | exact RdA.own g4 | exact RdA.own g5 | exact RdA.own g6 | exact RdA.own g7 | exact RdA.own g8 | exact RdA.own g9 | exact RdA.own g10 | exact RdA.own g11 | exact RdA.own g12 | exact RdA.own g13 | exact RdA.own g14 | exact RdA.own g15) (by first | (simp [ints_size]; done) | (simp [ints_size]; omega))) rfl
def ksI' (K S : List Int) : Nat → List Int
  | 0 => K
  | i + 1 => (ksI' K S i).set (16 + i) (gi S i)
@[irreducible] def ksI (K S : List Int) (i : Nat) : List Int := ksI' K S i
theorem ksI_0 (K S : List Int) : ksI K S 0 = K := by unfold ksI; rfl
theorem ksI_s (K S : List Int) (i : Nat) : ksI K S (i + 1) = (ksI K S i).set (16 + i) (gi S i) := by unfold ksI; rfl
theorem ksI_length (K S : List Int) : ∀ i, (ksI K S i).length = K.length
  | 0 => by rw [ksI_0]
  | i + 1 => by rw [ksI_s]; simp [ksI_length K S i]
attribute [simp] ksI_length
theorem ksI_gi {K S : List Int} (hK : K.length = 32) : ∀ n, n ≤ 16 → ∀ j, gi (ksI K S n) j = if 16 ≤ j ∧ j < 16 + n then gi S (j - 16) else gi K j
  | 0, _, j => by rw [ksI_0, if_neg (by omega)]
  | n + 1, hn, j => by
    rw [ksI_s]
    by_cases hj : j = 16 + n
    · subst hj; rw [gi_same _ _ _ (by simp; omega), if_pos (by omega), show 16 + n - 16 = n by omega]
    · rw [gi_upd _ _ _ _ hj, ksI_gi hK n (by omega)]
      by_cases h : 16 ≤ j ∧ j < 16 + n
      · rw [if_pos h, if_pos (by omega)]
      · rw [if_neg h, if_neg (by omega)]
theorem ksI_byts {K S : List Int} (hl : K.length = 32) (hK : Byts K) (hS : Byts S) : Byts (ksI K S 16) := fun j => by
  rw [ksI_gi hl 16 (Nat.le_refl _)]
  split
  · exact hS _
  · exact hK _
theorem ksI_rV {K S : List Int} (hl : K.length = 32) : rV (ksI K S 16) = rV K := sumN_congr fun i hi => by
  show clB (gi (ksI K S 16) i) i = clB (gi K i) i
  rw [ksI_gi hl 16 (Nat.le_refl _), if_neg (by omega)]
theorem ksI_sV {K S : List Int} (hl : K.length = 32) : sV (ksI K S 16) = sumN 256 (gi S) 16 := sumN_congr fun i hi => by
  rw [ksI_gi hl 16 (Nat.le_refl _), if_pos (by omega), show 16 + i - 16 = i by omega]
theorem digN_byts (n : Nat) (v : Int) : Byts (digN n v) := fun j => by
  by_cases h : j < n
  · rw [digN_gi v h]; omega
  · rw [gi_over _ _ (by simp; omega)]; omega
theorem apart_eq {K S : List Int} (B : List Int) (hl : K.length = 32) (hS : Byts S) : (leI (tg K B) (tg (ksI K S 16) B) 16).2 = (leI (digN 16 (sV K)) S 16).2 := by
  have bt : ∀ L, Byts (tg L B) := fun L => by unfold tg; exact digN_byts 16 _
  rw [le_val (bt _) (bt _), le_val (digN_byts 16 _) hS]
  refine digN_congr ?_
  unfold tg
  rw [digN_sum, digN_sum, digN_sum]
  have e : tagV K B - tagV (ksI K S 16) B = sV K - sumN 256 (gi S) 16 := by
    unfold tagV
    rw [hm_same B (ksI_rV hl), ksI_sV hl]
    omega
  rw [← Int.sub_emod, e, Int.sub_emod (sV K % 256 ^ 16), Int.emod_emod_of_dvd _ (Int.dvd_refl _), ← Int.sub_emod]
attribute [simp] digN_length

set_option maxRecDepth 20000 in
set_option maxHeartbeats 2000000 in
theorem polyApart_walk (K : List Int) (hK : K.length = 32) (hKb : Byts K) (S : List Int) (hsl : S.length = 16) (hsb : Byts S) (p : Option Addr) (n c : Nat) (B : List Int) {w : World} (hS : Sl w p n c B) (hB : Byts B) (hn : n ≤ 140737488351232) :
    Calls Try.prog 9 #[.agg (ints .u8 K), .agg (ints .u8 S), .slice p n c] w fun e w' => e = .returned (.bool true) ∧ Below w.heap.size w w' := by
  skip
  have tok_kb : True := trivial
  have tok_sb : True := trivial
  have tok_cb : True := trivial
  refine pure_of_SP Try.func9 rfl [.agg (ints .u8 K), .agg (ints .u8 S), .slice p n c, undef, undef, undef, undef, undef, undef, undef, undef, undef, undef, undef, undef, undef, undef, undef, undef, undef, undef, undef, undef, undef, undef, undef, undef, undef, undef, undef, undef, undef, undef, undef] (by simp only [Try.ntmps9, List.size_toArray, List.length_cons, List.length_nil, Nat.reduceAdd, Nat.reduceSub, Array.replicate_succ, Array.replicate_zero, List.push_toArray, List.append_toArray, List.nil_append, List.cons_append]) _ Try.results9 _ ?_
  repeat (first | ((with_reducible refine SP.region (id := 0) ?_); refine SL.bx ?_; (first | (have _t := tok_kb; clear _t tok_kb; intro kb) | (have _t := tok_sb; clear _t tok_sb; intro sb) | (have _t := tok_cb; clear _t tok_cb; intro cb) | intro _); refine SL.bx ?_; (first | (have _t := tok_kb; clear _t tok_kb; intro kb) | (have _t := tok_sb; clear _t tok_sb; intro sb) | (have _t := tok_cb; clear _t tok_cb; intro cb) | intro _); refine SL.e tabOk ?_; (with_reducible refine SL.nil ?_)) | ((with_reducible refine SP.region (id := 1) ?_); refine SL.v (ValO.call ent_18 _ rfl _ (fun w1 hw1 => works_any w1)) ?_; refine SL.e tabOk ?_; (with_reducible refine SL.nil ?_)) | ((with_reducible refine SP.region (id := 3) ?_); refine SL.ldR tabOk ?_; refine SL.al zero_23 ?_; (first | (have _t := tok_kb; clear _t tok_kb; intro kb) | (have _t := tok_sb; clear _t tok_sb; intro sb) | (have _t := tok_cb; clear _t tok_cb; intro cb) | intro _); refine SL.stR tabOk ?_; (with_reducible refine SL.nil ?_)) | ((with_reducible refine SP.region (id := 4) ?_); refine SL.e tabOk ?_; (with_reducible refine SL.nil ?_)) | ((with_reducible refine SP.seqK ?_); intro _ _) | (with_reducible refine thenK_normal ?_) | (refine useK (by assumption) ?_) | (with_reducible refine SP.block ?_) | (with_reducible refine thenK_exit ?_) | (with_reducible refine thenK_ret ?_) | (with_reducible refine blockK_normal ?_) | (with_reducible refine blockK_ret ?_) | (with_reducible refine blockK_eq ?_) | (with_reducible refine blockK_ne rfl ?_) | (with_reducible refine SP.skip ?_) | (with_reducible refine SP.ret ?_) | (with_reducible refine SP.exit ?_) | ((with_reducible show SP _ _ _ (Code.cond _ _ _) _ _ _); first | (refine SP.condT rfl (by first | rfl | (simp only [decide_eq_true_eq, beq_iff_eq, bne_iff_ne]; first | done | omega)) ?_) | (refine SP.condF rfl (by first | rfl | (simp only [decide_eq_false_iff_not, beq_eq_false_iff_ne, bne_eq_false_iff_eq]; first | done | omega)) ?_)))
  refine SP.loopN (fun k l bs => l = [.agg (ints .u8 K), .agg (ints .u8 S), .slice p n c, .pointer (some ⟨kb, 0, none⟩), .pointer (some ⟨sb, 0, none⟩), nth l 5, nth l 6, .pointer (some ⟨cb, 0, none⟩), .int .i64 ((k : Nat)), nth l 9, nth l 10, nth l 11, nth l 12, nth l 13, nth l 14, nth l 15, nth l 16, nth l 17, nth l 18, nth l 19, nth l 20, nth l 21, nth l 22, nth l 23, nth l 24, nth l 25, nth l 26, nth l 27, nth l 28, nth l 29, nth l 30, nth l 31, nth l 32, nth l 33] ∧ bs = [(cb, ints .u8 (ksI K S k), 23), (sb, ints .u8 S, 26), (kb, ints .u8 K, 23)]) 16 ⟨(by first | rfl | (simp only [ksI_0]; done) | (simp only [ksI_0]; rfl) | (rw [ksI_0]; rfl)), (by first | rfl | (simp only [ksI_0]; done) | (simp only [ksI_0]; rfl) | (rw [ksI_0]; rfl))⟩ ?_
  rintro k lfk _ hkk ⟨hlk, rfl⟩
  refine SP.cast hlk ?_
  clear hlk
  by_cases hltk : k < 16
  · have hk1 : IntKind.i64.wrap ((k : Int) + 1) = ((k + 1 : Nat) : Int) := by rw [IntWalk.i64_in _ (by omega)]; omega
    have f16 : IntKind.i64.wrap (16 + (k : Int)) = ((16 + k : Nat) : Int) := by rw [IntWalk.i64_in _ (by omega)]; omega
    repeat (first | ((with_reducible refine SP.region (id := 5) ?_); refine SL.e tabOk ?_; refine SL.e tabOk ?_; (with_reducible refine SL.nil ?_)) | ((with_reducible refine SP.region (id := 6) ?_); refine SL.e tabOk ?_; refine SL.e tabOk ?_; refine SL.e tabOk ?_; (with_reducible refine SL.nil ?_)) | ((with_reducible refine SP.region (id := 7) ?_); refine SL.e tabOk ?_; refine SL.e tabOk ?_; refine SL.e tabOk ?_; refine SL.ixA tabOk ?_ (hm := by first | (simp only [f16, Nat.zero_add, Nat.mul_one, Nat.one_mul, Int.toNat_natCast]; done) | (simp only [f16, Nat.zero_add, Nat.mul_one, Nat.one_mul, Int.toNat_natCast]; rfl) | rfl); refine SL.ldI tabOk ?_; refine SL.ixA tabOk ?_ (hm := by first | (simp only [f16, Nat.zero_add, Nat.mul_one, Nat.one_mul, Int.toNat_natCast]; done) | (simp only [f16, Nat.zero_add, Nat.mul_one, Nat.one_mul, Int.toNat_natCast]; rfl) | rfl); refine SL.stI tabOk ?_; (with_reducible refine SL.nil ?_)) | ((with_reducible refine SP.seqK ?_); intro _ _) | (with_reducible refine thenK_normal ?_) | (refine useK (by assumption) ?_) | (with_reducible refine SP.block ?_) | (with_reducible refine thenK_exit ?_) | (with_reducible refine thenK_ret ?_) | (with_reducible refine blockK_normal ?_) | (with_reducible refine blockK_ret ?_) | (with_reducible refine blockK_eq ?_) | (with_reducible refine blockK_ne rfl ?_) | (with_reducible refine SP.skip ?_) | (with_reducible refine SP.ret ?_) | (with_reducible refine SP.exit ?_) | ((with_reducible show SP _ _ _ (Code.cond _ _ _) _ _ _); first | (refine SP.condT rfl (by first | rfl | (simp only [decide_eq_true_eq, beq_iff_eq, bne_iff_ne]; first | done | omega)) ?_) | (refine SP.condF rfl (by first | rfl | (simp only [decide_eq_false_iff_not, beq_eq_false_iff_ne, bne_eq_false_iff_eq]; first | done | omega)) ?_)))
    simp only [hk1]
    exact ⟨hltk, (by first | rfl | (simp only [ksI_s]; done) | (simp only [ksI_s]; rfl) | (rw [ksI_s]; rfl)), (by first | rfl | (simp only [ksI_s]; done) | (simp only [ksI_s]; rfl) | (rw [ksI_s]; rfl))⟩
  · have hendk : k = 16 := by omega
    replace hendk := Lib.hid hendk
    repeat (first | ((with_reducible refine SP.region (id := 5) ?_); refine SL.e tabOk ?_; refine SL.e tabOk ?_; (with_reducible refine SL.nil ?_)) | ((with_reducible refine SP.seqK ?_); intro _ _) | (with_reducible refine thenK_normal ?_) | (refine useK (by assumption) ?_) | (with_reducible refine SP.block ?_) | (with_reducible refine thenK_exit ?_) | (with_reducible refine thenK_ret ?_) | (with_reducible refine blockK_normal ?_) | (with_reducible refine blockK_ret ?_) | (with_reducible refine blockK_eq ?_) | (with_reducible refine blockK_ne rfl ?_) | (with_reducible refine SP.skip ?_) | (with_reducible refine SP.ret ?_) | (with_reducible refine SP.exit ?_) | ((with_reducible show SP _ _ _ (Code.cond _ _ _) _ _ _); first | (refine SP.condT rfl (by first | rfl | (simp only [decide_eq_true_eq, beq_iff_eq, bne_iff_ne]; first | done | omega)) ?_) | (refine SP.condF rfl (by first | rfl | (simp only [decide_eq_false_iff_not, beq_eq_false_iff_ne, bne_eq_false_iff_eq]; first | done | omega)) ?_)))
    have hq := hendk.out; clear hendk; subst hq
    repeat (first | ((with_reducible show SP _ _ _ (Code.region _ _ true) _ _ _); first | (refine SP_any (id := 8) [] [] ([]) [0, 1, 2, 3, 4, 5, 6, 7, 8, 9, 10, 11, 12] follows (by kernel_rfl) (by first | (simp only [List.filterMap_cons, List.filterMap_nil, List.getElem?_cons_zero, List.getElem?_cons_succ, Option.map_some]; done) | (simp only [List.filterMap_cons, List.filterMap_nil, List.getElem?_cons_zero, List.getElem?_cons_succ, Option.map_some]; rfl)) (by first | exact Kept.nil | (simp [Kept]; done)) ?_; refine SF.ldR tabOk ?_; refine SF.p tabOk ?_; refine SF.v (ValO.call ent_15 _ rfl _ (fun w1 hw1 => ptag_h K (hK) (hKb) _ _ _ B hB w1 (hS.old hw1.below) (by omega))) ?_; refine SF.ldR tabOk ?_; refine SF.p tabOk ?_; refine SF.v (ValO.call ent_15 _ rfl _ (fun w1 hw1 => ptag_h (ksI K S 16) (by simp [hK]) (ksI_byts hK hKb hsb) _ _ _ B hB w1 (hS.old hw1.below) (by omega))) ?_; refine SF.v (ValO.call ent_23 _ rfl _ (fun w1 hw1 => less_any _ _ (by simp) (by simp) w1)) ?_; refine SF.ldR tabOk ?_; refine SF.v (ValO.call ent_22 _ rfl _ (fun w1 hw1 => tail_any K hK hKb w1)) ?_; refine SF.ldR tabOk ?_; refine SF.v (ValO.call ent_23 _ rfl _ (fun w1 hw1 => less_any _ _ (by simp) hsl w1)) ?_; refine SF.v (Sp.eqlT tabOk rfl rfl rfl rfl (by kernel_rfl) (by simp) (by simp) (apart_eq B hK hsb)) ?_; refine SF.p tabOk ?_; refine SF.done ?_)) | ((with_reducible refine SP.seqK ?_); intro _ _) | (with_reducible refine thenK_normal ?_) | (refine useK (by assumption) ?_) | (with_reducible refine SP.block ?_) | (with_reducible refine thenK_exit ?_) | (with_reducible refine thenK_ret ?_) | (with_reducible refine blockK_normal ?_) | (with_reducible refine blockK_ret ?_) | (with_reducible refine blockK_eq ?_) | (with_reducible refine blockK_ne rfl ?_) | (with_reducible refine SP.skip ?_) | (with_reducible refine SP.ret ?_) | (with_reducible refine SP.exit ?_) | ((with_reducible show SP _ _ _ (Code.cond _ _ _) _ _ _); first | (refine SP.condT rfl (by first | rfl | (simp only [decide_eq_true_eq, beq_iff_eq, bne_iff_ne]; first | done | omega)) ?_) | (refine SP.condF rfl (by first | rfl | (simp only [decide_eq_false_iff_not, beq_eq_false_iff_ne, bne_eq_false_iff_eq]; first | done | omega)) ?_)))
    exact doneK.mk rfl (ResO.tmp rfl) rfl

set_option maxRecDepth 100000 in
theorem PolyApart_lifted (os : Os) (started : os.Started) (H : Type) (enc : TypeId × Value → H) :
    ReturnsInHanded {} Try.checked os 9 .any (Rows.polyApartSpec.pre6 enc Try.prog Try.f9 Rows.polyApartRow.domain false) (Rows.polyApartSpec.post enc Try.prog Try.f9 false true false false) := by
  refine returnsInHanded_of_change_sized (C := Try.checked) (by kernel_rfl) started (by kernel_rfl) Try.func9
    (ChangeSpec.witness6 (enc := enc) (C := Try.checked) false ⟨#[], #[.agg (ints .u8 (List.replicate 32 0)), .agg (ints .u8 (List.replicate 16 0)), .slice none 0 0], []⟩ 8 (by kernel_rfl) (by kernel_rfl) (by kernel_rfl) (by kernel_rfl)) ?_
  intro W base args ds gs before hval0 hW hcnd hz0 _
  have hval : ∀ (j : Nat) t v, Try.f9.params[j]? = some t → args[j]? = some v → Value.okWide Try.prog W .any base t v := hval0
  have hW' := hW
  obtain ⟨p, q, hA0, hV, rfl, hfz, hnd⟩ := hW
  have hA : DataW.TrodAll enc Try.prog W 0 (fun _ => true) true Try.f9.params.toList args.toList ds p := hA0
  have hz : (DataW.weightsEach Try.prog (Try.f9.params.toList ++ []) (ds ++ gs)).all (· ≤ reachBytes) = true := hz0
  rw [Try.params9] at hA hval hz
  obtain ⟨v0, vs0, d0, ds0, p0, q0, hargs, rfl, rfl, h0, r0⟩ := trodAll_cons hA
  obtain ⟨v1, vs1, d1, ds1, p1, q1, rfl, rfl, rfl, h1, r1⟩ := trodAll_cons r0
  obtain ⟨v2, vs2, d2, ds2, p2, q2, rfl, rfl, rfl, h2, r2⟩ := trodAll_cons r1
  obtain ⟨rfl, rfl, rfl⟩ := trodAll_nil r2
  obtain rfl : args = #[v0, v1, v2] := by cases args; simp_all
  obtain ⟨rfl, rfl⟩ := trodVars_none hV
  have k0 := h0
  have k1 := h1
  have k2 := h2
  obtain ⟨a0, rfl, l0, w0, hp0⟩ := open_arr (k := .u8) (n := 32) Try.underlying23 Try.underlying5 (by kernel_rfl) (by kernel_rfl) (hval 0 23 v0 rfl rfl) h0
  obtain ⟨a1, rfl, l1, w1, hp1⟩ := open_arr (k := .u8) (n := 16) Try.underlying26 Try.underlying5 (by kernel_rfl) (by kernel_rfl) (hval 1 26 v1 rfl rfl) h1
  obtain ⟨s2, n2, c2, B2, rfl, S2, b2, m2, o2⟩ := open_bytes Try.underlying24 Try.underlying5 (by kernel_rfl) (hval 2 24 v2 rfl rfl) h2 (fun es sp he => sized_slice hz (j := 2) (by rfl) (by rw [he]; rfl) Try.underlying24)
  clear hA0 hval0 hz0 hz
  refine (polyApart_walk a0 l0 (byts_of w0) a1 l1 (byts_of w1) s2 n2 c2 B2 S2 b2 m2).mono fun e W' ⟨he, hg⟩ => ?_
  subst he
  exact ⟨_, rfl, _, _, _, _, _, _, hW', (trodAll_cons_mk (shut_bool Try.underlying4 _) trodAll_mk0), (trodAll_cons_mk (Below.trod Try.laidOut (by kernel_rfl) (of_decide_eq_true (by kernel_rfl)) k0 hg (trod_lt' k0)) (trodAll_cons_mk (Below.trod Try.laidOut (by kernel_rfl) (of_decide_eq_true (by kernel_rfl)) k1 hg (trod_lt' k1)) (trodAll_cons_mk (Below.trod Try.laidOut (by kernel_rfl) (of_decide_eq_true (by kernel_rfl)) k2 hg (trod_lt' k2)) trodAll_mk0))), rfl_vars, hg.frame _, fun h => by cases h⟩

theorem PolyApart_holds : Rows.PolyApartSaid :=
  OpenClaim.holds_of_wide 9 Try.f9 rfl rfl rfl rfl rfl rfl rfl ⟨rfl, rfl, rfl, rfl, rfl⟩ rfl rfl rfl rfl rfl (by kernel_rfl) Try.func9 (by kernel_rfl)
    (of_decide_eq_true (by kernel_rfl)) (by unfold Func.isWrapper; first | (rw [if_pos (by decide +kernel)]; kernel_rfl) | (rw [if_neg (by decide +kernel)]; exact ⟨rfl, rfl⟩))
    (fun os started H enc _ => PolyApart_lifted os started H enc)
#print axioms PolyApart_holds

end Go.Proofs.Ytngbfamlhlhbmaa
