/-
  PolyOne: with an r of 1 the tag of a short block is its bytes, 1, and s. No conditions.
-/
import Derived.Test.YtngbfamlhlhbmaaPolyS
import Derived.Test.YtngbfamlhlhbmaaLawS
namespace Go.Proofs.Ytngbfamlhlhbmaa
set_option linter.unusedSimpArgs false
set_option linter.unusedVariables false
open Go Go.RowKit

open Go.ChangeShapes Go.WideShapes Go.ChangeAt Sp F M
@[irreducible] def k1 : List Int := 1 :: List.replicate 31 0
theorem k1_len : k1.length = 32 := by unfold k1; rfl
attribute [simp] k1_len
theorem k1_byts : Byts k1 := by unfold k1; exact byts_cons (by omega) (byts_rep 31)
theorem k1_rV : rV k1 = 1 := by unfold k1; decide +kernel
theorem k1_sV : sV k1 = 0 := by unfold k1; decide +kernel
theorem k1_b : Try.prog.built 23 [(0, .int .u8 1)] = some (ints .u8 (k1)) := by unfold k1; kernel_rfl
def woI' (B : List Int) : Nat → List Int
  | 0 => List.replicate 16 0
  | i + 1 => (woI' B i).set i (gi B i)
@[irreducible] def woI (B : List Int) (i : Nat) : List Int := woI' B i
theorem woI_0 (B : List Int) : woI B 0 = List.replicate 16 0 := by unfold woI; rfl
theorem woI_s (B : List Int) (i : Nat) : woI B (i + 1) = (woI B i).set i (gi B i) := by unfold woI; rfl
theorem woI_length (B : List Int) : ∀ i, (woI B i).length = 16
  | 0 => by simp [woI_0]
  | i + 1 => by rw [woI_s]; simp [woI_length B i]
attribute [simp] woI_length
theorem woI_gi (B : List Int) : ∀ n, n ≤ 16 → ∀ j, gi (woI B n) j = if j < n then gi B j else 0
  | 0, _, j => by rw [woI_0, gi_rep]; simp
  | n + 1, hn, j => by
    rw [woI_s]
    by_cases hj : j = n
    · subst hj; rw [gi_same _ _ _ (by simp; omega), if_pos (by omega)]
    · rw [gi_upd _ _ _ _ hj, woI_gi B n (by omega)]
      by_cases h : j < n
      · rw [if_pos h, if_pos (by omega)]
      · rw [if_neg h, if_neg (by omega)]
theorem tg_one0 : tg k1 [] = List.replicate 16 0 := by
  unfold tg tagV
  rw [k1_sV]
  show digN 16 (0 + 0) = _
  decide +kernel
theorem tg_one {B : List Int} {m : Nat} (hB : Byts B) (h0 : 0 < m) (hm : m ≤ 15) (hl : m ≤ B.length) : tg k1 (B.take m) = (woI B m).set m 1 := by
  have hlen : (B.take m).length = m := by simp; omega
  have hb := byts_take hB m
  have hblk : blk (B.take m) 0 = B.take m := by
    unfold blk
    rw [Nat.mul_zero, List.drop_zero, List.take_of_length_le (by omega)]
  have hbv := blkV_lt hb (show (B.take m).length ≤ 16 by omega)
  have hdig : Dig 256 (gi ((woI B m).set m 1)) 16 := fun j _ => by
    by_cases hj : j = m
    · subst hj; rw [gi_same _ _ _ (by simp; omega)]; omega
    · rw [gi_upd _ _ _ _ hj, woI_gi B m (by omega)]
      split
      · exact hB j
      · omega
  have hsum : sumN 256 (gi ((woI B m).set m 1)) 16 = blkV (B.take m) := by
    unfold blkV
    rw [hlen]
    have e := sumN_cut (B := 256) (gi ((woI B m).set m 1)) (m + 1) (16 - (m + 1))
    rw [show m + 1 + (16 - (m + 1)) = 16 by omega] at e
    rw [← sumN_congr (f := fun i => if i < m + 1 then gi ((woI B m).set m 1) i else 0) (fun i hi => by
      split
      · rfl
      · rw [gi_upd _ _ _ _ (by omega), woI_gi B m (by omega), if_neg (by omega)]), e]
    simp only [sumN]
    rw [gi_same _ _ _ (by simp; omega), sumN_congr (g := gi (B.take m)) (fun i hi => by
      rw [gi_upd _ _ _ _ (by omega), woI_gi B m (by omega), if_pos hi]
      unfold gi
      rw [List.getD_eq_getElem?_getD, List.getD_eq_getElem?_getD, List.getElem?_take, if_pos hi]), Int.one_mul]
  have hq : blkV (B.take m) < QP := Int.lt_trans hbv.2 (by decide)
  have ht : tagV k1 (B.take m) = blkV (B.take m) := by
    unfold tagV
    rw [k1_sV, hlen, show (m + 15) / 16 = 1 by omega]
    show (0 + blkV (blk (B.take m) 0)) * rV k1 % QP + 0 = _
    rw [hblk, k1_rV, Int.mul_one, Int.zero_add, Int.emod_eq_of_lt hbv.1 hq, Int.add_zero]
  unfold tg
  rw [ht, ← hsum]
  exact (eq_digN (by simp) hdig).symm
set_option maxRecDepth 20000 in
set_option maxHeartbeats 2000000 in
theorem polyOne_none (m : Nat) {w : World} (hm : m = 0) :
    Calls Try.prog 10 #[.slice none 0 0] w fun e w' => e = .returned (.bool true) ∧ Below w.heap.size w w' := by
  have hmin : (if (15 : Int) < ((0 : Nat) : Int) then (15 : Int) else ((0 : Nat) : Int)) = (m : Int) := by rw [if_neg (by omega), hm]
  have htg := tg_one0
  have tok_wb : True := trivial
  refine pure_of_SP Try.func10 rfl [.slice none 0 0, undef, undef, undef, undef, undef, undef, undef, undef, undef, undef, undef, undef, undef, undef, undef, undef, undef, undef, undef, undef, undef, undef, undef, undef, undef, undef, undef, undef, undef, undef, undef, undef, undef, undef, undef, undef, undef] (by simp only [Try.ntmps10, List.size_toArray, List.length_cons, List.length_nil, Nat.reduceAdd, Nat.reduceSub, Array.replicate_succ, Array.replicate_zero, List.push_toArray, List.append_toArray, List.nil_append, List.cons_append]) _ Try.results10 _ ?_
  repeat (first | ((with_reducible refine SP.region (id := 0) ?_); refine SL.e tabOk ?_; (with_reducible refine SL.nil ?_)) | ((with_reducible refine SP.region (id := 1) ?_); refine SL.v (ValO.call ent_18 _ rfl _ (fun w1 hw1 => works_any w1)) ?_; refine SL.e tabOk ?_; (with_reducible refine SL.nil ?_)) | ((with_reducible refine SP.region (id := 3) ?_); refine SL.al zero_26 ?_; (first | (have _t := tok_wb; clear _t tok_wb; intro wb) | intro _); (with_reducible refine SL.nil ?_)) | ((with_reducible refine SP.region (id := 4) ?_); refine SL.e tabOk ?_; (with_reducible refine SL.nil ?_)) | ((with_reducible refine SP.seqK ?_); intro _ _) | (with_reducible refine thenK_normal ?_) | (refine useK (by assumption) ?_) | (with_reducible refine SP.block ?_) | (with_reducible refine thenK_exit ?_) | (with_reducible refine thenK_ret ?_) | (with_reducible refine blockK_normal ?_) | (with_reducible refine blockK_ret ?_) | (with_reducible refine blockK_eq ?_) | (with_reducible refine blockK_ne rfl ?_) | (with_reducible refine SP.skip ?_) | (with_reducible refine SP.ret ?_) | (with_reducible refine SP.exit ?_) | ((with_reducible show SP _ _ _ (Code.cond _ _ _) _ _ _); first | (refine SP.condT rfl (by first | rfl | (simp only [decide_eq_true_eq, beq_iff_eq, bne_iff_ne]; first | done | omega)) ?_) | (refine SP.condF rfl (by first | rfl | (simp only [decide_eq_false_iff_not, beq_eq_false_iff_ne, bne_eq_false_iff_eq]; first | done | omega)) ?_)))
  refine SP.loopN (fun k l bs => l = [.slice none 0 0, nth l 1, nth l 2, .pointer (some ⟨wb, 0, none⟩), .int .i64 ((k : Nat)), nth l 5, nth l 6, nth l 7, nth l 8, nth l 9, nth l 10, nth l 11, nth l 12, nth l 13, nth l 14, nth l 15, nth l 16, nth l 17, nth l 18, nth l 19, nth l 20, nth l 21, nth l 22, nth l 23, nth l 24, nth l 25, nth l 26, nth l 27, nth l 28, nth l 29, nth l 30, nth l 31, nth l 32, nth l 33, nth l 34, nth l 35, nth l 36, nth l 37] ∧ bs = [(wb, ints .u8 (woI [] k), 26)]) 0 ⟨(by first | rfl | (simp only [woI_0]; done) | (simp only [woI_0]; rfl) | (rw [woI_0]; rfl)), (by first | rfl | (simp only [woI_0]; done) | (simp only [woI_0]; rfl) | (rw [woI_0]; rfl))⟩ ?_
  rintro k lfk _ hkk ⟨hlk, rfl⟩
  refine SP.cast hlk ?_
  clear hlk
  by_cases hltk : k < 0
  · have hk1 : IntKind.i64.wrap ((k : Int) + 1) = ((k + 1 : Nat) : Int) := by rw [IntWalk.i64_in _ (by omega)]; omega
    omega
  · have hendk : k = 0 := by omega
    replace hendk := Lib.hid hendk
    repeat (first | ((with_reducible refine SP.region (id := 5) ?_); refine SL.e tabOk ?_; refine SL.e tabOk ?_; refine SL.v (ValO.len tabOk (by rfl)) ?_; (first | (refine SL.c true tabOk ?_) | (refine SL.c false tabOk ?_) | (refine SL.e tabOk ?_)); refine SL.e tabOk ?_; (first | (refine SL.gT ?_; refine SL.e tabOk ?_) | refine SL.gF ?_); (first | (refine SL.gT ?_; (first | (refine SL.c true tabOk ?_) | (refine SL.c false tabOk ?_) | (refine SL.e tabOk ?_))) | refine SL.gF ?_); refine SL.e tabOk ?_; (with_reducible refine SL.nil ?_)) | ((with_reducible refine SP.seqK ?_); intro _ _) | (with_reducible refine thenK_normal ?_) | (refine useK (by assumption) ?_) | (with_reducible refine SP.block ?_) | (with_reducible refine thenK_exit ?_) | (with_reducible refine thenK_ret ?_) | (with_reducible refine blockK_normal ?_) | (with_reducible refine blockK_ret ?_) | (with_reducible refine blockK_eq ?_) | (with_reducible refine blockK_ne rfl ?_) | (with_reducible refine SP.skip ?_) | (with_reducible refine SP.ret ?_) | (with_reducible refine SP.exit ?_) | ((with_reducible show SP _ _ _ (Code.cond _ _ _) _ _ _); first | (refine SP.condT rfl (by first | rfl | (simp only [decide_eq_true_eq, beq_iff_eq, bne_iff_ne]; first | done | omega)) ?_) | (refine SP.condF rfl (by first | rfl | (simp only [decide_eq_false_iff_not, beq_eq_false_iff_ne, bne_eq_false_iff_eq]; first | done | omega)) ?_)))
    have hq := hendk.out; clear hendk; subst hq
    rw [woI_0]
    repeat (first | ((with_reducible refine SP.region (id := 8) ?_); refine SL.e tabOk ?_; refine SL.v (ValO.len tabOk (by rfl)) ?_; refine SL.v (ValO.min _ _ _ rfl rfl _ hmin) ?_; refine SL.e tabOk ?_; (with_reducible refine SL.nil ?_)) | ((with_reducible refine SP.region (id := 9) ?_); refine SL.e tabOk ?_; refine SL.e tabOk ?_; (with_reducible refine SL.nil ?_)) | ((with_reducible show SP _ _ _ (Code.region _ _ true) _ _ _); first | (refine SP_any (id := 11) [] [] ([]) [0, 1, 2, 3, 4, 5, 6, 7] follows (by kernel_rfl) (by first | (simp only [List.filterMap_cons, List.filterMap_nil, List.getElem?_cons_zero, List.getElem?_cons_succ, Option.map_some]; done) | (simp only [List.filterMap_cons, List.filterMap_nil, List.getElem?_cons_zero, List.getElem?_cons_succ, Option.map_some]; rfl)) (by first | exact Kept.nil | (simp [Kept]; done)) ?_; refine SF.v (ValO.build (by first | (dsimp only [List.map, evL, nth]; done) | (dsimp only [List.map, evL, nth]; rfl)) k1_b) ?_; refine SF.p tabOk ?_; refine SF.p tabOk ?_; refine SF.v (ValO.cutN tabOk rfl rfl (by first | rfl | (simp [bnd, evL]; done) | (simp [bnd, evL, nth]; omega)) (by first | rfl | (simp [bnd, evL]; done) | (simp [bnd, evL, nth]; omega))) ?_; refine SF.v (ValO.call ent_15 _ rfl _ (fun w1 hw1 => ptag_h k1 k1_len k1_byts _ _ _ [] byts_nil w1 (Sl.nil w1 none 0) (Nat.zero_le _))) ?_; refine SF.ldR tabOk ?_; refine SF.v (Sp.eqlT tabOk rfl rfl rfl rfl (by kernel_rfl) (by simp) (by simp) (htg)) ?_; refine SF.p tabOk ?_; refine SF.done ?_)) | ((with_reducible refine SP.seqK ?_); intro _ _) | (with_reducible refine thenK_normal ?_) | (refine useK (by assumption) ?_) | (with_reducible refine SP.block ?_) | (with_reducible refine thenK_exit ?_) | (with_reducible refine thenK_ret ?_) | (with_reducible refine blockK_normal ?_) | (with_reducible refine blockK_ret ?_) | (with_reducible refine blockK_eq ?_) | (with_reducible refine blockK_ne rfl ?_) | (with_reducible refine SP.skip ?_) | (with_reducible refine SP.ret ?_) | (with_reducible refine SP.exit ?_) | ((with_reducible show SP _ _ _ (Code.cond _ _ _) _ _ _); first | (refine SP.condT rfl (by first | rfl | (simp only [decide_eq_true_eq, beq_iff_eq, bne_iff_ne]; first | done | omega)) ?_) | (refine SP.condF rfl (by first | rfl | (simp only [decide_eq_false_iff_not, beq_eq_false_iff_ne, bne_eq_false_iff_eq]; first | done | omega)) ?_)))
    exact doneK.mk rfl (ResO.tmp rfl) rfl
set_option maxRecDepth 20000 in
set_option maxHeartbeats 2000000 in
theorem polyOne_some (b0 off n c m : Nat) (B : List Int) {w : World} (hS : Sl w (some ⟨b0, off, none⟩) n c B) (hB : Byts B) (hn : n ≤ 140737488351232) (hm : m = min n 15) :
    Calls Try.prog 10 #[.slice (some ⟨b0, off, none⟩) n c] w fun e w' => e = .returned (.bool true) ∧ Below w.heap.size w w' := by
  have hlen := hS.len
  have hcap := hS.cap
  have hmn : m ≤ n := by omega
  have hm15 : m ≤ 15 := by omega
  have hmin : (if (15 : Int) < (n : Int) then (15 : Int) else (n : Int)) = (m : Int) := by split <;> omega
  have tok_wb : True := trivial
  refine pure_of_SP Try.func10 rfl [.slice (some ⟨b0, off, none⟩) n c, undef, undef, undef, undef, undef, undef, undef, undef, undef, undef, undef, undef, undef, undef, undef, undef, undef, undef, undef, undef, undef, undef, undef, undef, undef, undef, undef, undef, undef, undef, undef, undef, undef, undef, undef, undef, undef] (by simp only [Try.ntmps10, List.size_toArray, List.length_cons, List.length_nil, Nat.reduceAdd, Nat.reduceSub, Array.replicate_succ, Array.replicate_zero, List.push_toArray, List.append_toArray, List.nil_append, List.cons_append]) _ Try.results10 _ ?_
  repeat (first | ((with_reducible refine SP.region (id := 0) ?_); refine SL.e tabOk ?_; (with_reducible refine SL.nil ?_)) | ((with_reducible refine SP.region (id := 1) ?_); refine SL.v (ValO.call ent_18 _ rfl _ (fun w1 hw1 => works_any w1)) ?_; refine SL.e tabOk ?_; (with_reducible refine SL.nil ?_)) | ((with_reducible refine SP.region (id := 3) ?_); refine SL.al zero_26 ?_; (first | (have _t := tok_wb; clear _t tok_wb; intro wb) | intro _); (with_reducible refine SL.nil ?_)) | ((with_reducible refine SP.region (id := 4) ?_); refine SL.e tabOk ?_; (with_reducible refine SL.nil ?_)) | ((with_reducible refine SP.seqK ?_); intro _ _) | (with_reducible refine thenK_normal ?_) | (refine useK (by assumption) ?_) | (with_reducible refine SP.block ?_) | (with_reducible refine thenK_exit ?_) | (with_reducible refine thenK_ret ?_) | (with_reducible refine blockK_normal ?_) | (with_reducible refine blockK_ret ?_) | (with_reducible refine blockK_eq ?_) | (with_reducible refine blockK_ne rfl ?_) | (with_reducible refine SP.skip ?_) | (with_reducible refine SP.ret ?_) | (with_reducible refine SP.exit ?_) | ((with_reducible show SP _ _ _ (Code.cond _ _ _) _ _ _); first | (refine SP.condT rfl (by first | rfl | (simp only [decide_eq_true_eq, beq_iff_eq, bne_iff_ne]; first | done | omega)) ?_) | (refine SP.condF rfl (by first | rfl | (simp only [decide_eq_false_iff_not, beq_eq_false_iff_ne, bne_eq_false_iff_eq]; first | done | omega)) ?_)))
  refine SP.loopN (fun k l bs => l = [.slice (some ⟨b0, off, none⟩) n c, nth l 1, nth l 2, .pointer (some ⟨wb, 0, none⟩), .int .i64 ((k : Nat)), nth l 5, nth l 6, nth l 7, nth l 8, nth l 9, nth l 10, nth l 11, nth l 12, nth l 13, nth l 14, nth l 15, nth l 16, nth l 17, nth l 18, nth l 19, nth l 20, nth l 21, nth l 22, nth l 23, nth l 24, nth l 25, nth l 26, nth l 27, nth l 28, nth l 29, nth l 30, nth l 31, nth l 32, nth l 33, nth l 34, nth l 35, nth l 36, nth l 37] ∧ bs = [(wb, ints .u8 (woI B k), 26)]) m ⟨(by first | rfl | (simp only [woI_0]; done) | (simp only [woI_0]; rfl) | (rw [woI_0]; rfl)), (by first | rfl | (simp only [woI_0]; done) | (simp only [woI_0]; rfl) | (rw [woI_0]; rfl))⟩ ?_
  rintro k lfk _ hkk ⟨hlk, rfl⟩
  refine SP.cast hlk ?_
  clear hlk
  by_cases hltk : k < m
  · have hk1 : IntKind.i64.wrap ((k : Int) + 1) = ((k + 1 : Nat) : Int) := by rw [IntWalk.i64_in _ (by omega)]; omega
    obtain ⟨sb, o, A, T2, fz, hp, hsb, hL⟩ := hS.at_ (by omega)
    simp only [Option.some.injEq, Addr.mk.injEq, and_true] at hp
    obtain ⟨rfl, rfl⟩ := hp
    repeat (first | ((with_reducible refine SP.region (id := 5) ?_); refine SL.e tabOk ?_; refine SL.e tabOk ?_; refine SL.v (ValO.len tabOk (by rfl)) ?_; (first | (refine SL.c true tabOk ?_) | (refine SL.c false tabOk ?_) | (refine SL.e tabOk ?_)); refine SL.e tabOk ?_; (first | (refine SL.gT ?_; refine SL.e tabOk ?_) | refine SL.gF ?_); (first | (refine SL.gT ?_; (first | (refine SL.c true tabOk ?_) | (refine SL.c false tabOk ?_) | (refine SL.e tabOk ?_))) | refine SL.gF ?_); refine SL.e tabOk ?_; (with_reducible refine SL.nil ?_)) | ((with_reducible refine SP.region (id := 6) ?_); refine SL.e tabOk ?_; refine SL.e tabOk ?_; refine SL.e tabOk ?_; (with_reducible refine SL.nil ?_)) | ((with_reducible refine SP.region (id := 7) ?_); refine SL.e tabOk ?_; refine SL.e tabOk ?_; refine SL.e tabOk ?_; refine SL.ixS tabOk ?_; (first | (refine SL.ldI tabOk ?_) | (refine SL.ldC tabOk ?_ (hv := by first | exact (hL _ (by omega))))); refine SL.ixA tabOk ?_; refine SL.stI tabOk ?_; (with_reducible refine SL.nil ?_)) | ((with_reducible refine SP.seqK ?_); intro _ _) | (with_reducible refine thenK_normal ?_) | (refine useK (by assumption) ?_) | (with_reducible refine SP.block ?_) | (with_reducible refine thenK_exit ?_) | (with_reducible refine thenK_ret ?_) | (with_reducible refine blockK_normal ?_) | (with_reducible refine blockK_ret ?_) | (with_reducible refine blockK_eq ?_) | (with_reducible refine blockK_ne rfl ?_) | (with_reducible refine SP.skip ?_) | (with_reducible refine SP.ret ?_) | (with_reducible refine SP.exit ?_) | ((with_reducible show SP _ _ _ (Code.cond _ _ _) _ _ _); first | (refine SP.condT rfl (by first | rfl | (simp only [decide_eq_true_eq, beq_iff_eq, bne_iff_ne]; first | done | omega)) ?_) | (refine SP.condF rfl (by first | rfl | (simp only [decide_eq_false_iff_not, beq_eq_false_iff_ne, bne_eq_false_iff_eq]; first | done | omega)) ?_)))
    simp only [hk1]
    exact ⟨hltk, (by first | rfl | (simp only [woI_s]; done) | (simp only [woI_s]; rfl) | (rw [woI_s]; rfl)), (by first | rfl | (simp only [woI_s]; done) | (simp only [woI_s]; rfl) | (rw [woI_s]; rfl))⟩
  · have hendk : k = m := by omega
    replace hendk := Lib.hid hendk
    by_cases h0 : 0 < m
    · by_cases h15 : n ≤ 15
      all_goals
        repeat (first | ((with_reducible refine SP.region (id := 5) ?_); refine SL.e tabOk ?_; refine SL.e tabOk ?_; refine SL.v (ValO.len tabOk (by rfl)) ?_; (first | (refine SL.c true tabOk ?_) | (refine SL.c false tabOk ?_) | (refine SL.e tabOk ?_)); refine SL.e tabOk ?_; (first | (refine SL.gT ?_; refine SL.e tabOk ?_) | refine SL.gF ?_); (first | (refine SL.gT ?_; (first | (refine SL.c true tabOk ?_) | (refine SL.c false tabOk ?_) | (refine SL.e tabOk ?_))) | refine SL.gF ?_); refine SL.e tabOk ?_; (with_reducible refine SL.nil ?_)) | ((with_reducible refine SP.seqK ?_); intro _ _) | (with_reducible refine thenK_normal ?_) | (refine useK (by assumption) ?_) | (with_reducible refine SP.block ?_) | (with_reducible refine thenK_exit ?_) | (with_reducible refine thenK_ret ?_) | (with_reducible refine blockK_normal ?_) | (with_reducible refine blockK_ret ?_) | (with_reducible refine blockK_eq ?_) | (with_reducible refine blockK_ne rfl ?_) | (with_reducible refine SP.skip ?_) | (with_reducible refine SP.ret ?_) | (with_reducible refine SP.exit ?_) | ((with_reducible show SP _ _ _ (Code.cond _ _ _) _ _ _); first | (refine SP.condT rfl (by first | rfl | (simp only [decide_eq_true_eq, beq_iff_eq, bne_iff_ne]; first | done | omega)) ?_) | (refine SP.condF rfl (by first | rfl | (simp only [decide_eq_false_iff_not, beq_eq_false_iff_ne, bne_eq_false_iff_eq]; first | done | omega)) ?_)))
        have hq := hendk.out; clear hendk; subst hq
        have htg := tg_one hB h0 (by omega) (by omega)
        repeat (first | ((with_reducible refine SP.region (id := 8) ?_); refine SL.e tabOk ?_; refine SL.v (ValO.len tabOk (by rfl)) ?_; refine SL.v (ValO.min _ _ _ rfl rfl _ hmin) ?_; refine SL.e tabOk ?_; (with_reducible refine SL.nil ?_)) | ((with_reducible refine SP.region (id := 9) ?_); refine SL.e tabOk ?_; refine SL.e tabOk ?_; (with_reducible refine SL.nil ?_)) | ((with_reducible refine SP.region (id := 10) ?_); refine SL.e tabOk ?_; refine SL.ixA tabOk ?_; refine SL.stI tabOk ?_; (with_reducible refine SL.nil ?_)) | ((with_reducible show SP _ _ _ (Code.region _ _ true) _ _ _); first | (refine SP_any (id := 11) [] [] ([]) [0, 1, 2, 3, 4, 5, 6, 7] follows (by kernel_rfl) (by first | (simp only [List.filterMap_cons, List.filterMap_nil, List.getElem?_cons_zero, List.getElem?_cons_succ, Option.map_some]; done) | (simp only [List.filterMap_cons, List.filterMap_nil, List.getElem?_cons_zero, List.getElem?_cons_succ, Option.map_some]; rfl)) (by first | exact Kept.nil | (simp [Kept]; done)) ?_; refine SF.v (ValO.build (by first | (dsimp only [List.map, evL, nth]; done) | (dsimp only [List.map, evL, nth]; rfl)) k1_b) ?_; refine SF.p tabOk ?_; refine SF.p tabOk ?_; refine SF.ctS tabOk 0 _ ?_; refine SF.v (ValO.call ent_15 _ rfl _ (fun w1 hw1 => ptag_h k1 k1_len k1_byts _ _ _ _ (byts_take hB _) w1 ((hS.take hmn).old hw1.below) (by omega))) ?_; refine SF.ldR tabOk ?_; refine SF.v (Sp.eqlT tabOk rfl rfl rfl rfl (by kernel_rfl) (by simp) (by simp) (htg)) ?_; refine SF.p tabOk ?_; refine SF.done ?_)) | ((with_reducible refine SP.seqK ?_); intro _ _) | (with_reducible refine thenK_normal ?_) | (refine useK (by assumption) ?_) | (with_reducible refine SP.block ?_) | (with_reducible refine thenK_exit ?_) | (with_reducible refine thenK_ret ?_) | (with_reducible refine blockK_normal ?_) | (with_reducible refine blockK_ret ?_) | (with_reducible refine blockK_eq ?_) | (with_reducible refine blockK_ne rfl ?_) | (with_reducible refine SP.skip ?_) | (with_reducible refine SP.ret ?_) | (with_reducible refine SP.exit ?_) | ((with_reducible show SP _ _ _ (Code.cond _ _ _) _ _ _); first | (refine SP.condT rfl (by first | rfl | (simp only [decide_eq_true_eq, beq_iff_eq, bne_iff_ne]; first | done | omega)) ?_) | (refine SP.condF rfl (by first | rfl | (simp only [decide_eq_false_iff_not, beq_eq_false_iff_ne, bne_eq_false_iff_eq]; first | done | omega)) ?_)))
        exact doneK.mk rfl (ResO.tmp rfl) rfl
    · have h15 : n ≤ 15 := by omega
      repeat (first | ((with_reducible refine SP.region (id := 5) ?_); refine SL.e tabOk ?_; refine SL.e tabOk ?_; refine SL.v (ValO.len tabOk (by rfl)) ?_; (first | (refine SL.c true tabOk ?_) | (refine SL.c false tabOk ?_) | (refine SL.e tabOk ?_)); refine SL.e tabOk ?_; (first | (refine SL.gT ?_; refine SL.e tabOk ?_) | refine SL.gF ?_); (first | (refine SL.gT ?_; (first | (refine SL.c true tabOk ?_) | (refine SL.c false tabOk ?_) | (refine SL.e tabOk ?_))) | refine SL.gF ?_); refine SL.e tabOk ?_; (with_reducible refine SL.nil ?_)) | ((with_reducible refine SP.seqK ?_); intro _ _) | (with_reducible refine thenK_normal ?_) | (refine useK (by assumption) ?_) | (with_reducible refine SP.block ?_) | (with_reducible refine thenK_exit ?_) | (with_reducible refine thenK_ret ?_) | (with_reducible refine blockK_normal ?_) | (with_reducible refine blockK_ret ?_) | (with_reducible refine blockK_eq ?_) | (with_reducible refine blockK_ne rfl ?_) | (with_reducible refine SP.skip ?_) | (with_reducible refine SP.ret ?_) | (with_reducible refine SP.exit ?_) | ((with_reducible show SP _ _ _ (Code.cond _ _ _) _ _ _); first | (refine SP.condT rfl (by first | rfl | (simp only [decide_eq_true_eq, beq_iff_eq, bne_iff_ne]; first | done | omega)) ?_) | (refine SP.condF rfl (by first | rfl | (simp only [decide_eq_false_iff_not, beq_eq_false_iff_ne, bne_eq_false_iff_eq]; first | done | omega)) ?_)))
      have hq := hendk.out; clear hendk; subst hq
      obtain rfl : k = 0 := by omega
      have htg : tg k1 (B.take 0) = woI B 0 := by rw [List.take_zero, woI_0]; exact tg_one0
      repeat (first | ((with_reducible refine SP.region (id := 8) ?_); refine SL.e tabOk ?_; refine SL.v (ValO.len tabOk (by rfl)) ?_; refine SL.v (ValO.min _ _ _ rfl rfl _ hmin) ?_; refine SL.e tabOk ?_; (with_reducible refine SL.nil ?_)) | ((with_reducible refine SP.region (id := 9) ?_); refine SL.e tabOk ?_; refine SL.e tabOk ?_; (with_reducible refine SL.nil ?_)) | ((with_reducible show SP _ _ _ (Code.region _ _ true) _ _ _); first | (refine SP_any (id := 11) [] [] ([]) [0, 1, 2, 3, 4, 5, 6, 7] follows (by kernel_rfl) (by first | (simp only [List.filterMap_cons, List.filterMap_nil, List.getElem?_cons_zero, List.getElem?_cons_succ, Option.map_some]; done) | (simp only [List.filterMap_cons, List.filterMap_nil, List.getElem?_cons_zero, List.getElem?_cons_succ, Option.map_some]; rfl)) (by first | exact Kept.nil | (simp [Kept]; done)) ?_; refine SF.v (ValO.build (by first | (dsimp only [List.map, evL, nth]; done) | (dsimp only [List.map, evL, nth]; rfl)) k1_b) ?_; refine SF.p tabOk ?_; refine SF.p tabOk ?_; refine SF.ctS tabOk 0 _ ?_; refine SF.v (ValO.call ent_15 _ rfl _ (fun w1 hw1 => ptag_h k1 k1_len k1_byts _ _ _ _ (byts_take hB _) w1 ((hS.take hmn).old hw1.below) (by omega))) ?_; refine SF.ldR tabOk ?_; refine SF.v (Sp.eqlT tabOk rfl rfl rfl rfl (by kernel_rfl) (by simp) (by simp) (htg)) ?_; refine SF.p tabOk ?_; refine SF.done ?_)) | ((with_reducible refine SP.seqK ?_); intro _ _) | (with_reducible refine thenK_normal ?_) | (refine useK (by assumption) ?_) | (with_reducible refine SP.block ?_) | (with_reducible refine thenK_exit ?_) | (with_reducible refine thenK_ret ?_) | (with_reducible refine blockK_normal ?_) | (with_reducible refine blockK_ret ?_) | (with_reducible refine blockK_eq ?_) | (with_reducible refine blockK_ne rfl ?_) | (with_reducible refine SP.skip ?_) | (with_reducible refine SP.ret ?_) | (with_reducible refine SP.exit ?_) | ((with_reducible show SP _ _ _ (Code.cond _ _ _) _ _ _); first | (refine SP.condT rfl (by first | rfl | (simp only [decide_eq_true_eq, beq_iff_eq, bne_iff_ne]; first | done | omega)) ?_) | (refine SP.condF rfl (by first | rfl | (simp only [decide_eq_false_iff_not, beq_eq_false_iff_ne, bne_eq_false_iff_eq]; first | done | omega)) ?_)))
      exact doneK.mk rfl (ResO.tmp rfl) rfl

set_option maxRecDepth 20000 in
set_option maxHeartbeats 2000000 in
theorem polyOne_walk (p : Option Addr) (n c : Nat) (B : List Int) {w : World} (hS : Sl w p n c B) (hB : Byts B) (hn : n ≤ 140737488351232) (ho : (p = none ∧ c = 0) ∨ ∃ b off, p = some ⟨b, off, none⟩) :
    Calls Try.prog 10 #[.slice p n c] w fun e w' => e = .returned (.bool true) ∧ Below w.heap.size w w' := by
  skip
  rcases ho with ⟨rfl, rfl⟩ | ⟨b0, off, rfl⟩
  · have hc := hS.cap
    obtain rfl : n = 0 := by omega
    exact polyOne_none 0 rfl
  · exact polyOne_some b0 off n c (min n 15) B hS hB hn rfl

set_option maxRecDepth 100000 in
theorem PolyOne_lifted (os : Os) (started : os.Started) (H : Type) (enc : TypeId × Value → H) :
    ReturnsInHanded {} Try.checked os 10 .any (Rows.polyOneSpec.pre6 enc Try.prog Try.f10 Rows.polyOneRow.domain false) (Rows.polyOneSpec.post enc Try.prog Try.f10 false true false false) := by
  refine returnsInHanded_of_change_sized (C := Try.checked) (by kernel_rfl) started (by kernel_rfl) Try.func10
    (ChangeSpec.witness6 (enc := enc) (C := Try.checked) false ⟨#[], #[.slice none 0 0], []⟩ 8 (by kernel_rfl) (by kernel_rfl) (by kernel_rfl) (by kernel_rfl)) ?_
  intro W base args ds gs before hval0 hW hcnd hz0 _
  have hval : ∀ (j : Nat) t v, Try.f10.params[j]? = some t → args[j]? = some v → Value.okWide Try.prog W .any base t v := hval0
  have hW' := hW
  obtain ⟨p, q, hA0, hV, rfl, hfz, hnd⟩ := hW
  have hA : DataW.TrodAll enc Try.prog W 0 (fun _ => true) true Try.f10.params.toList args.toList ds p := hA0
  have hz : (DataW.weightsEach Try.prog (Try.f10.params.toList ++ []) (ds ++ gs)).all (· ≤ reachBytes) = true := hz0
  rw [Try.params10] at hA hval hz
  obtain ⟨v0, vs0, d0, ds0, p0, q0, hargs, rfl, rfl, h0, r0⟩ := trodAll_cons hA
  obtain ⟨rfl, rfl, rfl⟩ := trodAll_nil r0
  obtain rfl : args = #[v0] := by cases args; simp_all
  obtain ⟨rfl, rfl⟩ := trodVars_none hV
  have k0 := h0
  obtain ⟨s0, n0, c0, B0, rfl, S0, b0, m0, o0⟩ := open_bytes Try.underlying24 Try.underlying5 (by kernel_rfl) (hval 0 24 v0 rfl rfl) h0 (fun es sp he => sized_slice hz (j := 0) (by rfl) (by rw [he]; rfl) Try.underlying24)
  clear hA0 hval0 hz0 hz
  refine (polyOne_walk s0 n0 c0 B0 S0 b0 m0 o0).mono fun e W' ⟨he, hg⟩ => ?_
  subst he
  exact ⟨_, rfl, _, _, _, _, _, _, hW', (trodAll_cons_mk (shut_bool Try.underlying4 _) trodAll_mk0), (trodAll_cons_mk (Below.trod Try.laidOut (by kernel_rfl) (of_decide_eq_true (by kernel_rfl)) k0 hg (trod_lt' k0)) trodAll_mk0), rfl_vars, hg.frame _, fun h => by cases h⟩

theorem PolyOne_holds : Rows.PolyOneSaid :=
  OpenClaim.holds_of_wide 10 Try.f10 rfl rfl rfl rfl rfl rfl rfl ⟨rfl, rfl, rfl, rfl, rfl⟩ rfl rfl rfl rfl rfl (by kernel_rfl) Try.func10 (by kernel_rfl)
    (of_decide_eq_true (by kernel_rfl)) (by unfold Func.isWrapper; first | (rw [if_pos (by decide +kernel)]; kernel_rfl) | (rw [if_neg (by decide +kernel)]; exact ⟨rfl, rfl⟩))
    (fun os started H enc _ => PolyOne_lifted os started H enc)
#print axioms PolyOne_holds

end Go.Proofs.Ytngbfamlhlhbmaa
