/-
  awake() is true: the box of usual().
-/
import Derived.Test.YtpighhoehhilkaaAeU
import Derived.Test.YtpighhoehhilkaaAeS
namespace Go.Proofs.Ytpighhoehhilkaa
set_option linter.unusedSimpArgs false
set_option linter.unusedVariables false
open Go Go.RowKit

namespace Sp
open F M
@[irreducible] def awH : List Int := [211, 26, 141, 52, 100, 142, 96, 219, 123, 134, 175, 188, 83, 239, 126, 194]
@[irreducible] def awT : List Int := [26, 225, 11, 89, 79, 9, 226, 106, 126, 144, 46, 203, 208, 96, 6, 145]
theorem awH_length : awH.length = 16 := by unfold awH; rfl
theorem awT_length : awT.length = 16 := by unfold awT; rfl
attribute [simp] awH_length awT_length
theorem aw_c1 : Instr.fill (fun i => some (i * 1, 1)) ((Array.range (16 * 1)).map ((Value.cells (.int .u8 0))[· % (Value.cells (.int .u8 0)).size]!)) [(0, .int .u8 211), (1, .int .u8 26), (2, .int .u8 141), (3, .int .u8 52), (4, .int .u8 100), (5, .int .u8 142), (6, .int .u8 96), (7, .int .u8 219), (8, .int .u8 123), (9, .int .u8 134), (10, .int .u8 175), (11, .int .u8 188), (12, .int .u8 83), (13, .int .u8 239), (14, .int .u8 126), (15, .int .u8 194)] = some (ints .u8 (awH)) := by unfold awH; kernel_rfl
theorem aw_c2 : Instr.fill (fun i => some (i * 1, 1)) ((Array.range (16 * 1)).map ((Value.cells (.int .u8 0))[· % (Value.cells (.int .u8 0)).size]!)) [(0, .int .u8 26), (1, .int .u8 225), (2, .int .u8 11), (3, .int .u8 89), (4, .int .u8 79), (5, .int .u8 9), (6, .int .u8 226), (7, .int .u8 106), (8, .int .u8 126), (9, .int .u8 144), (10, .int .u8 46), (11, .int .u8 203), (12, .int .u8 208), (13, .int .u8 96), (14, .int .u8 6), (15, .int .u8 145)] = some (ints .u8 (awT)) := by unfold awT; kernel_rfl
@[irreducible] def usX : List Int := [211, 26, 141, 52, 100, 142, 96, 219, 123, 134, 175, 188, 83, 239, 126, 194, 164, 173, 237, 81, 41, 110, 8, 254, 169, 226, 181, 167, 54, 238, 98, 214, 61, 190, 164, 94, 140, 169, 103, 18, 130, 250, 251, 105, 218, 146, 114, 139, 26, 113, 222, 10, 158, 6, 11, 41, 5, 214, 165, 182, 126, 205, 59, 54, 146, 221, 189, 127, 45, 119, 139, 140, 152, 3, 174, 227, 40, 9, 27, 88, 250, 179, 36, 228, 250, 214, 117, 148, 85, 133, 128, 139, 72, 49, 215, 188, 63, 244, 222, 240, 142, 75, 122, 157, 229, 118, 210, 101, 134, 206, 198, 75, 97, 22]
theorem usX_length : usX.length = 114 := by unfold usX; rfl
attribute [simp] usX_length
theorem xo_two (K : List Int) (ct : Int) (N B : List Int) (h : B.length ≤ 128) : xo K ct N B = List.zipWith (fun x y => bits .xor .u8 x y) B (chB K (ct + 0) N ++ chB K (ct + 1) N) := by
  apply List.ext_getElem?
  intro j
  by_cases hj : j < B.length
  · rw [xo_get _ _ _ _ _ hj, List.getElem?_zipWith]
    have hs : (chB K (ct + 0) N ++ chB K (ct + 1) N)[j]? = some (strm K ct N j) := by
      unfold strm
      by_cases h64 : j < 64
      · rw [List.getElem?_append_left (by simp; omega), show j / 64 = 0 by omega, show j % 64 = j by omega, Int.natCast_zero]
        unfold gi
        rw [List.getD_eq_getElem?_getD, List.getElem?_eq_getElem (by simp; omega)]
        rfl
      · rw [List.getElem?_append_right (by simp; omega), show j / 64 = 1 by omega, show j % 64 = j - 64 by omega, show ((1 : Nat) : Int) = 1 from rfl, chB_length]
        unfold gi
        rw [List.getD_eq_getElem?_getD, List.getElem?_eq_getElem (by simp; omega)]
        rfl
    rw [hs, List.getElem?_eq_getElem hj]
    simp [gi, hj]
  · rw [List.getElem?_eq_none (by simp; omega), List.getElem?_eq_none (by simp; omega)]
theorem us_xo : xo usK 1 usN usB = usX := by rw [xo_two _ _ _ _ (by simp)]; decide +kernel

theorem aw_box : (sealV usK usN usA usB).take 16 = awH ∧ (sealV usK usN usA usB).drop 114 = awT := by unfold sealV; rw [us_xo]; decide +kernel
theorem eqb_t (p q : Option Addr) (n m c d : Nat) (A B : List Int) (w : World) (hA : Sl w p n c A) (hB : Sl w q m d B) (hmax : n ≤ 140737488355328) (h : A = B) : Calls Try.prog 15 #[.slice p n c, .slice q m d] w fun e w' => e = .returned (.bool true) ∧ Below w.heap.size w w' := by
  have := eqb_any p q n m c d A B w hA hB hmax
  rwa [decide_eq_true h] at this
theorem eqb_f (p q : Option Addr) (n m c d : Nat) (A B : List Int) (w : World) (hA : Sl w p n c A) (hB : Sl w q m d B) (hmax : n ≤ 140737488355328) (h : A ≠ B) : Calls Try.prog 15 #[.slice p n c, .slice q m d] w fun e w' => e = .returned (.bool false) ∧ Below w.heap.size w w' := by
  have := eqb_any p q n m c d A B w hA hB hmax
  rwa [decide_eq_false h] at this

theorem SL.castL {P : Program} {ops : Array Oper} {rest : List Oper} {w0 : World} {mu : List Nat} {bs : Mem} {Q : ExitP} {l l' : List Value} (hl : l = l') (h : SL P ops w0 mu rest Q l' bs) : SL P ops w0 mu rest Q l bs := by rw [hl]; exact h
set_option maxRecDepth 20000 in
set_option maxHeartbeats 2000000 in
theorem awake_any (w : World) : Calls Try.prog 16 #[] w fun e w' => e = .returned (.bool true) ∧ Below w.heap.size w w' := by
  refine calls_of_wp Try.func16 rfl ?_
  rw [show (#[] : Array Value) ++ Array.replicate _ undef = ([undef, undef, undef, undef, undef, undef, undef, undef, undef, undef, undef, undef, undef, undef, undef, undef, undef, undef, undef, undef, undef, undef, undef, undef, undef, undef, undef, undef, undef, undef, undef, undef, undef, undef] : List Value).toArray from (by simp only [Try.ntmps16, List.size_toArray, List.length_cons, List.length_nil, Nat.reduceAdd, Nat.reduceSub, Array.replicate_succ, Array.replicate_zero, List.push_toArray, List.append_toArray, List.nil_append, List.cons_append])]
  refine raw_k (OwnM.start w) (fun K hK => ?_)
  repeat (first | ((with_reducible refine SP.region (id := 0) ?_); refine SL.e tabOk ?_; (with_reducible refine SL.nil ?_)) | ((with_reducible refine SP.seqK ?_); intro _ _) | (with_reducible refine thenK_normal ?_) | (refine useK (by assumption) ?_) | (with_reducible refine SP.block ?_) | (with_reducible refine thenK_exit ?_) | (with_reducible refine thenK_ret ?_) | (with_reducible refine blockK_normal ?_) | (with_reducible refine blockK_ret ?_) | (with_reducible refine blockK_eq ?_) | (with_reducible refine blockK_ne rfl ?_) | (with_reducible refine SP.skip ?_) | (with_reducible refine SP.ret ?_) | (with_reducible refine SP.exit ?_) | ((with_reducible show SP _ _ _ (Code.cond _ _ _) _ _ _); first | (refine SP.condT rfl (by first | rfl | (simp only [decide_eq_true_eq, beq_iff_eq, bne_iff_ne]; first | done | omega)) ?_) | (refine SP.condF rfl (by first | rfl | (simp only [decide_eq_false_iff_not, beq_eq_false_iff_ne, bne_eq_false_iff_eq]; first | done | omega)) ?_)))
  refine ⟨rfl, hK _ _ (fun W0 hw0 => ?_)⟩
  clear hK
  refine raw_call (α := Nat × Nat) ent_25 rfl (V := fun a => .agg (inRow usK usN (.slice (some ⟨a.1, 0, none⟩) 12 12) (.slice (some ⟨a.2, 0, none⟩) 114 114))) (Φ := fun a w' => Below W0.heap.size W0 w' ∧ Sl w' (some ⟨a.1, 0, none⟩) 12 12 usA ∧ Sl w' (some ⟨a.2, 0, none⟩) 114 114 usB) ((usual_any W0).mono (by rintro e w' ⟨ab, bb, he, h1, h2, h3⟩; exact ⟨(ab, bb), he, h1, h2, h3⟩)) ?_
  rintro w1 ⟨ab, bb⟩ ⟨hb1, hSA, hSB⟩
  refine ⟨doneK Try.prog w1 [] #[.tmp 0] (fun v' _ => v' = .bool true), ?_, ?_⟩
  · refine SL.castL (l' := [.bool false, undef, undef, undef, .agg (inRow usK usN (.slice (some ⟨ab, 0, none⟩) 12 12) (.slice (some ⟨bb, 0, none⟩) 114 114)), undef, undef, undef, undef, undef, undef, undef, undef, undef, undef, undef, undef, undef, undef, undef, undef, undef, undef, undef, undef, undef, undef, undef, undef, undef, undef, undef, undef, undef]) (by first | (dsimp only [putL, setNth, evL, nth, Nat.zero_add, Nat.add_zero, Nat.reduceAdd, Nat.reduceMul, Nat.reduceSub, Int.reduceToNat, Int.toNat_natCast, Nat.mul_one, Nat.one_mul, gi_c0, gi_c1, gi_c2, gi_c3]; rfl) | (dsimp only [putL, setNth, evL, nth, Nat.zero_add, Nat.add_zero, Nat.reduceAdd, Nat.reduceMul, Nat.reduceSub, Int.reduceToNat, Int.toNat_natCast, Nat.mul_one, Nat.one_mul, gi_c0, gi_c1, gi_c2, gi_c3]; done)) ?_
    refine SL.al in_z ?_; intro tb
    refine SL.stA tabOk (ir_cells rfl rfl) ?_ (hn := ir_size (by simp) (by simp)) (hsz := ir_size (by simp) (by simp))
    refine SL.nil ?_
    refine thenK_normal ?_
    repeat (first | ((with_reducible refine SP.region (id := 2) ?_); refine SL.e tabOk ?_; refine SL.ldP tabOk ?_ (hn := by rw [ir_size usK_length usN_length]; decide) (hB := ir_k usK_length); refine SL.e tabOk ?_; refine SL.ldP tabOk ?_ (hn := by rw [ir_size usK_length usN_length]; decide) (hB := ir_n usK_length usN_length); refine SL.e tabOk ?_; refine SL.ldC tabOk ?_ (hv := ir_a usK_length usN_length); refine SL.e tabOk ?_; refine SL.ldC tabOk ?_ (hv := ir_b usK_length usN_length); refine SL.clA ent_13 rfl (n := 114 + 16) (X := sealV usK usN usA usB) (fun w1 hw1 => seal_ok usK usN usK_length usN_length _ _ 12 12 114 114 usA usB w1 (hSA.old hw1.below) (hSB.old hw1.below) usA_byts usB_byts (by decide) (by decide)) (fun q c abs ha => ?_); obtain ⟨sb, J, T, rfl, rfl⟩ := ha.at_ (by decide); have hcc := ha.cap; refine SL.e tabOk ?_; refine SL.e tabOk ?_; refine SL.e tabOk ?_; refine SL.e tabOk ?_; refine SL.e tabOk ?_; (with_reducible refine SL.nil ?_)) | ((with_reducible refine SP.region (id := 3) ?_); refine SL.e tabOk ?_; (first | (refine SL.c true tabOk ?_) | (refine SL.c false tabOk ?_) | (refine SL.e tabOk ?_)); refine SL.e tabOk ?_; (first | (refine SL.gT ?_; refine SL.e tabOk ?_) | refine SL.gF ?_); (first | (refine SL.gT ?_; refine SL.v (ValO.len tabOk (by rfl)) ?_) | refine SL.gF ?_); (first | (refine SL.gT ?_; (first | (refine SL.c true tabOk ?_) | (refine SL.c false tabOk ?_) | (refine SL.e tabOk ?_))) | refine SL.gF ?_); refine SL.e tabOk ?_; (with_reducible refine SL.nil ?_)) | ((with_reducible refine SP.region (id := 5) ?_); refine SL.e tabOk ?_; refine SL.ctS tabOk 0 16 ?_; refine SL.buildC tabOk zero_u8 (by decide) (by decide) aw_c1 (fun cb => ?_); refine SL.v (ValO.call ent_15 _ rfl _ (fun w1 hw1 => eqb_t _ _ _ _ _ _ _ awH w1 ((ha.sl hw1 (by repeat (first | exact List.sublist_append_left _ _ | exact List.Sublist.refl _ | refine List.Sublist.cons _ ?_ | refine List.Sublist.trans ?_ (List.sublist_append_right _ _)))).take (k := 16) (by decide)) (Sl.of hw1 (RdA.own g0) (Lies.whole _) awH_length (by decide)) (by decide) aw_box.1)) ?_; refine SL.e tabOk ?_; (first | (refine SL.gT ?_; refine SL.e tabOk ?_) | refine SL.gF ?_); (first | (refine SL.gT ?_; refine SL.ctS tabOk 114 130 ?_) | refine SL.gF ?_); (first | (refine SL.gT ?_; refine SL.buildC tabOk zero_u8 (by decide) (by decide) aw_c2 (fun cb2 => ?_)) | refine SL.gF ?_); (first | (refine SL.gT ?_; refine SL.v (ValO.call ent_15 _ rfl _ (fun w1 hw1 => eqb_t _ _ _ _ _ _ _ awT w1 ((ha.sl hw1 (by repeat (first | exact List.sublist_append_left _ _ | exact List.Sublist.refl _ | refine List.Sublist.cons _ ?_ | refine List.Sublist.trans ?_ (List.sublist_append_right _ _)))).drop (k := 114) (by decide)) (Sl.of hw1 (RdA.own g0) (Lies.whole _) awT_length (by decide)) (by decide) aw_box.2)) ?_) | refine SL.gF ?_); refine SL.e tabOk ?_; refine SL.e tabOk ?_; (with_reducible refine SL.nil ?_)) | ((with_reducible refine SP.seqK ?_); intro _ _) | (with_reducible refine thenK_normal ?_) | (refine useK (by assumption) ?_) | (with_reducible refine SP.block ?_) | (with_reducible refine thenK_exit ?_) | (with_reducible refine thenK_ret ?_) | (with_reducible refine blockK_normal ?_) | (with_reducible refine blockK_ret ?_) | (with_reducible refine blockK_eq ?_) | (with_reducible refine blockK_ne rfl ?_) | (with_reducible refine SP.skip ?_) | (with_reducible refine SP.ret ?_) | (with_reducible refine SP.exit ?_) | ((with_reducible show SP _ _ _ (Code.cond _ _ _) _ _ _); first | (refine SP.condT rfl (by first | rfl | (simp only [decide_eq_true_eq, beq_iff_eq, bne_iff_ne]; first | done | omega)) ?_) | (refine SP.condF rfl (by first | rfl | (simp only [decide_eq_false_iff_not, beq_eq_false_iff_ne, bne_eq_false_iff_eq]; first | done | omega)) ?_)))
    exact doneK.mk rfl (ResO.tmp rfl) rfl
  · refine after_done Try.results16 (fun v bs W hv hW => ⟨by rw [hv], ?_⟩)
    exact (OwnM.comp (bs1 := []) ((hw0.grow hb1).sub (List.nil_sublist _)) hW).below
end Sp

end Go.Proofs.Ytpighhoehhilkaa
