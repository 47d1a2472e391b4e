/-
  usual(): a key, a nonce, what goes along, and a text.
  awake() is true: the box of usual().
  What aead's laws share: boxes are opened as they were sealed.
-/
import Derived.Test.YtpighhoehhilkaaSlX
import Derived.Test.YtpighhoehhilkaaAeTS
namespace Go.Proofs.Ytpighhoehhilkaa
set_option linter.unusedSimpArgs false
set_option linter.unusedVariables false
open Go Go.RowKit

namespace Sp
open F M
@[irreducible] def usN : List Int := [7, 0, 0, 0, 64, 65, 66, 67, 68, 69, 70, 71]
theorem usN_length : usN.length = 12 := by unfold usN; rfl
attribute [simp] usN_length
theorem usN_byts : Byts usN := byts_mem (by unfold usN; decide +kernel)
@[irreducible] def usA : List Int := [80, 81, 82, 83, 192, 193, 194, 195, 196, 197, 198, 199]
theorem usA_length : usA.length = 12 := by unfold usA; rfl
attribute [simp] usA_length
theorem usA_byts : Byts usA := byts_mem (by unfold usA; decide +kernel)
@[irreducible] def usB : List Int := [76, 97, 100, 105, 101, 115, 32, 97, 110, 100, 32, 71, 101, 110, 116, 108, 101, 109, 101, 110, 32, 111, 102, 32, 116, 104, 101, 32, 99, 108, 97, 115, 115, 32, 111, 102, 32, 39, 57, 57, 58, 32, 73, 102, 32, 73, 32, 99, 111, 117, 108, 100, 32, 111, 102, 102, 101, 114, 32, 121, 111, 117, 32, 111, 110, 108, 121, 32, 111, 110, 101, 32, 116, 105, 112, 32, 102, 111, 114, 32, 116, 104, 101, 32, 102, 117, 116, 117, 114, 101, 44, 32, 115, 117, 110, 115, 99, 114, 101, 101, 110, 32, 119, 111, 117, 108, 100, 32, 98, 101, 32, 105, 116, 46]
theorem usB_length : usB.length = 114 := by unfold usB; rfl
attribute [simp] usB_length
theorem usB_byts : Byts usB := byts_mem (by unfold usB; decide +kernel)
def usI' : Nat → List Int
  | 0 => List.replicate 32 0
  | i + 1 => (usI' i).set i (IntKind.u8.wrap (IntKind.i64.wrap (128 + (i : Int))))
@[irreducible] def usI (i : Nat) : List Int := usI' i
theorem usI_0 : usI 0 = List.replicate 32 0 := by unfold usI; rfl
theorem usI_s (i : Nat) : usI (i + 1) = (usI i).set i (IntKind.u8.wrap (IntKind.i64.wrap (128 + (i : Int)))) := by unfold usI; rfl
theorem usI_length : ∀ i, (usI i).length = 32
  | 0 => by rw [usI_0]; rfl
  | i + 1 => by rw [usI_s, List.length_set, usI_length i]
attribute [simp] usI_length
@[irreducible] def usK : List Int := usI 32
theorem usK_length : usK.length = 32 := by unfold usK; simp
attribute [simp] usK_length
theorem usK_byts : Byts usK := byts_mem (by unfold usK; decide +kernel)
theorem us_b1 : Try.prog.built 24 [(0, .int .u8 7), (1, .int .u8 0), (2, .int .u8 0), (3, .int .u8 0), (4, .int .u8 64), (5, .int .u8 65), (6, .int .u8 66), (7, .int .u8 67), (8, .int .u8 68), (9, .int .u8 69), (10, .int .u8 70), (11, .int .u8 71)] = some (ints .u8 (usN)) := by unfold usN; kernel_rfl
theorem us_ca : Instr.fill (fun i => some (i * 1, 1)) ((Array.range (12 * 1)).map ((Value.cells (.int .u8 0))[· % (Value.cells (.int .u8 0)).size]!)) [(0, .int .u8 80), (1, .int .u8 81), (2, .int .u8 82), (3, .int .u8 83), (4, .int .u8 192), (5, .int .u8 193), (6, .int .u8 194), (7, .int .u8 195), (8, .int .u8 196), (9, .int .u8 197), (10, .int .u8 198), (11, .int .u8 199)] = some (ints .u8 (usA)) := by unfold usA; kernel_rfl
theorem us_cb : Instr.fill (fun i => some (i * 1, 1)) ((Array.range (114 * 1)).map ((Value.cells (.int .u8 0))[· % (Value.cells (.int .u8 0)).size]!)) [(0, .int .u8 76), (1, .int .u8 97), (2, .int .u8 100), (3, .int .u8 105), (4, .int .u8 101), (5, .int .u8 115), (6, .int .u8 32), (7, .int .u8 97), (8, .int .u8 110), (9, .int .u8 100), (10, .int .u8 32), (11, .int .u8 71), (12, .int .u8 101), (13, .int .u8 110), (14, .int .u8 116), (15, .int .u8 108), (16, .int .u8 101), (17, .int .u8 109), (18, .int .u8 101), (19, .int .u8 110), (20, .int .u8 32), (21, .int .u8 111), (22, .int .u8 102), (23, .int .u8 32), (24, .int .u8 116), (25, .int .u8 104), (26, .int .u8 101), (27, .int .u8 32), (28, .int .u8 99), (29, .int .u8 108), (30, .int .u8 97), (31, .int .u8 115), (32, .int .u8 115), (33, .int .u8 32), (34, .int .u8 111), (35, .int .u8 102), (36, .int .u8 32), (37, .int .u8 39), (38, .int .u8 57), (39, .int .u8 57), (40, .int .u8 58), (41, .int .u8 32), (42, .int .u8 73), (43, .int .u8 102), (44, .int .u8 32), (45, .int .u8 73), (46, .int .u8 32), (47, .int .u8 99), (48, .int .u8 111), (49, .int .u8 117), (50, .int .u8 108), (51, .int .u8 100), (52, .int .u8 32), (53, .int .u8 111), (54, .int .u8 102), (55, .int .u8 102), (56, .int .u8 101), (57, .int .u8 114), (58, .int .u8 32), (59, .int .u8 121), (60, .int .u8 111), (61, .int .u8 117), (62, .int .u8 32), (63, .int .u8 111), (64, .int .u8 110), (65, .int .u8 108), (66, .int .u8 121), (67, .int .u8 32), (68, .int .u8 111), (69, .int .u8 110), (70, .int .u8 101), (71, .int .u8 32), (72, .int .u8 116), (73, .int .u8 105), (74, .int .u8 112), (75, .int .u8 32), (76, .int .u8 102), (77, .int .u8 111), (78, .int .u8 114), (79, .int .u8 32), (80, .int .u8 116), (81, .int .u8 104), (82, .int .u8 101), (83, .int .u8 32), (84, .int .u8 102), (85, .int .u8 117), (86, .int .u8 116), (87, .int .u8 117), (88, .int .u8 114), (89, .int .u8 101), (90, .int .u8 44), (91, .int .u8 32), (92, .int .u8 115), (93, .int .u8 117), (94, .int .u8 110), (95, .int .u8 115), (96, .int .u8 99), (97, .int .u8 114), (98, .int .u8 101), (99, .int .u8 101), (100, .int .u8 110), (101, .int .u8 32), (102, .int .u8 119), (103, .int .u8 111), (104, .int .u8 117), (105, .int .u8 108), (106, .int .u8 100), (107, .int .u8 32), (108, .int .u8 98), (109, .int .u8 101), (110, .int .u8 32), (111, .int .u8 105), (112, .int .u8 116), (113, .int .u8 46)] = some (ints .u8 (usB)) := by unfold usB; kernel_rfl
theorem us_in (b : Nat) : Try.prog.built 27 [(1, .agg (ints .u8 usN)), (2, .slice (some ⟨b, 0, none⟩) 12 12)] = some (inRow (List.replicate 32 0) usN (.slice (some ⟨b, 0, none⟩) 12 12) (.slice none 0 0)) := by unfold inRow usN; kernel_rfl
/-- Where usual ends. -/
def UsPost (w : World) (e : Ending) (w' : World) : Prop := ∃ ab bb, e = .returned (.agg (inRow usK usN (.slice (some ⟨ab, 0, none⟩) 12 12) (.slice (some ⟨bb, 0, none⟩) 114 114))) ∧ Below w.heap.size w w' ∧ Sl w' (some ⟨ab, 0, none⟩) 12 12 usA ∧ Sl w' (some ⟨bb, 0, none⟩) 114 114 usB
set_option maxRecDepth 20000 in
set_option maxHeartbeats 2000000 in
theorem usual_any (w : World) : Calls Try.prog 25 #[] w (UsPost w) := by
  refine calls_of_wp Try.func25 rfl ?_
  rw [show (#[] : Array Value) ++ Array.replicate _ undef = ([undef, undef, undef, undef, undef, undef, undef, undef, undef, undef, undef, undef, undef, undef, undef, undef, undef, undef, undef, undef] : List Value).toArray from (by simp only [Try.ntmps25, List.size_toArray, List.length_cons, List.length_nil, Nat.reduceAdd, Nat.reduceSub, Array.replicate_succ, Array.replicate_zero, List.push_toArray, List.append_toArray, List.nil_append, List.cons_append])]
  refine raw_k (OwnM.start w) (fun K hK => ?_)
  repeat (first | ((with_reducible refine SP.region (id := 0) ?_); refine SL.al in_z ?_; intro ob; (with_reducible refine SL.nil ?_)) | ((with_reducible refine SP.seqK ?_); intro _ _) | (with_reducible refine thenK_normal ?_) | (refine useK (by assumption) ?_) | (with_reducible refine SP.block ?_) | (with_reducible refine thenK_exit ?_) | (with_reducible refine thenK_ret ?_) | (with_reducible refine blockK_normal ?_) | (with_reducible refine blockK_ret ?_) | (with_reducible refine blockK_eq ?_) | (with_reducible refine blockK_ne rfl ?_) | (with_reducible refine SP.skip ?_) | (with_reducible refine SP.ret ?_) | (with_reducible refine SP.exit ?_) | ((with_reducible show SP _ _ _ (Code.cond _ _ _) _ _ _); first | (refine SP.condT rfl (by first | rfl | (simp only [decide_eq_true_eq, beq_iff_eq, bne_iff_ne]; first | done | omega)) ?_) | (refine SP.condF rfl (by first | rfl | (simp only [decide_eq_false_iff_not, beq_eq_false_iff_ne, bne_eq_false_iff_eq]; first | done | omega)) ?_)))
  refine ⟨rfl, hK _ _ (fun W0 hw0 => ?_)⟩
  clear hK K
  refine raw_k hw0 (fun K hK => ?_)
  repeat (first | ((with_reducible refine SP.region (id := 1) ?_); refine SL.v (ValO.build (by first | (dsimp only [List.map, evL, nth]; done) | (dsimp only [List.map, evL, nth]; rfl)) us_b1) ?_; refine SL.buildC tabOk zero_u8 (by decide) (by decide) us_ca (fun ab => ?_); refine SL.v (ValO.build (by first | (dsimp only [List.map, evL, nth]; done) | (dsimp only [List.map, evL, nth]; rfl)) (us_in ab)) ?_; refine SL.al in_z ?_; intro tb; refine SL.stA tabOk (ir_cells rfl rfl) ?_ (hn := ir_size (by simp) (by simp)) (hsz := ir_size (by simp) (by simp)); (with_reducible refine SL.nil ?_)) | ((with_reducible refine SP.seqK ?_); intro _ _) | (with_reducible refine thenK_normal ?_) | (refine useK (by assumption) ?_) | (with_reducible refine SP.block ?_) | (with_reducible refine thenK_exit ?_) | (with_reducible refine thenK_ret ?_) | (with_reducible refine blockK_normal ?_) | (with_reducible refine blockK_ret ?_) | (with_reducible refine blockK_eq ?_) | (with_reducible refine blockK_ne rfl ?_) | (with_reducible refine SP.skip ?_) | (with_reducible refine SP.ret ?_) | (with_reducible refine SP.exit ?_) | ((with_reducible show SP _ _ _ (Code.cond _ _ _) _ _ _); first | (refine SP.condT rfl (by first | rfl | (simp only [decide_eq_true_eq, beq_iff_eq, bne_iff_ne]; first | done | omega)) ?_) | (refine SP.condF rfl (by first | rfl | (simp only [decide_eq_false_iff_not, beq_eq_false_iff_ne, bne_eq_false_iff_eq]; first | done | omega)) ?_)))
  refine ⟨rfl, hK _ _ (fun W1 hw1 => ?_)⟩
  clear hK K
  refine raw_k hw1 (fun K hK => ?_)
  repeat (first | ((with_reducible refine SP.region (id := 2) ?_); refine SL.e tabOk ?_; (with_reducible refine SL.nil ?_)) | ((with_reducible refine SP.seqK ?_); intro _ _) | (with_reducible refine thenK_normal ?_) | (refine useK (by assumption) ?_) | (with_reducible refine SP.block ?_) | (with_reducible refine thenK_exit ?_) | (with_reducible refine thenK_ret ?_) | (with_reducible refine blockK_normal ?_) | (with_reducible refine blockK_ret ?_) | (with_reducible refine blockK_eq ?_) | (with_reducible refine blockK_ne rfl ?_) | (with_reducible refine SP.skip ?_) | (with_reducible refine SP.ret ?_) | (with_reducible refine SP.exit ?_) | ((with_reducible show SP _ _ _ (Code.cond _ _ _) _ _ _); first | (refine SP.condT rfl (by first | rfl | (simp only [decide_eq_true_eq, beq_iff_eq, bne_iff_ne]; first | done | omega)) ?_) | (refine SP.condF rfl (by first | rfl | (simp only [decide_eq_false_iff_not, beq_eq_false_iff_ne, bne_eq_false_iff_eq]; first | done | omega)) ?_)))
  refine SP.loopN (fun i l bs => l = [.pointer (some ⟨ob, 0, none⟩), .pointer (some ⟨tb, 0, none⟩), .int .i64 ((i : Nat)), nth l 3, nth l 4, nth l 5, nth l 6, nth l 7, nth l 8, nth l 9, nth l 10, nth l 11, nth l 12, nth l 13, nth l 14, nth l 15, nth l 16, nth l 17, nth l 18, nth l 19] ∧ bs = [(tb, inRow (usI i) usN (.slice (some ⟨ab, 0, none⟩) 12 12) (.slice none 0 0), 27), (ab, ints .u8 usA, 5), (ob, inRow (List.replicate 32 0) (List.replicate 12 0) (.slice none 0 0) (.slice none 0 0), 27)]) 32 ⟨rfl, by rw [usI_0]⟩ ?_
  rintro i lfi _ hki ⟨hli, rfl⟩
  refine SP.cast hli ?_
  clear hli
  by_cases hlti : i < 32
  · have hi1 : IntKind.i64.wrap ((i : Int) + 1) = ((i + 1 : Nat) : Int) := by rw [IntWalk.i64_in _ (by omega)]; omega
    repeat (first | ((with_reducible refine SP.region (id := 3) ?_); refine SL.e tabOk ?_; refine SL.e tabOk ?_; (with_reducible refine SL.nil ?_)) | ((with_reducible refine SP.region (id := 4) ?_); refine SL.e tabOk ?_; refine SL.e tabOk ?_; refine SL.e tabOk ?_; (with_reducible refine SL.nil ?_)) | ((with_reducible refine SP.region (id := 5) ?_); refine SL.e tabOk ?_; refine SL.e tabOk ?_; refine SL.e tabOk ?_; refine SL.e tabOk ?_; refine SL.e tabOk ?_; refine SL.ixA tabOk ?_; refine SL.stP tabOk ?_ (hsz := by rw [ir_size (usI_length i) usN_length]; omega) (hA := ir_pk (usI_length i) hlti _); (with_reducible refine SL.nil ?_)) | ((with_reducible refine SP.seqK ?_); intro _ _) | (with_reducible refine thenK_normal ?_) | (refine useK (by assumption) ?_) | (with_reducible refine SP.block ?_) | (with_reducible refine thenK_exit ?_) | (with_reducible refine thenK_ret ?_) | (with_reducible refine blockK_normal ?_) | (with_reducible refine blockK_ret ?_) | (with_reducible refine blockK_eq ?_) | (with_reducible refine blockK_ne rfl ?_) | (with_reducible refine SP.skip ?_) | (with_reducible refine SP.ret ?_) | (with_reducible refine SP.exit ?_) | ((with_reducible show SP _ _ _ (Code.cond _ _ _) _ _ _); first | (refine SP.condT rfl (by first | rfl | (simp only [decide_eq_true_eq, beq_iff_eq, bne_iff_ne]; first | done | omega)) ?_) | (refine SP.condF rfl (by first | rfl | (simp only [decide_eq_false_iff_not, beq_eq_false_iff_ne, bne_eq_false_iff_eq]; first | done | omega)) ?_)))
    simp only [hi1]
    exact ⟨hlti, rfl, by rw [usI_s]⟩
  · have hendi : i = 32 := by omega
    replace hendi := Lib.hid hendi
    repeat (first | ((with_reducible refine SP.region (id := 3) ?_); refine SL.e tabOk ?_; refine SL.e tabOk ?_; (with_reducible refine SL.nil ?_)) | ((with_reducible refine SP.seqK ?_); intro _ _) | (with_reducible refine thenK_normal ?_) | (refine useK (by assumption) ?_) | (with_reducible refine SP.block ?_) | (with_reducible refine thenK_exit ?_) | (with_reducible refine thenK_ret ?_) | (with_reducible refine blockK_normal ?_) | (with_reducible refine blockK_ret ?_) | (with_reducible refine blockK_eq ?_) | (with_reducible refine blockK_ne rfl ?_) | (with_reducible refine SP.skip ?_) | (with_reducible refine SP.ret ?_) | (with_reducible refine SP.exit ?_) | ((with_reducible show SP _ _ _ (Code.cond _ _ _) _ _ _); first | (refine SP.condT rfl (by first | rfl | (simp only [decide_eq_true_eq, beq_iff_eq, bne_iff_ne]; first | done | omega)) ?_) | (refine SP.condF rfl (by first | rfl | (simp only [decide_eq_false_iff_not, beq_eq_false_iff_ne, bne_eq_false_iff_eq]; first | done | omega)) ?_)))
    have hq := hendi.out; clear hendi; subst hq
    refine ⟨rfl, hK _ _ (fun W2 hw2 => ?_)⟩
    clear hK
    refine raw_bytesC tabOk hw2 rfl rfl zero_u8 (by decide) (by decide) (by rfl) us_cb (fun _ => (by first | (dsimp only [putL, setNth, evL, nth, Nat.zero_add, Nat.add_zero, Nat.reduceAdd, Nat.reduceMul, Nat.reduceSub, Int.reduceToNat, Int.toNat_natCast, Nat.mul_one, Nat.one_mul, gi_c0, gi_c1, gi_c2, gi_c3]; rfl) | (dsimp only [putL, setNth, evL, nth, Nat.zero_add, Nat.add_zero, Nat.reduceAdd, Nat.reduceMul, Nat.reduceSub, Int.reduceToNat, Int.toNat_natCast, Nat.mul_one, Nat.one_mul, gi_c0, gi_c1, gi_c2, gi_c3]; done))) (fun _ => rfl) (fun _ => (by first | (dsimp only [putL, setNth, evL, nth, Nat.zero_add, Nat.add_zero, Nat.reduceAdd, Nat.reduceMul, Nat.reduceSub, Int.reduceToNat, Int.toNat_natCast, Nat.mul_one, Nat.one_mul, gi_c0, gi_c1, gi_c2, gi_c3]; rfl) | (dsimp only [putL, setNth, evL, nth, Nat.zero_add, Nat.add_zero, Nat.reduceAdd, Nat.reduceMul, Nat.reduceSub, Int.reduceToNat, Int.toNat_natCast, Nat.mul_one, Nat.one_mul, gi_c0, gi_c1, gi_c2, gi_c3]; done))) (fun w1 bb fz hw3 hb hnb hge => ⟨doneK Try.prog w1 [tb, ab, ob] #[.cell 0 27] (fun v' bs' => v' = .agg (inRow usK usN (.slice (some ⟨ab, 0, none⟩) 12 12) (.slice (some ⟨bb, 0, none⟩) 114 114)) ∧ (ab, ints .u8 usA, 5) ∈ bs'), ?_, ?_⟩)
    · refine SL.e tabOk ?_
      refine SL.stP tabOk ?_ (hsz := by rw [ir_size (usI_length 32) usN_length]; decide) (h1 := fun u hu => by cases hu with | head => rfl | tail _ h => cases h) (hA := ir_pb (usI_length 32) usN_length _)
      refine SL.nil ?_
      refine thenK_normal ?_
      rw [show usI 32 = usK by unfold usK; rfl]
      repeat (first | ((with_reducible refine SP.region (id := 7) ?_); refine SL.ldR tabOk ?_ (hn := ir_size (by simp) (by simp)); refine SL.stA tabOk (ir_cells rfl rfl) ?_ (hn := ir_size (by simp) (by simp)) (hsz := ir_size (by simp) (by simp)); (with_reducible refine SL.nil ?_)) | ((with_reducible refine SP.seqK ?_); intro _ _) | (with_reducible refine thenK_normal ?_) | (refine useK (by assumption) ?_) | (with_reducible refine SP.block ?_) | (with_reducible refine thenK_exit ?_) | (with_reducible refine thenK_ret ?_) | (with_reducible refine blockK_normal ?_) | (with_reducible refine blockK_ret ?_) | (with_reducible refine blockK_eq ?_) | (with_reducible refine blockK_ne rfl ?_) | (with_reducible refine SP.skip ?_) | (with_reducible refine SP.ret ?_) | (with_reducible refine SP.exit ?_) | ((with_reducible show SP _ _ _ (Code.cond _ _ _) _ _ _); first | (refine SP.condT rfl (by first | rfl | (simp only [decide_eq_true_eq, beq_iff_eq, bne_iff_ne]; first | done | omega)) ?_) | (refine SP.condF rfl (by first | rfl | (simp only [decide_eq_false_iff_not, beq_eq_false_iff_ne, bne_eq_false_iff_eq]; first | done | omega)) ?_)))
      exact doneK.mk rfl (ResO.cell tabOk rfl rfl rfl (by first | exact RdA.own g0 | exact RdA.own g1 | exact RdA.own g2 | exact RdA.own g3 | exact RdA.own g4 | exact RdA.own g5 | exact RdA.own g6 | exact RdA.own g7 | exact RdA.own g8 | exact RdA.own g9 | exact RdA.own g10 | exact RdA.own g11 | exact RdA.own g12 | exact RdA.own g13 | exact RdA.own g14 | exact RdA.own g15) (ir_size (by simp) (by simp))) ⟨rfl, by simp⟩
    · refine after_done Try.results25 (fun v bs W hv hW => ⟨ab, bb, by rw [hv.1], ?_, ?_, ?_⟩)
      · exact (OwnM.comp hw3 hW).below
      · have h := Sl.mk' (c := 12) (hW.block hv.2) (Lies.whole usA) (by simp); rwa [usA_length] at h
      · have h2 : W.heap[bb]? = some (.cells (ints .u8 usB) 5 fz) := by rw [hW.rest bb (Array.getElem?_eq_some_iff.1 hb).1 hnb]; exact hb
        have h := Sl.mk' (c := 114) h2 (Lies.whole usB) (by simp); rwa [usB_length] at h

end Sp

end Go.Proofs.Ytpighhoehhilkaa

namespace Go.Proofs.Ytpighhoehhilkaa
set_option linter.unusedSimpArgs false
set_option linter.unusedVariables false
open Go Go.RowKit

namespace Sp
open F M
@[irreducible] def awH : List Int := [211, 26, 141, 52, 100, 142, 96, 219, 123, 134, 175, 188, 83, 239, 126, 194]
@[irreducible] def awT : List Int := [26, 225, 11, 89, 79, 9, 226, 106, 126, 144, 46, 203, 208, 96, 6, 145]
theorem awH_length : awH.length = 16 := by unfold awH; rfl
theorem awT_length : awT.length = 16 := by unfold awT; rfl
attribute [simp] awH_length awT_length
theorem aw_c1 : Instr.fill (fun i => some (i * 1, 1)) ((Array.range (16 * 1)).map ((Value.cells (.int .u8 0))[· % (Value.cells (.int .u8 0)).size]!)) [(0, .int .u8 211), (1, .int .u8 26), (2, .int .u8 141), (3, .int .u8 52), (4, .int .u8 100), (5, .int .u8 142), (6, .int .u8 96), (7, .int .u8 219), (8, .int .u8 123), (9, .int .u8 134), (10, .int .u8 175), (11, .int .u8 188), (12, .int .u8 83), (13, .int .u8 239), (14, .int .u8 126), (15, .int .u8 194)] = some (ints .u8 (awH)) := by unfold awH; kernel_rfl
theorem aw_c2 : Instr.fill (fun i => some (i * 1, 1)) ((Array.range (16 * 1)).map ((Value.cells (.int .u8 0))[· % (Value.cells (.int .u8 0)).size]!)) [(0, .int .u8 26), (1, .int .u8 225), (2, .int .u8 11), (3, .int .u8 89), (4, .int .u8 79), (5, .int .u8 9), (6, .int .u8 226), (7, .int .u8 106), (8, .int .u8 126), (9, .int .u8 144), (10, .int .u8 46), (11, .int .u8 203), (12, .int .u8 208), (13, .int .u8 96), (14, .int .u8 6), (15, .int .u8 145)] = some (ints .u8 (awT)) := by unfold awT; kernel_rfl
@[irreducible] def usX : List Int := [211, 26, 141, 52, 100, 142, 96, 219, 123, 134, 175, 188, 83, 239, 126, 194, 164, 173, 237, 81, 41, 110, 8, 254, 169, 226, 181, 167, 54, 238, 98, 214, 61, 190, 164, 94, 140, 169, 103, 18, 130, 250, 251, 105, 218, 146, 114, 139, 26, 113, 222, 10, 158, 6, 11, 41, 5, 214, 165, 182, 126, 205, 59, 54, 146, 221, 189, 127, 45, 119, 139, 140, 152, 3, 174, 227, 40, 9, 27, 88, 250, 179, 36, 228, 250, 214, 117, 148, 85, 133, 128, 139, 72, 49, 215, 188, 63, 244, 222, 240, 142, 75, 122, 157, 229, 118, 210, 101, 134, 206, 198, 75, 97, 22]
theorem usX_length : usX.length = 114 := by unfold usX; rfl
attribute [simp] usX_length
theorem xo_two (K : List Int) (ct : Int) (N B : List Int) (h : B.length ≤ 128) : xo K ct N B = List.zipWith (fun x y => bits .xor .u8 x y) B (chB K (ct + 0) N ++ chB K (ct + 1) N) := by
  apply List.ext_getElem?
  intro j
  by_cases hj : j < B.length
  · rw [xo_get _ _ _ _ _ hj, List.getElem?_zipWith]
    have hs : (chB K (ct + 0) N ++ chB K (ct + 1) N)[j]? = some (strm K ct N j) := by
      unfold strm
      by_cases h64 : j < 64
      · rw [List.getElem?_append_left (by simp; omega), show j / 64 = 0 by omega, show j % 64 = j by omega, Int.natCast_zero]
        unfold gi
        rw [List.getD_eq_getElem?_getD, List.getElem?_eq_getElem (by simp; omega)]
        rfl
      · rw [List.getElem?_append_right (by simp; omega), show j / 64 = 1 by omega, show j % 64 = j - 64 by omega, show ((1 : Nat) : Int) = 1 from rfl, chB_length]
        unfold gi
        rw [List.getD_eq_getElem?_getD, List.getElem?_eq_getElem (by simp; omega)]
        rfl
    rw [hs, List.getElem?_eq_getElem hj]
    simp [gi, hj]
  · rw [List.getElem?_eq_none (by simp; omega), List.getElem?_eq_none (by simp; omega)]
theorem us_xo : xo usK 1 usN usB = usX := by rw [xo_two _ _ _ _ (by simp)]; decide +kernel

theorem aw_box : (sealV usK usN usA usB).take 16 = awH ∧ (sealV usK usN usA usB).drop 114 = awT := by unfold sealV; rw [us_xo]; decide +kernel
theorem eqb_t (p q : Option Addr) (n m c d : Nat) (A B : List Int) (w : World) (hA : Sl w p n c A) (hB : Sl w q m d B) (hmax : n ≤ 140737488355328) (h : A = B) : Calls Try.prog 15 #[.slice p n c, .slice q m d] w fun e w' => e = .returned (.bool true) ∧ Below w.heap.size w w' := by
  have := eqb_any p q n m c d A B w hA hB hmax
  rwa [decide_eq_true h] at this
theorem eqb_f (p q : Option Addr) (n m c d : Nat) (A B : List Int) (w : World) (hA : Sl w p n c A) (hB : Sl w q m d B) (hmax : n ≤ 140737488355328) (h : A ≠ B) : Calls Try.prog 15 #[.slice p n c, .slice q m d] w fun e w' => e = .returned (.bool false) ∧ Below w.heap.size w w' := by
  have := eqb_any p q n m c d A B w hA hB hmax
  rwa [decide_eq_false h] at this

theorem SL.castL {P : Program} {ops : Array Oper} {rest : List Oper} {w0 : World} {mu : List Nat} {bs : Mem} {Q : ExitP} {l l' : List Value} (hl : l = l') (h : SL P ops w0 mu rest Q l' bs) : SL P ops w0 mu rest Q l bs := by rw [hl]; exact h
set_option maxRecDepth 20000 in
set_option maxHeartbeats 2000000 in
theorem awake_any (w : World) : Calls Try.prog 16 #[] w fun e w' => e = .returned (.bool true) ∧ Below w.heap.size w w' := by
  refine calls_of_wp Try.func16 rfl ?_
  rw [show (#[] : Array Value) ++ Array.replicate _ undef = ([undef, undef, undef, undef, undef, undef, undef, undef, undef, undef, undef, undef, undef, undef, undef, undef, undef, undef, undef, undef, undef, undef, undef, undef, undef, undef, undef, undef, undef, undef, undef, undef, undef, undef] : List Value).toArray from (by simp only [Try.ntmps16, List.size_toArray, List.length_cons, List.length_nil, Nat.reduceAdd, Nat.reduceSub, Array.replicate_succ, Array.replicate_zero, List.push_toArray, List.append_toArray, List.nil_append, List.cons_append])]
  refine raw_k (OwnM.start w) (fun K hK => ?_)
  repeat (first | ((with_reducible refine SP.region (id := 0) ?_); refine SL.e tabOk ?_; (with_reducible refine SL.nil ?_)) | ((with_reducible refine SP.seqK ?_); intro _ _) | (with_reducible refine thenK_normal ?_) | (refine useK (by assumption) ?_) | (with_reducible refine SP.block ?_) | (with_reducible refine thenK_exit ?_) | (with_reducible refine thenK_ret ?_) | (with_reducible refine blockK_normal ?_) | (with_reducible refine blockK_ret ?_) | (with_reducible refine blockK_eq ?_) | (with_reducible refine blockK_ne rfl ?_) | (with_reducible refine SP.skip ?_) | (with_reducible refine SP.ret ?_) | (with_reducible refine SP.exit ?_) | ((with_reducible show SP _ _ _ (Code.cond _ _ _) _ _ _); first | (refine SP.condT rfl (by first | rfl | (simp only [decide_eq_true_eq, beq_iff_eq, bne_iff_ne]; first | done | omega)) ?_) | (refine SP.condF rfl (by first | rfl | (simp only [decide_eq_false_iff_not, beq_eq_false_iff_ne, bne_eq_false_iff_eq]; first | done | omega)) ?_)))
  refine ⟨rfl, hK _ _ (fun W0 hw0 => ?_)⟩
  clear hK
  refine raw_call (α := Nat × Nat) ent_25 rfl (V := fun a => .agg (inRow usK usN (.slice (some ⟨a.1, 0, none⟩) 12 12) (.slice (some ⟨a.2, 0, none⟩) 114 114))) (Φ := fun a w' => Below W0.heap.size W0 w' ∧ Sl w' (some ⟨a.1, 0, none⟩) 12 12 usA ∧ Sl w' (some ⟨a.2, 0, none⟩) 114 114 usB) ((usual_any W0).mono (by rintro e w' ⟨ab, bb, he, h1, h2, h3⟩; exact ⟨(ab, bb), he, h1, h2, h3⟩)) ?_
  rintro w1 ⟨ab, bb⟩ ⟨hb1, hSA, hSB⟩
  refine ⟨doneK Try.prog w1 [] #[.tmp 0] (fun v' _ => v' = .bool true), ?_, ?_⟩
  · refine SL.castL (l' := [.bool false, undef, undef, undef, .agg (inRow usK usN (.slice (some ⟨ab, 0, none⟩) 12 12) (.slice (some ⟨bb, 0, none⟩) 114 114)), undef, undef, undef, undef, undef, undef, undef, undef, undef, undef, undef, undef, undef, undef, undef, undef, undef, undef, undef, undef, undef, undef, undef, undef, undef, undef, undef, undef, undef]) (by first | (dsimp only [putL, setNth, evL, nth, Nat.zero_add, Nat.add_zero, Nat.reduceAdd, Nat.reduceMul, Nat.reduceSub, Int.reduceToNat, Int.toNat_natCast, Nat.mul_one, Nat.one_mul, gi_c0, gi_c1, gi_c2, gi_c3]; rfl) | (dsimp only [putL, setNth, evL, nth, Nat.zero_add, Nat.add_zero, Nat.reduceAdd, Nat.reduceMul, Nat.reduceSub, Int.reduceToNat, Int.toNat_natCast, Nat.mul_one, Nat.one_mul, gi_c0, gi_c1, gi_c2, gi_c3]; done)) ?_
    refine SL.al in_z ?_; intro tb
    refine SL.stA tabOk (ir_cells rfl rfl) ?_ (hn := ir_size (by simp) (by simp)) (hsz := ir_size (by simp) (by simp))
    refine SL.nil ?_
    refine thenK_normal ?_
    repeat (first | ((with_reducible refine SP.region (id := 2) ?_); refine SL.e tabOk ?_; refine SL.ldP tabOk ?_ (hn := by rw [ir_size usK_length usN_length]; decide) (hB := ir_k usK_length); refine SL.e tabOk ?_; refine SL.ldP tabOk ?_ (hn := by rw [ir_size usK_length usN_length]; decide) (hB := ir_n usK_length usN_length); refine SL.e tabOk ?_; refine SL.ldC tabOk ?_ (hv := ir_a usK_length usN_length); refine SL.e tabOk ?_; refine SL.ldC tabOk ?_ (hv := ir_b usK_length usN_length); refine SL.clA ent_13 rfl (n := 114 + 16) (X := sealV usK usN usA usB) (fun w1 hw1 => seal_ok usK usN usK_length usN_length _ _ 12 12 114 114 usA usB w1 (hSA.old hw1.below) (hSB.old hw1.below) usA_byts usB_byts (by decide) (by decide)) (fun q c abs ha => ?_); obtain ⟨sb, J, T, rfl, rfl⟩ := ha.at_ (by decide); have hcc := ha.cap; refine SL.e tabOk ?_; refine SL.e tabOk ?_; refine SL.e tabOk ?_; refine SL.e tabOk ?_; refine SL.e tabOk ?_; (with_reducible refine SL.nil ?_)) | ((with_reducible refine SP.region (id := 3) ?_); refine SL.e tabOk ?_; (first | (refine SL.c true tabOk ?_) | (refine SL.c false tabOk ?_) | (refine SL.e tabOk ?_)); refine SL.e tabOk ?_; (first | (refine SL.gT ?_; refine SL.e tabOk ?_) | refine SL.gF ?_); (first | (refine SL.gT ?_; refine SL.v (ValO.len tabOk (by rfl)) ?_) | refine SL.gF ?_); (first | (refine SL.gT ?_; (first | (refine SL.c true tabOk ?_) | (refine SL.c false tabOk ?_) | (refine SL.e tabOk ?_))) | refine SL.gF ?_); refine SL.e tabOk ?_; (with_reducible refine SL.nil ?_)) | ((with_reducible refine SP.region (id := 5) ?_); refine SL.e tabOk ?_; refine SL.ctS tabOk 0 16 ?_; refine SL.buildC tabOk zero_u8 (by decide) (by decide) aw_c1 (fun cb => ?_); refine SL.v (ValO.call ent_15 _ rfl _ (fun w1 hw1 => eqb_t _ _ _ _ _ _ _ awH w1 ((ha.sl hw1 (by repeat (first | exact List.sublist_append_left _ _ | exact List.Sublist.refl _ | refine List.Sublist.cons _ ?_ | refine List.Sublist.trans ?_ (List.sublist_append_right _ _)))).take (k := 16) (by decide)) (Sl.of hw1 (RdA.own g0) (Lies.whole _) awH_length (by decide)) (by decide) aw_box.1)) ?_; refine SL.e tabOk ?_; (first | (refine SL.gT ?_; refine SL.e tabOk ?_) | refine SL.gF ?_); (first | (refine SL.gT ?_; refine SL.ctS tabOk 114 130 ?_) | refine SL.gF ?_); (first | (refine SL.gT ?_; refine SL.buildC tabOk zero_u8 (by decide) (by decide) aw_c2 (fun cb2 => ?_)) | refine SL.gF ?_); (first | (refine SL.gT ?_; refine SL.v (ValO.call ent_15 _ rfl _ (fun w1 hw1 => eqb_t _ _ _ _ _ _ _ awT w1 ((ha.sl hw1 (by repeat (first | exact List.sublist_append_left _ _ | exact List.Sublist.refl _ | refine List.Sublist.cons _ ?_ | refine List.Sublist.trans ?_ (List.sublist_append_right _ _)))).drop (k := 114) (by decide)) (Sl.of hw1 (RdA.own g0) (Lies.whole _) awT_length (by decide)) (by decide) aw_box.2)) ?_) | refine SL.gF ?_); refine SL.e tabOk ?_; refine SL.e tabOk ?_; (with_reducible refine SL.nil ?_)) | ((with_reducible refine SP.seqK ?_); intro _ _) | (with_reducible refine thenK_normal ?_) | (refine useK (by assumption) ?_) | (with_reducible refine SP.block ?_) | (with_reducible refine thenK_exit ?_) | (with_reducible refine thenK_ret ?_) | (with_reducible refine blockK_normal ?_) | (with_reducible refine blockK_ret ?_) | (with_reducible refine blockK_eq ?_) | (with_reducible refine blockK_ne rfl ?_) | (with_reducible refine SP.skip ?_) | (with_reducible refine SP.ret ?_) | (with_reducible refine SP.exit ?_) | ((with_reducible show SP _ _ _ (Code.cond _ _ _) _ _ _); first | (refine SP.condT rfl (by first | rfl | (simp only [decide_eq_true_eq, beq_iff_eq, bne_iff_ne]; first | done | omega)) ?_) | (refine SP.condF rfl (by first | rfl | (simp only [decide_eq_false_iff_not, beq_eq_false_iff_ne, bne_eq_false_iff_eq]; first | done | omega)) ?_)))
    exact doneK.mk rfl (ResO.tmp rfl) rfl
  · refine after_done Try.results16 (fun v bs W hv hW => ⟨by rw [hv], ?_⟩)
    exact (OwnM.comp (bs1 := []) ((hw0.grow hb1).sub (List.nil_sublist _)) hW).below
end Sp

end Go.Proofs.Ytpighhoehhilkaa

namespace Go.Proofs.Ytpighhoehhilkaa
set_option linter.unusedSimpArgs false
set_option linter.unusedVariables false
open Go Go.RowKit

namespace Sp
open F M
theorem xor_xor {x y : Int} (hx : 0 ≤ x ∧ x < 256) (hy : 0 ≤ y ∧ y < 256) : bits .xor .u8 (bits .xor .u8 x y) y = x := by
  obtain ⟨a, rfl⟩ := Int.eq_ofNat_of_zero_le hx.1
  obtain ⟨b, rfl⟩ := Int.eq_ofNat_of_zero_le hy.1
  have ha := hx.2
  have hb := hy.2
  rw [u8_xor_nat a b (by omega) (by omega)]
  have h1 : a ^^^ b < 2 ^ 8 := Nat.xor_lt_two_pow (by omega) (by omega)
  rw [u8_xor_nat (a ^^^ b) b (by omega) (by omega), Nat.xor_assoc, Nat.xor_self, Nat.xor_zero]
theorem strm_b (K : List Int) (ct : Int) (N : List Int) (j : Nat) : 0 ≤ strm K ct N j ∧ strm K ct N j < 256 := by unfold strm; exact chB_byts _ _ _ _
theorem xo_xo (K : List Int) (ct : Int) (N : List Int) {B : List Int} (hB : Byts B) : xo K ct N (xo K ct N B) = B := by
  apply List.ext_getElem?
  intro j
  by_cases hj : j < B.length
  · rw [xo_get _ _ _ _ _ (by simpa using hj), gi_xo _ _ _ _ _ hj, xor_xor (hB j) (strm_b _ _ _ _), List.getElem?_eq_getElem hj]
    simp [gi, hj]
  · rw [List.getElem?_eq_none (by simp; omega), List.getElem?_eq_none (by omega)]
theorem box_ok (K N A B : List Int) (m : Nat) (hm : B.length = m) : boxOk K N A (sealV K N A B) (m + 16) := by
  unfold boxOk
  rw [Nat.add_sub_cancel, ← hm, sealV_take, sealV_drop]
/-- A box is opened as it was sealed. -/
theorem open_back (K N : List Int) (hK : K.length = 32) (hN : N.length = 12) (p q : Option Addr) (n c m d : Nat) (A B : List Int) (w : World) (hSA : Sl w p n c A) (hSB : Sl w q (m + 16) d (sealV K N A B)) (hBm : B.length = m) (bA : Byts A) (bB : Byts B) (hn : n ≤ 4096) (hm : m ≤ 4096) :
    Calls Try.prog 23 #[.agg (ints .u8 K), .agg (ints .u8 N), .slice p n c, .slice q (m + 16) d] w fun e w' => ∃ q c abs, e = .returned (.tuple #[.slice q m c, .int .i64 0]) ∧ AO q m c B abs ∧ OwnM w [] w' abs := by
  have h := open_ok K N hK hN p q n c (m + 16) d A (sealV K N A B) w hSA hSB bA (sealV_byts K N A bB) hn (by omega) (by omega) (box_ok K N A B m hBm)
  have ht : (sealV K N A B).take m = xo K 1 N B := by rw [← hBm]; exact sealV_take K N A B
  rw [Nat.add_sub_cancel, ht, xo_xo K 1 N bB] at h
  exact h
/-- A box that opens is that of what comes out. -/
theorem box_of (K N A : List Int) {X : List Int} (m : Nat) (hX : X.length = m) (h16 : 16 ≤ m) (bX : Byts X) (h : boxOk K N A X m) : sealV K N A (xo K 1 N (X.take (m - 16))) = X := by
  unfold boxOk at h
  unfold sealV
  rw [xo_xo K 1 N (bX.take2 _), h, List.take_append_drop]
end Sp

end Go.Proofs.Ytpighhoehhilkaa
