/-
  Bytes compared and copied; the program's tag of bytes; Same.
-/
import Derived.Test.YthbmlpiplfbehaaPolyPg
import Derived.Test.YthbmlpiplfbehaaSl
namespace Go.Proofs.Ythbmlpiplfbehaa
set_option linter.unusedSimpArgs false
set_option linter.unusedVariables false
open Go Go.RowKit

namespace Sp
open F
theorem zero_u8 : (Try.prog.info? 5).map (·.zero) = some (some (.int .u8 0)) := by kernel_rfl

theorem rsame_any_ext {A B : List Int} (h : A.length = B.length) (hg : ∀ j, j < A.length → gi A j = gi B j) : A = B := by
  apply List.ext_getElem? ; intro i
  by_cases hi : i < A.length
  · have := hg i hi
    simp [gi, hi, show i < B.length by omega] at this
    simp [hi, show i < B.length by omega, this]
  · rw [List.getElem?_eq_none (by omega), List.getElem?_eq_none (by omega)]
theorem eqb_any_ext {A B : List Int} (h : A.length = B.length) (hg : ∀ j, j < A.length → gi A j = gi B j) : A = B := by
  apply List.ext_getElem? ; intro i
  by_cases hi : i < A.length
  · have := hg i hi
    simp [gi, hi, show i < B.length by omega] at this
    simp [hi, show i < B.length by omega, this]
  · rw [List.getElem?_eq_none (by omega), List.getElem?_eq_none (by omega)]
set_option maxRecDepth 20000 in
set_option maxHeartbeats 1000000 in
theorem eqb_any (p q : Option Addr) (n m c d : Nat) (A B : List Int) (w : World) (hA : Sl w p n c A) (hB : Sl w q m d B) (hmax : n ≤ 140737488355328) : Calls Try.prog 16 #[.slice p n c, .slice q m d] w fun e w' => e = .returned (.bool (decide (A = B))) ∧ Below w.heap.size w w' := by
  have hlA := hA.len
  have hlB := hB.len
  have hcA := hA.cap
  have hcB := hB.cap
  refine pureE Try.func16 Try.ntmps16 Try.results16 ?_
  by_cases hnm : n = m
  · subst hnm
    repeat (first | ((with_reducible refine SP.region (id := 0) ?_); refine SL.e tabOk ?_; (with_reducible refine SL.nil ?_)) | ((with_reducible refine SP.region (id := 1) ?_); refine SL.e tabOk ?_; refine SL.v (ValO.len tabOk (by rfl)) ?_; refine SL.e tabOk ?_; refine SL.v (ValO.len tabOk (by rfl)) ?_; refine SL.e tabOk ?_; (with_reducible refine SL.nil ?_)) | ((with_reducible refine SP.region (id := 3) ?_); refine SL.e tabOk ?_; (with_reducible refine SL.nil ?_)) | ((with_reducible refine SP.seqK ?_); intro _ _) | (with_reducible refine thenK_normal ?_) | (refine useK (by assumption) ?_) | (with_reducible refine SP.block ?_) | (with_reducible refine thenK_exit ?_) | (with_reducible refine thenK_ret ?_) | (with_reducible refine blockK_normal ?_) | (with_reducible refine blockK_ret ?_) | (with_reducible refine blockK_eq ?_) | (with_reducible refine blockK_ne rfl ?_) | (with_reducible refine SP.skip ?_) | (with_reducible refine SP.ret ?_) | (with_reducible refine SP.exit ?_) | ((with_reducible show SP _ _ _ (Code.cond _ _ _) _ _ _); first | (refine SP.condT rfl (by first | rfl | (simp only [decide_eq_true_eq, beq_iff_eq, bne_iff_ne]; first | done | omega)) ?_) | (refine SP.condF rfl (by first | rfl | (simp only [decide_eq_false_iff_not, beq_eq_false_iff_ne, bne_eq_false_iff_eq]; first | done | omega)) ?_)))
    refine SP.loopN (fun k l bs => (l = [.slice p n c, .slice q n d, nth l 2, nth l 3, nth l 4, .int .i64 (k : Nat), nth l 6, nth l 7, nth l 8, nth l 9, nth l 10, nth l 11, nth l 12, nth l 13, nth l 14, nth l 15, nth l 16, nth l 17, nth l 18, nth l 19, nth l 20, nth l 21, nth l 22, nth l 23, nth l 24, nth l 25] ∧ bs = []) ∧ ∀ j, j < k → gi A j = gi B j) n ⟨⟨rfl, rfl⟩, fun j hj => absurd hj (Nat.not_lt_zero j)⟩ ?_
    rintro k lf _ hk ⟨⟨hl, rfl⟩, heq⟩
    refine SP.cast hl ?_
    clear hl
    by_cases hlt : k < n
    · have hk1 : IntKind.i64.wrap ((k : Int) + 1) = ((k + 1 : Nat) : Int) := by rw [IntWalk.i64_in _ (by omega)]; omega
      obtain ⟨s1, o1, A1, T1, z1, rfl, hs1, hLA⟩ := hA.at_ (by omega)
      obtain ⟨s2, o2, A2, T2, z2, rfl, hs2, hLB⟩ := hB.at_ (by omega)
      by_cases he : gi A k = gi B k
      · repeat (first | ((with_reducible refine SP.region (id := 4) ?_); refine SL.e tabOk ?_; refine SL.e tabOk ?_; refine SL.v (ValO.len tabOk (by rfl)) ?_; refine SL.e tabOk ?_; (with_reducible refine SL.nil ?_)) | ((with_reducible refine SP.region (id := 5) ?_); refine SL.e tabOk ?_; refine SL.e tabOk ?_; refine SL.e tabOk ?_; (with_reducible refine SL.nil ?_)) | ((with_reducible show SP _ _ _ (Code.region _ _ true) _ _ _); first | (refine SPa (id := 6) [] [] ([]) [0, 1, 2, 3, 4, 5, 6, 7, 8] follows ?_; refine SF.p tabOk ?_; refine SF.p tabOk ?_; refine SF.ixS tabOk ?_; (first | (refine SF.ldI tabOk ?_) | (refine SF.ldC tabOk ?_ (hv := by first | exact (hLA _ (by omega)) | exact (hLB _ (by omega))))); refine SF.p tabOk ?_; refine SF.p tabOk ?_; refine SF.ixS tabOk ?_; (first | (refine SF.ldI tabOk ?_) | (refine SF.ldC tabOk ?_ (hv := by first | exact (hLA _ (by omega)) | exact (hLB _ (by omega))))); refine SF.e tabOk ?_; refine SF.done ?_)) | ((with_reducible refine SP.seqK ?_); intro _ _) | (with_reducible refine thenK_normal ?_) | (refine useK (by assumption) ?_) | (with_reducible refine SP.block ?_) | (with_reducible refine thenK_exit ?_) | (with_reducible refine thenK_ret ?_) | (with_reducible refine blockK_normal ?_) | (with_reducible refine blockK_ret ?_) | (with_reducible refine blockK_eq ?_) | (with_reducible refine blockK_ne rfl ?_) | (with_reducible refine SP.skip ?_) | (with_reducible refine SP.ret ?_) | (with_reducible refine SP.exit ?_) | ((with_reducible show SP _ _ _ (Code.cond _ _ _) _ _ _); first | (refine SP.condT rfl (by first | rfl | (simp only [decide_eq_true_eq, beq_iff_eq, bne_iff_ne]; first | done | omega)) ?_) | (refine SP.condF rfl (by first | rfl | (simp only [decide_eq_false_iff_not, beq_eq_false_iff_ne, bne_eq_false_iff_eq]; first | done | omega)) ?_)))
        simp only [hk1]
        exact ⟨hlt, ⟨(by first | rfl | trivial), (by first | rfl | trivial)⟩, fun j hj => by
          rcases Nat.lt_or_ge j k with h | h
          · exact heq j h
          · rw [show j = k by omega]; exact he⟩
      · repeat (first | ((with_reducible refine SP.region (id := 4) ?_); refine SL.e tabOk ?_; refine SL.e tabOk ?_; refine SL.v (ValO.len tabOk (by rfl)) ?_; refine SL.e tabOk ?_; (with_reducible refine SL.nil ?_)) | ((with_reducible refine SP.region (id := 7) ?_); refine SL.e tabOk ?_; (with_reducible refine SL.nil ?_)) | ((with_reducible show SP _ _ _ (Code.region _ _ true) _ _ _); first | (refine SPa (id := 6) [] [] ([]) [0, 1, 2, 3, 4, 5, 6, 7, 8] follows ?_; refine SF.p tabOk ?_; refine SF.p tabOk ?_; refine SF.ixS tabOk ?_; (first | (refine SF.ldI tabOk ?_) | (refine SF.ldC tabOk ?_ (hv := by first | exact (hLA _ (by omega)) | exact (hLB _ (by omega))))); refine SF.p tabOk ?_; refine SF.p tabOk ?_; refine SF.ixS tabOk ?_; (first | (refine SF.ldI tabOk ?_) | (refine SF.ldC tabOk ?_ (hv := by first | exact (hLA _ (by omega)) | exact (hLB _ (by omega))))); refine SF.e tabOk ?_; refine SF.done ?_)) | ((with_reducible refine SP.seqK ?_); intro _ _) | (with_reducible refine thenK_normal ?_) | (refine useK (by assumption) ?_) | (with_reducible refine SP.block ?_) | (with_reducible refine thenK_exit ?_) | (with_reducible refine thenK_ret ?_) | (with_reducible refine blockK_normal ?_) | (with_reducible refine blockK_ret ?_) | (with_reducible refine blockK_eq ?_) | (with_reducible refine blockK_ne rfl ?_) | (with_reducible refine SP.skip ?_) | (with_reducible refine SP.ret ?_) | (with_reducible refine SP.exit ?_) | ((with_reducible show SP _ _ _ (Code.cond _ _ _) _ _ _); first | (refine SP.condT rfl (by first | rfl | (simp only [decide_eq_true_eq, beq_iff_eq, bne_iff_ne]; first | done | omega)) ?_) | (refine SP.condF rfl (by first | rfl | (simp only [decide_eq_false_iff_not, beq_eq_false_iff_ne, bne_eq_false_iff_eq]; first | done | omega)) ?_)))
        refine doneK.mk rfl (ResO.tmp rfl) ?_
        show Value.bool false = _
        rw [decide_eq_false]
        intro h
        exact he (by rw [h])
    · have hend : k = n := by omega
      repeat (first | ((with_reducible refine SP.region (id := 4) ?_); refine SL.e tabOk ?_; refine SL.e tabOk ?_; refine SL.v (ValO.len tabOk (by rfl)) ?_; refine SL.e tabOk ?_; (with_reducible refine SL.nil ?_)) | ((with_reducible refine SP.region (id := 8) ?_); refine SL.e tabOk ?_; (with_reducible refine SL.nil ?_)) | ((with_reducible refine SP.seqK ?_); intro _ _) | (with_reducible refine thenK_normal ?_) | (refine useK (by assumption) ?_) | (with_reducible refine SP.block ?_) | (with_reducible refine thenK_exit ?_) | (with_reducible refine thenK_ret ?_) | (with_reducible refine blockK_normal ?_) | (with_reducible refine blockK_ret ?_) | (with_reducible refine blockK_eq ?_) | (with_reducible refine blockK_ne rfl ?_) | (with_reducible refine SP.skip ?_) | (with_reducible refine SP.ret ?_) | (with_reducible refine SP.exit ?_) | ((with_reducible show SP _ _ _ (Code.cond _ _ _) _ _ _); first | (refine SP.condT rfl (by first | rfl | (simp only [decide_eq_true_eq, beq_iff_eq, bne_iff_ne]; first | done | omega)) ?_) | (refine SP.condF rfl (by first | rfl | (simp only [decide_eq_false_iff_not, beq_eq_false_iff_ne, bne_eq_false_iff_eq]; first | done | omega)) ?_)))
      refine doneK.mk rfl (ResO.tmp rfl) ?_
      show Value.bool true = _
      rw [decide_eq_true (eqb_any_ext (by omega) (fun j hj => heq j (by omega)))]
  · repeat (first | ((with_reducible refine SP.region (id := 0) ?_); refine SL.e tabOk ?_; (with_reducible refine SL.nil ?_)) | ((with_reducible refine SP.region (id := 1) ?_); refine SL.e tabOk ?_; refine SL.v (ValO.len tabOk (by rfl)) ?_; refine SL.e tabOk ?_; refine SL.v (ValO.len tabOk (by rfl)) ?_; refine SL.e tabOk ?_; (with_reducible refine SL.nil ?_)) | ((with_reducible refine SP.region (id := 2) ?_); refine SL.e tabOk ?_; (with_reducible refine SL.nil ?_)) | ((with_reducible refine SP.seqK ?_); intro _ _) | (with_reducible refine thenK_normal ?_) | (refine useK (by assumption) ?_) | (with_reducible refine SP.block ?_) | (with_reducible refine thenK_exit ?_) | (with_reducible refine thenK_ret ?_) | (with_reducible refine blockK_normal ?_) | (with_reducible refine blockK_ret ?_) | (with_reducible refine blockK_eq ?_) | (with_reducible refine blockK_ne rfl ?_) | (with_reducible refine SP.skip ?_) | (with_reducible refine SP.ret ?_) | (with_reducible refine SP.exit ?_) | ((with_reducible show SP _ _ _ (Code.cond _ _ _) _ _ _); first | (refine SP.condT rfl (by first | rfl | (simp only [decide_eq_true_eq, beq_iff_eq, bne_iff_ne]; first | done | omega)) ?_) | (refine SP.condF rfl (by first | rfl | (simp only [decide_eq_false_iff_not, beq_eq_false_iff_ne, bne_eq_false_iff_eq]; first | done | omega)) ?_)))
    refine doneK.mk rfl (ResO.tmp rfl) ?_
    show Value.bool false = _
    rw [decide_eq_false]
    intro h
    exact hnm (by rw [← hlA, ← hlB, h])


theorem copy_any_nil (p : Option Addr) (c : Nat) (w : World) : Calls Try.prog 20 #[.slice p 0 c] w fun e w' => e = .returned (.slice none 0 0) ∧ Below w.heap.size w w' := by
  refine pureE Try.func20 Try.ntmps20 Try.results20 ?_
  repeat (first | ((with_reducible refine SP.region (id := 0) ?_); refine SL.e tabOk ?_; (with_reducible refine SL.nil ?_)) | ((with_reducible refine SP.region (id := 1) ?_); refine SL.e tabOk ?_; (with_reducible refine SL.nil ?_)) | ((with_reducible refine SP.region (id := 2) ?_); refine SL.e tabOk ?_; refine SL.e tabOk ?_; refine SL.app00 tabOk ?_; refine SL.e tabOk ?_; (with_reducible refine SL.nil ?_)) | ((with_reducible refine SP.region (id := 3) ?_); refine SL.e tabOk ?_; refine SL.e tabOk ?_; (with_reducible refine SL.nil ?_)) | ((with_reducible refine SP.seqK ?_); intro _ _) | (with_reducible refine thenK_normal ?_) | (refine useK (by assumption) ?_) | (with_reducible refine SP.block ?_) | (with_reducible refine thenK_exit ?_) | (with_reducible refine thenK_ret ?_) | (with_reducible refine blockK_normal ?_) | (with_reducible refine blockK_ret ?_) | (with_reducible refine blockK_eq ?_) | (with_reducible refine blockK_ne rfl ?_) | (with_reducible refine SP.skip ?_) | (with_reducible refine SP.ret ?_) | (with_reducible refine SP.exit ?_) | ((with_reducible show SP _ _ _ (Code.cond _ _ _) _ _ _); first | (refine SP.condT rfl (by first | rfl | (simp only [decide_eq_true_eq, beq_iff_eq, bne_iff_ne]; first | done | omega)) ?_) | (refine SP.condF rfl (by first | rfl | (simp only [decide_eq_false_iff_not, beq_eq_false_iff_ne, bne_eq_false_iff_eq]; first | done | omega)) ?_)))
  exact doneK.mk rfl (ResO.tmp rfl) rfl
theorem copy_any (p : Option Addr) (n c : Nat) (B : List Int) (w : World) (hB : Sl w p n c B) (h0 : 0 < n) (hmax : n ≤ 140737488355328) :
    Calls Try.prog 20 #[.slice p n c] w fun e w' => ∃ nb cap, n ≤ cap ∧ e = .returned (.slice (some ⟨nb, 0, none⟩) n cap) ∧ OwnM w [] w' [(nb, ints .u8 (B ++ List.replicate (cap - n) 0), 5)] := by
  have hlB := hB.len
  obtain ⟨s2, o2, A2, T2, z2, rfl, hs2, hLB⟩ := hB.at_ h0
  refine (callE (mu := []) Try.func20 Try.ntmps20 Try.results20 (OwnM.start w) (fun v bs => ∃ nb cap, n ≤ cap ∧ v = .slice (some ⟨nb, 0, none⟩) n cap ∧ bs = [(nb, ints .u8 (B ++ List.replicate (cap - n) 0), 5)]) ?_).mono ?_
  · repeat (first | ((with_reducible refine SP.region (id := 0) ?_); refine SL.e tabOk ?_; (with_reducible refine SL.nil ?_)) | ((with_reducible refine SP.region (id := 1) ?_); refine SL.e tabOk ?_; (with_reducible refine SL.nil ?_)) | ((with_reducible refine SP.region (id := 2) ?_); refine SL.e tabOk ?_; refine SL.e tabOk ?_; refine SL.app0 tabOk hLB (by omega) (by omega) (fun nb cap hcap => ?_) zero_u8 hlB; refine SL.e tabOk ?_; (with_reducible refine SL.nil ?_)) | ((with_reducible refine SP.region (id := 3) ?_); refine SL.e tabOk ?_; refine SL.e tabOk ?_; (with_reducible refine SL.nil ?_)) | ((with_reducible refine SP.seqK ?_); intro _ _) | (with_reducible refine thenK_normal ?_) | (refine useK (by assumption) ?_) | (with_reducible refine SP.block ?_) | (with_reducible refine thenK_exit ?_) | (with_reducible refine thenK_ret ?_) | (with_reducible refine blockK_normal ?_) | (with_reducible refine blockK_ret ?_) | (with_reducible refine blockK_eq ?_) | (with_reducible refine blockK_ne rfl ?_) | (with_reducible refine SP.skip ?_) | (with_reducible refine SP.ret ?_) | (with_reducible refine SP.exit ?_) | ((with_reducible show SP _ _ _ (Code.cond _ _ _) _ _ _); first | (refine SP.condT rfl (by first | rfl | (simp only [decide_eq_true_eq, beq_iff_eq, bne_iff_ne]; first | done | omega)) ?_) | (refine SP.condF rfl (by first | rfl | (simp only [decide_eq_false_iff_not, beq_eq_false_iff_ne, bne_eq_false_iff_eq]; first | done | omega)) ?_)))
    refine doneK.mk rfl (ResO.tmp rfl) ⟨nb, cap, by omega, rfl, by rw [hlB]⟩
  · rintro e w' ⟨v, bs', rfl, ⟨nb, cap, hc, rfl, rfl⟩, hw'⟩
    exact ⟨nb, cap, hc, rfl, hw'⟩

def smI' (A B : List Int) : Nat → Int
  | 0 => 0
  | i + 1 => bits .or .u8 (smI' A B i) (bits .xor .u8 (gi A i) (gi B i))
@[irreducible] def smI (A B : List Int) (i : Nat) : Int := smI' A B i
theorem smI_0 (A B : List Int) : smI A B 0 = 0 := by unfold smI; rfl
theorem smI_s (A B : List Int) (i : Nat) : smI A B (i + 1) = bits .or .u8 (smI A B i) (bits .xor .u8 (gi A i) (gi B i)) := by unfold smI; rfl

set_option maxRecDepth 20000 in
set_option maxHeartbeats 1000000 in
theorem psame_any (p q : Option Addr) (n m c d : Nat) (A B : List Int) (w : World) (hA : Sl w p n c A) (hB : Sl w q m d B) (hmax : n ≤ 140737488355328) : Calls Try.prog 46 #[.slice p n c, .slice q m d] w fun e w' => e = .returned (.bool (decide (n = m) && (smI A B n == 0))) ∧ Below w.heap.size w w' := by
  have hlA := hA.len
  have hlB := hB.len
  have hcA := hA.cap
  have hcB := hB.cap
  refine pureE Try.func46 Try.ntmps46 Try.results46 ?_
  by_cases hnm : n = m
  · subst hnm
    rw [decide_eq_true rfl, Bool.true_and]
    repeat (first | ((with_reducible refine SP.region (id := 0) ?_); refine SL.e tabOk ?_; (with_reducible refine SL.nil ?_)) | ((with_reducible refine SP.region (id := 1) ?_); refine SL.e tabOk ?_; refine SL.v (ValO.len tabOk (by rfl)) ?_; refine SL.e tabOk ?_; refine SL.v (ValO.len tabOk (by rfl)) ?_; refine SL.e tabOk ?_; (with_reducible refine SL.nil ?_)) | ((with_reducible refine SP.region (id := 3) ?_); refine SL.e tabOk ?_; (with_reducible refine SL.nil ?_)) | ((with_reducible refine SP.region (id := 4) ?_); refine SL.e tabOk ?_; refine SL.v (ValO.len tabOk (by rfl)) ?_; refine SL.e tabOk ?_; (with_reducible refine SL.nil ?_)) | ((with_reducible refine SP.seqK ?_); intro _ _) | (with_reducible refine thenK_normal ?_) | (refine useK (by assumption) ?_) | (with_reducible refine SP.block ?_) | (with_reducible refine thenK_exit ?_) | (with_reducible refine thenK_ret ?_) | (with_reducible refine blockK_normal ?_) | (with_reducible refine blockK_ret ?_) | (with_reducible refine blockK_eq ?_) | (with_reducible refine blockK_ne rfl ?_) | (with_reducible refine SP.skip ?_) | (with_reducible refine SP.ret ?_) | (with_reducible refine SP.exit ?_) | ((with_reducible show SP _ _ _ (Code.cond _ _ _) _ _ _); first | (refine SP.condT rfl (by first | rfl | (simp only [decide_eq_true_eq, beq_iff_eq, bne_iff_ne]; first | done | omega)) ?_) | (refine SP.condF rfl (by first | rfl | (simp only [decide_eq_false_iff_not, beq_eq_false_iff_ne, bne_eq_false_iff_eq]; first | done | omega)) ?_)))
    refine SP.loopN (fun k l bs => l = [.slice p n c, .slice q n d, nth l 2, nth l 3, nth l 4, .int .u8 (smI A B k), nth l 6, nth l 7, nth l 8, nth l 9, nth l 10, nth l 11, nth l 12, .int .i64 (n : Nat), .int .i64 (k : Nat), nth l 15, nth l 16, nth l 17, nth l 18, nth l 19, nth l 20, nth l 21, nth l 22, nth l 23, nth l 24, nth l 25, nth l 26, nth l 27, nth l 28, nth l 29, nth l 30] ∧ bs = []) n ⟨(by first | rfl | (simp only [smI_0]; done) | (simp only [smI_0]; rfl) | (rw [smI_0]; rfl)), (by first | rfl | (simp only [smI_0]; done) | (simp only [smI_0]; rfl) | (rw [smI_0]; rfl))⟩ ?_
    rintro k lfk _ hkk ⟨hlk, rfl⟩
    refine SP.cast hlk ?_
    clear hlk
    by_cases hltk : k < n
    · have hk1 : IntKind.i64.wrap ((k : Int) + 1) = ((k + 1 : Nat) : Int) := by rw [IntWalk.i64_in _ (by omega)]; omega
      obtain ⟨s1, o1, A1, T1, z1, rfl, hs1, hLA⟩ := hA.at_ (by omega)
      obtain ⟨s2, o2, A2, T2, z2, rfl, hs2, hLB⟩ := hB.at_ (by omega)
      repeat (first | ((with_reducible refine SP.region (id := 5) ?_); refine SL.e tabOk ?_; (with_reducible refine SL.nil ?_)) | ((with_reducible refine SP.region (id := 6) ?_); refine SL.e tabOk ?_; refine SL.e tabOk ?_; (with_reducible refine SL.nil ?_)) | ((with_reducible refine SP.region (id := 8) ?_); refine SL.e tabOk ?_; refine SL.e tabOk ?_; (with_reducible refine SL.nil ?_)) | ((with_reducible show SP _ _ _ (Code.region _ _ true) _ _ _); first | (refine SPa (id := 7) [] [] ([]) [0, 1, 2, 3, 4, 5, 6, 7, 8, 9, 10, 11] follows ?_; refine SF.p tabOk ?_; refine SF.p tabOk ?_; refine SF.p tabOk ?_; refine SF.ixS tabOk ?_; (first | (refine SF.ldI tabOk ?_) | (refine SF.ldC tabOk ?_ (hv := by first | exact (hLA _ (by omega)) | exact (hLB _ (by omega))))); refine SF.p tabOk ?_; refine SF.p tabOk ?_; refine SF.ixS tabOk ?_; (first | (refine SF.ldI tabOk ?_) | (refine SF.ldC tabOk ?_ (hv := by first | exact (hLA _ (by omega)) | exact (hLB _ (by omega))))); refine SF.e tabOk ?_; refine SF.e tabOk ?_; refine SF.p tabOk ?_; refine SF.done ?_)) | ((with_reducible refine SP.seqK ?_); intro _ _) | (with_reducible refine thenK_normal ?_) | (refine useK (by assumption) ?_) | (with_reducible refine SP.block ?_) | (with_reducible refine thenK_exit ?_) | (with_reducible refine thenK_ret ?_) | (with_reducible refine blockK_normal ?_) | (with_reducible refine blockK_ret ?_) | (with_reducible refine blockK_eq ?_) | (with_reducible refine blockK_ne rfl ?_) | (with_reducible refine SP.skip ?_) | (with_reducible refine SP.ret ?_) | (with_reducible refine SP.exit ?_) | ((with_reducible show SP _ _ _ (Code.cond _ _ _) _ _ _); first | (refine SP.condT rfl (by first | rfl | (simp only [decide_eq_true_eq, beq_iff_eq, bne_iff_ne]; first | done | omega)) ?_) | (refine SP.condF rfl (by first | rfl | (simp only [decide_eq_false_iff_not, beq_eq_false_iff_ne, bne_eq_false_iff_eq]; first | done | omega)) ?_)))
      simp only [hk1]
      exact ⟨hltk, (by first | rfl | (simp only [smI_s]; done) | (simp only [smI_s]; rfl) | (rw [smI_s]; rfl)), (by first | rfl | (simp only [smI_s]; done) | (simp only [smI_s]; rfl) | (rw [smI_s]; rfl))⟩
    · have hendk : k = n := by omega
      replace hendk := Lib.hid hendk
      repeat (first | ((with_reducible refine SP.region (id := 5) ?_); refine SL.e tabOk ?_; (with_reducible refine SL.nil ?_)) | ((with_reducible refine SP.region (id := 9) ?_); refine SL.e tabOk ?_; refine SL.e tabOk ?_; refine SL.e tabOk ?_; (with_reducible refine SL.nil ?_)) | ((with_reducible refine SP.seqK ?_); intro _ _) | (with_reducible refine thenK_normal ?_) | (refine useK (by assumption) ?_) | (with_reducible refine SP.block ?_) | (with_reducible refine thenK_exit ?_) | (with_reducible refine thenK_ret ?_) | (with_reducible refine blockK_normal ?_) | (with_reducible refine blockK_ret ?_) | (with_reducible refine blockK_eq ?_) | (with_reducible refine blockK_ne rfl ?_) | (with_reducible refine SP.skip ?_) | (with_reducible refine SP.ret ?_) | (with_reducible refine SP.exit ?_) | ((with_reducible show SP _ _ _ (Code.cond _ _ _) _ _ _); first | (refine SP.condT rfl (by first | rfl | (simp only [decide_eq_true_eq, beq_iff_eq, bne_iff_ne]; first | done | omega)) ?_) | (refine SP.condF rfl (by first | rfl | (simp only [decide_eq_false_iff_not, beq_eq_false_iff_ne, bne_eq_false_iff_eq]; first | done | omega)) ?_)))
      have hq := hendk.out; clear hendk; subst hq
      exact doneK.mk rfl (ResO.tmp rfl) rfl
  · repeat (first | ((with_reducible refine SP.region (id := 0) ?_); refine SL.e tabOk ?_; (with_reducible refine SL.nil ?_)) | ((with_reducible refine SP.region (id := 1) ?_); refine SL.e tabOk ?_; refine SL.v (ValO.len tabOk (by rfl)) ?_; refine SL.e tabOk ?_; refine SL.v (ValO.len tabOk (by rfl)) ?_; refine SL.e tabOk ?_; (with_reducible refine SL.nil ?_)) | ((with_reducible refine SP.region (id := 2) ?_); refine SL.e tabOk ?_; (with_reducible refine SL.nil ?_)) | ((with_reducible refine SP.seqK ?_); intro _ _) | (with_reducible refine thenK_normal ?_) | (refine useK (by assumption) ?_) | (with_reducible refine SP.block ?_) | (with_reducible refine thenK_exit ?_) | (with_reducible refine thenK_ret ?_) | (with_reducible refine blockK_normal ?_) | (with_reducible refine blockK_ret ?_) | (with_reducible refine blockK_eq ?_) | (with_reducible refine blockK_ne rfl ?_) | (with_reducible refine SP.skip ?_) | (with_reducible refine SP.ret ?_) | (with_reducible refine SP.exit ?_) | ((with_reducible show SP _ _ _ (Code.cond _ _ _) _ _ _); first | (refine SP.condT rfl (by first | rfl | (simp only [decide_eq_true_eq, beq_iff_eq, bne_iff_ne]; first | done | omega)) ?_) | (refine SP.condF rfl (by first | rfl | (simp only [decide_eq_false_iff_not, beq_eq_false_iff_ne, bne_eq_false_iff_eq]; first | done | omega)) ?_)))
    rw [decide_eq_false hnm, Bool.false_and]
    exact doneK.mk rfl (ResO.tmp rfl) rfl

end Sp
end Go.Proofs.Ythbmlpiplfbehaa
