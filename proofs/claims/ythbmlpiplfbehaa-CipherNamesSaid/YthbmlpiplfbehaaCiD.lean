/-
  A cipher's state: Rekey, the code's and the document's.
-/
import Derived.Test.YthbmlpiplfbehaaCiC
namespace Go.Proofs.Ythbmlpiplfbehaa
set_option linter.unusedSimpArgs false
set_option linter.unusedVariables false
open Go Go.RowKit

namespace Sp
open F M
/-- The nonce of the last number, and the key behind a key. -/
@[irreducible] def lastV : List Int := [0, 0, 0, 0, 255, 255, 255, 255, 255, 255, 255, 255]
theorem lastV_length : lastV.length = 12 := by unfold lastV; rfl
attribute [simp] lastV_length
theorem lastV_byts : Byts lastV := byts_mem (by unfold lastV; decide +kernel)
@[irreducible] def rkB (K : List Int) : List Int := sealV K lastV [] (List.replicate 32 0)
theorem rkB_length (K : List Int) : (rkB K).length = 48 := by unfold rkB; simp
attribute [simp] rkB_length
theorem rkB_byts (K : List Int) : Byts (rkB K) := by unfold rkB; exact sealV_byts _ _ _ (byts_rep _)
@[irreducible] def rkV (K : List Int) : List Int := (rkB K).take 32
theorem rkV_length (K : List Int) : (rkV K).length = 32 := by unfold rkV; simp
attribute [simp] rkV_length
theorem rkV_byts (K : List Int) : Byts (rkV K) := by unfold rkV; exact (rkB_byts K).take2 _
theorem rk_seal (K : List Int) (hK : K.length = 32) (zb : Nat) (w : World) (hS : Sl w (some ⟨zb, 0, none⟩) 32 32 (List.replicate 32 0)) :
    Calls Try.prog 26 #[.agg (ints .u8 K), .agg (ints .u8 lastV), .slice none 0 0, .slice (some ⟨zb, 0, none⟩) 32 32] w (BoxPost w (rkB K) 0) := by
  have h := seal_u K lastV hK lastV_length none (some ⟨zb, 0, none⟩) 0 32 [] (List.replicate 32 0) byts_nil (byts_rep _) w (Sl.nil w none 0) hS (by decide) (by decide)
  rw [sX_ok (by decide) (by decide), sE_ok (by decide) (by decide)] at h
  unfold rkB
  exact h
theorem rrk_seal (K : List Int) (hK : K.length = 32) (bK : Byts K) (zb : Nat) (w : World) (hS : Sl w (some ⟨zb, 0, none⟩) 32 32 (List.replicate 32 0)) :
    Calls Try.prog 34 #[.agg (ints .u8 K), .agg (ints .u8 lastV), .slice none 0 0, .slice (some ⟨zb, 0, none⟩) 32 32] w (BoxPost w (rkB K) 0) := by
  have h := rseal_u K lastV hK lastV_length none (some ⟨zb, 0, none⟩) 0 32 [] (List.replicate 32 0) bK lastV_byts byts_nil (byts_rep _) w (Sl.nil w none 0) hS (by decide) (by decide)
  rw [sX_ok (by decide) (by decide), sE_ok (by decide) (by decide)] at h
  unfold rkB
  exact h
def lkI' : Nat → List Int
  | 0 => List.replicate 12 0
  | i + 1 => (lkI' i).set (4 + i) 255
@[irreducible] def lkI (i : Nat) : List Int := lkI' i
theorem lkI_0 : lkI 0 = List.replicate 12 0 := by unfold lkI; rfl
theorem lkI_s (i : Nat) : lkI (i + 1) = (lkI i).set (4 + i) 255 := by unfold lkI; rfl
theorem lkI_length : ∀ i, (lkI i).length = 12
  | 0 => by rw [lkI_0]; rfl
  | i + 1 => by rw [lkI_s, List.length_set, lkI_length i]
attribute [simp] lkI_length
theorem lkI_8 : lkI 8 = lastV := by unfold lkI lastV; decide +kernel
theorem st_pks {g : Bool} {K : List Int} {n : Int} (hK : K.length = 32) (B : List Int) (hB : 32 ≤ B.length) (J : List Int) : putAt (stRow g K n) 1 ((ints .u8 (B ++ J)).extract 0 (0 + 32)).toList = stRow g (B.take 32) n := by
  have hL : ((ints .u8 (B ++ J)).extract 0 (0 + 32)).toList = (B.take 32).map (Value.int .u8) := by
    simp [ints, List.map_take, List.take_append_of_le_length (show 32 ≤ (B.map (Value.int .u8)).length by simpa using hB)]
  have e : ∀ M : List Int, stRow g M n = (Value.bool g :: (M.map (Value.int .u8) ++ [Value.int .i64 n])).toArray := fun M => by unfold stRow; apply Array.ext'; simp [ints]
  rw [hL]
  refine Array.ext_getElem? fun j => ?_
  have hl : ((B.take 32).map (Value.int .u8)).length = 32 := by simp; omega
  have hk : (K.map (Value.int .u8)).length = 32 := by simpa using hK
  rw [putAt_get _ _ _ _ (by rw [hl, st_size hK]; decide), hl, e, e]
  generalize hx : (B.take 32).map (Value.int .u8) = X at *
  generalize hy : K.map (Value.int .u8) = Y at *
  simp only [List.getElem?_toArray]
  cases j with
  | zero => simp
  | succ j =>
    simp only [List.getElem?_cons_succ, Nat.add_sub_cancel]
    by_cases hj : j < 32
    · rw [if_pos (by omega), List.getElem?_append_left (by omega)]
    · rw [if_neg (by omega), List.getElem?_append_right (by omega), List.getElem?_append_right (by omega), hl, hk]
def kkI' (K B : List Int) : Nat → List Int
  | 0 => K
  | i + 1 => (kkI' K B i).set i (gi B i)
@[irreducible] def kkI (K B : List Int) (i : Nat) : List Int := kkI' K B i
theorem kkI_0 (K B : List Int) : kkI K B 0 = K := by unfold kkI; rfl
theorem kkI_s (K B : List Int) (i : Nat) : kkI K B (i + 1) = (kkI K B i).set i (gi B i) := by unfold kkI; rfl
theorem kkI_length (K B : List Int) : ∀ i, (kkI K B i).length = K.length
  | 0 => by rw [kkI_0]
  | i + 1 => by rw [kkI_s, List.length_set, kkI_length K B i]
attribute [simp] kkI_length
theorem kkI_eq (K B : List Int) (hB : K.length ≤ B.length) : ∀ i, i ≤ K.length → kkI K B i = B.take i ++ K.drop i
  | 0, _ => by rw [kkI_0]; simp
  | i + 1, h => by
    rw [kkI_s, kkI_eq K B hB i (by omega), List.set_append, if_neg (by simp; omega)]
    have hlt : i < B.length := by omega
    have h1 : i - (B.take i).length = 0 := by simp; omega
    rw [h1, List.take_succ_eq_append_getElem hlt, List.append_assoc]
    congr 1
    rw [List.drop_eq_getElem_cons (show i < K.length by omega)]
    rw [List.set_cons_zero]
    unfold gi
    rw [List.getD_eq_getElem?_getD, List.getElem?_eq_getElem hlt]
    rfl
theorem kkI_end (K B : List Int) (hK : K.length = 32) (hB : 32 ≤ B.length) : kkI K B 32 = B.take 32 := by rw [kkI_eq K B (by omega) 32 (by omega), List.drop_eq_nil_of_le (by omega), List.append_nil]

set_option maxRecDepth 20000 in
set_option maxHeartbeats 2000000 in
theorem rekey_any (K : List Int) (hK : K.length = 32) (n : Int) (b : Nat) (w : World) (hb : w.heap[b]? = some (.cells (stRow true K n) 62 (0, 0))) :
    Calls Try.prog 27 #[.pointer (some ⟨b, 0, none⟩)] w fun e w' => e = .returned (.int .i64 0) ∧ OwnM w [b] w' [(b, stRow true (rkV K) n, 62)] := by
  have tok_nb : True := trivial
  refine mutE Try.func27 Try.ntmps27 Try.results27 hb ?_
  repeat (first | ((with_reducible refine SP.region (id := 0) ?_); refine SL.e tabOk ?_; (with_reducible refine SL.nil ?_)) | ((with_reducible refine SP.region (id := 1) ?_); refine SL.e tabOk ?_; refine SL.v (ValO.call ent_35 _ rfl _ (fun w1 hw1 => none_no K hK n b w1 (hbk hw1 b))) ?_; (with_reducible refine SL.nil ?_)) | ((with_reducible refine SP.region (id := 3) ?_); refine SL.al zero_44 ?_; (first | (have _t := tok_nb; clear _t tok_nb; intro nb) | intro _); (with_reducible refine SL.nil ?_)) | ((with_reducible refine SP.region (id := 4) ?_); refine SL.e tabOk ?_; (with_reducible refine SL.nil ?_)) | ((with_reducible refine SP.seqK ?_); intro _ _) | (with_reducible refine thenK_normal ?_) | (refine useK (by assumption) ?_) | (with_reducible refine SP.block ?_) | (with_reducible refine SP.skip ?_) | ((with_reducible show SP _ _ _ (Code.cond _ _ _) _ _ _); first | (refine SP.condF rfl (by first | rfl | (simp only [decide_eq_false_iff_not, beq_eq_false_iff_ne, bne_eq_false_iff_eq]; first | done | omega)) ?_)))
  refine SP.loopN (fun i l bs => l = [.pointer (some ⟨b, 0, none⟩), nth l 1, nth l 2, .pointer (some ⟨nb, 0, none⟩), .int .i64 ((4 + i : Nat)), nth l 5, nth l 6, nth l 7, nth l 8, nth l 9, nth l 10, nth l 11, nth l 12, nth l 13, nth l 14, nth l 15, nth l 16, nth l 17, nth l 18, nth l 19, nth l 20, nth l 21, nth l 22, nth l 23, nth l 24, nth l 25, nth l 26, nth l 27, nth l 28, nth l 29, nth l 30, nth l 31, nth l 32, nth l 33] ∧ bs = [(nb, ints .u8 (lkI i), 44), (b, stRow true K n, 62)]) 8 ⟨rfl, by rw [lkI_0]⟩ ?_
  rintro i lfi _ hki ⟨hli, rfl⟩
  refine SP.cast hli ?_
  clear hli
  by_cases hlti : i < 8
  · have hi1 : IntKind.i64.wrap (((4 + i : Nat) : Int) + 1) = ((4 + (i + 1) : Nat) : Int) := by rw [IntWalk.i64_in _ (by omega)]; omega
    repeat (first | ((with_reducible refine SP.region (id := 5) ?_); refine SL.e tabOk ?_; refine SL.e tabOk ?_; (with_reducible refine SL.nil ?_)) | ((with_reducible refine SP.region (id := 6) ?_); refine SL.e tabOk ?_; refine SL.e tabOk ?_; refine SL.e tabOk ?_; (with_reducible refine SL.nil ?_)) | ((with_reducible refine SP.region (id := 7) ?_); refine SL.e tabOk ?_; refine SL.ixA tabOk ?_; refine SL.stI tabOk ?_; (with_reducible refine SL.nil ?_)) | ((with_reducible refine SP.seqK ?_); intro _ _) | (with_reducible refine thenK_normal ?_) | (refine useK (by assumption) ?_) | (with_reducible refine SP.block ?_) | (with_reducible refine SP.skip ?_) | ((with_reducible show SP _ _ _ (Code.cond _ _ _) _ _ _); first | (refine SP.condT rfl (by first | rfl | (simp only [decide_eq_true_eq, beq_iff_eq, bne_iff_ne]; first | done | omega)) ?_)))
    simp only [hi1]
    exact ⟨hlti, rfl, by rw [lkI_s]⟩
  · have hendi : i = 8 := by omega
    replace hendi := Lib.hid hendi
    repeat (first | ((with_reducible refine SP.region (id := 5) ?_); refine SL.e tabOk ?_; refine SL.e tabOk ?_; (with_reducible refine SL.nil ?_)) | ((with_reducible refine SP.seqK ?_); intro _ _) | (with_reducible refine thenK_normal ?_) | (refine useK (by assumption) ?_) | (with_reducible refine SP.exit ?_) | ((with_reducible show SP _ _ _ (Code.cond _ _ _) _ _ _); first | (refine SP.condF rfl (by first | rfl | (simp only [decide_eq_false_iff_not, beq_eq_false_iff_ne, bne_eq_false_iff_eq]; first | done | omega)) ?_)))
    have hq := hendi.out; clear hendi; subst hq
    rw [lkI_8]
    repeat (first | ((with_reducible refine SP.region (id := 9) ?_); refine SL.e tabOk ?_; refine SL.e tabOk ?_; (with_reducible refine SL.nil ?_)) | ((with_reducible refine SP.region (id := 11) ?_); refine SL.e tabOk ?_; refine SL.nc ?_; refine SL.e tabOk ?_; refine SL.ctA tabOk 0 32 ?_; refine SL.e tabOk ?_; refine SL.cp tabOk 32 (st_pks hK (rkB K) (by simp) J) ?_ (hA := by rw [st_size hK]; decide) (h1 := ints_mem); (with_reducible refine SL.nil ?_)) | ((with_reducible refine SP.region (id := 12) ?_); refine SL.e tabOk ?_; (with_reducible refine SL.nil ?_)) | ((with_reducible show SP _ _ _ (Code.region _ _ true) _ _ _); first | (refine SPa (id := 8) [5, 6] [1, 2, 3, 4] ([(nb, ints .u8 lastV, 44), (b, stRow true K n, 62)]) [0, 1, 2, 3, 4, 5, 6, 7, 8, 9, 10, 11] follows ?_; refine SF.p tabOk ?_; refine SF.valK rfl rfl rfl rfl (fun m hm => ValO.nilc rfl) bpp ?_; refine SF.valK rfl rfl rfl rfl (fun m hm => ValO.ev tabOk (by rfl)) bpp ?_; (first | (refine SF.valK rfl rfl rfl rfl (fun m hm => ValO.ldRow tabOk _ rfl _ _ rfl rfl _ (by first | exact RdA.kept hm g0 | exact RdA.kept hm g1 | exact RdA.kept hm g2 | exact RdA.kept hm g3) (by first | (simp [ints_size]; done) | (simp [ints_size]; omega))) bpp ?_) | (refine SF.valK rfl rfl rfl rfl (fun m hm => ValO.ldPart tabOk _ _ rfl _ _ rfl rfl _ (by first | exact RdA.kept hm g0 | exact RdA.kept hm g1 | exact RdA.kept hm g2 | exact RdA.kept hm g3) (by first | (rw [st_size hK]; decide)) _ (by first | exact st_k hK)) bpp ?_)); (first | (refine SF.valK rfl rfl rfl rfl (fun m hm => ValO.ldRow tabOk _ rfl _ _ rfl rfl _ (by first | exact RdA.kept hm g0 | exact RdA.kept hm g1 | exact RdA.kept hm g2 | exact RdA.kept hm g3) (by first | (simp [ints_size]; done) | (simp [ints_size]; omega))) bpp ?_) | (refine SF.valK rfl rfl rfl rfl (fun m hm => ValO.ldPart tabOk _ _ rfl _ _ rfl rfl _ (by first | exact RdA.kept hm g0 | exact RdA.kept hm g1 | exact RdA.kept hm g2 | exact RdA.kept hm g3) (by first | (rw [st_size hK]; decide)) _ (by first | exact st_k hK)) bpp ?_)); refine SF.made (n := 32) tabOk zero_u8 (by decide) (fun zb => ?_) (by simp [Kept]); refine SF.clB (f := 26) ent_26 rfl (X := rkB K) (n := 0) (fun w1 hw1 => rk_seal K hK zb w1 (Sl.of hw1 (RdA.own g0) (Lies.whole _) (by simp) (Nat.le_refl _))) (fun q' c' abs ha => ?_); obtain ⟨xb, J, XT, rfl, rfl⟩ := ha.at_ (by simp); refine SF.p tabOk ?_; refine SF.p tabOk ?_; refine SF.p tabOk ?_; refine SF.p tabOk ?_; refine SF.p tabOk ?_; refine SF.done ?_)) | ((with_reducible refine SP.seqK ?_); intro _ _) | (with_reducible refine thenK_normal ?_) | (refine useK (by assumption) ?_) | (with_reducible refine SP.skip ?_) | (with_reducible refine SP.ret ?_) | ((with_reducible show SP _ _ _ (Code.cond _ _ _) _ _ _); first | (refine SP.condF rfl (by first | rfl | (simp only [decide_eq_false_iff_not, beq_eq_false_iff_ne, bne_eq_false_iff_eq]; first | done | omega)) ?_)))
    unfold rkV
    exact doneK.mk rfl (ResO.tmp rfl) ⟨rfl, by simp⟩

theorem rk_built : Try.prog.built 44 [(0, .int .u8 0), (1, .int .u8 0), (2, .int .u8 0), (3, .int .u8 0), (4, .int .u8 255), (5, .int .u8 255), (6, .int .u8 255), (7, .int .u8 255), (8, .int .u8 255), (9, .int .u8 255), (10, .int .u8 255), (11, .int .u8 255)] = some (ints .u8 (lastV)) := by unfold lastV; kernel_rfl
set_option maxRecDepth 20000 in
set_option maxHeartbeats 2000000 in
theorem rrekey_any (K : List Int) (hK : K.length = 32) (bK : Byts K) (n : Int) (b : Nat) (w : World) (hb : w.heap[b]? = some (.cells (stRow true K n) 65 (0, 0))) :
    Calls Try.prog 28 #[.pointer (some ⟨b, 0, none⟩)] w fun e w' => e = .returned (.int .i64 0) ∧ OwnM w [b] w' [(b, stRow true (rkV K) n, 65)] := by
  have tok_nb : True := trivial
  refine mutE Try.func28 Try.ntmps28 Try.results28 hb ?_
  repeat (first | ((with_reducible refine SP.region (id := 0) ?_); refine SL.e tabOk ?_; (with_reducible refine SL.nil ?_)) | ((with_reducible refine SP.region (id := 1) ?_); refine SL.e tabOk ?_; refine SL.nc ?_; refine SL.e tabOk ?_; refine SL.ldC tabOk ?_ (hv := st_g); refine SL.e tabOk ?_; (with_reducible refine SL.nil ?_)) | ((with_reducible refine SP.region (id := 3) ?_); refine SL.v (ValO.build (by first | (dsimp only [List.map, evL, nth]; done) | (dsimp only [List.map, evL, nth]; rfl)) rk_built) ?_; refine SL.al zero_44 ?_; (first | (have _t := tok_nb; clear _t tok_nb; intro nb) | intro _); refine SL.stR tabOk ?_; (with_reducible refine SL.nil ?_)) | ((with_reducible refine SP.region (id := 5) ?_); refine SL.e tabOk ?_; (with_reducible refine SL.nil ?_)) | ((with_reducible show SP _ _ _ (Code.region _ _ true) _ _ _); first | (refine SPa (id := 4) [5, 6] [1, 2, 3, 4] ([(nb, ints .u8 lastV, 44), (b, stRow true K n, 65)]) [0, 1, 2, 3, 4, 5, 6, 7, 8, 9, 10, 11] follows ?_; refine SF.p tabOk ?_; refine SF.valK rfl rfl rfl rfl (fun m hm => ValO.nilc rfl) bpp ?_; refine SF.valK rfl rfl rfl rfl (fun m hm => ValO.ev tabOk (by rfl)) bpp ?_; (first | (refine SF.valK rfl rfl rfl rfl (fun m hm => ValO.ldRow tabOk _ rfl _ _ rfl rfl _ (by first | exact RdA.kept hm g0 | exact RdA.kept hm g1 | exact RdA.kept hm g2 | exact RdA.kept hm g3) (by first | (simp [ints_size]; done) | (simp [ints_size]; omega))) bpp ?_) | (refine SF.valK rfl rfl rfl rfl (fun m hm => ValO.ldPart tabOk _ _ rfl _ _ rfl rfl _ (by first | exact RdA.kept hm g0 | exact RdA.kept hm g1 | exact RdA.kept hm g2 | exact RdA.kept hm g3) (by first | (rw [st_size hK]; decide)) _ (by first | exact st_k hK)) bpp ?_)); (first | (refine SF.valK rfl rfl rfl rfl (fun m hm => ValO.ldRow tabOk _ rfl _ _ rfl rfl _ (by first | exact RdA.kept hm g0 | exact RdA.kept hm g1 | exact RdA.kept hm g2 | exact RdA.kept hm g3) (by first | (simp [ints_size]; done) | (simp [ints_size]; omega))) bpp ?_) | (refine SF.valK rfl rfl rfl rfl (fun m hm => ValO.ldPart tabOk _ _ rfl _ _ rfl rfl _ (by first | exact RdA.kept hm g0 | exact RdA.kept hm g1 | exact RdA.kept hm g2 | exact RdA.kept hm g3) (by first | (rw [st_size hK]; decide)) _ (by first | exact st_k hK)) bpp ?_)); refine SF.made (n := 32) tabOk zero_u8 (by decide) (fun zb => ?_) (by simp [Kept]); refine SF.clB (f := 34) ent_34 rfl (X := rkB K) (n := 0) (fun w1 hw1 => rrk_seal K hK bK zb w1 (Sl.of hw1 (RdA.own g0) (Lies.whole _) (by simp) (Nat.le_refl _))) (fun q' c' abs ha => ?_); obtain ⟨xb, J, XT, rfl, rfl⟩ := ha.at_ (by simp); refine SF.p tabOk ?_; refine SF.p tabOk ?_; refine SF.p tabOk ?_; refine SF.p tabOk ?_; refine SF.p tabOk ?_; refine SF.done ?_)) | ((with_reducible refine SP.seqK ?_); intro _ _) | (with_reducible refine thenK_normal ?_) | (refine useK (by assumption) ?_) | (with_reducible refine SP.block ?_) | (with_reducible refine SP.skip ?_) | ((with_reducible show SP _ _ _ (Code.cond _ _ _) _ _ _); first | (refine SP.condF rfl (by first | rfl | (simp only [decide_eq_false_iff_not, beq_eq_false_iff_ne, bne_eq_false_iff_eq]; first | done | omega)) ?_)))
  refine SP.loopN (fun i l bs => l = [.pointer (some ⟨b, 0, none⟩), nth l 1, nth l 2, nth l 3, .slice (some ⟨xb, 0, none⟩) (rkB K).length c', nth l 5, .int .i64 ((i : Nat)), nth l 7, nth l 8, nth l 9, nth l 10, nth l 11, nth l 12, nth l 13, nth l 14, nth l 15, nth l 16, nth l 17, nth l 18, nth l 19, nth l 20, nth l 21, nth l 22, nth l 23, nth l 24, nth l 25, nth l 26, nth l 27, nth l 28, nth l 29, nth l 30, nth l 31, nth l 32, nth l 33, nth l 34, nth l 35] ∧ bs = [(zb, ints .u8 (List.replicate 32 0), 5), (nb, ints .u8 lastV, 44), (b, stRow true (kkI K (rkB K) i) n, 65), (xb, ints .u8 (rkB K ++ J), XT)]) 32 ⟨rfl, by rw [kkI_0]⟩ ?_
  rintro i lfi _ hki ⟨hli, rfl⟩
  refine SP.cast hli ?_
  clear hli
  by_cases hlti : i < 32
  · have hi1 : IntKind.i64.wrap ((i : Int) + 1) = ((i + 1 : Nat) : Int) := by rw [IntWalk.i64_in _ (by omega)]; omega
    repeat (first | ((with_reducible refine SP.region (id := 6) ?_); refine SL.e tabOk ?_; refine SL.e tabOk ?_; (with_reducible refine SL.nil ?_)) | ((with_reducible refine SP.region (id := 7) ?_); refine SL.e tabOk ?_; refine SL.e tabOk ?_; refine SL.e tabOk ?_; (with_reducible refine SL.nil ?_)) | ((with_reducible show SP _ _ _ (Code.region _ _ true) _ _ _); first | (refine SPa (id := 8) [9] [] ([]) [0, 1, 2, 3, 4, 5, 6, 7, 8, 9] follows ?_; refine SF.p tabOk ?_; refine SF.p tabOk ?_; refine SF.p tabOk ?_; refine SF.p tabOk ?_; refine SF.ixS tabOk ?_; refine SF.ldI tabOk ?_; refine SF.nc ?_; refine SF.e tabOk ?_; refine SF.ixA tabOk ?_; refine SF.stP tabOk ?_ (hsz := by rw [st_size ((kkI_length K (rkB K) i).trans hK)]; omega) (hA := st_pk ((kkI_length K (rkB K) i).trans hK) hlti _); refine SF.done ?_)) | ((with_reducible refine SP.seqK ?_); intro _ _) | (with_reducible refine thenK_normal ?_) | (refine useK (by assumption) ?_) | (with_reducible refine SP.block ?_) | (with_reducible refine SP.skip ?_) | ((with_reducible show SP _ _ _ (Code.cond _ _ _) _ _ _); first | (refine SP.condT rfl (by first | rfl | (simp only [decide_eq_true_eq, beq_iff_eq, bne_iff_ne]; first | done | omega)) ?_)))
    simp only [hi1]
    exact ⟨hlti, rfl, by rw [kkI_s, gi_app, if_pos (by simp; omega)]⟩
  · have hendi : i = 32 := by omega
    replace hendi := Lib.hid hendi
    repeat (first | ((with_reducible refine SP.region (id := 6) ?_); refine SL.e tabOk ?_; refine SL.e tabOk ?_; (with_reducible refine SL.nil ?_)) | ((with_reducible refine SP.seqK ?_); intro _ _) | (with_reducible refine thenK_normal ?_) | (refine useK (by assumption) ?_) | (with_reducible refine SP.exit ?_) | ((with_reducible show SP _ _ _ (Code.cond _ _ _) _ _ _); first | (refine SP.condF rfl (by first | rfl | (simp only [decide_eq_false_iff_not, beq_eq_false_iff_ne, bne_eq_false_iff_eq]; first | done | omega)) ?_)))
    have hq := hendi.out; clear hendi; subst hq
    rw [kkI_end K _ hK (by simp)]
    repeat (first | ((with_reducible refine SP.region (id := 9) ?_); refine SL.e tabOk ?_; (with_reducible refine SL.nil ?_)) | (with_reducible refine thenK_normal ?_) | (refine useK (by assumption) ?_) | (with_reducible refine SP.ret ?_))
    unfold rkV
    exact doneK.mk rfl (ResO.tmp rfl) ⟨rfl, by simp⟩

end Sp

end Go.Proofs.Ythbmlpiplfbehaa
