/-
  Joined texts: BlD, BlE, KdA, KdB, KdC, SlC. No conditions.
-/
import Derived.Test.YtdjecenggngdjaaGae
import Derived.Test.YtdjecenggngdjaaGan
import Derived.Test.YtdjecenggngdjaaGat
namespace Go.Proofs.Ytdjecenggngdjaa
set_option linter.unusedSimpArgs false
set_option linter.unusedVariables false
set_option maxHeartbeats 16000000
set_option maxRecDepth 20000
section
open Go Go.RowKit
namespace Sp
open F M
theorem ValO.cutAM {P : Program} {tab : Tab} {w0 : World} {mu : List Nat} {bs : Mem} {l : List Value} {dst : Option Tmp} {ty : TypeId} {pos : String} {af : Array Edge} (ht : TabOk P tab) {gd : Option (Nat × Bool)} {t : TypeId} {x hi mx : Operand} {b off n e esz sz z : Nat} {k k' : IntKind} (hx : evL l x = .pointer (some ⟨b, off, none⟩)) (hl : look tab t = some (.arr n e esz, sz))
    (hhi : evL l hi = .int k (z : Int)) (hmx : evL l mx = .int k' (z : Int)) (hz : z ≤ n) (h0 : 0 < z) : ValO P w0 mu bs l ⟨dst, .slice t x none (some hi) (some mx), ty, pos, af, gd⟩ (.slice (some ⟨b, off, none⟩) z z) := by
  obtain ⟨hu, hs⟩ := td_arr (look_ok ht hl)
  refine ⟨M.growAt_pure fun w => ?_⟩
  cases hq : P.info? e with
  | none => simp [hq] at hs
  | some inf =>
    have hs' : inf.size = esz := by simpa [hq] using hs
    have hb : (Instr.sliceBounds false n n none (some (.int k (z : Int))) (some (.int k' (z : Int)))).run P w = .ok (0, z, z) w := by
      simp [Instr.sliceBounds, Instr.sliceBound, asIntOf, hz]
    have hz0 : z ≠ 0 := by omega
    unfold execOp
    simp [evL_eq, hx, Instr.sliceAt, Instr.sureAddr, Sem.run_bind, run_underlying hu, hhi, hmx, hb, sizeOf, typeInfo, hq, hs', add_zero', hz0]
def zb (B : List Int) (n : Nat) : List Int := ov B n (List.replicate (64 - n) 0)
theorem zb_length {B : List Int} (hB : B.length = 64) {n : Nat} (hn : n ≤ 64) : (zb B n).length = 64 := by unfold zb; rw [ov_length (by rw [hB]; simp; omega)]; exact hB
theorem zb_all {B : List Int} (hB : B.length = 64) : zb B 64 = B := by unfold zb ov; simp [← hB]
theorem clr_lt {sz : Int} {H B : List Int} {n : Nat} {v t : Int} (hH : H.length = 8) (hB : B.length = 64) (hn : n < 64) : putAt (hRow sz H B v t) (9 + n) (ints .u8 (List.replicate (64 - n) 0)).toList = hRow sz H (zb B n) v t := hr_pb hH hB (by simp; omega)
theorem clr_eq {sz : Int} {H B : List Int} {v t : Int} (hH : H.length = 8) (hB : B.length = 64) : putAt (hRow sz H B v t) 9 (ints .u8 (List.replicate 0 0)).toList = hRow sz H (zb B 64) v t := by
  rw [zb_all hB]
  apply Array.ext_getElem?
  intro j
  rw [putAt_get _ _ _ _ (by rw [hr_size hH hB]; simp [ints]), if_neg (by simp [ints])]
theorem clr_eqn {n : Nat} {sz : Int} {H B : List Int} {v t : Int} (hH : H.length = 8) (hB : B.length = 64) (h : n = 64) : putAt (hRow sz H B v t) 9 (ints .u8 (List.replicate 0 0)).toList = hRow sz H (zb B n) v t := by subst h; exact clr_eq hH hB
def bdI' (H : List Int) : Nat → List Int
  | 0 => List.replicate 32 0
  | i + 1 => ptN (bdI' H i) (4 * i) (gi H i) 4
@[irreducible] def bdI (H : List Int) (i : Nat) : List Int := bdI' H i
theorem bdI_0 (H : List Int) : bdI H 0 = List.replicate 32 0 := by unfold bdI; rfl
theorem bdI_s (H : List Int) (i : Nat) : bdI H (i + 1) = ptN (bdI H i) (4 * i) (gi H i) 4 := by unfold bdI; rfl
theorem bdI_length (H : List Int) : ∀ i, (bdI H i).length = 32
  | 0 => by rw [bdI_0]; simp
  | i + 1 => by rw [bdI_s]; simp [bdI_length H i]
attribute [simp] bdI_length
theorem bsum_any (b : Nat) (H B : List Int) (n : Nat) (t : Int) (hH : H.length = 8) (hB : B.length = 64) (hn : n ≤ 64) (w : World) (hb : w.heap[b]? = some (.cells (hRow 32 H B n t) 120 (0, 0))) :
    Calls Try.prog 53 #[.pointer (some ⟨b, 0, none⟩)] w fun e w' => ∃ ob, e = .returned (.slice (some ⟨ob, 0, none⟩) 32 32) ∧ OwnM w [] w' [(ob, ints .u8 (bdI (blP H (zb B n) (IntKind.u64.wrap (t + IntKind.u64.wrap (n : Int))) true) 8), 22)] := by
  have hz := zb_length hB hn
  have hP : (blP H (zb B n) (IntKind.u64.wrap (t + IntKind.u64.wrap (n : Int))) true).length = 8 := by rw [blP_length]; exact hH
  refine (callE (mu := []) Try.func53 Try.ntmps53 Try.results53 (OwnM.start w) (fun v bs => ∃ ob, v = .slice (some ⟨ob, 0, none⟩) 32 32 ∧ [(ob, ints .u8 (bdI (blP H (zb B n) (IntKind.u64.wrap (t + IntKind.u64.wrap (n : Int))) true) 8), 22)].Sublist bs) ?_).mono ?_
  · repeat (first | (refine rgn 0 ?_; refine sEv ?_; refine nlx ?_) | (refine rgn 1 ?_; refine sEv ?_; (first | (refine SL.v (ValO.ptrNil tabOk rfl rfl rfl) ?_) | (refine SL.v (ValO.ptrNilT tabOk rfl rfl rfl) ?_)); refine sEv ?_; (first | (refine SL.gT ?_; refine sEv ?_) | refine SL.gF ?_); (first | (refine SL.gT ?_; refine SL.nc ?_) | refine SL.gF ?_); (first | (refine SL.gT ?_; refine sEv ?_) | refine SL.gF ?_); (first | (refine SL.gT ?_; refine SL.ldC tabOk ?_ (hr := RdA.old hb (by simp)) (hv := hr_s)) | refine SL.gF ?_); (first | (refine SL.gT ?_; (first | (refine SL.c true tabOk ?_) | (refine SL.c false tabOk ?_) | (refine sEv ?_))) | refine SL.gF ?_); refine sEv ?_; refine nlx ?_) | (refine rgn 3 ?_; refine sEv ?_; refine SL.nc ?_; refine SL.ldR tabOk ?_ (hr := RdA.old hb (by simp)) (hn := hr_size hH hB); refine SL.al zero_120 ?_; intro eb; refine SL.stA tabOk hr_cells ?_ (hn := hr_size hH hB) (hsz := by rfl); refine nlx ?_) | (refine zsq ?_; intro _ _) | (with_reducible refine zkN ?_) | (refine useK (by assumption) ?_) | (with_reducible first | refine zsB ?_ | refine zkX ?_ | refine zkR ?_ | refine zbN ?_ | refine zbR ?_ | refine zbE ?_ | refine zbX ?_ | refine zsS ?_ | refine zsR ?_ | refine zsX ?_) | (refine cdT ?_) | (refine cdF ?_))
    by_cases h64 : n = 64
    · have h64' := h64
      repeat (first | (refine rgn 4 ?_; refine sEv ?_; refine sEv ?_; refine SL.ldC tabOk ?_ (hv := hr_n hH hB); refine SL.ctA (c := 0) (d := 0) tabOk n 64 ?_ (hm := cutm_eq (by omega)) (hc := by omega) (hd := by omega); refine SL.clr (off := 9) (dl := 0) tabOk (clr_eqn (n := n) (sz := 32) (v := (n : Int)) (t := t) hH hB h64) zero_u8 ?_ (by rw [hr_size hH hB]; decide); refine nlx ?_) | (refine zsq ?_; intro _ _) | (with_reducible refine zkN ?_) | (refine useK (by assumption) ?_) | (with_reducible first | refine zsB ?_ | refine zkX ?_ | refine zkR ?_ | refine zbN ?_ | refine zbR ?_ | refine zbE ?_ | refine zbX ?_ | refine zsS ?_ | refine zsR ?_ | refine zsX ?_) | (refine cdT ?_) | (refine cdF ?_))
      repeat (first | (refine rgn 5 ?_; refine sEv ?_; refine SL.ldC tabOk ?_ (hv := hr_n hH hz); refine SL.call1 (b := eb) ent_72 rfl g0 (fun w1 hw1 => press_any eb 32 _ _ _ _ n true hH hz w1 (hw1.block (List.mem_of_getElem? (show _ = some (eb, _, _) from g0)))) stt bpp ?_; refine nlx ?_) | (refine rgn 6 ?_; refine SL.al zero_22 ?_; intro ob; refine nlx ?_) | (refine rgn 7 ?_; refine sEv ?_; refine SL.ldP tabOk ?_ (hn := by rw [hr_size hP hz]; decide) (hB := hr_h hP); refine sEv ?_; refine nlx ?_) | (refine zsq ?_; intro _ _) | (with_reducible refine zkN ?_) | (refine useK (by assumption) ?_) | (with_reducible first | refine zsB ?_ | refine zkX ?_ | refine zkR ?_ | refine zbN ?_ | refine zbR ?_ | refine zbE ?_ | refine zbX ?_ | refine zsS ?_ | refine zsR ?_ | refine zsX ?_) | (refine cdT ?_) | (refine cdF ?_))
      refine SP.loopN (fun i l bs => l = [.pointer (some ⟨b, 0, none⟩), nth l 1, nth l 2, nth l 3, .pointer (some ⟨ob, 0, none⟩), nth l 5, nth l 6, nth l 7, nth l 8, nth l 9, nth l 10, nth l 11, nth l 12, nth l 13, nth l 14, nth l 15, nth l 16, nth l 17, nth l 18, nth l 19, nth l 20, nth l 21, nth l 22, nth l 23, nth l 24, nth l 25, nth l 26, nth l 27, .agg (ints .u32 (blP H (zb B n) (IntKind.u64.wrap (t + IntKind.u64.wrap (n : Int))) true)), .int .i64 ((i : Nat)), nth l 30, nth l 31, nth l 32, nth l 33, nth l 34, nth l 35, nth l 36, nth l 37, nth l 38, nth l 39, nth l 40, nth l 41, nth l 42, nth l 43, nth l 44, nth l 45, nth l 46, nth l 47, nth l 48, nth l 49, nth l 50, nth l 51, nth l 52, nth l 53, nth l 54, nth l 55, nth l 56] ∧ bs = [(ob, ints .u8 (bdI (blP H (zb B n) (IntKind.u64.wrap (t + IntKind.u64.wrap (n : Int))) true) i), 22), (eb, hRow 32 (blP H (zb B n) (IntKind.u64.wrap (t + IntKind.u64.wrap (n : Int))) true) (zb B n) n (IntKind.u64.wrap (t + IntKind.u64.wrap (n : Int))), 120)]) 8 ⟨rfl, by rw [bdI_0]⟩ ?_
      rintro i lfi _ hki ⟨hli, rfl⟩
      refine SP.cast hli ?_
      clear hli
      by_cases hlti : i < 8
      · have hi1 : IntKind.i64.wrap ((i : Int) + 1) = ((i + 1 : Nat) : Int) := by rw [IntWalk.i64_in _ (by omega)]; omega
        repeat (first | (refine rgn 8 ?_; refine sEv ?_; refine nlx ?_) | (refine rgn 9 ?_; refine sEv ?_; refine SL.ix tabOk ?_; refine sEv ?_; refine sEv ?_; refine nlx ?_) | (refine rgn 10 ?_; refine sEv ?_; refine nlx ?_) | (refine zsq ?_; intro _ _) | (with_reducible refine zkN ?_) | (refine useK (by assumption) ?_) | (with_reducible first | refine zsB ?_ | refine zkX ?_ | refine zkR ?_ | refine zbN ?_ | refine zbR ?_ | refine zbE ?_ | refine zbX ?_ | refine zsS ?_ | refine zsR ?_ | refine zsX ?_) | (refine cdT ?_) | (refine cdF ?_))
        refine SP.loopN (fun j l bs => l = [.pointer (some ⟨b, 0, none⟩), nth l 1, nth l 2, nth l 3, .pointer (some ⟨ob, 0, none⟩), .int .i64 ((i : Nat)), .int .u32 (gi (blP H (zb B n) (IntKind.u64.wrap (t + IntKind.u64.wrap (n : Int))) true) i), nth l 7, nth l 8, nth l 9, nth l 10, nth l 11, nth l 12, nth l 13, nth l 14, nth l 15, nth l 16, nth l 17, nth l 18, nth l 19, nth l 20, nth l 21, nth l 22, nth l 23, nth l 24, nth l 25, nth l 26, nth l 27, .agg (ints .u32 (blP H (zb B n) (IntKind.u64.wrap (t + IntKind.u64.wrap (n : Int))) true)), .int .i64 ((i : Nat)), nth l 30, nth l 31, nth l 32, .int .i64 ((j : Nat)), nth l 34, nth l 35, nth l 36, nth l 37, nth l 38, nth l 39, nth l 40, nth l 41, nth l 42, nth l 43, nth l 44, nth l 45, nth l 46, nth l 47, nth l 48, nth l 49, nth l 50, nth l 51, nth l 52, nth l 53, nth l 54, nth l 55, nth l 56] ∧ bs = [(ob, ints .u8 (ptN (bdI (blP H (zb B n) (IntKind.u64.wrap (t + IntKind.u64.wrap (n : Int))) true) i) (4 * i) (gi (blP H (zb B n) (IntKind.u64.wrap (t + IntKind.u64.wrap (n : Int))) true) i) j), 22), (eb, hRow 32 (blP H (zb B n) (IntKind.u64.wrap (t + IntKind.u64.wrap (n : Int))) true) (zb B n) n (IntKind.u64.wrap (t + IntKind.u64.wrap (n : Int))), 120)]) 4 ⟨rfl, by rw [ptN_0]⟩ ?_
        rintro j lfj _ hkj ⟨hlj, rfl⟩
        refine SP.cast hlj ?_
        clear hlj
        by_cases hltj : j < 4
        · have hj1 : IntKind.i64.wrap ((j : Int) + 1) = ((j + 1 : Nat) : Int) := by rw [IntWalk.i64_in _ (by omega)]; omega
          have f1 : IntKind.i64.wrap (8 * (j : Int)) = 8 * j := IntWalk.i64_in _ (by omega)
          have h4 : some (Value.int .i64 (IntKind.i64.wrap (IntKind.i64.wrap (4 * (i : Int)) + (j : Int)))) = some (Value.int .i64 ((4 * i + j : Nat) : Int)) := by rw [IntWalk.i64_in (4 * (i : Int)) (by omega), IntWalk.i64_in _ (by omega)]; congr 2 <;> omega
          repeat (first | (refine rgn 11 ?_; refine sEv ?_; refine nlx ?_) | (refine rgn 12 ?_; refine sEv ?_; refine sEv ?_; refine nlx ?_) | (refine rgn 13 ?_; (iterate 3 refine sEv ?_); refine SL.v (v := .int .i64 ((4 * i + j : Nat) : Int)) (ValO.ev tabOk h4) ?_; (iterate 3 refine sEv ?_); refine SL.sh ?_; refine sEv ?_; refine SL.ixA tabOk ?_; refine SL.stI tabOk ?_; refine nlx ?_) | (refine rgn 14 ?_; refine sEv ?_; refine sEv ?_; refine nlx ?_) | (refine zsq ?_; intro _ _) | (with_reducible refine zkN ?_) | (refine useK (by assumption) ?_) | (with_reducible first | refine zsB ?_ | refine zkX ?_ | refine zkR ?_ | refine zbN ?_ | refine zbR ?_ | refine zbE ?_ | refine zbX ?_ | refine zsS ?_ | refine zsR ?_ | refine zsX ?_) | (refine cdT ?_) | (refine cdF ?_))
          simp only [hj1]
          exact ⟨hltj, rfl, by rw [ptN_s]⟩
        · have hendj : j = 4 := by omega
          replace hendj := Lib.hid hendj
          repeat (first | (refine rgn 11 ?_; refine sEv ?_; refine nlx ?_) | (refine zsq ?_; intro _ _) | (with_reducible refine zkN ?_) | (refine useK (by assumption) ?_) | (with_reducible first | refine zsB ?_ | refine zkX ?_ | refine zkR ?_ | refine zbN ?_ | refine zbR ?_ | refine zbE ?_ | refine zbX ?_ | refine zsS ?_ | refine zsR ?_ | refine zsX ?_) | (refine cdT ?_) | (refine cdF ?_))
          have hq := hendj.out; clear hendj; subst hq
          repeat (first | (refine rgn 15 ?_; refine sEv ?_; refine sEv ?_; refine nlx ?_) | (refine zsq ?_; intro _ _) | (with_reducible refine zkN ?_) | (refine useK (by assumption) ?_) | (with_reducible first | refine zsB ?_ | refine zkX ?_ | refine zkR ?_ | refine zbN ?_ | refine zbR ?_ | refine zbE ?_ | refine zbX ?_ | refine zsS ?_ | refine zsR ?_ | refine zsX ?_) | (refine cdT ?_) | (refine cdF ?_))
          simp only [hi1]
          exact ⟨hlti, rfl, by rw [bdI_s]⟩
      · have hendi : i = 8 := by omega
        replace hendi := Lib.hid hendi
        repeat (first | (refine rgn 8 ?_; refine sEv ?_; refine nlx ?_) | (refine zsq ?_; intro _ _) | (with_reducible refine zkN ?_) | (refine useK (by assumption) ?_) | (with_reducible first | refine zsB ?_ | refine zkX ?_ | refine zkR ?_ | refine zbN ?_ | refine zbR ?_ | refine zbE ?_ | refine zbX ?_ | refine zsS ?_ | refine zsR ?_ | refine zsX ?_) | (refine cdT ?_) | (refine cdF ?_))
        have hq := hendi.out; clear hendi; subst hq
        repeat (first | ((with_reducible show SP _ _ _ (Code.region _ _ true) _ _ _); first | (refine SPa (id := 16) [] [] ([]) [0, 1, 2, 3, 4, 5, 6, 7, 8, 9] follows ?_; refine fPv ?_; refine SF.nc ?_; refine SF.e tabOk ?_; refine SF.ldC tabOk ?_ (hr := RdA.old hb (by simp)) (hv := hr_s); refine fPv ?_; refine SF.nc ?_; refine SF.e tabOk ?_; refine SF.ldC tabOk ?_ (hr := RdA.old hb (by simp)) (hv := hr_s); refine SF.v (ValO.cutAM (z := 32) tabOk rfl rfl rfl rfl (by decide) (by decide)) ?_; refine fPv ?_; refine SF.done ?_)) | (refine zsq ?_; intro _ _) | (with_reducible refine zkN ?_) | (refine useK (by assumption) ?_) | (with_reducible first | refine zsB ?_ | refine zkX ?_ | refine zkR ?_ | refine zbN ?_ | refine zbR ?_ | refine zbE ?_ | refine zbX ?_ | refine zsS ?_ | refine zsR ?_ | refine zsX ?_) | (refine cdT ?_) | (refine cdF ?_))
        exact doneK.mk rfl (ResO.tmp rfl) ⟨ob, rfl, by first | exact (List.Sublist.refl _).cons_cons _ | exact List.Sublist.cons_cons _ (List.nil_sublist _)⟩
    · repeat (first | (refine rgn 4 ?_; refine sEv ?_; refine sEv ?_; refine SL.ldC tabOk ?_ (hv := hr_n hH hB); refine SL.ctA tabOk n 64 ?_; refine SL.clr (off := 9 + n) (dl := 64 - n) tabOk (clr_lt (sz := 32) (v := (n : Int)) (t := t) (n := n) hH hB (by omega)) zero_u8 ?_ (by rw [hr_size hH hB]; omega); refine nlx ?_) | (refine zsq ?_; intro _ _) | (with_reducible refine zkN ?_) | (refine useK (by assumption) ?_) | (with_reducible first | refine zsB ?_ | refine zkX ?_ | refine zkR ?_ | refine zbN ?_ | refine zbR ?_ | refine zbE ?_ | refine zbX ?_ | refine zsS ?_ | refine zsR ?_ | refine zsX ?_) | (refine cdT ?_) | (refine cdF ?_))
      repeat (first | (refine rgn 5 ?_; refine sEv ?_; refine SL.ldC tabOk ?_ (hv := hr_n hH hz); refine SL.call1 (b := eb) ent_72 rfl g0 (fun w1 hw1 => press_any eb 32 _ _ _ _ n true hH hz w1 (hw1.block (List.mem_of_getElem? (show _ = some (eb, _, _) from g0)))) stt bpp ?_; refine nlx ?_) | (refine rgn 6 ?_; refine SL.al zero_22 ?_; intro ob; refine nlx ?_) | (refine rgn 7 ?_; refine sEv ?_; refine SL.ldP tabOk ?_ (hn := by rw [hr_size hP hz]; decide) (hB := hr_h hP); refine sEv ?_; refine nlx ?_) | (refine zsq ?_; intro _ _) | (with_reducible refine zkN ?_) | (refine useK (by assumption) ?_) | (with_reducible first | refine zsB ?_ | refine zkX ?_ | refine zkR ?_ | refine zbN ?_ | refine zbR ?_ | refine zbE ?_ | refine zbX ?_ | refine zsS ?_ | refine zsR ?_ | refine zsX ?_) | (refine cdT ?_) | (refine cdF ?_))
      refine SP.loopN (fun i l bs => l = [.pointer (some ⟨b, 0, none⟩), nth l 1, nth l 2, nth l 3, .pointer (some ⟨ob, 0, none⟩), nth l 5, nth l 6, nth l 7, nth l 8, nth l 9, nth l 10, nth l 11, nth l 12, nth l 13, nth l 14, nth l 15, nth l 16, nth l 17, nth l 18, nth l 19, nth l 20, nth l 21, nth l 22, nth l 23, nth l 24, nth l 25, nth l 26, nth l 27, .agg (ints .u32 (blP H (zb B n) (IntKind.u64.wrap (t + IntKind.u64.wrap (n : Int))) true)), .int .i64 ((i : Nat)), nth l 30, nth l 31, nth l 32, nth l 33, nth l 34, nth l 35, nth l 36, nth l 37, nth l 38, nth l 39, nth l 40, nth l 41, nth l 42, nth l 43, nth l 44, nth l 45, nth l 46, nth l 47, nth l 48, nth l 49, nth l 50, nth l 51, nth l 52, nth l 53, nth l 54, nth l 55, nth l 56] ∧ bs = [(ob, ints .u8 (bdI (blP H (zb B n) (IntKind.u64.wrap (t + IntKind.u64.wrap (n : Int))) true) i), 22), (eb, hRow 32 (blP H (zb B n) (IntKind.u64.wrap (t + IntKind.u64.wrap (n : Int))) true) (zb B n) n (IntKind.u64.wrap (t + IntKind.u64.wrap (n : Int))), 120)]) 8 ⟨rfl, by rw [bdI_0]⟩ ?_
      rintro i lfi _ hki ⟨hli, rfl⟩
      refine SP.cast hli ?_
      clear hli
      by_cases hlti : i < 8
      · have hi1 : IntKind.i64.wrap ((i : Int) + 1) = ((i + 1 : Nat) : Int) := by rw [IntWalk.i64_in _ (by omega)]; omega
        repeat (first | (refine rgn 8 ?_; refine sEv ?_; refine nlx ?_) | (refine rgn 9 ?_; refine sEv ?_; refine SL.ix tabOk ?_; refine sEv ?_; refine sEv ?_; refine nlx ?_) | (refine rgn 10 ?_; refine sEv ?_; refine nlx ?_) | (refine zsq ?_; intro _ _) | (with_reducible refine zkN ?_) | (refine useK (by assumption) ?_) | (with_reducible first | refine zsB ?_ | refine zkX ?_ | refine zkR ?_ | refine zbN ?_ | refine zbR ?_ | refine zbE ?_ | refine zbX ?_ | refine zsS ?_ | refine zsR ?_ | refine zsX ?_) | (refine cdT ?_) | (refine cdF ?_))
        refine SP.loopN (fun j l bs => l = [.pointer (some ⟨b, 0, none⟩), nth l 1, nth l 2, nth l 3, .pointer (some ⟨ob, 0, none⟩), .int .i64 ((i : Nat)), .int .u32 (gi (blP H (zb B n) (IntKind.u64.wrap (t + IntKind.u64.wrap (n : Int))) true) i), nth l 7, nth l 8, nth l 9, nth l 10, nth l 11, nth l 12, nth l 13, nth l 14, nth l 15, nth l 16, nth l 17, nth l 18, nth l 19, nth l 20, nth l 21, nth l 22, nth l 23, nth l 24, nth l 25, nth l 26, nth l 27, .agg (ints .u32 (blP H (zb B n) (IntKind.u64.wrap (t + IntKind.u64.wrap (n : Int))) true)), .int .i64 ((i : Nat)), nth l 30, nth l 31, nth l 32, .int .i64 ((j : Nat)), nth l 34, nth l 35, nth l 36, nth l 37, nth l 38, nth l 39, nth l 40, nth l 41, nth l 42, nth l 43, nth l 44, nth l 45, nth l 46, nth l 47, nth l 48, nth l 49, nth l 50, nth l 51, nth l 52, nth l 53, nth l 54, nth l 55, nth l 56] ∧ bs = [(ob, ints .u8 (ptN (bdI (blP H (zb B n) (IntKind.u64.wrap (t + IntKind.u64.wrap (n : Int))) true) i) (4 * i) (gi (blP H (zb B n) (IntKind.u64.wrap (t + IntKind.u64.wrap (n : Int))) true) i) j), 22), (eb, hRow 32 (blP H (zb B n) (IntKind.u64.wrap (t + IntKind.u64.wrap (n : Int))) true) (zb B n) n (IntKind.u64.wrap (t + IntKind.u64.wrap (n : Int))), 120)]) 4 ⟨rfl, by rw [ptN_0]⟩ ?_
        rintro j lfj _ hkj ⟨hlj, rfl⟩
        refine SP.cast hlj ?_
        clear hlj
        by_cases hltj : j < 4
        · have hj1 : IntKind.i64.wrap ((j : Int) + 1) = ((j + 1 : Nat) : Int) := by rw [IntWalk.i64_in _ (by omega)]; omega
          have f1 : IntKind.i64.wrap (8 * (j : Int)) = 8 * j := IntWalk.i64_in _ (by omega)
          have h4 : some (Value.int .i64 (IntKind.i64.wrap (IntKind.i64.wrap (4 * (i : Int)) + (j : Int)))) = some (Value.int .i64 ((4 * i + j : Nat) : Int)) := by rw [IntWalk.i64_in (4 * (i : Int)) (by omega), IntWalk.i64_in _ (by omega)]; congr 2 <;> omega
          repeat (first | (refine rgn 11 ?_; refine sEv ?_; refine nlx ?_) | (refine rgn 12 ?_; refine sEv ?_; refine sEv ?_; refine nlx ?_) | (refine rgn 13 ?_; (iterate 3 refine sEv ?_); refine SL.v (v := .int .i64 ((4 * i + j : Nat) : Int)) (ValO.ev tabOk h4) ?_; (iterate 3 refine sEv ?_); refine SL.sh ?_; refine sEv ?_; refine SL.ixA tabOk ?_; refine SL.stI tabOk ?_; refine nlx ?_) | (refine rgn 14 ?_; refine sEv ?_; refine sEv ?_; refine nlx ?_) | (refine zsq ?_; intro _ _) | (with_reducible refine zkN ?_) | (refine useK (by assumption) ?_) | (with_reducible first | refine zsB ?_ | refine zkX ?_ | refine zkR ?_ | refine zbN ?_ | refine zbR ?_ | refine zbE ?_ | refine zbX ?_ | refine zsS ?_ | refine zsR ?_ | refine zsX ?_) | (refine cdT ?_) | (refine cdF ?_))
          simp only [hj1]
          exact ⟨hltj, rfl, by rw [ptN_s]⟩
        · have hendj : j = 4 := by omega
          replace hendj := Lib.hid hendj
          repeat (first | (refine rgn 11 ?_; refine sEv ?_; refine nlx ?_) | (refine zsq ?_; intro _ _) | (with_reducible refine zkN ?_) | (refine useK (by assumption) ?_) | (with_reducible first | refine zsB ?_ | refine zkX ?_ | refine zkR ?_ | refine zbN ?_ | refine zbR ?_ | refine zbE ?_ | refine zbX ?_ | refine zsS ?_ | refine zsR ?_ | refine zsX ?_) | (refine cdT ?_) | (refine cdF ?_))
          have hq := hendj.out; clear hendj; subst hq
          repeat (first | (refine rgn 15 ?_; refine sEv ?_; refine sEv ?_; refine nlx ?_) | (refine zsq ?_; intro _ _) | (with_reducible refine zkN ?_) | (refine useK (by assumption) ?_) | (with_reducible first | refine zsB ?_ | refine zkX ?_ | refine zkR ?_ | refine zbN ?_ | refine zbR ?_ | refine zbE ?_ | refine zbX ?_ | refine zsS ?_ | refine zsR ?_ | refine zsX ?_) | (refine cdT ?_) | (refine cdF ?_))
          simp only [hi1]
          exact ⟨hlti, rfl, by rw [bdI_s]⟩
      · have hendi : i = 8 := by omega
        replace hendi := Lib.hid hendi
        repeat (first | (refine rgn 8 ?_; refine sEv ?_; refine nlx ?_) | (refine zsq ?_; intro _ _) | (with_reducible refine zkN ?_) | (refine useK (by assumption) ?_) | (with_reducible first | refine zsB ?_ | refine zkX ?_ | refine zkR ?_ | refine zbN ?_ | refine zbR ?_ | refine zbE ?_ | refine zbX ?_ | refine zsS ?_ | refine zsR ?_ | refine zsX ?_) | (refine cdT ?_) | (refine cdF ?_))
        have hq := hendi.out; clear hendi; subst hq
        repeat (first | ((with_reducible show SP _ _ _ (Code.region _ _ true) _ _ _); first | (refine SPa (id := 16) [] [] ([]) [0, 1, 2, 3, 4, 5, 6, 7, 8, 9] follows ?_; refine fPv ?_; refine SF.nc ?_; refine SF.e tabOk ?_; refine SF.ldC tabOk ?_ (hr := RdA.old hb (by simp)) (hv := hr_s); refine fPv ?_; refine SF.nc ?_; refine SF.e tabOk ?_; refine SF.ldC tabOk ?_ (hr := RdA.old hb (by simp)) (hv := hr_s); refine SF.v (ValO.cutAM (z := 32) tabOk rfl rfl rfl rfl (by decide) (by decide)) ?_; refine fPv ?_; refine SF.done ?_)) | (refine zsq ?_; intro _ _) | (with_reducible refine zkN ?_) | (refine useK (by assumption) ?_) | (with_reducible first | refine zsB ?_ | refine zkX ?_ | refine zkR ?_ | refine zbN ?_ | refine zbR ?_ | refine zbE ?_ | refine zbX ?_ | refine zsS ?_ | refine zsR ?_ | refine zsX ?_) | (refine cdT ?_) | (refine cdF ?_))
        exact doneK.mk rfl (ResO.tmp rfl) ⟨ob, rfl, by first | exact (List.Sublist.refl _).cons_cons _ | exact List.Sublist.cons_cons _ (List.nil_sublist _)⟩
  · rintro e w' ⟨v, bs, rfl, ⟨ob, rfl, hs⟩, hw'⟩
    exact ⟨ob, rfl, hw'.sub hs⟩
end Sp
end
section
open Go Go.RowKit
namespace Sp
open F M
@[irreducible] def bDg (B : List Int) : List Int := bdI (blP (bwS B ((B.length + 63) / 64)).1 (zb (bwS B ((B.length + 63) / 64)).2 (bnW B.length ((B.length + 63) / 64))) (IntKind.u64.wrap (64 * ((((B.length + 63) / 64) - 1 : Nat) : Int) + IntKind.u64.wrap ((bnW B.length ((B.length + 63) / 64) : Nat) : Int))) true) 8
theorem bDg_length (B : List Int) : (bDg B).length = 32 := by unfold bDg; simp
attribute [simp] bDg_length
theorem bnW_le (n : Nat) : ∀ j, bnW n j ≤ 64
  | 0 => Nat.zero_le _
  | j + 1 => Nat.min_le_left _ _
theorem put_all {L M : List Int} (h : L.length = M.length) : putAt (ints .u8 L) 0 ((ints .u8 M).extract 0 (0 + M.length)).toList = ints .u8 M := by
  have he : (ints .u8 M).extract 0 (0 + M.length) = ints .u8 M := by rw [show 0 + M.length = (ints .u8 M).size by simp [ints_size]]; exact Array.extract_size
  rw [he]
  apply Array.ext_getElem?
  intro j
  rw [putAt_get _ _ _ _ (by simp [ints, h])]
  by_cases h1 : j < M.length
  · rw [if_pos (by simp [ints]; omega)]; simp
  · rw [if_neg (by simp [ints]; omega), Array.getElem?_eq_none (by simp [ints_size, h]; omega), Array.getElem?_eq_none (by simp [ints_size]; omega)]
theorem bof_any (p : Option Addr) (n c : Nat) (B : List Int) (w : World) (hS : Sl w p n c B) (hmax : n ≤ 140737488355328) : Calls Try.prog 34 #[.int .i64 32, .slice none 0 0, .slice p n c] w fun e w' => ∃ ob, e = .returned (.tuple #[.slice (some ⟨ob, 0, none⟩) 32 32, .int .i64 0]) ∧ OwnM w [] w' [(ob, ints .u8 (bDg B), 22)] := by
  unfold bDg
  rw [hS.len]
  refine (callE (mu := []) Try.func34 Try.ntmps34 Try.results34 (OwnM.start w) (fun v bs => ∃ ob, v = .tuple #[.slice (some ⟨ob, 0, none⟩) 32 32, .int .i64 0] ∧ [(ob, ints .u8 (bdI (blP (bwS B ((n + 63) / 64)).1 (zb (bwS B ((n + 63) / 64)).2 (bnW n ((n + 63) / 64))) (IntKind.u64.wrap (64 * ((((n + 63) / 64) - 1 : Nat) : Int) + IntKind.u64.wrap ((bnW n ((n + 63) / 64) : Nat) : Int))) true) 8), 22)].Sublist bs) ?_).mono ?_
  · repeat (first | (refine rgn 0 ?_; refine sEv ?_; refine sEv ?_; refine nlx ?_) | (refine rgn 1 ?_; refine sEv ?_; refine sEv ?_; refine SL.clN ent_51 rfl (V := fun b => .tuple #[.pointer (some ⟨b, 0, none⟩), .int .i64 0]) (fun w1 _ => bnew_any w1) (fun hb => ?_); (iterate 5 refine sEv ?_); refine nlx ?_) | (refine rgn 2 ?_; refine sEv ?_; refine sEv ?_; refine nlx ?_) | (refine rgn 4 ?_; refine sEv ?_; refine sEv ?_; refine SL.call1 (b := hb) ent_52 rfl g0 (fun w1 hw1 => bwrite_any hb p n c B w1 (hS.old hw1.below) (ApartB.old hS hw1 (List.mem_of_getElem? (show _ = some (hb, _, _) from g0))) hmax (hw1.block (List.mem_of_getElem? (show _ = some (hb, _, _) from g0)))) stt bpp ?_; refine nlx ?_) | (refine rgn 5 ?_; refine sEv ?_; refine SL.clN ent_53 rfl (V := fun b => .slice (some ⟨b, 0, none⟩) 32 32) (fun w1 hw1 => bsum_any hb _ _ _ _ (bwS_len B _).1 (bwS_len B _).2 (bnW_le n _) w1 (hw1.block (List.mem_of_getElem? (show _ = some (hb, _, _) from g0)))) (fun ob => ?_); refine sEv ?_; refine sEv ?_; refine nlx ?_) | (refine zsq ?_; intro _ _) | (with_reducible refine zkN ?_) | (refine useK (by assumption) ?_) | (with_reducible first | refine zsB ?_ | refine zkX ?_ | refine zkR ?_ | refine zbN ?_ | refine zbR ?_ | refine zbE ?_ | refine zbX ?_ | refine zsS ?_ | refine zsR ?_ | refine zsX ?_) | (refine cdT ?_) | (refine cdF ?_))
    exact doneK.mk rfl (ResO.tmp2 rfl rfl) ⟨ob, rfl, List.Sublist.cons_cons _ (List.nil_sublist _)⟩
  · rintro e w' ⟨v, bs, rfl, ⟨ob, rfl, hs⟩, hw'⟩
    exact ⟨ob, rfl, hw'.sub hs⟩
theorem cp_out (B : List Int) : putAt (ints .u8 (List.replicate 32 0)) 0 ((ints .u8 (bDg B)).extract 0 (0 + 32)).toList = ints .u8 (bDg B) := by
  have h := put_all (L := List.replicate 32 0) (M := bDg B) (by simp)
  rwa [bDg_length] at h
theorem bdg_any (p : Option Addr) (n c : Nat) (B : List Int) (w : World) (hS : Sl w p n c B) (hmax : n ≤ 140737488355328) : Calls Try.prog 21 #[.slice p n c] w fun e w' => e = .returned (.agg (ints .u8 (bDg B))) ∧ Below w.heap.size w w' := by
  refine pureE Try.func21 Try.ntmps21 Try.results21 ?_
  repeat (first | (refine rgn 0 ?_; refine SL.al zero_22 ?_; intro tb; refine nlx ?_) | (refine rgn 1 ?_; refine sEv ?_; refine SL.clN ent_34 rfl (V := fun b => .tuple #[.slice (some ⟨b, 0, none⟩) 32 32, .int .i64 0]) (fun w1 hw1 => bof_any p n c B w1 (hS.old hw1.below) hmax) (fun ob => ?_); (iterate 5 refine sEv ?_); refine nlx ?_) | (refine rgn 2 ?_; refine SL.ctA tabOk 0 _ ?_; refine sEv ?_; refine SL.cp tabOk 32 (cp_out B) ?_ (hn := by simp) (hA := by simp [ints_size]) (hB := by simp [ints_size]) (h1 := ints_mem); refine nlx ?_) | (refine rgn 3 ?_; refine SL.ldR tabOk ?_; refine SL.stR tabOk ?_; refine nlx ?_) | (refine zsq ?_; intro _ _) | (with_reducible refine zkN ?_) | (refine useK (by assumption) ?_) | (with_reducible first | refine zsB ?_ | refine zkX ?_ | refine zkR ?_ | refine zbN ?_ | refine zbR ?_ | refine zbE ?_ | refine zbX ?_ | refine zsS ?_ | refine zsR ?_ | refine zsX ?_) | (refine cdT ?_) | (refine cdF ?_))
  exact doneK.mk rfl (ResO.cell tabOk rfl rfl rfl (by first | exact RdA.own g0 | exact RdA.own g1 | exact RdA.own g2 | exact RdA.own g3 | exact RdA.own g4 | exact RdA.own g5 | exact RdA.own g6 | exact RdA.own g7 | exact RdA.own g8 | exact RdA.own g9 | exact RdA.own g10 | exact RdA.own g11 | exact RdA.own g12 | exact RdA.own g13 | exact RdA.own g14 | exact RdA.own g15) (by simp [ints_size])) rfl
end Sp
end
section
open Go Go.RowKit
namespace Sp
open F M
section
variable {P : Program} {tab : Tab} {w0 : World} {mu : List Nat} {bs : Mem} {l l' : List Value} {ops : Array Oper} {rest : List Oper} {Q : ExitP} {dst : Option Tmp} {ty : TypeId} {pos : String} {af : Array Edge}
theorem SL.mk2 (ht : TabOk P tab) {x y : Operand} {t e sz n c : Nat} {k : IntKind} {kl kc : IntKind} (hz : (P.info? e).map (·.zero) = some (some (.int k 0))) (hnc : n ≤ c) (hmax : c ≤ 281474976710656)
    {l' : Nat → List Value} (h : ∀ nb, SL P ops w0 mu rest Q (l' nb) ((nb, ints k (List.replicate c 0), e) :: bs)) (hx : evL l x = .int kl (n : Int) := by rfl) (hy : evL l y = .int kc (c : Int) := by rfl)
    (hl : look tab t = some (.sl e 1 1, sz) := by rfl)
    (hp : ∀ nb, putL l dst (.slice (some ⟨nb, 0, none⟩) n c) = l' nb := by intro _; first | (dsimp only [putL, setNth]; done) | (dsimp only [putL, setNth]; rfl)) :
    SL P ops w0 mu (⟨dst, .makeSlice t x y, ty, pos, af, none⟩ :: rest) Q l bs := by
  refine SL.eff (R := fun v bs' => ∃ nb, v = .slice (some ⟨nb, 0, none⟩) n c ∧ bs' = (nb, ints k (List.replicate c 0), e) :: bs) (fun w hw => ?_) (by rintro v bs' ⟨nb, rfl, rfl⟩; rw [hp]; exact h nb)
  obtain ⟨hu, hsz, hby⟩ := td_sl (look_ok ht hl)
  cases hq : P.info? e with
  | none => simp [hq] at hsz
  | some inf =>
    have hs1 : inf.size = 1 := by simpa [hq] using hsz
    have hb1 : inf.bytes = 1 := by simpa [hq] using hby
    have hz1 : inf.zero = some (.int k 0) := by simpa [hq] using hz
    have hrun := run_make (P := P) w t e inf _ hu hq hz1 kl kc (n : Int) (c : Int) (by omega) (by omega) (by rw [hb1]; omega) (by omega)
    have hex : (execOp (⟨l.toArray, []⟩ : Act).eval ⟨dst, .makeSlice t x y, ty, pos, af, none⟩).run P w = .ok (.value (.slice (some ⟨w.heap.size, 0, none⟩) n c)) (w.alloc (.cells (ints k (List.replicate c 0)) e)) := by
      rw [Int.toNat_natCast, Int.toNat_natCast, hs1, Nat.mul_one, madeCells_int] at hrun
      unfold execOp
      simp only [evL_eq, hx, hy, Sem.run_bind, hrun, Result.andThen_ok, Sem.run_pure]
    exact ⟨_, _, _, hex, ⟨w.heap.size, rfl, rfl⟩, hw.alloc (ints k (List.replicate c 0)) e⟩
theorem SL.cq (ht : TabOk P tab) {d s : Operand} {dT sT : TypeId} {b off dl dc b2 off2 sl sc e by_ sz : Nat} {i : Nat} {A A' B : Array Value} {T : TypeId} {bs' : Mem} (n : Nat) (hA' : putAt A off (B.extract off2 (off2 + n)).toList = A') (hr : RdA w0 mu bs b2 B) (h1 : ∀ u ∈ (B.extract off2 (off2 + n)).toList, u.oneCell' = true) (hB : off2 + n ≤ B.size) (h : SL P ops w0 mu rest Q l' bs')
    (hd : evL l d = .slice (some ⟨b, off, none⟩) dl dc := by rfl) (hs : evL l s = .slice (some ⟨b2, off2, none⟩) sl sc := by rfl) (hl : look tab dT = some (.sl e 1 by_, sz) := by rfl) (hi : bs[i]? = some (b, A, T) := by exact gbk _) (hn : min sl dl = n := by first | omega | (simp; done) | (simp; omega)) (hA : off + n ≤ A.size := by first | omega | (simp [ints_size]; done) | (simp [ints_size]; omega))
    (hbs : bs.set i (b, A', T) = bs' := by exact stt) (hp : putL l dst (.int .i64 (n : Int)) = l' := by exact bpp) :
    SL P ops w0 mu (⟨dst, .call { callee := .builtin .copy, args := #[d, s], argTypes := #[dT, sT] }, ty, pos, af, none⟩ :: rest) Q l bs := by
  subst hp hbs hA'
  refine ⟨fun W Q' hw hQ => ?_⟩
  refine wpList_plain rfl fun K hK => ?_
  obtain ⟨hu, hsz, _⟩ := td_sl (look_ok ht hl)
  have hb := hw.block (List.mem_of_getElem? hi)
  obtain ⟨T2, fz, hb2⟩ := hr.get hw
  have hld := run_loadCells_part (P := P) W b2 off2 T2 B fz n hb2 hB
  have hst := run_storeCells_row (P := P) (B.extract off2 (off2 + n)).toList h1 0 W b off A T hb (by simp; omega)
  cases hq : P.info? e with
  | none => simp [hq] at hsz
  | some inf =>
    have hs' : inf.size = 1 := by simpa [hq] using hsz
    have hcp : (Builtin.copy_ #[dT, sT] ty #[.slice (some ⟨b, off, none⟩) dl dc, .slice (some ⟨b2, off2, none⟩) sl sc]).run P W = .ok (.int .i64 (n : Int)) (W.setRow b (putAt A off (B.extract off2 (off2 + n)).toList)) := by
      simp only [Nat.add_zero] at hst
      have hn' : Nat.min sl dl = n := hn
      simp only [Builtin.copy_, List.getElem?_toArray, List.getElem?_cons_zero, List.getElem?_cons_succ, Sem.run_bind, run_underlying hu, Builtin.lenOf, sizeOf, typeInfo, run_program, hq, hs', Builtin.firstCells, hn', Nat.mul_one, hld, hst, goInt, Sem.run_pure, Result.andThen_ok]
      try rfl
    unfold Oper.wp execOp
    simp only [resolve, Sem.run_bind, Sem.run_pure, Result.andThen_ok, invoke, builtin]
    have ha : (#[d, s].map (⟨l.toArray, []⟩ : Act).eval) = #[.slice (some ⟨b, off, none⟩) dl dc, .slice (some ⟨b2, off2, none⟩) sl sc] := by simp [evL_eq, hd, hs]
    rw [ha, hcp]
    exact hK _ _ (by rw [putL_eq]; exact h.run _ _ (hw.setRow hi _) hQ)
end
def pdI' (K : List Int) (x : Int) : Nat → List Int
  | 0 => K ++ List.replicate (64 - K.length) 0
  | i + 1 => (pdI' K x i).set i (bits .xor .u8 (gi (pdI' K x i) i) x)
@[irreducible] def pdI (K : List Int) (x : Int) (i : Nat) : List Int := pdI' K x i
theorem pdI_0 (K : List Int) (x : Int) : pdI K x 0 = K ++ List.replicate (64 - K.length) 0 := by unfold pdI; rfl
theorem pdI_s (K : List Int) (x : Int) (i : Nat) : pdI K x (i + 1) = (pdI K x i).set i (bits .xor .u8 (gi (pdI K x i) i) x) := by unfold pdI; rfl
theorem pdI_length {K : List Int} (hK : K.length ≤ 64) (x : Int) : ∀ i, (pdI K x i).length = 64
  | 0 => by rw [pdI_0]; simp; omega
  | i + 1 => by rw [pdI_s]; simp [pdI_length hK x i]
theorem set_appx {B J : List Int} {k : Nat} (h : k < B.length) (x : Int) : (B ++ J).set k (bits .xor .u8 (gi (B ++ J) k) x) = B.set k (bits .xor .u8 (gi B k) x) ++ J := by
  rw [List.set_append_left _ _ h]
  congr 2
  unfold gi
  rw [List.getD_eq_getElem?_getD, List.getD_eq_getElem?_getD, List.getElem?_append_left h]
theorem pd_cp {K : List Int} {A : Array Value} {off m : Nat} (hL : Lies A off K) (hK : K.length ≤ 64) (x : Int) : putAt (ints .u8 (List.replicate (64 + m) 0)) 0 (A.extract off (off + K.length)).toList = ints .u8 (pdI K x 0 ++ List.replicate m 0) := by
  rw [hL.extract (Nat.le_refl _), List.take_length, pdI_0]
  apply Array.ext_getElem?
  intro j
  rw [putAt_get _ _ _ _ (by simp [ints]; omega)]
  simp only [ints, List.length_map, List.getElem?_toArray, List.getElem?_map, List.map_append]
  by_cases h1 : j < K.length
  · rw [if_pos (by omega), List.getElem?_append_left (by simp; omega), List.getElem?_append_left (by simpa using h1)]; simp
  · rw [if_neg (by omega)]
    by_cases h2 : j < 64
    · rw [List.getElem?_append_left (by simp; omega), List.getElem?_append_right (by simp; omega)]
      simp only [List.length_map]
      rw [List.getElem?_map, List.getElem?_replicate, List.getElem?_replicate, if_pos (by omega), if_pos (by omega)]
    · rw [List.getElem?_append_right (by simp; omega)]
      simp only [List.length_append, List.length_map, List.length_replicate]
      rw [List.getElem?_map, List.getElem?_replicate, List.getElem?_replicate]
      by_cases h3 : j < 64 + m
      · rw [if_pos h3, if_pos (by omega)]
      · rw [if_neg h3, if_neg (by omega)]
theorem pad_any (x : Int) (kb : Nat) (p q : Option Addr) (n c m d : Nat) (K B : List Int) (Tk : TypeId) (fk : Nat × Nat) (w : World) (hkb : w.heap[kb]? = some (.cells #[.slice p n c] Tk fk)) (hS : Sl w p n c K) (hK : K.length ≤ 64) (h0 : 0 < n) (hB : Sl w q m d B) (hmax : m ≤ 1000000000) :
    Calls Try.prog 88 #[.int .u8 x, .slice q m d, .pointer (some ⟨kb, 0, none⟩)] w fun e w' => e = .returned (.agg (ints .u8 (bDg (pdI K x 64 ++ B)))) ∧ Below w.heap.size w w' := by
  have h64 : some (Value.int .i64 (IntKind.i64.wrap (64 + (m : Int)))) = some (Value.int .i64 ((64 + m : Nat) : Int)) := by rw [IntWalk.i64_in _ (by omega)]; congr 2 <;> omega
  obtain ⟨sb, off, A, T2, fz, rfl, hh, hL⟩ := hS.at_ h0
  have hKn := hS.len
  have hK0 : 0 < K.length := by omega
  refine pureE Try.func88 Try.ntmps88 Try.results88 ?_
  repeat (first | (refine rgn 0 ?_; refine SL.al zero_22 ?_; intro ob; refine nlx ?_) | (refine rgn 1 ?_; refine sEv ?_; refine SL.v (ValO.len tabOk (by rfl)) ?_; refine SL.v (v := .int .i64 ((64 + m : Nat) : Int)) (ValO.ev tabOk h64) ?_; refine SL.mk2 (n := 64) (c := 64 + m) tabOk zero_u8 (by omega) (by omega) (fun nb => ?_); refine sEv ?_; refine nlx ?_) | (refine rgn 2 ?_; refine sEv ?_; refine SL.ldC tabOk ?_ (hr := RdA.old hkb (by simp)) (hv := rfl); refine SL.cq tabOk K.length (pd_cp hL hK x) (RdA.old hh (by simp)) (by rw [hL.extract (Nat.le_refl _)]; exact ints_mem) (hL.size (Nat.le_refl _) hK0) ?_ (hn := by omega); refine nlx ?_) | (refine rgn 3 ?_; refine sEv ?_; refine SL.v (ValO.len tabOk (by rfl)) ?_; refine sEv ?_; refine nlx ?_) | (refine zsq ?_; intro _ _) | (with_reducible refine zkN ?_) | (refine useK (by assumption) ?_) | (with_reducible first | refine zsB ?_ | refine zkX ?_ | refine zkR ?_ | refine zbN ?_ | refine zbR ?_ | refine zbE ?_ | refine zbX ?_ | refine zsS ?_ | refine zsR ?_ | refine zsX ?_) | (refine cdT ?_) | (refine cdF ?_))
  refine SP.loopN (fun i l bs => l = [.int .u8 x, .slice q m d, .pointer (some ⟨kb, 0, none⟩), nth l 3, nth l 4, .pointer (some ⟨ob, 0, none⟩), .slice (some ⟨nb, 0, none⟩) 64 (64 + m), nth l 7, nth l 8, nth l 9, nth l 10, nth l 11, nth l 12, nth l 13, nth l 14, nth l 15, .int .i64 ((64 : Nat)), .int .i64 ((i : Nat)), nth l 18, nth l 19, nth l 20, nth l 21, nth l 22, nth l 23, nth l 24, nth l 25, nth l 26, nth l 27, nth l 28, nth l 29, nth l 30, nth l 31] ∧ bs = [(nb, ints .u8 (pdI K x i ++ List.replicate m 0), 5), (ob, ints .u8 (List.replicate 32 0), 22)]) 64 ⟨rfl, rfl⟩ ?_
  rintro i lfi _ hki ⟨hli, rfl⟩
  refine SP.cast hli ?_
  clear hli
  by_cases hlti : i < 64
  · have hi1 : IntKind.i64.wrap ((i : Int) + 1) = ((i + 1 : Nat) : Int) := by rw [IntWalk.i64_in _ (by omega)]; omega
    have hpl := pdI_length hK x i
    repeat (first | (refine rgn 4 ?_; refine sEv ?_; refine nlx ?_) | (refine rgn 5 ?_; refine sEv ?_; refine sEv ?_; refine nlx ?_) | (refine rgn 6 ?_; refine sEv ?_; refine sEv ?_; refine SL.ixS tabOk ?_; refine SL.ldI tabOk ?_; refine sEv ?_; refine sEv ?_; refine SL.ixS tabOk ?_; refine SL.stI tabOk ?_; rw [set_appx (by rw [pdI_length hK]; omega)]; refine nlx ?_) | (refine rgn 7 ?_; refine sEv ?_; refine sEv ?_; refine nlx ?_) | (refine zsq ?_; intro _ _) | (with_reducible refine zkN ?_) | (refine useK (by assumption) ?_) | (with_reducible first | refine zsB ?_ | refine zkX ?_ | refine zkR ?_ | refine zbN ?_ | refine zbR ?_ | refine zbE ?_ | refine zbX ?_ | refine zsS ?_ | refine zsR ?_ | refine zsX ?_) | (refine cdT ?_) | (refine cdF ?_))
    simp only [hi1]
    exact ⟨hlti, rfl, by rw [pdI_s]⟩
  · have hendi : i = 64 := by omega
    replace hendi := Lib.hid hendi
    repeat (first | (refine rgn 4 ?_; refine sEv ?_; refine nlx ?_) | (refine zsq ?_; intro _ _) | (with_reducible refine zkN ?_) | (refine useK (by assumption) ?_) | (with_reducible first | refine zsB ?_ | refine zkX ?_ | refine zkR ?_ | refine zbN ?_ | refine zbR ?_ | refine zbE ?_ | refine zbX ?_ | refine zsS ?_ | refine zsR ?_ | refine zsX ?_) | (refine cdT ?_) | (refine cdF ?_))
    have hq := hendi.out; clear hendi; subst hq
    repeat (first | (refine rgn 8 ?_; refine sEv ?_; refine sEv ?_; refine SL.appOwn (i := 0) (n := 64) (cap := 64 + m) (m := m) (M := B) (J := List.replicate m 0) tabOk rfl (pdI_length hK x 64) (by simp) hB.len (by omega) (fun w1 hw1 => src_Sl (P := Try.prog) Try.underlying24 (hB.old hw1.below)) (fun nb2 cap' J' T' hc' => ?_) zero_u8; refine SL.v (ValO.call ent_21 _ rfl _ (fun w1 hw1 => bdg_any _ (64 + m) cap' (pdI K x 64 ++ B) w1 (Sl.of hw1 (RdA.own g0) (Lies.row _ J') (by rw [List.length_append, pdI_length hK, hB.len]) (by omega)) (by omega))) ?_; refine SL.stR tabOk ?_; refine nlx ?_) | (refine zsq ?_; intro _ _) | (with_reducible refine zkN ?_) | (refine useK (by assumption) ?_) | (with_reducible first | refine zsB ?_ | refine zkX ?_ | refine zkR ?_ | refine zbN ?_ | refine zbR ?_ | refine zbE ?_ | refine zbX ?_ | refine zsS ?_ | refine zsR ?_ | refine zsX ?_) | (refine cdT ?_) | (refine cdF ?_))
    exact doneK.mk rfl (ResO.cell tabOk rfl rfl rfl (by first | exact RdA.own g0 | exact RdA.own g1 | exact RdA.own g2 | exact RdA.own g3 | exact RdA.own g4 | exact RdA.own g5 | exact RdA.own g6 | exact RdA.own g7 | exact RdA.own g8 | exact RdA.own g9 | exact RdA.own g10 | exact RdA.own g11 | exact RdA.own g12 | exact RdA.own g13 | exact RdA.own g14 | exact RdA.own g15) (by simp [ints_size])) rfl
end Sp
end
section
open Go Go.RowKit
namespace Sp
open F M
theorem ValO.callC {P : Program} {w0 : World} {mu : List Nat} {bs : Mem} {l : List Value} {dst : Option Tmp} {ty : TypeId} {pos : String} {af : Array Edge} {gd : Option (Nat × Bool)} {x : Operand} {f : FuncId} {F C : List Value} {args : List Operand} {ats : Array TypeId} (hent : ∀ (A : Array Value) (w : World), (callFunc f A).run P w = .ok (.enter f A) w) (hx : evL l x = .func (.func f) F.toArray C.toArray)
    {vals : List Value} (hv : F ++ args.map (evL l) ++ C = vals) (v : Value) (hc : ∀ w, OwnM w0 mu w bs → Calls P f vals.toArray w fun e w' => e = .returned v ∧ Below w.heap.size w w') : ValO P w0 mu bs l ⟨dst, .call { callee := .value x, args := args.toArray, argTypes := ats }, ty, pos, af, gd⟩ v := by
  refine ⟨fun w hw => ?_⟩
  rw [run_call_clo (f := f) (A := vals.toArray) (by rw [evL_eq]; exact hx) (by rw [args_map, ← hv]; simp), hent]
  exact ⟨rfl, hc w hw⟩
@[irreducible] def bHm (K B : List Int) : List Int := bDg (pdI K 92 64 ++ bDg (pdI K 54 64 ++ B))
theorem bHm_length (K B : List Int) : (bHm K B).length = 32 := by unfold bHm; simp
attribute [simp] bHm_length
theorem hmac_any (p q : Option Addr) (n c m d : Nat) (K B : List Int) (w : World) (hS : Sl w p n c K) (hK : K.length ≤ 64) (h0 : 0 < n) (hB : Sl w q m d B) (hmax : m ≤ 1000000000) : Calls Try.prog 77 #[.slice p n c, .slice q m d] w fun e w' => e = .returned (.agg (ints .u8 (bHm K B))) ∧ Below w.heap.size w w' := by
  unfold bHm
  have hn64 : n ≤ 64 := by have := hS.len; omega
  refine pureE Try.func77 Try.ntmps77 Try.results77 ?_
  repeat (first | (refine rgn 0 ?_; refine SL.bx ?_; intro kb; refine SL.al zero_22 ?_; intro ob; refine nlx ?_) | (refine rgn 1 ?_; refine SL.ldC tabOk ?_ (hv := rfl); refine SL.v (ValO.len tabOk (by rfl)) ?_; refine sEv ?_; refine nlx ?_) | (refine rgn 4 ?_; refine SL.v (ValO.mkf [] [.pointer (some ⟨kb, 0, none⟩)]) ?_; refine sEv ?_; refine nlx ?_) | (refine rgn 5 ?_; refine sEv ?_; refine sEv ?_; refine SL.v (ValO.callC (vals := [.int .u8 54, .slice q m d, .pointer (some ⟨kb, 0, none⟩)]) ent_88 rfl rfl _ (fun w1 hw1 => pad_any 54 kb p q n c m d K B _ _ w1 (hw1.block (List.mem_of_getElem? (show _ = some (kb, _, _) from g1))) (hS.old hw1.below) hK h0 (hB.old hw1.below) hmax)) ?_; refine SL.al zero_22 ?_; intro tb; refine SL.stR tabOk ?_; refine nlx ?_) | (refine rgn 6 ?_; refine sEv ?_; refine SL.ctA tabOk 0 _ ?_; refine SL.v (ValO.callC (vals := [.int .u8 92, .slice (some ⟨tb, 0, none⟩) 32 32, .pointer (some ⟨kb, 0, none⟩)]) ent_88 rfl rfl _ (fun w1 hw1 => pad_any 92 kb p _ n c 32 32 K _ _ _ w1 (hw1.block (List.mem_of_getElem? (show _ = some (kb, _, _) from g2))) (hS.old hw1.below) hK h0 (Sl.of hw1 (RdA.own g0) (Lies.whole (bDg (pdI K 54 64 ++ B))) (by simp) (Nat.le_refl _)) (by decide))) ?_; refine SL.stR tabOk ?_; refine nlx ?_) | (refine zsq ?_; intro _ _) | (with_reducible refine zkN ?_) | (refine useK (by assumption) ?_) | (with_reducible first | refine zsB ?_ | refine zkX ?_ | refine zkR ?_ | refine zbN ?_ | refine zbR ?_ | refine zbE ?_ | refine zbX ?_ | refine zsS ?_ | refine zsR ?_ | refine zsX ?_) | (refine cdT ?_) | (refine cdF ?_))
  exact doneK.mk rfl (ResO.cell tabOk rfl rfl rfl (by first | exact RdA.own g0 | exact RdA.own g1 | exact RdA.own g2 | exact RdA.own g3 | exact RdA.own g4 | exact RdA.own g5 | exact RdA.own g6 | exact RdA.own g7 | exact RdA.own g8 | exact RdA.own g9 | exact RdA.own g10 | exact RdA.own g11 | exact RdA.own g12 | exact RdA.own g13 | exact RdA.own g14 | exact RdA.own g15) (by simp [ints_size])) rfl
theorem extract_any (p q : Option Addr) (n c m d : Nat) (K B : List Int) (w : World) (hS : Sl w p n c K) (hK : K.length ≤ 64) (h0 : 0 < n) (hB : Sl w q m d B) (hmax : m ≤ 1000000000) : Calls Try.prog 62 #[.slice p n c, .slice q m d] w fun e w' => e = .returned (.agg (ints .u8 (bHm K B))) ∧ Below w.heap.size w w' := by
  refine pureE Try.func62 Try.ntmps62 Try.results62 ?_
  repeat (first | (refine rgn 0 ?_; refine SL.al zero_22 ?_; intro ob; refine nlx ?_) | (refine rgn 1 ?_; refine sEv ?_; refine sEv ?_; refine SL.v (ValO.call ent_77 _ rfl _ (fun w1 hw1 => hmac_any p q n c m d K B w1 (hS.old hw1.below) hK h0 (hB.old hw1.below) hmax)) ?_; refine SL.stR tabOk ?_; refine nlx ?_) | (refine zsq ?_; intro _ _) | (with_reducible refine zkN ?_) | (refine useK (by assumption) ?_) | (with_reducible first | refine zsB ?_ | refine zkX ?_ | refine zkR ?_ | refine zbN ?_ | refine zbR ?_ | refine zbE ?_ | refine zbX ?_ | refine zsS ?_ | refine zsR ?_ | refine zsX ?_) | (refine cdT ?_) | (refine cdF ?_))
  exact doneK.mk rfl (ResO.cell tabOk rfl rfl rfl (by first | exact RdA.own g0 | exact RdA.own g1 | exact RdA.own g2 | exact RdA.own g3 | exact RdA.own g4 | exact RdA.own g5 | exact RdA.own g6 | exact RdA.own g7 | exact RdA.own g8 | exact RdA.own g9 | exact RdA.own g10 | exact RdA.own g11 | exact RdA.own g12 | exact RdA.own g13 | exact RdA.own g14 | exact RdA.own g15) (by simp [ints_size])) rfl
end Sp
end
section
open Go Go.RowKit
namespace Sp
open F M
def exT' (K : List Int) : Nat → List Int
  | 0 => []
  | j + 1 => bHm K (exT' K j ++ [IntKind.u8.wrap ((j + 1 : Nat) : Int)])
@[irreducible] def exT (K : List Int) (j : Nat) : List Int := exT' K j
theorem exT_0 (K : List Int) : exT K 0 = [] := by unfold exT; rfl
theorem exT_s (K : List Int) (j : Nat) : exT K (j + 1) = bHm K (exT K j ++ [IntKind.u8.wrap ((j + 1 : Nat) : Int)]) := by unfold exT; rfl
theorem exT_len (K : List Int) (j : Nat) : (exT K (j + 1)).length = 32 := by rw [exT_s]; simp
attribute [simp] exT_len
def exO' (K : List Int) : Nat → List Int
  | 0 => []
  | j + 1 => exO' K j ++ exT K (j + 1)
@[irreducible] def exO (K : List Int) (j : Nat) : List Int := exO' K j
theorem exO_0 (K : List Int) : exO K 0 = [] := by unfold exO; rfl
theorem exO_s (K : List Int) (j : Nat) : exO K (j + 1) = exO K j ++ exT K (j + 1) := by unfold exO; rfl
theorem exO_len (K : List Int) : ∀ j, (exO K j).length = 32 * j
  | 0 => by rw [exO_0]; rfl
  | j + 1 => by rw [exO_s, List.length_append, exO_len K j, exT_len]; omega
def LastO (K : List Int) (j : Nat) (v : Value) (m : Mem) : Prop := (j = 0 ∧ v = .slice none 0 0 ∧ m = []) ∨ (0 < j ∧ ∃ tb, v = .slice (some ⟨tb, 0, none⟩) 32 32 ∧ m = [(tb, ints .u8 (exT K j), 22)])
theorem expand_any (K : List Int) (N : Nat) (hK : K.length = 32) (h1 : 0 < N) (hN : N ≤ 200) (w : World) : Calls Try.prog 61 #[.agg (ints .u8 K), .slice none 0 0, .int .i64 ((32 * N : Nat) : Int)] w fun e w' => ∃ ob J T, e = .returned (.tuple #[.slice (some ⟨ob, 0, none⟩) (32 * N) (32 * N), .int .i64 0]) ∧ OwnM w [] w' [(ob, ints .u8 (exO K N ++ J), T)] := by
  have hn2 : some (Value.int .i64 (IntKind.i64.wrap (((32 * N : Nat) : Int) + 32))) = some (Value.int .i64 ((32 * N + 32 : Nat) : Int)) := by rw [IntWalk.i64_in _ (by omega)]; congr 2 <;> omega
  refine (callE (mu := []) Try.func61 Try.ntmps61 Try.results61 (OwnM.start w) (fun v bs => ∃ ob J T, v = .tuple #[.slice (some ⟨ob, 0, none⟩) (32 * N) (32 * N), .int .i64 0] ∧ [(ob, ints .u8 (exO K N ++ J), T)].Sublist bs) ?_).mono ?_
  · repeat (first | (refine rgn 0 ?_; refine SL.bx ?_; intro pb; refine sEv ?_; refine sEv ?_; refine nlx ?_) | (refine rgn 1 ?_; (iterate 3 refine sEv ?_); refine nlx ?_) | (refine rgn 3 ?_; (iterate 3 refine sEv ?_); refine nlx ?_) | (refine rgn 5 ?_; refine sEv ?_; refine SL.v (v := .int .i64 ((32 * N + 32 : Nat) : Int)) (ValO.ev tabOk hn2) ?_; refine SL.mk2 (n := 0) (c := 32 * N + 32) tabOk zero_u8 (by omega) (by omega) (fun ob => ?_); refine sEv ?_; refine nlx ?_) | (refine rgn 6 ?_; refine sEv ?_; refine nlx ?_) | (refine rgn 7 ?_; refine sEv ?_; refine nlx ?_) | (refine zsq ?_; intro _ _) | (with_reducible refine zkN ?_) | (refine useK (by assumption) ?_) | (with_reducible first | refine zsB ?_ | refine zkX ?_ | refine zkR ?_ | refine zbN ?_ | refine zbR ?_ | refine zbE ?_ | refine zbX ?_ | refine zsS ?_ | refine zsR ?_ | refine zsX ?_) | (refine cdT ?_) | (refine cdF ?_))
    refine SP.loopN (fun j l bs => ∃ ob cap J T lv m, l = [nth l 0, .slice none 0 0, .int .i64 ((32 * N : Nat)), .pointer (some ⟨pb, 0, none⟩), nth l 4, nth l 5, nth l 6, nth l 7, .slice (some ⟨ob, 0, none⟩) (32 * j) cap, lv, .int .u8 (IntKind.u8.wrap ((j + 1 : Nat) : Int)), nth l 11, nth l 12, nth l 13, nth l 14, nth l 15, nth l 16, nth l 17, nth l 18, nth l 19, nth l 20, nth l 21, nth l 22, nth l 23, nth l 24, nth l 25, nth l 26, nth l 27, nth l 28, nth l 29, nth l 30, nth l 31, nth l 32, nth l 33, nth l 34, nth l 35, nth l 36, nth l 37, nth l 38, nth l 39, nth l 40, nth l 41, nth l 42, nth l 43, nth l 44, nth l 45, nth l 46] ∧ bs = (ob, ints .u8 (exO K j ++ J), T) :: (m ++ [(pb, ints .u8 K, 22)]) ∧ LastO K j lv m ∧ 32 * j + J.length = cap) N ⟨ob, _, List.replicate (32 * N + 32) 0, _, _, [], rfl, by rw [exO_0]; rfl, .inl ⟨rfl, rfl, rfl⟩, by simp⟩ ?_
    rintro j lfj _ hkj ⟨ob, cap, J, T, lv, m, hlj, rfl, hL, hc⟩
    refine SP.cast hlj ?_
    clear hlj
    by_cases hltj : j < N
    · have hjO := exO_len K j
      have hk8 : IntKind.u8.wrap (IntKind.u8.wrap ((j + 1 : Nat) : Int) + 1) = IntKind.u8.wrap ((j + 1 + 1 : Nat) : Int) := by rw [IntKind.wrap_u8, IntKind.wrap_u8, IntKind.wrap_u8]; omega
      rcases hL with ⟨h0, rfl, rfl⟩ | ⟨h0, tb, rfl, rfl⟩
      · have hE : bHm K ([] ++ [] ++ [] ++ [IntKind.u8.wrap ((j + 1 : Nat) : Int)]) = exT K (j + 1) := by rw [exT_s, h0, exT_0]; rfl
        repeat (first | (refine rgn 8 ?_; refine sEv ?_; refine SL.v (ValO.len tabOk (by rfl)) ?_; refine sEv ?_; refine sEv ?_; refine nlx ?_) | (refine rgn 10 ?_; refine SL.build0 tabOk ?_; intro zb; refine sEv ?_; refine SL.appOwn (i := 0) (n := 0) (cap := 0) (m := 0) (B := []) (J := []) (M := []) tabOk rfl rfl rfl rfl (by decide) (fun w1 hw1 => src_Sl (P := Try.prog) Try.underlying24 (Sl.nil w1 none 0)) (fun n1 c1 J1 T1 hc1 => ?_) zero_u8; refine sEv ?_; refine SL.appOwn (i := 0) (n := 0 + 0) (cap := c1) (m := 0) (B := [] ++ []) (J := J1) (M := []) tabOk rfl (by simp) hc1 rfl (by decide) (fun w1 hw1 => src_Sl (P := Try.prog) Try.underlying24 (Sl.nil w1 none 0)) (fun n2 c2 J2 T2 hc2 => ?_) zero_u8; refine sEv ?_; refine SL.build1 tabOk zero_u8 ?_; intro cb; refine SL.appOwn (i := 1) (n := 0 + 0 + 0) (cap := c2) (m := 1) (B := [] ++ [] ++ []) (J := J2) (M := [IntKind.u8.wrap ((j + 1 : Nat) : Int)]) tabOk rfl (by simp) hc2 rfl (by decide) (fun w1 hw1 => src_Sl (P := Try.prog) Try.underlying24 (Sl.of hw1 (RdA.own g0) (Lies.whole [IntKind.u8.wrap ((j + 1 : Nat) : Int)]) rfl (Nat.le_refl _))) (fun n3 c3 J3 T3 hc3 => ?_) zero_u8; refine sEv ?_; refine nlx ?_) | (refine rgn 11 ?_; refine SL.ctA tabOk 0 _ ?_; refine sEv ?_; refine SL.v (ValO.call ent_77 _ rfl (.agg (ints .u8 (exT K (j + 1)))) (fun w1 hw1 => by rw [← hE]; exact hmac_any (some ⟨pb, 0, none⟩) (some ⟨n3, 0, none⟩) 32 32 (0 + 0 + 0 + 1) c3 K ([] ++ [] ++ [] ++ [IntKind.u8.wrap ((j + 1 : Nat) : Int)]) w1 (Sl.of hw1 (RdA.own g3) (Lies.whole K) hK (Nat.le_refl _)) (by omega) (by decide) (Sl.of hw1 (RdA.own g0) (Lies.row ([] ++ [] ++ [] ++ [IntKind.u8.wrap ((j + 1 : Nat) : Int)]) J3) (by simp) (by omega)) (by decide))) ?_; refine SL.al zero_22 ?_; intro t2; refine SL.stR tabOk ?_; refine nlx ?_) | (refine rgn 12 ?_; refine sEv ?_; refine SL.ctA tabOk 0 _ ?_; refine SL.appOwn (i := 3) (n := 32 * j) (cap := cap) (m := 32) (B := exO K j) (J := J) (M := exT K (j + 1)) tabOk rfl hjO hc (exT_len K j) (by omega) (fun w1 hw1 => src_Sl (P := Try.prog) Try.underlying24 (Sl.of hw1 (RdA.own g0) (Lies.whole (exT K (j + 1))) (exT_len K j) (Nat.le_refl _))) (fun ob2 cap2 J4 T4 hc4 => ?_) zero_u8; refine sEv ?_; refine nlx ?_) | (refine rgn 13 ?_; refine SL.ctA tabOk 0 _ ?_; refine sEv ?_; refine nlx ?_) | (refine zsq ?_; intro _ _) | (with_reducible refine zkN ?_) | (refine useK (by assumption) ?_) | (with_reducible first | refine zsB ?_ | refine zkX ?_ | refine zkR ?_ | refine zbN ?_ | refine zbR ?_ | refine zbE ?_ | refine zbX ?_ | refine zsS ?_ | refine zsR ?_ | refine zsX ?_) | (refine cdT ?_) | (refine cdF ?_))
        refine SP.sub (bs' := [(ob2, ints .u8 (exO K j ++ exT K (j + 1) ++ J4), T4), (t2, ints .u8 (exT K (j + 1)), 22), (pb, ints .u8 K, 22)]) ?_ (.cons_cons _ (.cons_cons _ (.cons _ (.cons _ (List.Sublist.refl _)))))
        repeat (first | (refine rgn 9 ?_; (iterate 3 refine sEv ?_); refine nlx ?_) | (refine zsq ?_; intro _ _) | (with_reducible refine zkN ?_) | (refine useK (by assumption) ?_) | (with_reducible first | refine zsB ?_ | refine zkX ?_ | refine zkR ?_ | refine zbN ?_ | refine zbR ?_ | refine zbE ?_ | refine zbX ?_ | refine zsS ?_ | refine zsR ?_ | refine zsX ?_) | (refine cdT ?_) | (refine cdF ?_))
        rw [hk8]
        exact ⟨hltj, ob2, cap2, J4, T4, _, [(t2, ints .u8 (exT K (j + 1)), 22)], rfl, by rw [exO_s]; rfl, .inr ⟨Nat.succ_pos j, t2, rfl, rfl⟩, by omega⟩
      · have hX : (exT K j).length = 32 := by obtain ⟨i, rfl⟩ : ∃ i, j = i + 1 := ⟨j - 1, by omega⟩; exact exT_len K i
        have hE : bHm K ([] ++ exT K j ++ [] ++ [IntKind.u8.wrap ((j + 1 : Nat) : Int)]) = exT K (j + 1) := by rw [exT_s, List.append_nil, List.nil_append]
        repeat (first | (refine rgn 8 ?_; refine sEv ?_; refine SL.v (ValO.len tabOk (by rfl)) ?_; refine sEv ?_; refine sEv ?_; refine nlx ?_) | (refine rgn 10 ?_; refine SL.build0 tabOk ?_; intro zb; refine sEv ?_; refine SL.appOwn (i := 0) (n := 0) (cap := 0) (m := 32) (B := []) (J := []) (M := (exT K j)) tabOk rfl rfl rfl hX (by decide) (fun w1 hw1 => src_Sl (P := Try.prog) Try.underlying24 (Sl.of hw1 (RdA.own g2) (Lies.whole (exT K j)) hX (Nat.le_refl _))) (fun n1 c1 J1 T1 hc1 => ?_) zero_u8; refine sEv ?_; refine SL.appOwn (i := 0) (n := 0 + 32) (cap := c1) (m := 0) (B := [] ++ (exT K j)) (J := J1) (M := []) tabOk rfl (by simp [hX]) hc1 rfl (by decide) (fun w1 hw1 => src_Sl (P := Try.prog) Try.underlying24 (Sl.nil w1 none 0)) (fun n2 c2 J2 T2 hc2 => ?_) zero_u8; refine sEv ?_; refine SL.build1 tabOk zero_u8 ?_; intro cb; refine SL.appOwn (i := 1) (n := 0 + 32 + 0) (cap := c2) (m := 1) (B := [] ++ (exT K j) ++ []) (J := J2) (M := [IntKind.u8.wrap ((j + 1 : Nat) : Int)]) tabOk rfl (by simp [hX]) hc2 rfl (by decide) (fun w1 hw1 => src_Sl (P := Try.prog) Try.underlying24 (Sl.of hw1 (RdA.own g0) (Lies.whole [IntKind.u8.wrap ((j + 1 : Nat) : Int)]) rfl (Nat.le_refl _))) (fun n3 c3 J3 T3 hc3 => ?_) zero_u8; refine sEv ?_; refine nlx ?_) | (refine rgn 11 ?_; refine SL.ctA tabOk 0 _ ?_; refine sEv ?_; refine SL.v (ValO.call ent_77 _ rfl (.agg (ints .u8 (exT K (j + 1)))) (fun w1 hw1 => by rw [← hE]; exact hmac_any (some ⟨pb, 0, none⟩) (some ⟨n3, 0, none⟩) 32 32 (0 + 32 + 0 + 1) c3 K ([] ++ (exT K j) ++ [] ++ [IntKind.u8.wrap ((j + 1 : Nat) : Int)]) w1 (Sl.of hw1 (RdA.own g4) (Lies.whole K) hK (Nat.le_refl _)) (by omega) (by decide) (Sl.of hw1 (RdA.own g0) (Lies.row ([] ++ (exT K j) ++ [] ++ [IntKind.u8.wrap ((j + 1 : Nat) : Int)]) J3) (by simp [hX]) (by omega)) (by decide))) ?_; refine SL.al zero_22 ?_; intro t2; refine SL.stR tabOk ?_; refine nlx ?_) | (refine rgn 12 ?_; refine sEv ?_; refine SL.ctA tabOk 0 _ ?_; refine SL.appOwn (i := 3) (n := 32 * j) (cap := cap) (m := 32) (B := exO K j) (J := J) (M := exT K (j + 1)) tabOk rfl hjO hc (exT_len K j) (by omega) (fun w1 hw1 => src_Sl (P := Try.prog) Try.underlying24 (Sl.of hw1 (RdA.own g0) (Lies.whole (exT K (j + 1))) (exT_len K j) (Nat.le_refl _))) (fun ob2 cap2 J4 T4 hc4 => ?_) zero_u8; refine sEv ?_; refine nlx ?_) | (refine rgn 13 ?_; refine SL.ctA tabOk 0 _ ?_; refine sEv ?_; refine nlx ?_) | (refine zsq ?_; intro _ _) | (with_reducible refine zkN ?_) | (refine useK (by assumption) ?_) | (with_reducible first | refine zsB ?_ | refine zkX ?_ | refine zkR ?_ | refine zbN ?_ | refine zbR ?_ | refine zbE ?_ | refine zbX ?_ | refine zsS ?_ | refine zsR ?_ | refine zsX ?_) | (refine cdT ?_) | (refine cdF ?_))
        refine SP.sub (bs' := [(ob2, ints .u8 (exO K j ++ exT K (j + 1) ++ J4), T4), (t2, ints .u8 (exT K (j + 1)), 22), (pb, ints .u8 K, 22)]) ?_ (.cons_cons _ (.cons_cons _ (.cons _ (.cons _ (.cons _ (List.Sublist.refl _))))))
        repeat (first | (refine rgn 9 ?_; (iterate 3 refine sEv ?_); refine nlx ?_) | (refine zsq ?_; intro _ _) | (with_reducible refine zkN ?_) | (refine useK (by assumption) ?_) | (with_reducible first | refine zsB ?_ | refine zkX ?_ | refine zkR ?_ | refine zbN ?_ | refine zbR ?_ | refine zbE ?_ | refine zbX ?_ | refine zsS ?_ | refine zsR ?_ | refine zsX ?_) | (refine cdT ?_) | (refine cdF ?_))
        rw [hk8]
        exact ⟨hltj, ob2, cap2, J4, T4, _, [(t2, ints .u8 (exT K (j + 1)), 22)], rfl, by rw [exO_s]; rfl, .inr ⟨Nat.succ_pos j, t2, rfl, rfl⟩, by omega⟩
    · have hendj : N = j := by omega
      subst hendj
      repeat (first | (refine rgn 8 ?_; refine sEv ?_; refine SL.v (ValO.len tabOk (by rfl)) ?_; refine sEv ?_; refine sEv ?_; refine nlx ?_) | (refine zsq ?_; intro _ _) | (with_reducible refine zkN ?_) | (refine useK (by assumption) ?_) | (with_reducible first | refine zsB ?_ | refine zkX ?_ | refine zkR ?_ | refine zbN ?_ | refine zbR ?_ | refine zbE ?_ | refine zbX ?_ | refine zsS ?_ | refine zsR ?_ | refine zsX ?_) | (refine cdT ?_) | (refine cdF ?_))
      repeat (first | (refine rgn 14 ?_; (iterate 3 refine sEv ?_); refine SL.v (ValO.cutM (z := 32 * N) tabOk rfl rfl rfl rfl (by omega)) ?_; refine sEv ?_; refine sEv ?_; refine nlx ?_) | (refine zsq ?_; intro _ _) | (with_reducible refine zkN ?_) | (refine useK (by assumption) ?_) | (with_reducible first | refine zsB ?_ | refine zkX ?_ | refine zkR ?_ | refine zbN ?_ | refine zbR ?_ | refine zbE ?_ | refine zbX ?_ | refine zsS ?_ | refine zsR ?_ | refine zsX ?_) | (refine cdT ?_) | (refine cdF ?_))
      exact doneK.mk rfl (ResO.tmp2 rfl rfl) ⟨ob, J, T, rfl, List.Sublist.cons_cons _ (List.nil_sublist _)⟩
  · rintro e w' ⟨v, bs, rfl, ⟨ob, J, T, rfl, hs⟩, hw'⟩
    exact ⟨ob, J, T, rfl, hw'.sub hs⟩
end Sp
end
section
open Go Go.RowKit
namespace Sp
open F M
def AllC (s : Nat) (v : Value) (n : Nat) (X : List Value) (m : Mem) : Prop :=
  (n = 0 ∧ X = [] ∧ v = .slice none 0 0 ∧ m = []) ∨ ∃ b cap J T, v = .slice (some ⟨b, 0, none⟩) n cap ∧ m = [(b, (X ++ J).toArray, T)] ∧ X.length = n * s ∧ X.length + J.length = cap * s
theorem AllC.start (s : Nat) : AllC s (.slice none 0 0) 0 [] [] := .inl ⟨rfl, rfl, rfl, rfl⟩
theorem AllC.len {s n : Nat} {v : Value} {X : List Value} {m : Mem} (h : AllC s v n X m) : X.length = n * s := by
  rcases h with ⟨rfl, rfl, _, _⟩ | ⟨b, cap, J, T, _, _, h, _⟩
  · simp
  · exact h
theorem putAt_midC (B M J : List Value) (h : M.length ≤ J.length) : putAt (B ++ J).toArray B.length M = (B ++ M ++ J.drop M.length).toArray := by
  refine Array.ext_getElem? fun j => ?_
  rw [putAt_get _ _ _ _ (by simp; omega)]
  simp only [List.getElem?_toArray]
  by_cases h1 : j < B.length
  · rw [if_neg (by omega), List.append_assoc, List.getElem?_append_left h1, List.getElem?_append_left h1]
  · by_cases h2 : j < B.length + M.length
    · rw [if_pos (by omega), List.getElem?_append_left (by simp; omega), List.getElem?_append_right (by omega)]
    · rw [if_neg (by omega), List.getElem?_append_right (by omega), List.getElem?_append_right (by simp; omega), List.getElem?_drop]
      congr 1
      simp
      omega
section
variable {P : Program} {ops : Array Oper} {rest : List Oper} {dst : Option Tmp} {ty : TypeId} {pos : String} {af : Array Edge} {l : List Value} {w0 : World} {bs : Mem} {Q : ExitP} {tab : Tab}
theorem SL.appC (ht : TabOk P tab) {s x : Operand} {t tx e e' es by0 by' sz sz' n k : Nat} {av z : Value} {X M : List Value} {abs pre : Mem} {nb c : Nat} {A : Array Value} (hS : AllC es av n X abs) (hr : RdA w0 [] (pre ++ abs) nb A) (hA : ∀ j, j < M.length → A[j]? = M[j]?) (hM : M.length = k * es) (h1 : ∀ u ∈ M, u.oneCell' = true) (hmax : n + k ≤ 1000) (hby : by0 ≤ 1000) (hz : (P.info? e).map (·.zero) = some (some z)) (hzs : z.cells.size = es)
    {l' : Value → List Value} (h : ∀ av' abs', AllC es av' (n + k) (X ++ M) abs' → SL P ops w0 [] rest Q (l' av') (pre ++ abs'))
    (hs : evL l s = av := by rfl) (hx : evL l x = .slice (some ⟨nb, 0, none⟩) k c := by rfl) (hl : look tab t = some (.sl e es by0, sz) := by rfl) (hl' : look tab tx = some (.sl e' es by', sz') := by rfl)
    (hbs : bs = pre ++ abs := by rfl) (hp : ∀ v, putL l dst v = l' v := by intro _; first | (dsimp only [putL, setNth]; done) | (dsimp only [putL, setNth]; rfl)) :
    SL P ops w0 [] (⟨dst, .call { callee := .builtin .append, args := #[s, x], argTypes := #[t, tx] }, ty, pos, af, none⟩ :: rest) Q l bs := by
  subst hbs
  refine SL.eff (R := fun v bs' => ∃ abs', AllC es v (n + k) (X ++ M) abs' ∧ bs' = pre ++ abs') (fun w hw => ?_) (by rintro v bs' ⟨abs', ha, rfl⟩; rw [hp]; exact h v abs' ha)
  obtain ⟨hu, hsz, hbyt⟩ := td_sl (look_ok ht hl)
  obtain ⟨hu', _, _⟩ := td_sl (look_ok ht hl')
  obtain ⟨T1, fz1, hb1⟩ := hr.get hw
  cases hq : P.info? e with
  | none => simp [hq] at hsz
  | some inf =>
    have hs1 : inf.size = es := by simpa [hq] using hsz
    have hbt : inf.bytes = by0 := by simpa [hq] using hbyt
    have hz' : inf.zero = some z := by simpa [hq] using hz
    have hsr : Src P inf.size tx (.slice (some ⟨nb, 0, none⟩) k c) k M w := by
      rw [hs1]
      refine Src.ofSlice w hu' ⟨nb, 0, none⟩ k c _ hM (fun j u hj => ?_) h1
      rw [add_off, cell_of_row w nb (0 + j) A T1 fz1 hb1, Nat.zero_add, hA j (List.getElem?_eq_some_iff.1 hj).1]
      exact hj
    rw [run_call_append hs hx]
    have hgrow : ∀ (base : Option Addr) (cap : Nat), av = .slice base n cap → X.length = n * es → cap < n + k → (Builtin.firstCells inf.size n (.slice base n cap)).run P w.drew = .ok X.toArray w.drew →
        ∃ v w' bs', (Builtin.append_ #[t, tx] ty #[av, .slice (some ⟨nb, 0, none⟩) k c]).run P w = .ok v w' ∧ (∃ abs', AllC es v (n + k) (X ++ M) abs' ∧ bs' = pre ++ abs') ∧ OwnM w0 [] w' bs' := by
      intro base cap hav hXl hg hold
      have hcap : Builtin.nextslicecap (n + k) cap * inf.bytes ≤ 281474976710656 := by
        have h2 := nextslicecap_le hg
        rw [hbt]
        have : Builtin.nextslicecap (n + k) cap * by0 ≤ 2 * (n + k) * 1000 := Nat.mul_le_mul h2 hby
        omega
      have hge := grownCap_ge w (n + k) cap e
      have hrun := run_append_grow_src (P := P) w t tx ty e inf z hu hq hz' base n cap X hold (.slice (some ⟨nb, 0, none⟩) k c) k M hsr hg (by omega) hcap
      subst hav
      rw [hrun]
      have hXM : (X ++ M).length = (n + k) * es := by rw [List.length_append, hXl, hM, Nat.add_mul]
      generalize hk : grownCap w (n + k) cap e - (n + k) = q at *
      have hq2 : grownCap w (n + k) cap e = n + k + q := by omega
      refine ⟨_, _, _, rfl, ⟨[(w.heap.size, (X ++ M ++ (Builtin.zeroCells z.cells q).toList).toArray, e)], .inr ⟨w.heap.size, grownCap w (n + k) cap e, (Builtin.zeroCells z.cells q).toList, e, rfl, rfl, hXM, ?_⟩, rfl⟩, ?_⟩
      · have := size_zeroCells z.cells q
        rw [hXM, Array.length_toList, this, hzs, hq2, ← Nat.add_mul]
      · have h3 := (hw.sub (List.sublist_append_left pre _)).drew 1
        have h4 := h3.alloc ((X ++ M).toArray ++ Builtin.zeroCells z.cells q) e
        have e5 : (X ++ M).toArray ++ Builtin.zeroCells z.cells q = (X ++ M ++ (Builtin.zeroCells z.cells q).toList).toArray := by apply Array.ext'; simp
        rw [e5] at h4
        rw [e5]
        exact h4.perm (by simpa using (List.perm_append_comm (l₁ := [(w.heap.size, (X ++ M ++ (Builtin.zeroCells z.cells q).toList).toArray, e)]) (l₂ := pre)))
    rcases hS with ⟨rfl, rfl, rfl, rfl⟩ | ⟨b, cap, J, T, rfl, rfl, hXl, hc⟩
    · by_cases hk0 : 0 < 0 + k
      · obtain ⟨v, w', bs', e1, e2, e3⟩ := hgrow none 0 rfl (by simp) hk0 (run_firstCells_none w.drew _ 0 0 0)
        rw [e1]
        exact ⟨v, w', bs', rfl, e2, e3⟩
      · obtain rfl : k = 0 := by omega
        obtain rfl : M = [] := List.eq_nil_of_length_eq_zero (by rw [hM, Nat.zero_mul])
        have hrun : (Builtin.append_ #[t, tx] ty #[.slice none 0 0, .slice (some ⟨nb, 0, none⟩) 0 c]).run P w = .ok (.slice none 0 0) w := by
          rcases hsr.kind with ⟨e2, hk⟩ | hk <;> simp [Builtin.append_, run_underlying hu, run_underlying hk, sizeOf, typeInfo, hq, hsr.len, hsr.cells, storeCells]
        rw [hrun]
        exact ⟨_, _, _, rfl, ⟨[], .inl ⟨rfl, rfl, rfl, rfl⟩, rfl⟩, by simpa using hw⟩
    · have hi : (pre ++ [(b, (X ++ J).toArray, T)])[pre.length]? = some (b, (X ++ J).toArray, T) := by rw [List.getElem?_append_right (Nat.le_refl _), Nat.sub_self]; rfl
      have hb := hw.block (List.mem_of_getElem? hi)
      rcases Nat.lt_or_ge cap (n + k) with hg | hroom
      · obtain ⟨v, w', bs', e1, e2, e3⟩ := hgrow (some ⟨b, 0, none⟩) cap rfl hXl hg (run_firstCells_some w.drew inf.size n ⟨b, 0, none⟩ n cap _ (by rw [hs1]; exact hXl) (fun j u hj => by
          have hjl := (List.getElem?_eq_some_iff.1 hj).1
          rw [add_off, cell_of_row w.drew b (0 + j) (X ++ J).toArray T (0, 0) hb, Nat.zero_add, List.getElem?_toArray, List.getElem?_append_left hjl]
          exact hj))
        rw [e1]
        exact ⟨v, w', bs', rfl, e2, e3⟩
      · have hJ : M.length ≤ J.length := by
          have : (n + k) * es ≤ cap * es := Nat.mul_le_mul_right _ hroom
          rw [Nat.add_mul] at this
          omega
        have hst := run_storeCells_row (P := P) M (fun v hv => hsr.one v hv) 0 w b X.length (X ++ J).toArray T hb (by simp; omega)
        have hst2 : (storeCells ((⟨b, 0, none⟩ : Addr).add (n * inf.size)) M 0).run P w = .ok () (w.setRow b (X ++ M ++ J.drop M.length).toArray) := by
          rw [add_off, hs1, Nat.zero_add, ← hXl, hst, Nat.add_zero, putAt_midC X M J hJ]
        have hrun : (Builtin.append_ #[t, tx] ty #[.slice (some ⟨b, 0, none⟩) n cap, .slice (some ⟨nb, 0, none⟩) k c]).run P w = .ok (.slice (some ⟨b, 0, none⟩) (n + k) cap) (w.setRow b (X ++ M ++ J.drop M.length).toArray) := by
          rcases hsr.kind with ⟨e2, hk⟩ | hk <;> simp [Builtin.append_, run_underlying hu, run_underlying hk, sizeOf, typeInfo, hq, hsr.len, hroom, hsr.cells, hst2]
        rw [hrun]
        simp only [Result.andThen_ok]
        refine ⟨_, _, _, rfl, ⟨[(b, (X ++ M ++ J.drop M.length).toArray, T)], .inr ⟨b, cap, J.drop M.length, T, rfl, rfl, by rw [List.length_append, hXl, hM, Nat.add_mul], by simp only [List.length_append, List.length_drop]; omega⟩, rfl⟩, ?_⟩
        have := hw.setRow hi (X ++ M ++ J.drop M.length).toArray
        rwa [List.set_append_right _ _ (Nat.le_refl _), Nat.sub_self] at this
end
end Sp
end
end Go.Proofs.Ytdjecenggngdjaa
