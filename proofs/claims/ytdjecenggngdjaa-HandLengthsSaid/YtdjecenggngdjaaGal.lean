/-
  Joined texts: PolyPa, PolyRow, PolyPb, PolyPc, PolyPd, PolyPe. No conditions.
-/
import Derived.Test.YtdjecenggngdjaaGae
import Derived.Test.YtdjecenggngdjaaGaf
import Derived.KernelRfl
import Derived.Lib.Hide
namespace Go.Proofs.Ytdjecenggngdjaa
set_option linter.unusedSimpArgs false
set_option linter.unusedVariables false
set_option maxHeartbeats 16000000
set_option maxRecDepth 20000
section
open Go Go.RowKit
namespace Sp
open F
def numN' (L : List Int) : Nat → Int
  | 0 => 0
  | i + 1 => bits .or .u64 (numN' L i) (IntKind.u64.wrap (IntKind.u64.wrap (gi L i) * 2 ^ (min (IntKind.i64.wrap (8 * (i : Int))).toNat IntKind.u64.bits)))
@[irreducible] def numN (L : List Int) (i : Nat) : Int := numN' L i
theorem numN_0 (L : List Int) : numN L 0 = 0 := by unfold numN; rfl
theorem numN_s (L : List Int) (i : Nat) : numN L (i + 1) = bits .or .u64 (numN L i) (IntKind.u64.wrap (IntKind.u64.wrap (gi L i) * 2 ^ (min (IntKind.i64.wrap (8 * (i : Int))).toNat IntKind.u64.bits))) := by unfold numN; rfl
theorem number_any (b off n c : Nat) (A : Array Value) (T : TypeId) (fz : Nat × Nat) (L : List Int) (w : World) (hb : w.heap[b]? = some (.cells A T fz)) (hA : ∀ j, j < 8 → A[off + j]? = some (.int .u8 (gi L j))) (hn : 8 ≤ n) (hc : n ≤ c) :
    Calls Try.prog 99 #[.slice (some ⟨b, off, none⟩) n c] w fun e w' => e = .returned (.int .u64 (numN L 8)) ∧ Below w.heap.size w w' := by
  refine pureE Try.func99 Try.ntmps99 Try.results99 ?_
  repeat (first | (refine rgn 0 ?_; refine sEv ?_; refine nlx ?_) | (refine rgn 1 ?_; refine sEv ?_; refine SL.ctS tabOk 0 _ ?_; refine SL.v (ValO.len tabOk (by rfl)) ?_; refine sEv ?_; refine nlx ?_) | (refine rgn 2 ?_; refine sEv ?_; refine nlx ?_) | (refine rgn 3 ?_; refine sEv ?_; refine SL.ixS tabOk ?_; (first | (refine SL.ldI tabOk ?_) | (refine SL.ldC tabOk ?_ (hv := by first | exact (hA k (by omega))))); refine sEv ?_; refine sEv ?_; refine nlx ?_) | (refine rgn 4 ?_; (iterate 5 refine sEv ?_); refine SL.sh ?_; refine sEv ?_; refine sEv ?_; refine nlx ?_) | (refine rgn 5 ?_; refine sEv ?_; refine sEv ?_; refine nlx ?_) | (refine rgn 6 ?_; refine sEv ?_; refine sEv ?_; refine nlx ?_) | (refine zsq ?_; intro _ _) | (with_reducible refine zkN ?_) | (refine useK (by assumption) ?_) | (with_reducible first | refine zsB ?_ | refine zkX ?_ | refine zkR ?_ | refine zbN ?_ | refine zbR ?_ | refine zbE ?_ | refine zbX ?_ | refine zsS ?_ | refine zsR ?_ | refine zsX ?_) | ((with_reducible show SP _ _ _ (Code.cond _ _ _) _ _ _); first | (refine SP.condT rfl (by first | rfl | (simp only [decide_eq_true_eq, beq_iff_eq, bne_iff_ne]; omega)) ?_) | (refine SP.condF rfl (by first | rfl | (simp only [decide_eq_false_iff_not, beq_eq_false_iff_ne, bne_eq_false_iff_eq]; omega)) ?_)))
  refine SP.loopN (fun k l bs => l = [nth l 0, nth l 1, .int .u64 (numN L k), nth l 3, nth l 4, nth l 5, .slice (some ⟨b, off, none⟩) 8 c, .int .i64 ((8 : Nat) : Int), .int .i64 ((k : Nat)), nth l 9, nth l 10, nth l 11, nth l 12, nth l 13, nth l 14, nth l 15, nth l 16, nth l 17, nth l 18, nth l 19, nth l 20, nth l 21] ∧ bs = []) 8 ⟨(by first | rfl | (simp only [numN_0]; done) | (simp only [numN_0]; rfl) | (rw [numN_0]; rfl)), (by first | rfl | (simp only [numN_0]; done) | (simp only [numN_0]; rfl) | (rw [numN_0]; rfl))⟩ ?_
  rintro k lfk _ hkk ⟨hlk, rfl⟩
  refine SP.cast hlk ?_
  clear hlk
  by_cases hltk : k < 8
  · have hk1 : IntKind.i64.wrap ((k : Int) + 1) = ((k + 1 : Nat) : Int) := by rw [IntWalk.i64_in _ (by omega)]; omega
    have f1 : IntKind.i64.wrap (8 * (k : Int)) = 8 * k := IntWalk.i64_in _ (by omega)
    repeat (first | (refine rgn 0 ?_; refine sEv ?_; refine nlx ?_) | (refine rgn 1 ?_; refine sEv ?_; refine SL.ctS tabOk 0 _ ?_; refine SL.v (ValO.len tabOk (by rfl)) ?_; refine sEv ?_; refine nlx ?_) | (refine rgn 2 ?_; refine sEv ?_; refine nlx ?_) | (refine rgn 3 ?_; refine sEv ?_; refine SL.ixS tabOk ?_; (first | (refine SL.ldI tabOk ?_) | (refine SL.ldC tabOk ?_ (hv := by first | exact (hA k (by omega))))); refine sEv ?_; refine sEv ?_; refine nlx ?_) | (refine rgn 4 ?_; (iterate 5 refine sEv ?_); refine SL.sh ?_; refine sEv ?_; refine sEv ?_; refine nlx ?_) | (refine rgn 5 ?_; refine sEv ?_; refine sEv ?_; refine nlx ?_) | (refine rgn 6 ?_; refine sEv ?_; refine sEv ?_; refine nlx ?_) | (refine zsq ?_; intro _ _) | (with_reducible refine zkN ?_) | (refine useK (by assumption) ?_) | (with_reducible first | refine zsB ?_ | refine zkX ?_ | refine zkR ?_ | refine zbN ?_ | refine zbR ?_ | refine zbE ?_ | refine zbX ?_ | refine zsS ?_ | refine zsR ?_ | refine zsX ?_) | ((with_reducible show SP _ _ _ (Code.cond _ _ _) _ _ _); first | (refine SP.condT rfl (by first | rfl | (simp only [decide_eq_true_eq, beq_iff_eq, bne_iff_ne]; omega)) ?_) | (refine SP.condF rfl (by first | rfl | (simp only [decide_eq_false_iff_not, beq_eq_false_iff_ne, bne_eq_false_iff_eq]; omega)) ?_)))
    simp only [hk1]
    exact ⟨hltk, (by first | rfl | (simp only [numN_s]; done) | (simp only [numN_s]; rfl) | (rw [numN_s]; rfl)), (by first | rfl | (simp only [numN_s]; done) | (simp only [numN_s]; rfl) | (rw [numN_s]; rfl))⟩
  · have hendk : k = 8 := by omega
    replace hendk := Lib.hid hendk
    repeat (first | (refine rgn 0 ?_; refine sEv ?_; refine nlx ?_) | (refine rgn 1 ?_; refine sEv ?_; refine SL.ctS tabOk 0 _ ?_; refine SL.v (ValO.len tabOk (by rfl)) ?_; refine sEv ?_; refine nlx ?_) | (refine rgn 2 ?_; refine sEv ?_; refine nlx ?_) | (refine rgn 3 ?_; refine sEv ?_; refine SL.ixS tabOk ?_; (first | (refine SL.ldI tabOk ?_) | (refine SL.ldC tabOk ?_ (hv := by first | exact (hA k (by omega))))); refine sEv ?_; refine sEv ?_; refine nlx ?_) | (refine rgn 4 ?_; (iterate 5 refine sEv ?_); refine SL.sh ?_; refine sEv ?_; refine sEv ?_; refine nlx ?_) | (refine rgn 5 ?_; refine sEv ?_; refine sEv ?_; refine nlx ?_) | (refine rgn 6 ?_; refine sEv ?_; refine sEv ?_; refine nlx ?_) | (refine zsq ?_; intro _ _) | (with_reducible refine zkN ?_) | (refine useK (by assumption) ?_) | (with_reducible first | refine zsB ?_ | refine zkX ?_ | refine zkR ?_ | refine zbN ?_ | refine zbR ?_ | refine zbE ?_ | refine zbX ?_ | refine zsS ?_ | refine zsR ?_ | refine zsX ?_) | ((with_reducible show SP _ _ _ (Code.cond _ _ _) _ _ _); first | (refine SP.condT rfl (by first | rfl | (simp only [decide_eq_true_eq, beq_iff_eq, bne_iff_ne]; omega)) ?_) | (refine SP.condF rfl (by first | rfl | (simp only [decide_eq_false_iff_not, beq_eq_false_iff_ne, bne_eq_false_iff_eq]; omega)) ?_)))
    have hq := hendk.out; clear hendk; subst hq
    refine doneK.mk rfl (ResO.tmp rfl) rfl
end Sp
end
section
open Go Go.RowKit
namespace Sp
@[irreducible] def polyRow (g : Bool) (r0 r1 s0 s1 h0 h1 h2 : Int) (bl : List Int) (n : Int) : Array Value :=
  (.bool g :: .int .u64 r0 :: .int .u64 r1 :: .int .u64 s0 :: .int .u64 s1 :: .int .u64 h0 :: .int .u64 h1 :: .int .u64 h2 :: (bl.map (Value.int .u8) ++ [.int .i64 n])).toArray
section
variable {g : Bool} {r0 r1 s0 s1 h0 h1 h2 : Int} {bl : List Int} {n : Int}
theorem pr_size (hb : bl.length = 16) : (polyRow g r0 r1 s0 s1 h0 h1 h2 bl n).size = 25 := by simp [polyRow, hb]
theorem pr_g0 : (polyRow g r0 r1 s0 s1 h0 h1 h2 bl n)[0]? = some (.bool g) := by simp [polyRow]
theorem pr_g5 : (polyRow g r0 r1 s0 s1 h0 h1 h2 bl n)[5]? = some (.int .u64 h0) := by simp [polyRow]
theorem pr_g6 : (polyRow g r0 r1 s0 s1 h0 h1 h2 bl n)[6]? = some (.int .u64 h1) := by simp [polyRow]
theorem pr_g7 : (polyRow g r0 r1 s0 s1 h0 h1 h2 bl n)[7]? = some (.int .u64 h2) := by simp [polyRow]
theorem pr_g3 : (polyRow g r0 r1 s0 s1 h0 h1 h2 bl n)[3]? = some (.int .u64 s0) := by simp [polyRow]
theorem pr_g4 : (polyRow g r0 r1 s0 s1 h0 h1 h2 bl n)[4]? = some (.int .u64 s1) := by simp [polyRow]
theorem pr_gn (hb : bl.length = 16) : (polyRow g r0 r1 s0 s1 h0 h1 h2 bl n)[24]? = some (.int .i64 n) := by
  simp [polyRow, List.getElem?_append, hb]
theorem pr_xr (hb : bl.length = 16) : (polyRow g r0 r1 s0 s1 h0 h1 h2 bl n).extract 1 (1 + 2) = ints .u64 [r0, r1] := by simp [polyRow, ints]
theorem pr_xh (hb : bl.length = 16) : (polyRow g r0 r1 s0 s1 h0 h1 h2 bl n).extract 5 (5 + 3) = ints .u64 [h0, h1, h2] := by simp [polyRow, ints]
theorem pr_xb (hb : bl.length = 16) {m : Nat} (hm : m ≤ 16) : (polyRow g r0 r1 s0 s1 h0 h1 h2 bl n).extract 8 (8 + m) = ints .u8 (bl.take m) := by
  simp [polyRow, ints, List.take_append, hb, show m - 16 = 0 by omega, List.map_take]
theorem pr_p5 {v : Int} : putAt (polyRow g r0 r1 s0 s1 h0 h1 h2 bl n) 5 [.int .u64 v] = polyRow g r0 r1 s0 s1 v h1 h2 bl n := by simp [putAt, polyRow]
theorem pr_p6 {v : Int} : putAt (polyRow g r0 r1 s0 s1 h0 h1 h2 bl n) 6 [.int .u64 v] = polyRow g r0 r1 s0 s1 h0 v h2 bl n := by simp [putAt, polyRow]
theorem pr_p7 {v : Int} : putAt (polyRow g r0 r1 s0 s1 h0 h1 h2 bl n) 7 [.int .u64 v] = polyRow g r0 r1 s0 s1 h0 h1 v bl n := by simp [putAt, polyRow]
theorem pr_ph {u v x : Int} : putAt (polyRow g r0 r1 s0 s1 h0 h1 h2 bl n) 5 [.int .u64 u, .int .u64 v, .int .u64 x] = polyRow g r0 r1 s0 s1 u v x bl n := by simp [putAt, polyRow]
theorem pr_pn {v : Int} (hb : bl.length = 16) : putAt (polyRow g r0 r1 s0 s1 h0 h1 h2 bl n) 24 [.int .i64 v] = polyRow g r0 r1 s0 s1 h0 h1 h2 bl v := by
  simp [putAt, polyRow, List.set_append, hb]
def spl (bl : List Int) (o : Nat) (cs : List Int) : List Int := bl.take o ++ (cs ++ bl.drop (o + cs.length))
theorem spl_length (bl : List Int) (o : Nat) (cs : List Int) (h : o + cs.length ≤ bl.length) : (spl bl o cs).length = bl.length := by simp [spl]; omega
theorem pr_pb (hb : bl.length = 16) {o : Nat} {cs : List Int} (h : o + cs.length ≤ 16) : putAt (polyRow g r0 r1 s0 s1 h0 h1 h2 bl n) (8 + o) (ints .u8 cs).toList = polyRow g r0 r1 s0 s1 h0 h1 h2 (spl bl o cs) n := by
  have hl := spl_length bl o cs (by omega)
  apply Array.ext_getElem?
  intro j
  rw [putAt_get _ _ _ _ (by rw [pr_size hb]; simp [ints]; omega)]
  simp only [polyRow, List.getElem?_toArray]
  by_cases h1 : j < 8
  · rw [if_neg (by omega)]
    have : j = 0 ∨ j = 1 ∨ j = 2 ∨ j = 3 ∨ j = 4 ∨ j = 5 ∨ j = 6 ∨ j = 7 := by omega
    rcases this with rfl | rfl | rfl | rfl | rfl | rfl | rfl | rfl <;> simp
  · obtain ⟨k, rfl⟩ : ∃ k, j = k + 8 := ⟨j - 8, by omega⟩
    simp only [List.getElem?_cons_succ, List.getElem?_append, List.length_map, hb, hl]
    by_cases h2 : 8 + o ≤ k + 8 ∧ k + 8 < 8 + o + (ints .u8 cs).toList.length
    · rw [if_pos h2]
      simp only [ints, List.length_map, Array.length_toList, List.size_toArray] at h2
      rw [if_pos (by omega)]
      simp only [ints, List.getElem?_map, spl]
      rw [List.getElem?_append, if_neg (by simp; omega), List.getElem?_append, if_pos (by simp; omega)]
      congr 2
      simp
      omega
    · rw [if_neg h2]
      simp only [ints, List.length_map, Array.length_toList, List.size_toArray] at h2
      by_cases h3 : k < 16
      · rw [if_pos h3, if_pos h3]
        simp only [List.getElem?_map, spl]
        by_cases h4 : k < o
        · rw [List.getElem?_append, if_pos (by simp; omega)]
          simp [h4]
        · rw [List.getElem?_append, if_neg (by simp; omega), List.getElem?_append, if_neg (by simp; omega)]
          simp only [List.getElem?_drop, List.length_take]
          congr 2
          omega
      · rw [if_neg h3, if_neg h3]
end
theorem pr_cells {g : Bool} {r0 r1 s0 s1 h0 h1 h2 : Int} {bl : List Int} {n : Int} : ∀ u ∈ (polyRow g r0 r1 s0 s1 h0 h1 h2 bl n).toList, u.oneCell' = true := by
  intro u hu
  simp only [polyRow, List.mem_cons, List.mem_append, List.mem_map, List.not_mem_nil, or_false] at hu
  rcases hu with rfl | rfl | rfl | rfl | rfl | rfl | rfl | rfl | ⟨x, _, rfl⟩ | rfl <;> rfl
end Sp
end
section
open Go Go.RowKit
namespace Sp
open F
theorem w64_0 : W64 0 := by unfold W64 M64; omega
theorem w64_5 : W64 5 := by unfold W64 M64; omega
theorem padd_any (b : Nat) (T : TypeId) (g : Bool) (r0 r1 s0 s1 h0 h1 h2 : Int) (bl : List Int) (n lo hi top : Int) (hbl : bl.length = 16) (w0 : W64 h0) (w1 : W64 h1) (wl : W64 lo) (wh : W64 hi) (w : World)
    (hb : w.heap[b]? = some (.cells (polyRow g r0 r1 s0 s1 h0 h1 h2 bl n) T (0, 0))) :
    Calls Try.prog 101 #[.pointer (some ⟨b, 0, none⟩), .int .u64 lo, .int .u64 hi, .int .u64 top] w fun e w' => e = .returned (.tuple #[]) ∧ OwnM w [b] w' [(b, polyRow g r0 r1 s0 s1 (addLo h0 lo 0) (addLo h1 hi (addHi h0 lo 0)) (IntKind.u64.wrap (h2 + IntKind.u64.wrap (top + addHi h1 hi (addHi h0 lo 0)))) bl n, T)] := by
  have c1 : Bit (addHi h0 lo 0) := Bit.addHi w0 wl Bit.zero
  have c2 : Bit (addHi h1 hi (addHi h0 lo 0)) := Bit.addHi w1 wh c1
  refine mutE Try.func101 Try.ntmps101 Try.results101 hb ?_
  repeat (first | (refine rgn 0 ?_; refine sEv ?_; refine nlx ?_) | ((with_reducible show SP _ _ _ (Code.region _ _ true) _ _ _); first | (refine SPa (id := 1) [14] [] ([]) [0, 1, 2, 3, 4, 5, 6, 7, 8, 9, 10, 11, 12, 13, 14, 15] follows ?_; refine fPv ?_; refine fPv ?_; refine SF.nc ?_; refine SF.e tabOk ?_; refine SF.e tabOk ?_; (first | (refine SF.ldI tabOk ?_) | (refine SF.ldC tabOk ?_ (hv := by first | exact pr_g0 | exact pr_g5 | exact pr_g6 | exact pr_g7 | exact pr_g3 | exact pr_g4 | exact (pr_gn hbl)))); refine fPv ?_; refine SF.v (ValO.ext _ rfl _ (fun w => add64_run _ _ _ (by first | assumption | exact W64.addLo _ _ _ | exact w64_0 | exact w64_5) (by first | assumption | exact W64.addLo _ _ _ | exact w64_0 | exact w64_5) (by first | exact Bit.zero | assumption) w)) ?_; (iterate 3 refine fPv ?_); refine SF.nc ?_; refine SF.e tabOk ?_; refine SF.e tabOk ?_; (first | (refine SF.stI tabOk ?_) | (refine SF.stP tabOk ?_ (hsz := by first | (rw [pr_size hbl]; omega) | (rw [pr_size (by assumption)]; omega)) (hA := by first | exact pr_p5 | exact pr_p6 | exact pr_p7 | exact (pr_pn hbl)))); refine fPv ?_; refine SF.done ?_) | (refine SPa (id := 2) [15] [] ([]) [0, 1, 2, 3, 4, 5, 6, 7, 8, 9, 10, 11, 12, 13, 14, 15, 16] follows ?_; refine fPv ?_; refine fPv ?_; refine SF.nc ?_; refine SF.e tabOk ?_; refine SF.e tabOk ?_; (first | (refine SF.ldI tabOk ?_) | (refine SF.ldC tabOk ?_ (hv := by first | exact pr_g0 | exact pr_g5 | exact pr_g6 | exact pr_g7 | exact pr_g3 | exact pr_g4 | exact (pr_gn hbl)))); refine fPv ?_; refine fPv ?_; refine SF.v (ValO.ext _ rfl _ (fun w => add64_run _ _ _ (by first | assumption | exact W64.addLo _ _ _ | exact w64_0 | exact w64_5) (by first | assumption | exact W64.addLo _ _ _ | exact w64_0 | exact w64_5) (by first | exact Bit.zero | assumption) w)) ?_; (iterate 3 refine fPv ?_); refine SF.nc ?_; refine SF.e tabOk ?_; refine SF.e tabOk ?_; (first | (refine SF.stI tabOk ?_) | (refine SF.stP tabOk ?_ (hsz := by first | (rw [pr_size hbl]; omega) | (rw [pr_size (by assumption)]; omega)) (hA := by first | exact pr_p5 | exact pr_p6 | exact pr_p7 | exact (pr_pn hbl)))); refine fPv ?_; refine SF.done ?_) | (refine SPa (id := 3) [12] [] ([]) [0, 1, 2, 3, 4, 5, 6, 7, 8, 9, 10, 11, 12] follows ?_; refine fPv ?_; refine SF.nc ?_; refine SF.e tabOk ?_; refine SF.e tabOk ?_; (first | (refine SF.ldI tabOk ?_) | (refine SF.ldC tabOk ?_ (hv := by first | exact pr_g0 | exact pr_g5 | exact pr_g6 | exact pr_g7 | exact pr_g3 | exact pr_g4 | exact (pr_gn hbl)))); refine fPv ?_; refine fPv ?_; refine SF.e tabOk ?_; refine SF.e tabOk ?_; refine SF.nc ?_; refine SF.e tabOk ?_; refine SF.e tabOk ?_; (first | (refine SF.stI tabOk ?_) | (refine SF.stP tabOk ?_ (hsz := by first | (rw [pr_size hbl]; omega) | (rw [pr_size (by assumption)]; omega)) (hA := by first | exact pr_p5 | exact pr_p6 | exact pr_p7 | exact (pr_pn hbl)))); refine SF.done ?_)) | (refine zsq ?_; intro _ _) | (with_reducible refine zkN ?_) | (refine useK (by assumption) ?_) | (with_reducible first | refine zsB ?_ | refine zkX ?_ | refine zkR ?_ | refine zbN ?_ | refine zbR ?_ | refine zbE ?_ | refine zbX ?_ | refine zsS ?_ | refine zsR ?_ | refine zsX ?_) | ((with_reducible show SP _ _ _ (Code.cond _ _ _) _ _ _); first | (refine SP.condT rfl (by first | rfl | (simp only [decide_eq_true_eq, beq_iff_eq, bne_iff_ne]; omega)) ?_) | (refine SP.condF rfl (by first | rfl | (simp only [decide_eq_false_iff_not, beq_eq_false_iff_ne, bne_eq_false_iff_eq]; omega)) ?_)))
  exact doneK.mk rfl ResO.nil ⟨rfl, (by first | exact sub1 | exact subc sub1 | exact subc (subc sub1) | exact subc (subc (subc sub1)) | exact subc (subc (subc (subc sub1))))⟩
end Sp
end
section
open Go Go.RowKit
namespace Sp
open F
def AllW (L : List Int) : Prop := ∀ j, W64 (gi L j)
theorem AllW.set {L : List Int} (h : AllW L) (i : Nat) {v : Int} (hv : W64 v) : AllW (L.set i v) := by
  intro j
  unfold gi at *
  rw [List.getD_eq_getElem?_getD, List.getElem?_set]
  split
  · split
    · exact hv
    · exact w64_0
  · have := h j
    unfold gi at this
    rwa [List.getD_eq_getElem?_getD] at this
theorem AllW.zero (n : Nat) : AllW (List.replicate n 0) := by
  intro j
  unfold gi
  rw [List.getD_eq_getElem?_getD, List.getElem?_replicate]
  split <;> exact w64_0
theorem W64.bits (op : BinOp) (x y : Int) : W64 (Go.bits op .u64 x y) := by
  have hw : ∀ n, W64 (IntKind.u64.wrap n) := fun n => by unfold W64 M64; rw [IntKind.wrap_u64]; omega
  unfold Go.bits
  cases op <;> first | exact hw _ | exact w64_0
theorem W64.shr2 {x : Int} (h : W64 x) : W64 (x.fdiv (2 ^ min (Int.toNat 2) IntKind.u64.bits)) := by
  have e : min (Int.toNat 2) IntKind.u64.bits = 2 := rfl
  rw [e, Int.fdiv_eq_ediv_of_nonneg _ (by decide)]
  unfold W64 M64 at *
  omega
def cst' (hi up : Int) (pr : List Int) (at1 : Nat) : Nat → Int × Int × List Int
  | 0 => (hi, up, pr)
  | i + 1 => (0, addHi (gi (cst' hi up pr at1 i).2.2 (at1 + i)) (cst' hi up pr at1 i).1 (cst' hi up pr at1 i).2.1, (cst' hi up pr at1 i).2.2.set (at1 + i) (addLo (gi (cst' hi up pr at1 i).2.2 (at1 + i)) (cst' hi up pr at1 i).1 (cst' hi up pr at1 i).2.1))
@[irreducible] def cst (hi up : Int) (pr : List Int) (at1 : Nat) (i : Nat) : Int × Int × List Int := cst' hi up pr at1 i
theorem cst_0 (hi up : Int) (pr : List Int) (at1 : Nat) : cst hi up pr at1 0 = (hi, up, pr) := by unfold cst; rfl
theorem cst_s (hi up : Int) (pr : List Int) (at1 : Nat) (i : Nat) : cst hi up pr at1 (i + 1) = (0, addHi (gi (cst hi up pr at1 i).2.2 (at1 + i)) (cst hi up pr at1 i).1 (cst hi up pr at1 i).2.1, (cst hi up pr at1 i).2.2.set (at1 + i) (addLo (gi (cst hi up pr at1 i).2.2 (at1 + i)) (cst hi up pr at1 i).1 (cst hi up pr at1 i).2.1)) := by unfold cst; rfl
theorem cst_length (hi up : Int) (pr : List Int) (at1 : Nat) : ∀ j, (cst hi up pr at1 j).2.2.length = pr.length
  | 0 => by rw [cst_0]
  | j + 1 => by rw [cst_s]; simp [cst_length hi up pr at1 j]
theorem cst_ok {hi up : Int} {pr : List Int} {at1 : Nat} (h1 : W64 hi) (h2 : Bit up) (h3 : AllW pr) : ∀ j, W64 (cst hi up pr at1 j).1 ∧ Bit (cst hi up pr at1 j).2.1 ∧ AllW (cst hi up pr at1 j).2.2
  | 0 => by rw [cst_0]; exact ⟨h1, h2, h3⟩
  | j + 1 => by
    obtain ⟨a, b, c⟩ := cst_ok (at1 := at1) h1 h2 h3 j
    rw [cst_s]
    exact ⟨w64_0, Bit.addHi (c _) a b, c.set _ (W64.addLo _ _ _)⟩
theorem cst_still {hi up : Int} {pr : List Int} {at1 : Nat} (h3 : AllW pr) (h1 : W64 hi) (h2 : Bit up) {j : Nat} (ha : (cst hi up pr at1 j).1 = 0) (hu : (cst hi up pr at1 j).2.1 = 0) : ∀ d, (cst hi up pr at1 (j + d)).2.2 = (cst hi up pr at1 j).2.2 ∧ (cst hi up pr at1 (j + d)).1 = 0 ∧ (cst hi up pr at1 (j + d)).2.1 = 0
  | 0 => ⟨rfl, ha, hu⟩
  | d + 1 => by
    obtain ⟨e1, e2, e3⟩ := cst_still (at1 := at1) h3 h1 h2 ha hu d
    have hw := (cst_ok (at1 := at1) h1 h2 h3 (j + d)).2.2 (at1 + (j + d))
    rw [show j + (d + 1) = (j + d) + 1 by omega, cst_s, e2, e3]
    have hx : addLo (gi (cst hi up pr at1 (j + d)).2.2 (at1 + (j + d))) 0 0 = gi (cst hi up pr at1 (j + d)).2.2 (at1 + (j + d)) := by
      unfold W64 M64 at hw; unfold addLo M64; omega
    have hy : addHi (gi (cst hi up pr at1 (j + d)).2.2 (at1 + (j + d))) 0 0 = 0 := by
      unfold W64 M64 at hw; unfold addHi M64; omega
    rw [hx, hy]
    refine ⟨?_, rfl, rfl⟩
    rw [← e1]
    apply List.ext_getElem?
    intro k
    rw [List.getElem?_set]
    split
    · rename_i hk
      subst hk
      split
      · rename_i hl; simp [gi, hl]
      · rename_i hl; simp at hl; simp [hl]
    · rfl
@[irreducible] def mac (pr : List Int) (pos : Nat) (h r : Int) : List Int :=
  (cst (mulHi h r) (addHi (gi pr pos) (mulLo h r) 0) (pr.set pos (addLo (gi pr pos) (mulLo h r) 0)) (pos + 1) (3 - pos)).2.2
theorem mac_length (pr : List Int) (pos : Nat) (h r : Int) : (mac pr pos h r).length = pr.length := by unfold mac; rw [cst_length]; simp
theorem mac_ok {pr : List Int} {pos : Nat} {h r : Int} (hp : AllW pr) (hh : W64 h) (hr : W64 r) : AllW (mac pr pos h r) := by
  unfold mac
  exact (cst_ok (hh.hi hr) (Bit.addHi (hp _) (W64.lo _ _) Bit.zero) (hp.set _ (W64.addLo _ _ _)) _).2.2
def prI' (pr H R : List Int) (a : Nat) : Nat → List Int
  | 0 => pr
  | i + 1 => mac (prI' pr H R a i) (a + i) (gi H a) (gi R i)
@[irreducible] def prI (pr H R : List Int) (a : Nat) (i : Nat) : List Int := prI' pr H R a i
theorem prI_0 (pr H R : List Int) (a : Nat) : prI pr H R a 0 = pr := by unfold prI; rfl
theorem prI_s (pr H R : List Int) (a : Nat) (i : Nat) : prI pr H R a (i + 1) = mac (prI pr H R a i) (a + i) (gi H a) (gi R i) := by unfold prI; rfl
def prO' (H R : List Int) : Nat → List Int
  | 0 => List.replicate 4 0
  | i + 1 => prI (prO' H R i) H R i 2
@[irreducible] def prO (H R : List Int) (i : Nat) : List Int := prO' H R i
theorem prO_0 (H R : List Int) : prO H R 0 = List.replicate 4 0 := by unfold prO; rfl
theorem prO_s (H R : List Int) (i : Nat) : prO H R (i + 1) = prI (prO H R i) H R i 2 := by unfold prO; rfl
theorem prI_length (pr H R : List Int) (a : Nat) : ∀ k, (prI pr H R a k).length = pr.length
  | 0 => by rw [prI_0]
  | k + 1 => by rw [prI_s, mac_length, prI_length pr H R a k]
theorem prO_length (H R : List Int) : ∀ i, (prO H R i).length = 4
  | 0 => by rw [prO_0]; rfl
  | i + 1 => by rw [prO_s, prI_length, prO_length H R i]
theorem prI_ok {pr H R : List Int} {a : Nat} (hp : AllW pr) (hH : AllW H) (hR : AllW R) : ∀ k, AllW (prI pr H R a k)
  | 0 => by rw [prI_0]; exact hp
  | k + 1 => by rw [prI_s]; exact mac_ok (prI_ok hp hH hR k) (hH _) (hR _)
theorem prO_ok {H R : List Int} (hH : AllW H) (hR : AllW R) : ∀ i, AllW (prO H R i)
  | 0 => by rw [prO_0]; exact AllW.zero 4
  | i + 1 => by rw [prO_s]; exact prI_ok (prO_ok hH hR i) hH hR 2
@[irreducible] def redP (p : List Int) : Int × Int × Int :=
  let q0 := gi p 0; let q1 := gi p 1; let q2 := bits .and .u64 (gi p 2) 3
  let f0 := bits .andNot .u64 (gi p 2) 3; let f1 := gi p 3
  let o0 := bits .or .u64 ((gi p 2).fdiv (2 ^ min (Int.toNat 2) IntKind.u64.bits)) (IntKind.u64.wrap (gi p 3 * 2 ^ min (Int.toNat 62) IntKind.u64.bits)); let o1 := (gi p 3).fdiv (2 ^ min (Int.toNat 2) IntKind.u64.bits)
  let a0 := addLo q0 f0 0; let a1 := addLo q1 f1 (addHi q0 f0 0); let a2 := IntKind.u64.wrap (q2 + IntKind.u64.wrap (0 + addHi q1 f1 (addHi q0 f0 0)))
  (addLo a0 o0 0, addLo a1 o1 (addHi a0 o0 0), IntKind.u64.wrap (a2 + IntKind.u64.wrap (0 + addHi a1 o1 (addHi a0 o0 0))))
attribute [simp] prO_length prI_length cst_length mac_length
theorem bld2 (a b : Int) : Try.prog.built 154 [(0, .int .u64 a), (1, .int .u64 b)] = some (ints .u64 [a, b]) := by kernel_rfl
theorem bld3 (a b c : Int) : Try.prog.built 155 [(0, .int .u64 a), (1, .int .u64 b), (2, .int .u64 c)] = some (ints .u64 [a, b, c]) := by kernel_rfl
theorem ptimes_any (b : Nat) (T : TypeId) (g : Bool) (r0 r1 s0 s1 h0 h1 h2 : Int) (bl : List Int) (n : Int) (hbl : bl.length = 16) (hH : AllW [h0, h1, h2]) (hR : AllW [r0, r1]) (w : World)
    (hb : w.heap[b]? = some (.cells (polyRow g r0 r1 s0 s1 h0 h1 h2 bl n) T (0, 0))) :
    Calls Try.prog 102 #[.pointer (some ⟨b, 0, none⟩)] w fun e w' => e = .returned (.tuple #[]) ∧ OwnM w [b] w' [(b, polyRow g r0 r1 s0 s1 (redP (prO [h0, h1, h2] [r0, r1] 3)).1 (redP (prO [h0, h1, h2] [r0, r1] 3)).2.1 (redP (prO [h0, h1, h2] [r0, r1] 3)).2.2 bl n, T)] := by
  refine mutE Try.func102 Try.ntmps102 Try.results102 hb ?_
  have tok_pb : True := trivial
  have tok_ob : True := trivial
  have tok_fb : True := trivial
  have fik : True := trivial
  have fik1 : True := trivial
  repeat (first | (refine rgn 0 ?_; refine SL.al zero_161 ?_; (first | (have _t := tok_pb; clear _t tok_pb; intro pb) | (have _t := tok_ob; clear _t tok_ob; intro ob) | (have _t := tok_fb; clear _t tok_fb; intro fb) | intro _); refine nlx ?_) | (refine rgn 1 ?_; refine sEv ?_; refine SL.nc ?_; refine sEv ?_; (first | (refine SL.ldR tabOk ?_) | (refine SL.ldP tabOk ?_ (hn := by first | (rw [pr_size hbl]; omega) | (rw [pr_size (by assumption)]; omega)) (hB := by first | exact (pr_xr hbl) | exact (pr_xh hbl)))); refine sEv ?_; refine nlx ?_) | (refine zsq ?_; intro _ _) | (with_reducible refine zkN ?_) | (refine useK (by assumption) ?_) | (with_reducible refine zsB ?_))
  clear fik fik1
  refine SP.loopN (fun i l bs => l = [.pointer (some ⟨b, 0, none⟩), nth l 1, .pointer (some ⟨pb, 0, none⟩), nth l 3, nth l 4, nth l 5, nth l 6, nth l 7, nth l 8, nth l 9, nth l 10, nth l 11, nth l 12, nth l 13, nth l 14, nth l 15, nth l 16, .agg (ints .u64 [h0, h1, h2]), .int .i64 ((i : Nat)), nth l 19, nth l 20, nth l 21, nth l 22, nth l 23, nth l 24, nth l 25, nth l 26, nth l 27, nth l 28, nth l 29, nth l 30, nth l 31, nth l 32, nth l 33, nth l 34, nth l 35, nth l 36, nth l 37, nth l 38, nth l 39, nth l 40, nth l 41, nth l 42, nth l 43, nth l 44, nth l 45, nth l 46, nth l 47, nth l 48, nth l 49, nth l 50, nth l 51, nth l 52, nth l 53, nth l 54, nth l 55, nth l 56, nth l 57, nth l 58, nth l 59, nth l 60, nth l 61, nth l 62, nth l 63, nth l 64, nth l 65, nth l 66, nth l 67, nth l 68, nth l 69, nth l 70, nth l 71, nth l 72, nth l 73, nth l 74, nth l 75, nth l 76, nth l 77, nth l 78, nth l 79, nth l 80, nth l 81, nth l 82, nth l 83, nth l 84, nth l 85, nth l 86, nth l 87, nth l 88, nth l 89, nth l 90, nth l 91, nth l 92, nth l 93, nth l 94, nth l 95, nth l 96, nth l 97, nth l 98, nth l 99, nth l 100, nth l 101, nth l 102, nth l 103, nth l 104, nth l 105, nth l 106, nth l 107, nth l 108, nth l 109, nth l 110, nth l 111, nth l 112, nth l 113, nth l 114, nth l 115, nth l 116, nth l 117, nth l 118, nth l 119] ∧ bs = [(pb, ints .u64 (prO [h0, h1, h2] [r0, r1] i), 161), (b, polyRow g r0 r1 s0 s1 h0 h1 h2 bl n, T)]) 3 ⟨(by first | rfl | (simp only [prO_0]; done) | (simp only [prO_0]; rfl) | (rw [prO_0]; rfl)), (by first | rfl | (simp only [prO_0]; done) | (simp only [prO_0]; rfl) | (rw [prO_0]; rfl))⟩ ?_
  rintro i lfi _ hki ⟨hli, rfl⟩
  refine SP.cast hli ?_
  clear hli
  by_cases hlti : i < 3
  · have hi1 : IntKind.i64.wrap ((i : Int) + 1) = ((i + 1 : Nat) : Int) := by rw [IntWalk.i64_in _ (by omega)]; omega
    have fik : True := trivial
    have fik1 : True := trivial
    repeat (first | (refine rgn 2 ?_; refine sEv ?_; refine nlx ?_) | (refine rgn 3 ?_; refine sEv ?_; refine SL.ix tabOk ?_; refine sEv ?_; refine sEv ?_; refine nlx ?_) | (refine rgn 4 ?_; refine sEv ?_; refine SL.nc ?_; refine sEv ?_; (first | (refine SL.ldR tabOk ?_) | (refine SL.ldP tabOk ?_ (hn := by first | (rw [pr_size hbl]; omega) | (rw [pr_size (by assumption)]; omega)) (hB := by first | exact (pr_xr hbl) | exact (pr_xh hbl)))); refine sEv ?_; refine nlx ?_) | (refine zsq ?_; intro _ _) | (with_reducible refine zkN ?_) | (refine useK (by assumption) ?_) | (with_reducible first | refine zsB ?_ | refine zsS ?_) | ((with_reducible show SP _ _ _ (Code.cond _ _ _) _ _ _); first | (refine SP.condT rfl (by first | rfl | (simp only [decide_eq_true_eq, beq_iff_eq, bne_iff_ne]; omega)) ?_)))
    clear fik fik1
    refine SP.loopN (fun k l bs => l = [.pointer (some ⟨b, 0, none⟩), nth l 1, .pointer (some ⟨pb, 0, none⟩), .int .i64 ((i : Nat)), .int .u64 (gi [h0, h1, h2] i), nth l 5, nth l 6, nth l 7, nth l 8, nth l 9, nth l 10, nth l 11, nth l 12, nth l 13, nth l 14, nth l 15, nth l 16, .agg (ints .u64 [h0, h1, h2]), .int .i64 ((i : Nat)), nth l 19, nth l 20, nth l 21, nth l 22, nth l 23, nth l 24, .agg (ints .u64 [r0, r1]), .int .i64 ((k : Nat)), nth l 27, nth l 28, nth l 29, nth l 30, nth l 31, nth l 32, nth l 33, nth l 34, nth l 35, nth l 36, nth l 37, nth l 38, nth l 39, nth l 40, nth l 41, nth l 42, nth l 43, nth l 44, nth l 45, nth l 46, nth l 47, nth l 48, nth l 49, nth l 50, nth l 51, nth l 52, nth l 53, nth l 54, nth l 55, nth l 56, nth l 57, nth l 58, nth l 59, nth l 60, nth l 61, nth l 62, nth l 63, nth l 64, nth l 65, nth l 66, nth l 67, nth l 68, nth l 69, nth l 70, nth l 71, nth l 72, nth l 73, nth l 74, nth l 75, nth l 76, nth l 77, nth l 78, nth l 79, nth l 80, nth l 81, nth l 82, nth l 83, nth l 84, nth l 85, nth l 86, nth l 87, nth l 88, nth l 89, nth l 90, nth l 91, nth l 92, nth l 93, nth l 94, nth l 95, nth l 96, nth l 97, nth l 98, nth l 99, nth l 100, nth l 101, nth l 102, nth l 103, nth l 104, nth l 105, nth l 106, nth l 107, nth l 108, nth l 109, nth l 110, nth l 111, nth l 112, nth l 113, nth l 114, nth l 115, nth l 116, nth l 117, nth l 118, nth l 119] ∧ bs = [(pb, ints .u64 (prI (prO [h0, h1, h2] [r0, r1] i) [h0, h1, h2] [r0, r1] i k), 161), (b, polyRow g r0 r1 s0 s1 h0 h1 h2 bl n, T)]) 2 ⟨(by first | rfl | (simp only [prI_0]; done) | (simp only [prI_0]; rfl) | (rw [prI_0]; rfl)), (by first | rfl | (simp only [prI_0]; done) | (simp only [prI_0]; rfl) | (rw [prI_0]; rfl))⟩ ?_
    rintro k lfk _ hkk ⟨hlk, rfl⟩
    refine SP.cast hlk ?_
    clear hlk
    by_cases hltk : k < 2
    · have hk1 : IntKind.i64.wrap ((k : Int) + 1) = ((k + 1 : Nat) : Int) := by rw [IntWalk.i64_in _ (by omega)]; omega
      have fik : IntKind.i64.wrap ((i : Int) + (k : Int)) = ((i + k : Nat) : Int) := by rw [IntWalk.i64_in _ (by omega)]; omega
      have fik1 : IntKind.i64.wrap (((i + k : Nat) : Int) + 1) = ((i + k + 1 : Nat) : Int) := by rw [IntWalk.i64_in _ (by omega)]; omega
      have hpr := prI_ok (a := i) (prO_ok hH hR i) hH hR k
      repeat (first | (refine rgn 5 ?_; refine sEv ?_; refine nlx ?_) | (refine rgn 6 ?_; refine sEv ?_; refine SL.ix tabOk ?_; refine sEv ?_; refine sEv ?_; refine nlx ?_) | (refine rgn 7 ?_; refine sEv ?_; refine sEv ?_; refine SL.v (ValO.call ent_79 _ rfl _ (fun w _ => mul64_grow _ _ (by first | assumption | exact hH _) (by first | assumption | exact hR _) w)) ?_; (iterate 5 refine sEv ?_); refine nlx ?_) | (refine rgn 8 ?_; refine sEv ?_; refine nlx ?_) | (refine rgn 9 ?_; (iterate 6 refine sEv ?_); refine SL.ixA tabOk ?_ (hm := by first | (simp only [fik, fik1, Nat.zero_add, Nat.mul_one, Nat.one_mul, Int.toNat_natCast]; done) | (simp only [fik, fik1, Nat.zero_add, Nat.mul_one, Nat.one_mul, Int.toNat_natCast]; rfl) | rfl); (first | (refine SL.ldI tabOk ?_) | (refine SL.ldC tabOk ?_ (hv := by first | exact pr_g0 | exact pr_g5 | exact pr_g6 | exact pr_g7 | exact pr_g3 | exact pr_g4 | exact (pr_gn hbl)))); refine sEv ?_; refine SL.v (ValO.ext _ rfl _ (fun w => add64_run _ _ _ (by first | assumption | exact W64.addLo _ _ _ | exact w64_0 | exact W64.lo _ _ | exact hpr _ | exact hcs.1 | exact hcs.2.2 _ | exact hpr3 _ | exact W64.bits _ _ _ | exact W64.shr2 (hpr3 _)) (by first | assumption | exact W64.addLo _ _ _ | exact w64_0 | exact W64.lo _ _ | exact hpr _ | exact hcs.1 | exact hcs.2.2 _ | exact hpr3 _ | exact W64.bits _ _ _ | exact W64.shr2 (hpr3 _)) (by first | exact Bit.zero | assumption | exact hcs.2.1) w)) ?_; (iterate 3 refine sEv ?_); refine SL.ixA tabOk ?_ (hm := by first | (simp only [fik, fik1, Nat.zero_add, Nat.mul_one, Nat.one_mul, Int.toNat_natCast]; done) | (simp only [fik, fik1, Nat.zero_add, Nat.mul_one, Nat.one_mul, Int.toNat_natCast]; rfl) | rfl); (first | (refine SL.stI tabOk ?_) | (refine SL.stP tabOk ?_ (hsz := by first | (rw [pr_size hbl]; omega) | (rw [pr_size (by assumption)]; omega)) (hA := by first | exact pr_p5 | exact pr_p6 | exact pr_p7 | exact (pr_pn hbl)))); refine sEv ?_; refine nlx ?_) | (refine rgn 10 ?_; (iterate 7 refine sEv ?_); refine nlx ?_) | (refine zsq ?_; intro _ _) | (with_reducible refine zkN ?_) | (refine useK (by assumption) ?_) | (with_reducible first | refine zsB ?_ | refine zsS ?_) | ((with_reducible show SP _ _ _ (Code.cond _ _ _) _ _ _); first | (refine SP.condT rfl (by first | rfl | (simp only [decide_eq_true_eq, beq_iff_eq, bne_iff_ne]; omega)) ?_)))
      refine SP.loopN (fun j l bs => l = [.pointer (some ⟨b, 0, none⟩), nth l 1, .pointer (some ⟨pb, 0, none⟩), .int .i64 ((i : Nat)), .int .u64 (gi [h0, h1, h2] i), .int .i64 ((k : Nat)), nth l 6, nth l 7, nth l 8, .int .u64 (cst (mulHi (gi [h0, h1, h2] i) (gi [r0, r1] k)) (addHi (gi (prI (prO [h0, h1, h2] [r0, r1] i) [h0, h1, h2] [r0, r1] i k) (i + k)) (mulLo (gi [h0, h1, h2] i) (gi [r0, r1] k)) 0) ((prI (prO [h0, h1, h2] [r0, r1] i) [h0, h1, h2] [r0, r1] i k).set (i + k) (addLo (gi (prI (prO [h0, h1, h2] [r0, r1] i) [h0, h1, h2] [r0, r1] i k) (i + k)) (mulLo (gi [h0, h1, h2] i) (gi [r0, r1] k)) 0)) (i + k + 1) j).2.1, .int .i64 ((i + k + 1 + j : Nat)), .int .u64 (cst (mulHi (gi [h0, h1, h2] i) (gi [r0, r1] k)) (addHi (gi (prI (prO [h0, h1, h2] [r0, r1] i) [h0, h1, h2] [r0, r1] i k) (i + k)) (mulLo (gi [h0, h1, h2] i) (gi [r0, r1] k)) 0) ((prI (prO [h0, h1, h2] [r0, r1] i) [h0, h1, h2] [r0, r1] i k).set (i + k) (addLo (gi (prI (prO [h0, h1, h2] [r0, r1] i) [h0, h1, h2] [r0, r1] i k) (i + k)) (mulLo (gi [h0, h1, h2] i) (gi [r0, r1] k)) 0)) (i + k + 1) j).1, nth l 12, nth l 13, nth l 14, nth l 15, nth l 16, .agg (ints .u64 [h0, h1, h2]), .int .i64 ((i : Nat)), nth l 19, nth l 20, nth l 21, nth l 22, nth l 23, nth l 24, .agg (ints .u64 [r0, r1]), .int .i64 ((k : Nat)), nth l 27, nth l 28, nth l 29, nth l 30, nth l 31, nth l 32, nth l 33, nth l 34, nth l 35, nth l 36, nth l 37, nth l 38, nth l 39, nth l 40, nth l 41, nth l 42, nth l 43, nth l 44, nth l 45, nth l 46, nth l 47, nth l 48, nth l 49, nth l 50, nth l 51, nth l 52, nth l 53, nth l 54, nth l 55, nth l 56, nth l 57, nth l 58, nth l 59, nth l 60, nth l 61, nth l 62, nth l 63, nth l 64, nth l 65, nth l 66, nth l 67, nth l 68, nth l 69, nth l 70, nth l 71, nth l 72, nth l 73, nth l 74, nth l 75, nth l 76, nth l 77, nth l 78, nth l 79, nth l 80, nth l 81, nth l 82, nth l 83, nth l 84, nth l 85, nth l 86, nth l 87, nth l 88, nth l 89, nth l 90, nth l 91, nth l 92, nth l 93, nth l 94, nth l 95, nth l 96, nth l 97, nth l 98, nth l 99, nth l 100, nth l 101, nth l 102, nth l 103, nth l 104, nth l 105, nth l 106, nth l 107, nth l 108, nth l 109, nth l 110, nth l 111, nth l 112, nth l 113, nth l 114, nth l 115, nth l 116, nth l 117, nth l 118, nth l 119] ∧ bs = [(pb, ints .u64 (cst (mulHi (gi [h0, h1, h2] i) (gi [r0, r1] k)) (addHi (gi (prI (prO [h0, h1, h2] [r0, r1] i) [h0, h1, h2] [r0, r1] i k) (i + k)) (mulLo (gi [h0, h1, h2] i) (gi [r0, r1] k)) 0) ((prI (prO [h0, h1, h2] [r0, r1] i) [h0, h1, h2] [r0, r1] i k).set (i + k) (addLo (gi (prI (prO [h0, h1, h2] [r0, r1] i) [h0, h1, h2] [r0, r1] i k) (i + k)) (mulLo (gi [h0, h1, h2] i) (gi [r0, r1] k)) 0)) (i + k + 1) j).2.2, 161), (b, polyRow g r0 r1 s0 s1 h0 h1 h2 bl n, T)]) (3 - (i + k)) ⟨(by rw [cst_0]; simp only [fik, fik1]; rfl), (by rw [cst_0])⟩ ?_
      rintro j lfj _ hkj ⟨hlj, rfl⟩
      refine SP.cast hlj ?_
      clear hlj
      have hcs := cst_ok (at1 := i + k + 1) ((hH i).hi (hR k)) (Bit.addHi (hpr (i + k)) (W64.lo (gi [h0, h1, h2] i) (gi [r0, r1] k)) Bit.zero) (hpr.set (i + k) (W64.addLo (gi (prI (prO [h0, h1, h2] [r0, r1] i) [h0, h1, h2] [r0, r1] i k) (i + k)) (mulLo (gi [h0, h1, h2] i) (gi [r0, r1] k)) 0)) j
      by_cases hltj : j < 3 - (i + k)
      · have hj1 : IntKind.i64.wrap (((i + k + 1 + j : Nat) : Int) + 1) = ((i + k + 1 + (j + 1) : Nat) : Int) := by rw [IntWalk.i64_in _ (by omega)]; omega
        by_cases hadd : 0 < (cst (mulHi (gi [h0, h1, h2] i) (gi [r0, r1] k)) (addHi (gi (prI (prO [h0, h1, h2] [r0, r1] i) [h0, h1, h2] [r0, r1] i k) (i + k)) (mulLo (gi [h0, h1, h2] i) (gi [r0, r1] k)) 0) ((prI (prO [h0, h1, h2] [r0, r1] i) [h0, h1, h2] [r0, r1] i k).set (i + k) (addLo (gi (prI (prO [h0, h1, h2] [r0, r1] i) [h0, h1, h2] [r0, r1] i k) (i + k)) (mulLo (gi [h0, h1, h2] i) (gi [r0, r1] k)) 0)) (i + k + 1) j).1
        · repeat (first | (refine rgn 11 ?_; refine sEv ?_; (first | (refine SL.c true tabOk ?_) | (refine SL.c false tabOk ?_) | (refine sEv ?_)); refine sEv ?_; (first | (refine SL.gT ?_; refine sEv ?_) | refine SL.gF ?_); (first | (refine SL.gT ?_; (first | (refine SL.c true tabOk ?_) | (refine SL.c false tabOk ?_) | (refine sEv ?_))) | refine SL.gF ?_); (first | (refine SL.gT ?_; refine sEv ?_) | refine SL.gF ?_); (first | (refine SL.gT ?_; refine sEv ?_) | refine SL.gF ?_); (first | (refine SL.gT ?_; (first | (refine SL.c true tabOk ?_) | (refine SL.c false tabOk ?_) | (refine sEv ?_))) | refine SL.gF ?_); (first | (refine SL.gT ?_; refine sEv ?_) | refine SL.gF ?_); refine sEv ?_; refine nlx ?_) | (refine rgn 12 ?_; (iterate 4 refine sEv ?_); refine nlx ?_) | (refine rgn 13 ?_; refine sEv ?_; refine sEv ?_; refine SL.ixA tabOk ?_ (hm := by first | (simp only [fik, fik1, Nat.zero_add, Nat.mul_one, Nat.one_mul, Int.toNat_natCast]; done) | (simp only [fik, fik1, Nat.zero_add, Nat.mul_one, Nat.one_mul, Int.toNat_natCast]; rfl) | rfl); (first | (refine SL.ldI tabOk ?_) | (refine SL.ldC tabOk ?_ (hv := by first | exact pr_g0 | exact pr_g5 | exact pr_g6 | exact pr_g7 | exact pr_g3 | exact pr_g4 | exact (pr_gn hbl)))); refine sEv ?_; refine sEv ?_; refine SL.v (ValO.ext _ rfl _ (fun w => add64_run _ _ _ (by first | assumption | exact W64.addLo _ _ _ | exact w64_0 | exact W64.lo _ _ | exact hpr _ | exact hcs.1 | exact hcs.2.2 _ | exact hpr3 _ | exact W64.bits _ _ _ | exact W64.shr2 (hpr3 _)) (by first | assumption | exact W64.addLo _ _ _ | exact w64_0 | exact W64.lo _ _ | exact hpr _ | exact hcs.1 | exact hcs.2.2 _ | exact hpr3 _ | exact W64.bits _ _ _ | exact W64.shr2 (hpr3 _)) (by first | exact Bit.zero | assumption | exact hcs.2.1) w)) ?_; (iterate 3 refine sEv ?_); refine SL.ixA tabOk ?_ (hm := by first | (simp only [fik, fik1, Nat.zero_add, Nat.mul_one, Nat.one_mul, Int.toNat_natCast]; done) | (simp only [fik, fik1, Nat.zero_add, Nat.mul_one, Nat.one_mul, Int.toNat_natCast]; rfl) | rfl); (first | (refine SL.stI tabOk ?_) | (refine SL.stP tabOk ?_ (hsz := by first | (rw [pr_size hbl]; omega) | (rw [pr_size (by assumption)]; omega)) (hA := by first | exact pr_p5 | exact pr_p6 | exact pr_p7 | exact (pr_pn hbl)))); refine sEv ?_; refine nlx ?_) | (refine zsq ?_; intro _ _) | (with_reducible refine zkN ?_) | (refine useK (by assumption) ?_) | (with_reducible first | refine zsB ?_ | refine zsS ?_) | ((with_reducible show SP _ _ _ (Code.cond _ _ _) _ _ _); first | (refine SP.condT rfl (by first | rfl | (simp only [decide_eq_true_eq, beq_iff_eq, bne_iff_ne]; omega)) ?_)))
          simp only [hj1]
          exact ⟨hltj, (by rw [cst_s]; rfl), (by rw [cst_s])⟩
        · by_cases hup : 0 < (cst (mulHi (gi [h0, h1, h2] i) (gi [r0, r1] k)) (addHi (gi (prI (prO [h0, h1, h2] [r0, r1] i) [h0, h1, h2] [r0, r1] i k) (i + k)) (mulLo (gi [h0, h1, h2] i) (gi [r0, r1] k)) 0) ((prI (prO [h0, h1, h2] [r0, r1] i) [h0, h1, h2] [r0, r1] i k).set (i + k) (addLo (gi (prI (prO [h0, h1, h2] [r0, r1] i) [h0, h1, h2] [r0, r1] i k) (i + k)) (mulLo (gi [h0, h1, h2] i) (gi [r0, r1] k)) 0)) (i + k + 1) j).2.1
          · repeat (first | (refine rgn 11 ?_; refine sEv ?_; (first | (refine SL.c true tabOk ?_) | (refine SL.c false tabOk ?_) | (refine sEv ?_)); refine sEv ?_; (first | (refine SL.gT ?_; refine sEv ?_) | refine SL.gF ?_); (first | (refine SL.gT ?_; (first | (refine SL.c true tabOk ?_) | (refine SL.c false tabOk ?_) | (refine sEv ?_))) | refine SL.gF ?_); (first | (refine SL.gT ?_; refine sEv ?_) | refine SL.gF ?_); (first | (refine SL.gT ?_; refine sEv ?_) | refine SL.gF ?_); (first | (refine SL.gT ?_; (first | (refine SL.c true tabOk ?_) | (refine SL.c false tabOk ?_) | (refine sEv ?_))) | refine SL.gF ?_); (first | (refine SL.gT ?_; refine sEv ?_) | refine SL.gF ?_); refine sEv ?_; refine nlx ?_) | (refine rgn 12 ?_; (iterate 4 refine sEv ?_); refine nlx ?_) | (refine rgn 13 ?_; refine sEv ?_; refine sEv ?_; refine SL.ixA tabOk ?_ (hm := by first | (simp only [fik, fik1, Nat.zero_add, Nat.mul_one, Nat.one_mul, Int.toNat_natCast]; done) | (simp only [fik, fik1, Nat.zero_add, Nat.mul_one, Nat.one_mul, Int.toNat_natCast]; rfl) | rfl); (first | (refine SL.ldI tabOk ?_) | (refine SL.ldC tabOk ?_ (hv := by first | exact pr_g0 | exact pr_g5 | exact pr_g6 | exact pr_g7 | exact pr_g3 | exact pr_g4 | exact (pr_gn hbl)))); refine sEv ?_; refine sEv ?_; refine SL.v (ValO.ext _ rfl _ (fun w => add64_run _ _ _ (by first | assumption | exact W64.addLo _ _ _ | exact w64_0 | exact W64.lo _ _ | exact hpr _ | exact hcs.1 | exact hcs.2.2 _ | exact hpr3 _ | exact W64.bits _ _ _ | exact W64.shr2 (hpr3 _)) (by first | assumption | exact W64.addLo _ _ _ | exact w64_0 | exact W64.lo _ _ | exact hpr _ | exact hcs.1 | exact hcs.2.2 _ | exact hpr3 _ | exact W64.bits _ _ _ | exact W64.shr2 (hpr3 _)) (by first | exact Bit.zero | assumption | exact hcs.2.1) w)) ?_; (iterate 3 refine sEv ?_); refine SL.ixA tabOk ?_ (hm := by first | (simp only [fik, fik1, Nat.zero_add, Nat.mul_one, Nat.one_mul, Int.toNat_natCast]; done) | (simp only [fik, fik1, Nat.zero_add, Nat.mul_one, Nat.one_mul, Int.toNat_natCast]; rfl) | rfl); (first | (refine SL.stI tabOk ?_) | (refine SL.stP tabOk ?_ (hsz := by first | (rw [pr_size hbl]; omega) | (rw [pr_size (by assumption)]; omega)) (hA := by first | exact pr_p5 | exact pr_p6 | exact pr_p7 | exact (pr_pn hbl)))); refine sEv ?_; refine nlx ?_) | (refine zsq ?_; intro _ _) | (with_reducible refine zkN ?_) | (refine useK (by assumption) ?_) | (with_reducible first | refine zsB ?_ | refine zsS ?_) | ((with_reducible show SP _ _ _ (Code.cond _ _ _) _ _ _); first | (refine SP.condT rfl (by first | rfl | (simp only [decide_eq_true_eq, beq_iff_eq, bne_iff_ne]; omega)) ?_)))
            simp only [hj1]
            exact ⟨hltj, (by rw [cst_s]; rfl), (by rw [cst_s])⟩
          · have hmac : (cst (mulHi (gi [h0, h1, h2] i) (gi [r0, r1] k)) (addHi (gi (prI (prO [h0, h1, h2] [r0, r1] i) [h0, h1, h2] [r0, r1] i k) (i + k)) (mulLo (gi [h0, h1, h2] i) (gi [r0, r1] k)) 0) ((prI (prO [h0, h1, h2] [r0, r1] i) [h0, h1, h2] [r0, r1] i k).set (i + k) (addLo (gi (prI (prO [h0, h1, h2] [r0, r1] i) [h0, h1, h2] [r0, r1] i k) (i + k)) (mulLo (gi [h0, h1, h2] i) (gi [r0, r1] k)) 0)) (i + k + 1) j).2.2 = mac (prI (prO [h0, h1, h2] [r0, r1] i) [h0, h1, h2] [r0, r1] i k) (i + k) (gi [h0, h1, h2] i) (gi [r0, r1] k) := by
              have ha0 : (cst (mulHi (gi [h0, h1, h2] i) (gi [r0, r1] k)) (addHi (gi (prI (prO [h0, h1, h2] [r0, r1] i) [h0, h1, h2] [r0, r1] i k) (i + k)) (mulLo (gi [h0, h1, h2] i) (gi [r0, r1] k)) 0) ((prI (prO [h0, h1, h2] [r0, r1] i) [h0, h1, h2] [r0, r1] i k).set (i + k) (addLo (gi (prI (prO [h0, h1, h2] [r0, r1] i) [h0, h1, h2] [r0, r1] i k) (i + k)) (mulLo (gi [h0, h1, h2] i) (gi [r0, r1] k)) 0)) (i + k + 1) j).1 = 0 := by have := hcs.1.1; omega
              have hu0 : (cst (mulHi (gi [h0, h1, h2] i) (gi [r0, r1] k)) (addHi (gi (prI (prO [h0, h1, h2] [r0, r1] i) [h0, h1, h2] [r0, r1] i k) (i + k)) (mulLo (gi [h0, h1, h2] i) (gi [r0, r1] k)) 0) ((prI (prO [h0, h1, h2] [r0, r1] i) [h0, h1, h2] [r0, r1] i k).set (i + k) (addLo (gi (prI (prO [h0, h1, h2] [r0, r1] i) [h0, h1, h2] [r0, r1] i k) (i + k)) (mulLo (gi [h0, h1, h2] i) (gi [r0, r1] k)) 0)) (i + k + 1) j).2.1 = 0 := by have := hcs.2.1.1; omega
              have := (cst_still (at1 := i + k + 1) (hpr.set (i + k) (W64.addLo _ _ _)) ((hH i).hi (hR k)) (Bit.addHi (hpr (i + k)) (W64.lo _ _) Bit.zero) ha0 hu0 (3 - (i + k) - j)).1
              rw [show j + (3 - (i + k) - j) = 3 - (i + k) by omega] at this
              unfold mac; exact this.symm
            repeat (first | (refine rgn 11 ?_; refine sEv ?_; (first | (refine SL.c true tabOk ?_) | (refine SL.c false tabOk ?_) | (refine sEv ?_)); refine sEv ?_; (first | (refine SL.gT ?_; refine sEv ?_) | refine SL.gF ?_); (first | (refine SL.gT ?_; (first | (refine SL.c true tabOk ?_) | (refine SL.c false tabOk ?_) | (refine sEv ?_))) | refine SL.gF ?_); (first | (refine SL.gT ?_; refine sEv ?_) | refine SL.gF ?_); (first | (refine SL.gT ?_; refine sEv ?_) | refine SL.gF ?_); (first | (refine SL.gT ?_; (first | (refine SL.c true tabOk ?_) | (refine SL.c false tabOk ?_) | (refine sEv ?_))) | refine SL.gF ?_); (first | (refine SL.gT ?_; refine sEv ?_) | refine SL.gF ?_); refine sEv ?_; refine nlx ?_) | (refine rgn 14 ?_; refine sEv ?_; refine sEv ?_; refine nlx ?_) | (refine zsq ?_; intro _ _) | (with_reducible refine zkN ?_) | (refine useK (by assumption) ?_) | (with_reducible refine zsX ?_) | ((with_reducible show SP _ _ _ (Code.cond _ _ _) _ _ _); first | (refine SP.condF rfl (by first | rfl | (simp only [decide_eq_false_iff_not, beq_eq_false_iff_ne, bne_eq_false_iff_eq]; omega)) ?_)))
            simp only [hk1]
            exact ⟨hltk, rfl, (by rw [prI_s, ← hmac])⟩
      · have hmac : (cst (mulHi (gi [h0, h1, h2] i) (gi [r0, r1] k)) (addHi (gi (prI (prO [h0, h1, h2] [r0, r1] i) [h0, h1, h2] [r0, r1] i k) (i + k)) (mulLo (gi [h0, h1, h2] i) (gi [r0, r1] k)) 0) ((prI (prO [h0, h1, h2] [r0, r1] i) [h0, h1, h2] [r0, r1] i k).set (i + k) (addLo (gi (prI (prO [h0, h1, h2] [r0, r1] i) [h0, h1, h2] [r0, r1] i k) (i + k)) (mulLo (gi [h0, h1, h2] i) (gi [r0, r1] k)) 0)) (i + k + 1) j).2.2 = mac (prI (prO [h0, h1, h2] [r0, r1] i) [h0, h1, h2] [r0, r1] i k) (i + k) (gi [h0, h1, h2] i) (gi [r0, r1] k) := by
          unfold mac; rw [show 3 - (i + k) = j by omega]
        repeat (first | (refine rgn 11 ?_; refine sEv ?_; (first | (refine SL.c true tabOk ?_) | (refine SL.c false tabOk ?_) | (refine sEv ?_)); refine sEv ?_; (first | (refine SL.gT ?_; refine sEv ?_) | refine SL.gF ?_); (first | (refine SL.gT ?_; (first | (refine SL.c true tabOk ?_) | (refine SL.c false tabOk ?_) | (refine sEv ?_))) | refine SL.gF ?_); (first | (refine SL.gT ?_; refine sEv ?_) | refine SL.gF ?_); (first | (refine SL.gT ?_; refine sEv ?_) | refine SL.gF ?_); (first | (refine SL.gT ?_; (first | (refine SL.c true tabOk ?_) | (refine SL.c false tabOk ?_) | (refine sEv ?_))) | refine SL.gF ?_); (first | (refine SL.gT ?_; refine sEv ?_) | refine SL.gF ?_); refine sEv ?_; refine nlx ?_) | (refine rgn 14 ?_; refine sEv ?_; refine sEv ?_; refine nlx ?_) | (refine zsq ?_; intro _ _) | (with_reducible refine zkN ?_) | (refine useK (by assumption) ?_) | (with_reducible refine zsX ?_) | ((with_reducible show SP _ _ _ (Code.cond _ _ _) _ _ _); first | (refine SP.condF rfl (by first | rfl | (simp only [decide_eq_false_iff_not, beq_eq_false_iff_ne, bne_eq_false_iff_eq]; omega)) ?_)))
        simp only [hk1]
        exact ⟨hltk, rfl, (by rw [prI_s, ← hmac])⟩
    · have hendk : k = 2 := by omega
      replace hendk := Lib.hid hendk
      repeat (first | (refine rgn 5 ?_; refine sEv ?_; refine nlx ?_) | (refine rgn 15 ?_; refine sEv ?_; refine sEv ?_; refine nlx ?_) | (refine zsq ?_; intro _ _) | (with_reducible refine zkN ?_) | (refine useK (by assumption) ?_) | (with_reducible refine zsX ?_) | ((with_reducible show SP _ _ _ (Code.cond _ _ _) _ _ _); first | (refine SP.condF rfl (by first | rfl | (simp only [decide_eq_false_iff_not, beq_eq_false_iff_ne, bne_eq_false_iff_eq]; omega)) ?_)))
      have hq := hendk.out; clear hendk; subst hq
      simp only [hi1]
      exact ⟨hlti, rfl, (by rw [prO_s])⟩
  · have hendi : i = 3 := by omega
    replace hendi := Lib.hid hendi
    have hpr3 := prO_ok hH hR i
    have fik : True := trivial
    have fik1 : True := trivial
    repeat (first | (refine rgn 2 ?_; refine sEv ?_; refine nlx ?_) | (refine rgn 16 ?_; refine sEv ?_; (first | (refine SL.ldI tabOk ?_) | (refine SL.ldC tabOk ?_ (hv := by first | exact pr_g0 | exact pr_g5 | exact pr_g6 | exact pr_g7 | exact pr_g3 | exact pr_g4 | exact (pr_gn hbl)))); refine sEv ?_; refine sEv ?_; (first | (refine SL.ldI tabOk ?_) | (refine SL.ldC tabOk ?_ (hv := by first | exact pr_g0 | exact pr_g5 | exact pr_g6 | exact pr_g7 | exact pr_g3 | exact pr_g4 | exact (pr_gn hbl)))); (iterate 3 refine sEv ?_); (first | (refine SL.ldI tabOk ?_) | (refine SL.ldC tabOk ?_ (hv := by first | exact pr_g0 | exact pr_g5 | exact pr_g6 | exact pr_g7 | exact pr_g3 | exact pr_g4 | exact (pr_gn hbl)))); refine sEv ?_; refine SL.val (ValO.build (by first | (dsimp only [List.map, evL, nth]; done) | (dsimp only [List.map, evL, nth]; rfl)) (bld2 _ _)) bpp ?_; refine SL.al zero_154 ?_; (first | (have _t := tok_pb; clear _t tok_pb; intro pb) | (have _t := tok_ob; clear _t tok_ob; intro ob) | (have _t := tok_fb; clear _t tok_fb; intro fb) | intro _); (first | (refine SL.stR tabOk ?_) | (refine SL.stQ tabOk ?_ (hsz := by first | (rw [pr_size hbl]; omega) | (rw [pr_size (by assumption)]; omega)) (hA := by first | exact pr_ph))); refine nlx ?_) | (refine rgn 17 ?_; refine sEv ?_; refine sEv ?_; (first | (refine SL.ldI tabOk ?_) | (refine SL.ldC tabOk ?_ (hv := by first | exact pr_g0 | exact pr_g5 | exact pr_g6 | exact pr_g7 | exact pr_g3 | exact pr_g4 | exact (pr_gn hbl)))); refine sEv ?_; (first | (refine SL.ldI tabOk ?_) | (refine SL.ldC tabOk ?_ (hv := by first | exact pr_g0 | exact pr_g5 | exact pr_g6 | exact pr_g7 | exact pr_g3 | exact pr_g4 | exact (pr_gn hbl)))); refine sEv ?_; (first | (refine SL.ldI tabOk ?_) | (refine SL.ldC tabOk ?_ (hv := by first | exact pr_g0 | exact pr_g5 | exact pr_g6 | exact pr_g7 | exact pr_g3 | exact pr_g4 | exact (pr_gn hbl)))); refine sEv ?_; refine SL.val (ValO.build (by first | (dsimp only [List.map, evL, nth]; done) | (dsimp only [List.map, evL, nth]; rfl)) (bld3 _ _ _)) bpp ?_; refine SL.nc ?_; refine sEv ?_; (first | (refine SL.stR tabOk ?_) | (refine SL.stQ tabOk ?_ (hsz := by first | (rw [pr_size hbl]; omega) | (rw [pr_size (by assumption)]; omega)) (hA := by first | exact pr_ph))); refine nlx ?_) | (refine rgn 18 ?_; refine sEv ?_; (first | (refine SL.ldI tabOk ?_) | (refine SL.ldC tabOk ?_ (hv := by first | exact pr_g0 | exact pr_g5 | exact pr_g6 | exact pr_g7 | exact pr_g3 | exact pr_g4 | exact (pr_gn hbl)))); refine sEv ?_; refine sEv ?_; (first | (refine SL.ldI tabOk ?_) | (refine SL.ldC tabOk ?_ (hv := by first | exact pr_g0 | exact pr_g5 | exact pr_g6 | exact pr_g7 | exact pr_g3 | exact pr_g4 | exact (pr_gn hbl)))); refine SL.val (ValO.build (by first | (dsimp only [List.map, evL, nth]; done) | (dsimp only [List.map, evL, nth]; rfl)) (bld2 _ _)) bpp ?_; refine SL.al zero_154 ?_; (first | (have _t := tok_pb; clear _t tok_pb; intro pb) | (have _t := tok_ob; clear _t tok_ob; intro ob) | (have _t := tok_fb; clear _t tok_fb; intro fb) | intro _); (first | (refine SL.stR tabOk ?_) | (refine SL.stQ tabOk ?_ (hsz := by first | (rw [pr_size hbl]; omega) | (rw [pr_size (by assumption)]; omega)) (hA := by first | exact pr_ph))); refine nlx ?_) | (refine rgn 19 ?_; refine sEv ?_; refine sEv ?_; (first | (refine SL.ldI tabOk ?_) | (refine SL.ldC tabOk ?_ (hv := by first | exact pr_g0 | exact pr_g5 | exact pr_g6 | exact pr_g7 | exact pr_g3 | exact pr_g4 | exact (pr_gn hbl)))); refine sEv ?_; (first | (refine SL.ldI tabOk ?_) | (refine SL.ldC tabOk ?_ (hv := by first | exact pr_g0 | exact pr_g5 | exact pr_g6 | exact pr_g7 | exact pr_g3 | exact pr_g4 | exact (pr_gn hbl)))); refine SL.call1 (b := b) ent_101 rfl (gbk _) (fun w hw => by have hbb := hw.block (mbk b); exact padd_any _ _ _ _ _ _ _ _ _ _ _ _ _ _ _ hbl (by first | assumption | exact W64.addLo _ _ _ | exact w64_0 | exact W64.lo _ _ | exact hpr _ | exact hcs.1 | exact hcs.2.2 _ | exact hpr3 _ | exact W64.bits _ _ _ | exact W64.shr2 (hpr3 _)) (by first | assumption | exact W64.addLo _ _ _ | exact w64_0 | exact W64.lo _ _ | exact hpr _ | exact hcs.1 | exact hcs.2.2 _ | exact hpr3 _ | exact W64.bits _ _ _ | exact W64.shr2 (hpr3 _)) (by first | assumption | exact W64.addLo _ _ _ | exact w64_0 | exact W64.lo _ _ | exact hpr _ | exact hcs.1 | exact hcs.2.2 _ | exact hpr3 _ | exact W64.bits _ _ _ | exact W64.shr2 (hpr3 _)) (by first | assumption | exact W64.addLo _ _ _ | exact w64_0 | exact W64.lo _ _ | exact hpr _ | exact hcs.1 | exact hcs.2.2 _ | exact hpr3 _ | exact W64.bits _ _ _ | exact W64.shr2 (hpr3 _)) w hbb) stt bpp ?_; refine nlx ?_) | (refine rgn 20 ?_; refine sEv ?_; refine sEv ?_; (first | (refine SL.ldI tabOk ?_) | (refine SL.ldC tabOk ?_ (hv := by first | exact pr_g0 | exact pr_g5 | exact pr_g6 | exact pr_g7 | exact pr_g3 | exact pr_g4 | exact (pr_gn hbl)))); refine sEv ?_; (first | (refine SL.ldI tabOk ?_) | (refine SL.ldC tabOk ?_ (hv := by first | exact pr_g0 | exact pr_g5 | exact pr_g6 | exact pr_g7 | exact pr_g3 | exact pr_g4 | exact (pr_gn hbl)))); refine SL.call1 (b := b) ent_101 rfl (gbk _) (fun w hw => by have hbb := hw.block (mbk b); exact padd_any _ _ _ _ _ _ _ _ _ _ _ _ _ _ _ hbl (by first | assumption | exact W64.addLo _ _ _ | exact w64_0 | exact W64.lo _ _ | exact hpr _ | exact hcs.1 | exact hcs.2.2 _ | exact hpr3 _ | exact W64.bits _ _ _ | exact W64.shr2 (hpr3 _)) (by first | assumption | exact W64.addLo _ _ _ | exact w64_0 | exact W64.lo _ _ | exact hpr _ | exact hcs.1 | exact hcs.2.2 _ | exact hpr3 _ | exact W64.bits _ _ _ | exact W64.shr2 (hpr3 _)) (by first | assumption | exact W64.addLo _ _ _ | exact w64_0 | exact W64.lo _ _ | exact hpr _ | exact hcs.1 | exact hcs.2.2 _ | exact hpr3 _ | exact W64.bits _ _ _ | exact W64.shr2 (hpr3 _)) (by first | assumption | exact W64.addLo _ _ _ | exact w64_0 | exact W64.lo _ _ | exact hpr _ | exact hcs.1 | exact hcs.2.2 _ | exact hpr3 _ | exact W64.bits _ _ _ | exact W64.shr2 (hpr3 _)) w hbb) stt bpp ?_; refine nlx ?_) | (refine zsq ?_; intro _ _) | (with_reducible refine zkN ?_) | (refine useK (by assumption) ?_) | (with_reducible refine zsX ?_) | ((with_reducible show SP _ _ _ (Code.cond _ _ _) _ _ _); first | (refine SP.condF rfl (by first | rfl | (simp only [decide_eq_false_iff_not, beq_eq_false_iff_ne, bne_eq_false_iff_eq]; omega)) ?_)))
    have hq := hendi.out; clear hendi; subst hq
    refine doneK.mk rfl ResO.nil ⟨rfl, ?_⟩
    simp only [redP]
    exact (by first | exact sub1 | exact subc sub1 | exact subc (subc sub1) | exact subc (subc (subc sub1)) | exact subc (subc (subc (subc sub1))))
end Sp
end
section
open Go Go.RowKit
namespace Sp
open F
theorem W64.wrap (n : Int) : W64 (IntKind.u64.wrap n) := by unfold W64 M64; rw [IntKind.wrap_u64]; omega
theorem AllW.mk2 {a b : Int} (ha : W64 a) (hb : W64 b) : AllW [a, b] := by
  intro j
  match j with
  | 0 => exact ha
  | 1 => exact hb
  | j + 2 => exact w64_0
theorem AllW.mk3 {a b c : Int} (ha : W64 a) (hb : W64 b) (hc : W64 c) : AllW [a, b, c] := by
  intro j
  match j with
  | 0 => exact ha
  | 1 => exact hb
  | 2 => exact hc
  | j + 3 => exact w64_0
theorem numN_w (L : List Int) : ∀ k, W64 (numN L k)
  | 0 => by rw [numN_0]; exact w64_0
  | k + 1 => by rw [numN_s]; exact W64.bits _ _ _
theorem ints_drop {k : IntKind} {L : List Int} {off j : Nat} (h : off + j < L.length) : (ints k L)[off + j]? = some (.int k (gi (L.drop off) j)) := by
  rw [ints_get h]
  simp [gi, List.getElem?_drop]
theorem ints_putAt {k : IntKind} {L cs : List Int} {off : Nat} (h : off + cs.length ≤ L.length) : putAt (ints k L) off (ints k cs).toList = ints k (spl L off cs) := by
  apply Array.ext_getElem?
  intro j
  rw [putAt_get _ _ _ _ (by simp [ints]; omega)]
  simp only [ints, List.length_map, List.getElem?_toArray, List.getElem?_map, spl]
  by_cases h1 : off ≤ j ∧ j < off + cs.length
  · rw [if_pos h1, List.getElem?_append, if_neg (by simp; omega), List.getElem?_append, if_pos (by simp; omega)]
    congr 2
    simp
    omega
  · rw [if_neg h1, List.getElem?_append]
    split
    · rename_i h2
      simp at h2
      rw [List.getElem?_take, if_pos (by omega)]
    · rename_i h2
      simp at h2
      rw [List.getElem?_append, if_neg (by simp; omega)]
      simp only [List.getElem?_drop, List.length_take]
      congr 2
      omega
theorem cpA {k : IntKind} {L cs : List Int} {off : Nat} {X : Array Value} (hx : X = ints k cs) (h : off + cs.length ≤ L.length) : putAt (ints k L) off X.toList = ints k (spl L off cs) := by rw [hx]; exact ints_putAt h
@[irreducible] def tkB (bl : List Int) (m : Nat) : List Int := (spl (List.replicate 17 0) 0 (bl.take m)).set m 1
theorem tkB_length {bl : List Int} {m : Nat} (hb : bl.length = 16) (hm : m ≤ 16) : (tkB bl m).length = 17 := by
  unfold tkB; rw [List.length_set, spl_length _ _ _ (by simp; omega)]; simp
@[irreducible] def addB (h0 h1 h2 : Int) (B : List Int) : Int × Int × Int :=
  (addLo h0 (numN (B.drop 0) 8) 0, addLo h1 (numN (B.drop 8) 8) (addHi h0 (numN (B.drop 0) 8) 0), IntKind.u64.wrap (h2 + IntKind.u64.wrap (IntKind.u64.wrap (gi B 16) + addHi h1 (numN (B.drop 8) 8) (addHi h0 (numN (B.drop 0) 8) 0))))
@[irreducible] def takeH (r0 r1 h0 h1 h2 : Int) (B : List Int) : Int × Int × Int :=
  redP (prO [(addB h0 h1 h2 B).1, (addB h0 h1 h2 B).2.1, (addB h0 h1 h2 B).2.2] [r0, r1] 3)
theorem takeH_w (r0 r1 h0 h1 h2 : Int) (B : List Int) : W64 (takeH r0 r1 h0 h1 h2 B).1 ∧ W64 (takeH r0 r1 h0 h1 h2 B).2.1 ∧ W64 (takeH r0 r1 h0 h1 h2 B).2.2 := by
  unfold takeH redP
  exact ⟨W64.addLo _ _ _, W64.addLo _ _ _, W64.wrap _⟩
attribute [simp] spl_length
theorem ptake_any (b : Nat) (T : TypeId) (g : Bool) (r0 r1 s0 s1 h0 h1 h2 : Int) (bl : List Int) (n : Int) (m : Nat) (hm : m ≤ 16) (hbl : bl.length = 16) (w0 : W64 h0) (w1 : W64 h1) (hR : AllW [r0, r1]) (w : World)
    (hb : w.heap[b]? = some (.cells (polyRow g r0 r1 s0 s1 h0 h1 h2 bl n) T (0, 0))) :
    Calls Try.prog 100 #[.pointer (some ⟨b, 0, none⟩), .int .i64 ((m : Nat))] w fun e w' => e = .returned (.tuple #[]) ∧ OwnM w [b] w' [(b, polyRow g r0 r1 s0 s1 (takeH r0 r1 h0 h1 h2 (tkB bl m)).1 (takeH r0 r1 h0 h1 h2 (tkB bl m)).2.1 (takeH r0 r1 h0 h1 h2 (tkB bl m)).2.2 bl n, T)] := by
  have hle17 : 0 + (bl.take m).length ≤ (List.replicate 17 (0 : Int)).length := by rw [List.length_take, List.length_replicate]; omega
  have hl17 : (spl (List.replicate 17 0) 0 (bl.take m)).length = 17 := by rw [spl_length _ _ _ (by simp; omega)]; simp
  refine mutE Try.func100 Try.ntmps100 Try.results100 hb ?_
  have tok_tb : True := trivial
  repeat (first | (refine rgn 0 ?_; refine SL.al zero_159 ?_; (first | (have _t := tok_tb; clear _t tok_tb; intro tb) | intro _); refine nlx ?_) | (refine rgn 2 ?_; refine sEv ?_; refine SL.ixA tabOk ?_; (first | (refine SL.stI tabOk ?_) | (refine SL.stP tabOk ?_ (hsz := by first | (rw [pr_size hbl]; omega) | (rw [pr_size (by assumption)]; omega)) (hA := by first | exact pr_p5 | exact pr_p6 | exact pr_p7 | exact (pr_pn hbl)))); refine nlx ?_) | ((with_reducible show SP _ _ _ (Code.region _ _ true) _ _ _); first | (refine SPa (id := 1) [6] [] ([]) [0, 1, 2, 3, 4, 5, 6] follows ?_; refine SF.ctA tabOk 0 _ ?_; refine fPv ?_; refine SF.nc ?_; refine SF.e tabOk ?_; refine fPv ?_; refine SF.ctA tabOk 0 _ ?_; refine SF.copy tabOk rfl rfl rfl rfl (gbk _) (RdA.own (gbk _)) m (by omega) (by simp [ints]; omega) (by rw [pr_size hbl]; omega) (by rw [pr_xb hbl hm]; exact ints_mem) (cpA (pr_xb hbl hm) hle17) stt (by first | exact Kept.nil | (simp [Kept]; done)) bpp ?_; refine SF.done ?_)) | (refine zsq ?_; intro _ _) | (with_reducible refine zkN ?_) | (refine useK (by assumption) ?_))
  have htk : (spl (List.replicate 17 0) 0 (bl.take m)).set m 1 = tkB bl m := by unfold tkB; rfl
  rw [htk]
  clear htk hl17 hle17
  have hl17 := tkB_length hbl hm
  repeat (first | (refine rgn 4 ?_; refine sEv ?_; refine SL.call1 (b := b) ent_102 rfl (gbk _) (fun w hw => by have hbb := hw.block (mbk b); exact ptimes_any _ _ _ _ _ _ _ _ _ _ _ _ hbl (AllW.mk3 (W64.addLo _ _ _) (W64.addLo _ _ _) (W64.wrap _)) hR w hbb) stt bpp ?_; refine nlx ?_) | ((with_reducible show SP _ _ _ (Code.region _ _ true) _ _ _); first | (refine SPa (id := 3) [8] [] ([]) [0, 1, 2, 3, 4, 5, 6, 7, 8] follows ?_; refine fPv ?_; refine SF.ctA tabOk _ _ ?_; refine SF.v (ValO.call ent_99 _ rfl _ (fun w hw => number_any _ _ _ _ _ _ _ _ w (hw.block (List.mem_of_getElem? (show _ = some (tb, ints .u8 _, _) from (gbk _)))) (fun j hj => ints_drop (by simp [tkB_length hbl hm]; omega)) (by omega) (by omega))) ?_; refine SF.ctA tabOk _ _ ?_; refine SF.v (ValO.call ent_99 _ rfl _ (fun w hw => number_any _ _ _ _ _ _ _ _ w (hw.block (List.mem_of_getElem? (show _ = some (tb, ints .u8 _, _) from (gbk _)))) (fun j hj => ints_drop (by simp [tkB_length hbl hm]; omega)) (by omega) (by omega))) ?_; refine SF.e tabOk ?_; (first | (refine SF.ldI tabOk ?_) | (refine SF.ldC tabOk ?_ (hv := by first | exact pr_g0 | exact pr_g5 | exact pr_g6 | exact pr_g7 | exact pr_g3 | exact pr_g4 | exact (pr_gn hbl)))); refine SF.e tabOk ?_; refine SF.call1 rfl (b := b) ent_101 rfl (gbk _) (fun w hw => by have hbb := hw.block (mbk b); exact padd_any _ _ _ _ _ _ _ _ _ _ _ _ _ _ _ hbl (by first | assumption | exact W64.addLo _ _ _ | exact w64_0 | exact numN_w _ _) (by first | assumption | exact W64.addLo _ _ _ | exact w64_0 | exact numN_w _ _) (by first | assumption | exact W64.addLo _ _ _ | exact w64_0 | exact numN_w _ _) (by first | assumption | exact W64.addLo _ _ _ | exact w64_0 | exact numN_w _ _) w hbb) stt (by first | exact Kept.nil | (simp [Kept]; done)) bpp ?_; refine SF.done ?_)) | (with_reducible refine zkN ?_) | (refine useK (by assumption) ?_))
  refine doneK.mk rfl ResO.nil ⟨rfl, ?_⟩
  simp only [takeH, addB]
  exact (by first | exact sub1 | exact subc sub1 | exact subc (subc sub1) | exact subc (subc (subc sub1)) | exact subc (subc (subc (subc sub1))))
end Sp
end
section
open Go Go.RowKit
namespace Sp
open F
theorem bldP (a b c d : Int) : Try.prog.built 157 [(0, .bool true), (1, .agg (ints .u64 [a, b])), (2, .agg (ints .u64 [c, d]))] = some (polyRow true a b c d 0 0 0 (List.replicate 16 0) 0) := by unfold polyRow; kernel_rfl
@[irreducible] def keyR0 (K : List Int) : Int := bits .and .u64 (numN (K.drop 0) 8) 1152921487695413247
@[irreducible] def keyR1 (K : List Int) : Int := bits .and .u64 (numN (K.drop 8) 8) 1152921487695413244
@[irreducible] def keyS0 (K : List Int) : Int := numN (K.drop 16) 8
@[irreducible] def keyS1 (K : List Int) : Int := numN (K.drop 24) 8
theorem keyR_w (K : List Int) : AllW [keyR0 K, keyR1 K] := by unfold keyR0 keyR1; exact AllW.mk2 (W64.bits _ _ _) (W64.bits _ _ _)
theorem keyS0_w (K : List Int) : W64 (keyS0 K) := by unfold keyS0; exact numN_w _ _
theorem keyS1_w (K : List Int) : W64 (keyS1 K) := by unfold keyS1; exact numN_w _ _
theorem pnew_any (K : List Int) (hk : K.length = 32) (w : World) :
    Calls Try.prog 93 #[.agg (ints .u8 K)] w fun e w' => ∃ nb, e = .returned (.pointer (some ⟨nb, 0, none⟩)) ∧ OwnM w [] w' [(nb, polyRow true (keyR0 K) (keyR1 K) (keyS0 K) (keyS1 K) 0 0 0 (List.replicate 16 0) 0, 157)] := by
  unfold keyR0 keyR1 keyS0 keyS1
  refine newE Try.func93 Try.ntmps93 Try.results93 ?_
  have tok_kb : True := trivial
  have tok_nb : True := trivial
  repeat (first | (refine rgn 0 ?_; refine SL.bx ?_; (first | (have _t := tok_kb; clear _t tok_kb; intro kb) | (have _t := tok_nb; clear _t tok_nb; intro nb) | intro _); refine sEv ?_; refine nlx ?_) | ((with_reducible show SP _ _ _ (Code.region _ _ true) _ _ _); first | (refine SPa (id := 1) [13] [] ([]) [0, 1, 2, 3, 4, 5, 6, 7, 8, 9, 10, 11, 12, 13, 14] follows ?_; refine SF.ctA tabOk _ _ ?_; refine SF.v (ValO.call ent_99 _ rfl _ (fun w hw => number_any _ _ _ _ _ _ _ _ w (hw.block (List.mem_of_getElem? (show _ = some (kb, ints .u8 _, _) from (gbk _)))) (fun j hj => ints_drop (by rw [hk]; omega)) (by omega) (by omega))) ?_; refine SF.e tabOk ?_; refine SF.ctA tabOk _ _ ?_; refine SF.v (ValO.call ent_99 _ rfl _ (fun w hw => number_any _ _ _ _ _ _ _ _ w (hw.block (List.mem_of_getElem? (show _ = some (kb, ints .u8 _, _) from (gbk _)))) (fun j hj => ints_drop (by rw [hk]; omega)) (by omega) (by omega))) ?_; refine SF.e tabOk ?_; refine SF.val rfl rfl rfl rfl (ValO.build (by first | (dsimp only [List.map, evL, nth]; done) | (dsimp only [List.map, evL, nth]; rfl)) (bld2 _ _)) bpp ?_; refine SF.ctA tabOk _ _ ?_; refine SF.v (ValO.call ent_99 _ rfl _ (fun w hw => number_any _ _ _ _ _ _ _ _ w (hw.block (List.mem_of_getElem? (show _ = some (kb, ints .u8 _, _) from (gbk _)))) (fun j hj => ints_drop (by rw [hk]; omega)) (by omega) (by omega))) ?_; refine SF.ctA tabOk _ _ ?_; refine SF.v (ValO.call ent_99 _ rfl _ (fun w hw => number_any _ _ _ _ _ _ _ _ w (hw.block (List.mem_of_getElem? (show _ = some (kb, ints .u8 _, _) from (gbk _)))) (fun j hj => ints_drop (by rw [hk]; omega)) (by omega) (by omega))) ?_; refine SF.val rfl rfl rfl rfl (ValO.build (by first | (dsimp only [List.map, evL, nth]; done) | (dsimp only [List.map, evL, nth]; rfl)) (bld2 _ _)) bpp ?_; refine SF.val rfl rfl rfl rfl (ValO.build (by first | (dsimp only [List.map, evL, nth]; done) | (dsimp only [List.map, evL, nth]; rfl)) (bldP _ _ _ _)) bpp ?_; refine SF.bx ?_; (first | (have _t := tok_kb; clear _t tok_kb; intro kb) | (have _t := tok_nb; clear _t tok_nb; intro nb) | intro _); refine fPv ?_; refine SF.done ?_)) | (refine zsq ?_; intro _ _) | (with_reducible refine zkN ?_) | (refine useK (by assumption) ?_) | (with_reducible first | refine zsB ?_ | refine zkX ?_ | refine zkR ?_ | refine zbN ?_ | refine zbR ?_ | refine zbE ?_ | refine zbX ?_ | refine zsS ?_ | refine zsR ?_ | refine zsX ?_) | ((with_reducible show SP _ _ _ (Code.cond _ _ _) _ _ _); first | (refine SP.condT rfl (by first | rfl | (simp only [decide_eq_true_eq, beq_iff_eq, bne_iff_ne]; omega)) ?_) | (refine SP.condF rfl (by first | rfl | (simp only [decide_eq_false_iff_not, beq_eq_false_iff_ne, bne_eq_false_iff_eq]; omega)) ?_)))
  exact doneK.mk rfl (ResO.tmp rfl) ⟨_, rfl, (by first | exact sub1 | exact subc sub1 | exact subc (subc sub1) | exact subc (subc (subc sub1)) | exact subc (subc (subc (subc sub1))))⟩
end Sp
end
end Go.Proofs.Ytdjecenggngdjaa
