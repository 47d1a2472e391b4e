/-
  A block is taken in.
-/
import Derived.Test.YthbmlpiplfbehaaPolyPa
import Derived.Test.YthbmlpiplfbehaaPolyPc
import Derived.KernelRfl
import Derived.Lib.Hide
namespace Go.Proofs.Ythbmlpiplfbehaa
set_option linter.unusedSimpArgs false
set_option linter.unusedVariables false
open Go Go.RowKit

namespace Sp
open F

theorem W64.wrap (n : Int) : W64 (IntKind.u64.wrap n) := by unfold W64 M64; rw [IntKind.wrap_u64]; omega
theorem AllW.mk2 {a b : Int} (ha : W64 a) (hb : W64 b) : AllW [a, b] := by
  intro j
  match j with
  | 0 => exact ha
  | 1 => exact hb
  | j + 2 => exact w64_0
theorem AllW.mk3 {a b c : Int} (ha : W64 a) (hb : W64 b) (hc : W64 c) : AllW [a, b, c] := by
  intro j
  match j with
  | 0 => exact ha
  | 1 => exact hb
  | 2 => exact hc
  | j + 3 => exact w64_0
theorem numN_w (L : List Int) : ∀ k, W64 (numN L k)
  | 0 => by rw [numN_0]; exact w64_0
  | k + 1 => by rw [numN_s]; exact W64.bits _ _ _
theorem ints_drop {k : IntKind} {L : List Int} {off j : Nat} (h : off + j < L.length) : (ints k L)[off + j]? = some (.int k (gi (L.drop off) j)) := by
  rw [ints_get h]
  simp [gi, List.getElem?_drop]
theorem ints_putAt {k : IntKind} {L cs : List Int} {off : Nat} (h : off + cs.length ≤ L.length) : putAt (ints k L) off (ints k cs).toList = ints k (spl L off cs) := by
  apply Array.ext_getElem?
  intro j
  rw [putAt_get _ _ _ _ (by simp [ints]; omega)]
  simp only [ints, List.length_map, List.getElem?_toArray, List.getElem?_map, spl]
  by_cases h1 : off ≤ j ∧ j < off + cs.length
  · rw [if_pos h1, List.getElem?_append, if_neg (by simp; omega), List.getElem?_append, if_pos (by simp; omega)]
    congr 2
    simp
    omega
  · rw [if_neg h1, List.getElem?_append]
    split
    · rename_i h2
      simp at h2
      rw [List.getElem?_take, if_pos (by omega)]
    · rename_i h2
      simp at h2
      rw [List.getElem?_append, if_neg (by simp; omega)]
      simp only [List.getElem?_drop, List.length_take]
      congr 2
      omega
theorem cpA {k : IntKind} {L cs : List Int} {off : Nat} {X : Array Value} (hx : X = ints k cs) (h : off + cs.length ≤ L.length) : putAt (ints k L) off X.toList = ints k (spl L off cs) := by rw [hx]; exact ints_putAt h
/-- A block of m bytes, and 1 behind it. -/
@[irreducible] def tkB (bl : List Int) (m : Nat) : List Int := (spl (List.replicate 17 0) 0 (bl.take m)).set m 1
theorem tkB_length {bl : List Int} {m : Nat} (hb : bl.length = 16) (hm : m ≤ 16) : (tkB bl m).length = 17 := by
  unfold tkB; rw [List.length_set, spl_length _ _ _ (by simp; omega)]; simp
/-- The sum behind a block. -/
@[irreducible] def addB (h0 h1 h2 : Int) (B : List Int) : Int × Int × Int :=
  (addLo h0 (numN (B.drop 0) 8) 0, addLo h1 (numN (B.drop 8) 8) (addHi h0 (numN (B.drop 0) 8) 0), IntKind.u64.wrap (h2 + IntKind.u64.wrap (IntKind.u64.wrap (gi B 16) + addHi h1 (numN (B.drop 8) 8) (addHi h0 (numN (B.drop 0) 8) 0))))
@[irreducible] def takeH (r0 r1 h0 h1 h2 : Int) (B : List Int) : Int × Int × Int :=
  redP (prO [(addB h0 h1 h2 B).1, (addB h0 h1 h2 B).2.1, (addB h0 h1 h2 B).2.2] [r0, r1] 3)
theorem takeH_w (r0 r1 h0 h1 h2 : Int) (B : List Int) : W64 (takeH r0 r1 h0 h1 h2 B).1 ∧ W64 (takeH r0 r1 h0 h1 h2 B).2.1 ∧ W64 (takeH r0 r1 h0 h1 h2 B).2.2 := by
  unfold takeH redP
  exact ⟨W64.addLo _ _ _, W64.addLo _ _ _, W64.wrap _⟩

attribute [simp] spl_length
set_option maxRecDepth 20000 in
set_option maxHeartbeats 1000000 in
theorem ptake_any (b : Nat) (T : TypeId) (g : Bool) (r0 r1 s0 s1 h0 h1 h2 : Int) (bl : List Int) (n : Int) (m : Nat) (hm : m ≤ 16) (hbl : bl.length = 16) (w0 : W64 h0) (w1 : W64 h1) (hR : AllW [r0, r1]) (w : World)
    (hb : w.heap[b]? = some (.cells (polyRow g r0 r1 s0 s1 h0 h1 h2 bl n) T (0, 0))) :
    Calls Try.prog 60 #[.pointer (some ⟨b, 0, none⟩), .int .i64 ((m : Nat))] w fun e w' => e = .returned (.tuple #[]) ∧ OwnM w [b] w' [(b, polyRow g r0 r1 s0 s1 (takeH r0 r1 h0 h1 h2 (tkB bl m)).1 (takeH r0 r1 h0 h1 h2 (tkB bl m)).2.1 (takeH r0 r1 h0 h1 h2 (tkB bl m)).2.2 bl n, T)] := by
  have hle17 : 0 + (bl.take m).length ≤ (List.replicate 17 (0 : Int)).length := by rw [List.length_take, List.length_replicate]; omega
  have hl17 : (spl (List.replicate 17 0) 0 (bl.take m)).length = 17 := by rw [spl_length _ _ _ (by simp; omega)]; simp
  refine mutE Try.func60 Try.ntmps60 Try.results60 hb ?_
  have tok_tb : True := trivial
  repeat (first | ((with_reducible refine SP.region (id := 0) ?_); refine SL.al zero_110 ?_; (first | (have _t := tok_tb; clear _t tok_tb; intro tb) | intro _); (with_reducible refine SL.nil ?_)) | ((with_reducible refine SP.region (id := 2) ?_); refine SL.e tabOk ?_; refine SL.ixA tabOk ?_; (first | (refine SL.stI tabOk ?_) | (refine SL.stP tabOk ?_ (hsz := by first | (rw [pr_size hbl]; omega) | (rw [pr_size (by assumption)]; omega)) (hA := by first | exact pr_p5 | exact pr_p6 | exact pr_p7 | exact (pr_pn hbl)))); (with_reducible refine SL.nil ?_)) | ((with_reducible show SP _ _ _ (Code.region _ _ true) _ _ _); first | (refine SPa (id := 1) [6] [] ([]) [0, 1, 2, 3, 4, 5, 6] follows ?_; refine SF.ctA tabOk 0 _ ?_; refine SF.p tabOk ?_; refine SF.nc ?_; refine SF.e tabOk ?_; refine SF.p tabOk ?_; refine SF.ctA tabOk 0 _ ?_; refine SF.copy tabOk rfl rfl rfl rfl (gbk _) (RdA.own (gbk _)) m (by omega) (by simp [ints]; omega) (by rw [pr_size hbl]; omega) (by rw [pr_xb hbl hm]; exact ints_mem) (cpA (pr_xb hbl hm) hle17) stt (by first | exact Kept.nil | (simp [Kept]; done)) bpp ?_; refine SF.done ?_)) | ((with_reducible refine SP.seqK ?_); intro _ _) | (with_reducible refine thenK_normal ?_) | (refine useK (by assumption) ?_))
  have htk : (spl (List.replicate 17 0) 0 (bl.take m)).set m 1 = tkB bl m := by unfold tkB; rfl
  rw [htk]
  clear htk hl17 hle17
  have hl17 := tkB_length hbl hm
  repeat (first | ((with_reducible refine SP.region (id := 4) ?_); refine SL.e tabOk ?_; refine SL.call1 (b := b) ent_71 rfl (gbk _) (fun w hw => by have hbb := hw.block (mbk b); exact ptimes_any _ _ _ _ _ _ _ _ _ _ _ _ hbl (AllW.mk3 (W64.addLo _ _ _) (W64.addLo _ _ _) (W64.wrap _)) hR w hbb) stt bpp ?_; (with_reducible refine SL.nil ?_)) | ((with_reducible show SP _ _ _ (Code.region _ _ true) _ _ _); first | (refine SPa (id := 3) [8] [] ([]) [0, 1, 2, 3, 4, 5, 6, 7, 8] follows ?_; refine SF.p tabOk ?_; refine SF.ctA tabOk _ _ ?_; refine SF.v (ValO.call ent_59 _ rfl _ (fun w hw => number_any _ _ _ _ _ _ _ _ w (hw.block (List.mem_of_getElem? (show _ = some (tb, ints .u8 _, _) from (gbk _)))) (fun j hj => ints_drop (by simp [tkB_length hbl hm]; omega)) (by omega) (by omega))) ?_; refine SF.ctA tabOk _ _ ?_; refine SF.v (ValO.call ent_59 _ rfl _ (fun w hw => number_any _ _ _ _ _ _ _ _ w (hw.block (List.mem_of_getElem? (show _ = some (tb, ints .u8 _, _) from (gbk _)))) (fun j hj => ints_drop (by simp [tkB_length hbl hm]; omega)) (by omega) (by omega))) ?_; refine SF.e tabOk ?_; (first | (refine SF.ldI tabOk ?_) | (refine SF.ldC tabOk ?_ (hv := by first | exact pr_g0 | exact pr_g5 | exact pr_g6 | exact pr_g7 | exact pr_g3 | exact pr_g4 | exact (pr_gn hbl)))); refine SF.e tabOk ?_; refine SF.call1 rfl (b := b) ent_70 rfl (gbk _) (fun w hw => by have hbb := hw.block (mbk b); exact padd_any _ _ _ _ _ _ _ _ _ _ _ _ _ _ _ hbl (by first | assumption | exact W64.addLo _ _ _ | exact w64_0 | exact numN_w _ _) (by first | assumption | exact W64.addLo _ _ _ | exact w64_0 | exact numN_w _ _) (by first | assumption | exact W64.addLo _ _ _ | exact w64_0 | exact numN_w _ _) (by first | assumption | exact W64.addLo _ _ _ | exact w64_0 | exact numN_w _ _) w hbb) stt (by first | exact Kept.nil | (simp [Kept]; done)) bpp ?_; refine SF.done ?_)) | (with_reducible refine thenK_normal ?_) | (refine useK (by assumption) ?_))
  refine doneK.mk rfl ResO.nil ⟨rfl, ?_⟩
  simp only [takeH, addB]
  exact (by first | exact sub1 | exact subc sub1 | exact subc (subc sub1) | exact subc (subc (subc sub1)) | exact subc (subc (subc (subc sub1))))
end Sp

end Go.Proofs.Ythbmlpiplfbehaa
