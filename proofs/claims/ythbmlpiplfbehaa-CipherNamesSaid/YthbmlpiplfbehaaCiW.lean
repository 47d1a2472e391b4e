/-
  What is sealed is opened as it was: plain law.
  usual, opens and awake of the cipher's laws.
  Lengths of what boxes hold; equal bytes.
-/
import Derived.Test.YthbmlpiplfbehaaCiD
namespace Go.Proofs.Ythbmlpiplfbehaa
set_option linter.unusedSimpArgs false
set_option linter.unusedVariables false
open Go Go.RowKit
namespace Sp
open F M
theorem xor_xor {x y : Int} (hx : 0 ≤ x ∧ x < 256) (hy : 0 ≤ y ∧ y < 256) : bits .xor .u8 (bits .xor .u8 x y) y = x := by
  obtain ⟨a, rfl⟩ := Int.eq_ofNat_of_zero_le hx.1
  obtain ⟨b, rfl⟩ := Int.eq_ofNat_of_zero_le hy.1
  have ha := hx.2
  have hb := hy.2
  rw [u8_xor_nat a b (by omega) (by omega)]
  have h1 : a ^^^ b < 2 ^ 8 := Nat.xor_lt_two_pow (by omega) (by omega)
  rw [u8_xor_nat (a ^^^ b) b (by omega) (by omega), Nat.xor_assoc, Nat.xor_self, Nat.xor_zero]
theorem strm_b (K : List Int) (ct : Int) (N : List Int) (j : Nat) : 0 ≤ strm K ct N j ∧ strm K ct N j < 256 := by unfold strm; exact chB_byts _ _ _ _
theorem xo_xo (K : List Int) (ct : Int) (N : List Int) {B : List Int} (hB : Byts B) : xo K ct N (xo K ct N B) = B := by
  apply List.ext_getElem?
  intro j
  by_cases hj : j < B.length
  · rw [xo_get _ _ _ _ _ (by simpa using hj), gi_xo _ _ _ _ _ hj, xor_xor (hB j) (strm_b _ _ _ _), List.getElem?_eq_getElem hj]
    simp [gi, hj]
  · rw [List.getElem?_eq_none (by simp; omega), List.getElem?_eq_none (by omega)]
theorem box_ok (K N A B : List Int) (m : Nat) (hm : B.length = m) : boxOk K N A (sealV K N A B) (m + 16) := by
  unfold boxOk
  rw [Nat.add_sub_cancel, ← hm, sealV_take, sealV_drop]
theorem oE_back (K N : List Int) {A B : List Int} (h1 : A.length ≤ 4096) (h2 : B.length ≤ 4096) : oE K N A (sealV K N A B) = 0 := by
  refine oE_ok h1 (by simp) (by simp; omega) ?_
  rw [sealV_length]
  exact box_ok K N A B _ rfl
theorem oX_back (K N : List Int) {A B : List Int} (h1 : A.length ≤ 4096) (h2 : B.length ≤ 4096) (bB : Byts B) : oX K N A (sealV K N A B) = B := by
  rw [oX_ok (oE_back K N h1 h2), sealV_length, Nat.add_sub_cancel, sealV_take, xo_xo K 1 N bB]
/-- At most 64 bytes: one block of the key stream. -/
theorem xo_one (K : List Int) (ct : Int) (N B : List Int) (h : B.length ≤ 64) : xo K ct N B = List.zipWith (fun x y => bits .xor .u8 x y) B (chB K (ct + 0) N) := by
  apply List.ext_getElem?
  intro j
  by_cases hj : j < B.length
  · rw [xo_get _ _ _ _ _ hj, List.getElem?_zipWith]
    have hs : (chB K (ct + 0) N)[j]? = some (strm K ct N j) := by
      unfold strm
      rw [show j / 64 = 0 by omega, show j % 64 = j by omega, Int.natCast_zero]
      unfold gi
      rw [List.getD_eq_getElem?_getD, List.getElem?_eq_getElem (by simp; omega)]
      rfl
    rw [hs, List.getElem?_eq_getElem hj]
    simp [gi, hj]
  · rw [List.getElem?_eq_none (by simp; omega), List.getElem?_eq_none (by simp; omega)]
end Sp
end Go.Proofs.Ythbmlpiplfbehaa

namespace Go.Proofs.Ythbmlpiplfbehaa
set_option linter.unusedSimpArgs false
set_option linter.unusedVariables false
open Go Go.RowKit

namespace Sp
open F M
def usI' : Nat → List Int
  | 0 => List.replicate 32 0
  | i + 1 => (usI' i).set i (IntKind.u8.wrap (((i + 1 : Nat)) : Int))
@[irreducible] def usI (i : Nat) : List Int := usI' i
theorem usI_0 : usI 0 = List.replicate 32 0 := by unfold usI; rfl
theorem usI_s (i : Nat) : usI (i + 1) = (usI i).set i (IntKind.u8.wrap (((i + 1 : Nat)) : Int)) := by unfold usI; rfl
theorem usI_length : ∀ i, (usI i).length = 32
  | 0 => by rw [usI_0]; rfl
  | i + 1 => by rw [usI_s, List.length_set, usI_length i]
attribute [simp] usI_length
@[irreducible] def usK : List Int := usI 32
theorem usK_length : usK.length = 32 := by unfold usK; simp
attribute [simp] usK_length
theorem usK_byts : Byts usK := byts_mem (by unfold usK; decide +kernel)

set_option maxRecDepth 20000 in
theorem usual_any (w : World) : Calls Try.prog 31 #[] w fun e w' => e = .returned (.agg (ints .u8 usK)) ∧ Below w.heap.size w w' := by
  have tok_ob : True := trivial
  have tok_tb : True := trivial
  refine pureE Try.func31 Try.ntmps31 Try.results31 ?_
  repeat (first | ((with_reducible refine SP.region (id := 0) ?_); refine SL.al zero_23 ?_; (first | (have _t := tok_ob; clear _t tok_ob; intro ob) | (have _t := tok_tb; clear _t tok_tb; intro tb) | intro _); (with_reducible refine SL.nil ?_)) | ((with_reducible refine SP.region (id := 1) ?_); refine SL.al zero_23 ?_; (first | (have _t := tok_ob; clear _t tok_ob; intro ob) | (have _t := tok_tb; clear _t tok_tb; intro tb) | intro _); (with_reducible refine SL.nil ?_)) | ((with_reducible refine SP.region (id := 2) ?_); refine SL.e tabOk ?_; (with_reducible refine SL.nil ?_)) | ((with_reducible refine SP.seqK ?_); intro _ _) | (with_reducible refine thenK_normal ?_) | (refine useK (by assumption) ?_) | (with_reducible refine SP.block ?_))
  refine SP.loopN (fun i l bs => l = [.pointer (some ⟨ob, 0, none⟩), .pointer (some ⟨tb, 0, none⟩), .int .i64 ((i : Nat)), nth l 3, nth l 4, nth l 5, nth l 6, nth l 7, nth l 8, nth l 9, nth l 10, nth l 11, nth l 12] ∧ bs = [(tb, ints .u8 (usI i), 23), (ob, ints .u8 (List.replicate 32 0), 23)]) 32 ⟨rfl, by rw [usI_0]⟩ ?_
  rintro i lfi _ hki ⟨hli, rfl⟩
  refine SP.cast hli ?_
  clear hli
  by_cases hlti : i < 32
  · have hi1 : IntKind.i64.wrap ((i : Int) + 1) = ((i + 1 : Nat) : Int) := by rw [IntWalk.i64_in _ (by omega)]; omega
    repeat (first | ((with_reducible refine SP.region (id := 3) ?_); refine SL.e tabOk ?_; refine SL.e tabOk ?_; (with_reducible refine SL.nil ?_)) | ((with_reducible refine SP.region (id := 4) ?_); refine SL.e tabOk ?_; refine SL.e tabOk ?_; refine SL.e tabOk ?_; (with_reducible refine SL.nil ?_)) | ((with_reducible refine SP.region (id := 5) ?_); refine SL.e tabOk ?_; refine SL.e tabOk ?_; refine SL.e tabOk ?_; refine SL.e tabOk ?_; refine SL.ixA tabOk ?_; refine SL.stI tabOk ?_; (with_reducible refine SL.nil ?_)) | ((with_reducible refine SP.seqK ?_); intro _ _) | (with_reducible refine thenK_normal ?_) | (refine useK (by assumption) ?_) | (with_reducible refine SP.block ?_) | (with_reducible refine SP.skip ?_) | ((with_reducible show SP _ _ _ (Code.cond _ _ _) _ _ _); first | (refine SP.condT rfl (by first | rfl | (simp only [decide_eq_true_eq, beq_iff_eq, bne_iff_ne]; first | done | omega)) ?_)))
    simp only [hi1]
    exact ⟨hlti, rfl, by rw [usI_s]⟩
  · have hendi : i = 32 := by omega
    replace hendi := Lib.hid hendi
    repeat (first | ((with_reducible refine SP.region (id := 3) ?_); refine SL.e tabOk ?_; refine SL.e tabOk ?_; (with_reducible refine SL.nil ?_)) | ((with_reducible refine SP.seqK ?_); intro _ _) | (with_reducible refine thenK_normal ?_) | (refine useK (by assumption) ?_) | (with_reducible refine SP.exit ?_) | ((with_reducible show SP _ _ _ (Code.cond _ _ _) _ _ _); first | (refine SP.condF rfl (by first | rfl | (simp only [decide_eq_false_iff_not, beq_eq_false_iff_ne, bne_eq_false_iff_eq]; first | done | omega)) ?_)))
    have hq := hendi.out; clear hendi; subst hq
    rw [show usI 32 = usK by unfold usK; rfl]
    repeat (first | ((with_reducible refine SP.region (id := 6) ?_); refine SL.ldR tabOk ?_; refine SL.stR tabOk ?_; (with_reducible refine SL.nil ?_)) | (with_reducible refine thenK_normal ?_) | (refine useK (by assumption) ?_) | (with_reducible refine SP.ret ?_))
    refine doneK.mk rfl (ResO.cell tabOk rfl rfl rfl (by first | exact RdA.own g0 | exact RdA.own g1 | exact RdA.own g2 | exact RdA.own g3 | exact RdA.own g4 | exact RdA.own g5 | exact RdA.own g6 | exact RdA.own g7 | exact RdA.own g8 | exact RdA.own g9 | exact RdA.own g10 | exact RdA.own g11 | exact RdA.own g12 | exact RdA.own g13 | exact RdA.own g14 | exact RdA.own g15) (by first | (simp [ints_size]; done) | (simp [ints_size]; omega))) rfl

set_option maxRecDepth 20000 in
theorem opens_yes (p : Option Addr) (n c : Nat) (B : List Int) (t : ByteArray) (h0 : 0 < n) (ht : ((strOfNums B).toList == t.toList) = true) (w : World) (hS : Sl w p n c B) :
    Calls Try.prog 36 #[.slice p n c, .int .i64 0, .string t] w fun e w' => e = .returned (.bool true) ∧ Below w.heap.size w w' := by
  refine pureE Try.func36 Try.ntmps36 Try.results36 ?_
  repeat (first | ((with_reducible refine SP.region (id := 0) ?_); refine SL.e tabOk ?_; (with_reducible refine SL.nil ?_)) | ((with_reducible refine SP.region (id := 1) ?_); refine SL.e tabOk ?_; (first | (refine SL.c true tabOk ?_) | (refine SL.c false tabOk ?_) | (refine SL.e tabOk ?_)); refine SL.e tabOk ?_; (first | (refine SL.gT ?_; refine SL.e tabOk ?_) | refine SL.gF ?_); (first | (refine SL.gT ?_; refine SL.v (ValO.bytesStr tabOk (fun w1 hw1 => hS.old hw1.below) h0 rfl rfl rfl rfl) ?_) | refine SL.gF ?_); (first | (refine SL.gT ?_; refine SL.e tabOk ?_) | refine SL.gF ?_); (first | (refine SL.gT ?_; refine SL.v (ValO.eqlStr rfl rfl ht) ?_) | refine SL.gF ?_); refine SL.e tabOk ?_; refine SL.e tabOk ?_; (with_reducible refine SL.nil ?_)) | ((with_reducible refine SP.seqK ?_); intro _ _) | (with_reducible refine thenK_normal ?_) | (refine useK (by assumption) ?_) | (with_reducible refine SP.ret ?_))
  exact doneK.mk rfl (ResO.tmp rfl) rfl

theorem aw_y : xo usK 1 (nonV 1) [121] = [25] := by rw [xo_one _ _ _ _ (by decide)]; unfold usK nonV; decide +kernel
theorem aw_bad : oE usK (nonV 1) [97, 100] (sealV usK (nonV 1) [] [121]) = 60 := by
  refine oE_bad (by decide) (by simp) (by simp) ?_
  rw [sealV_length]
  unfold boxOk
  rw [Nat.add_sub_cancel, sealV_take, sealV_drop, aw_y]
  unfold usK nonV
  decide +kernel
theorem byts_one {v : Int} (h : 0 ≤ v ∧ v < 256) : Byts [v] := byts_cons h byts_nil
/-- Seal of one byte, where it answers. -/
theorem seal_one (K : List Int) (hK : K.length = 32) (n : Int) (hn0 : 0 ≤ n) (hn1 : n < 9007199254740991) (b : Nat) (w : World) (q : Option Addr) (d : Nat) (v : Int) (hv : 0 ≤ v ∧ v < 256) (hS : Sl w q 1 d [v]) (hb : w.heap[b]? = some (.cells (stRow true K n) 62 (0, 0))) (hq : ApartB b q 1) :
    Calls Try.prog 14 #[.pointer (some ⟨b, 0, none⟩), .slice none 0 0, .slice q 1 d] w (StPost w b 62 (stRow true K (n + 1)) (sealV K (nonV n) [] [v]) 0) := by
  have h := seal_st K hK n hn0 b w none q 0 d [] [v] byts_nil (byts_one hv) (Sl.nil w none 0) hS (by decide) (by simp) hb (ApartB.nil b 0) hq
  rw [kX_in hn1, kE_in hn1, sX_ok (by decide) (by simp), sE_ok (by decide) (by simp), kN_0] at h
  exact h
/-- Open of what was sealed. -/
theorem open_back (K : List Int) (hK : K.length = 32) (n : Int) (hn0 : 0 ≤ n) (hn1 : n < 9007199254740991) (b : Nat) (w : World) (p q : Option Addr) (c d m k : Nat) (A B : List Int) (bA : Byts A) (bB : Byts B) (hSA : Sl w p k c A) (hS : Sl w q (m + 16) d (sealV K (nonV n) A B)) (hm : B.length = m) (hm2 : m ≤ 4096) (hk : k ≤ 4096) (hb : w.heap[b]? = some (.cells (stRow true K n) 62 (0, 0))) (hp : ApartB b p k) (hq : ApartB b q (m + 16)) :
    Calls Try.prog 21 #[.pointer (some ⟨b, 0, none⟩), .slice p k c, .slice q (m + 16) d] w (StPost w b 62 (stRow true K (n + 1)) B 0) := by
  subst hm
  have hl := hSA.len
  subst hl
  have e : (sealV K (nonV n) A B).length = B.length + 16 := sealV_length _ _ _ _
  have h := open_st K hK n hn0 b w p q c d A (sealV K (nonV n) A B) bA (sealV_byts _ _ _ bB) hSA (by rw [e]; exact hS) (by omega) (by rw [e]; omega) hb hp (by rw [e]; exact hq)
  rw [kX_in hn1, kE_in hn1, oX_back K _ hk hm2 bB, oE_back K _ hk hm2, kN_0, e] at h
  exact h
theorem openAt_back (K : List Int) (hK : K.length = 32) (n k : Int) (hn0 : 0 ≤ n) (hn1 : n < 9007199254740991) (b : Nat) (w : World) (p q : Option Addr) (c d m j : Nat) (A B : List Int) (bA : Byts A) (bB : Byts B) (hSA : Sl w p j c A) (hS : Sl w q (m + 16) d (sealV K (nonV n) A B)) (hm : B.length = m) (hm2 : m ≤ 4096) (hk : j ≤ 4096) {fz : Nat × Nat} {TT : TypeId} (hb : w.heap[b]? = some (.cells (stRow true K k) TT fz)) :
    Calls Try.prog 23 #[.pointer (some ⟨b, 0, none⟩), .int .i64 n, .slice p j c, .slice q (m + 16) d] w (BoxPost w B 0) := by
  subst hm
  have hl := hSA.len
  subst hl
  have e : (sealV K (nonV n) A B).length = B.length + 16 := sealV_length _ _ _ _
  have h := openAt_any K hK n k b w p q c d A (sealV K (nonV n) A B) bA (sealV_byts _ _ _ bB) hSA (by rw [e]; exact hS) (by omega) (by rw [e]; omega) hb
  rw [tX_in hn0 hn1, tE_in hn0 hn1, oX_back K _ hk hm2 bB, oE_back K _ hk hm2, e] at h
  exact h
theorem open_bad1 (b : Nat) (w : World) (p q : Option Addr) (c d : Nat) (hSA : Sl w p 2 c [97, 100]) (hS : Sl w q 17 d (sealV usK (nonV 1) [] [121])) (hb : w.heap[b]? = some (.cells (stRow true usK 1) 62 (0, 0))) (hp : ApartB b p 2) (hq : ApartB b q 17) :
    Calls Try.prog 21 #[.pointer (some ⟨b, 0, none⟩), .slice p 2 c, .slice q 17 d] w (StPost w b 62 (stRow true usK 1) [] 60) := by
  have e : (sealV usK (nonV 1) [] [121]).length = 17 := by simp
  have h := open_st usK usK_length 1 (by decide) b w p q c d [97, 100] (sealV usK (nonV 1) [] [121]) (byts_cons (by decide) (byts_one (by decide))) (sealV_byts _ _ _ (byts_one (by decide))) hSA (by rw [e]; exact hS) (by decide) (by rw [e]; decide) hb hp (by rw [e]; exact hq)
  rw [kX_in (by decide), kE_in (by decide), oX_bad (by rw [aw_bad]; decide), aw_bad, kN_ne _ (by decide), e] at h
  exact h

theorem aw_c0 : Instr.fill (fun i => some (i * 1, 1)) ((Array.range (1 * 1)).map ((Value.cells (.int .u8 0))[· % (Value.cells (.int .u8 0)).size]!)) [(0, .int .u8 120)] = some (ints .u8 ([120])) := by kernel_rfl
theorem aw_c1 : Instr.fill (fun i => some (i * 1, 1)) ((Array.range (1 * 1)).map ((Value.cells (.int .u8 0))[· % (Value.cells (.int .u8 0)).size]!)) [(0, .int .u8 121)] = some (ints .u8 ([121])) := by kernel_rfl
theorem aw_c2 : Instr.fill (fun i => some (i * 1, 1)) ((Array.range (2 * 1)).map ((Value.cells (.int .u8 0))[· % (Value.cells (.int .u8 0)).size]!)) [(0, .int .u8 97), (1, .int .u8 100)] = some (ints .u8 ([97, 100])) := by kernel_rfl
set_option maxRecDepth 20000 in
set_option maxHeartbeats 2000000 in
theorem awake_any (w : World) : Calls Try.prog 19 #[] w fun e w' => e = .returned (.bool true) ∧ Below w.heap.size w w' := by
  refine pureE Try.func19 Try.ntmps19 Try.results19 ?_
  repeat (first | ((with_reducible refine SP.region (id := 0) ?_); refine SL.e tabOk ?_; (with_reducible refine SL.nil ?_)) | ((with_reducible refine SP.region (id := 1) ?_); refine SL.v (ValO.call ent_31 _ rfl _ (fun w1 hw1 => usual_any w1)) ?_; refine SL.clN ent_12 rfl (fun w1 _ => new_any usK usK_length w1) (fun ab => ?_); refine SL.v (ValO.call ent_31 _ rfl _ (fun w1 hw1 => usual_any w1)) ?_; refine SL.clN ent_12 rfl (fun w1 _ => new_any usK usK_length w1) (fun bb => ?_); refine SL.e tabOk ?_; refine SL.e tabOk ?_; (with_reducible refine SL.nil ?_)) | ((with_reducible refine SP.region (id := 2) ?_); refine SL.e tabOk ?_; refine SL.bytesC tabOk rfl rfl zero_u8 (by decide) (by decide) rfl aw_c0 (fun _ => bpp) (fun _ => rfl) (fun _ => bpp) (fun wz1 xz1 fz1 hz1 hxz1 hnz1 => ?_); skip; refine SL.clS (i := 1) (m := 17) (hm := by simp) ent_14 rfl rfl (X := sealV usK (nonV 0) [] [120]) (n := 0) (fun w2 hw2 => seal_one usK usK_length 0 (by decide) (by decide) ab w2 _ _ 120 (by decide) (Sl.of hw2 (RdA.old hxz1 hnz1) (Lies.whole [120]) (by simp) (Nat.le_refl _)) (hbk hw2 ab) (ApartB.ne (b := ab) (x := xz1) (fun he => hnz1 (by rw [he]; simp)))) (fun q1 c1 abs1 ha1 => ?_); obtain ⟨x1, J1, T1, rfl, rfl⟩ := ha1.at_ (by simp); have hc1 := ha1.cap; refine SL.e tabOk ?_; refine SL.e tabOk ?_; refine SL.e tabOk ?_; refine SL.e tabOk ?_; refine SL.e tabOk ?_; (with_reducible refine SL.nil ?_)) | ((with_reducible refine SP.region (id := 3) ?_); refine SL.e tabOk ?_; refine SL.bytesC tabOk rfl rfl zero_u8 (by decide) (by decide) rfl aw_c1 (fun _ => bpp) (fun _ => rfl) (fun _ => bpp) (fun wz1 xz1 fz1 hz1 hxz1 hnz1 => ?_); skip; refine SL.clS (i := 1) (m := 17) (hm := by simp) ent_14 rfl rfl (X := sealV usK (nonV 1) [] [121]) (n := 0) (fun w2 hw2 => seal_one usK usK_length 1 (by decide) (by decide) ab w2 _ _ 121 (by decide) (Sl.of hw2 (RdA.old hxz1 hnz1) (Lies.whole [121]) (by simp) (Nat.le_refl _)) (hbk hw2 ab) (ApartB.ne (b := ab) (x := xz1) (fun he => hnz1 (by rw [he]; simp)))) (fun q2 c2 abs2 ha2 => ?_); obtain ⟨x2, J2, T2, rfl, rfl⟩ := ha2.at_ (by simp); have hc2 := ha2.cap; refine SL.e tabOk ?_; refine SL.e tabOk ?_; refine SL.e tabOk ?_; refine SL.e tabOk ?_; refine SL.e tabOk ?_; (with_reducible refine SL.nil ?_)) | ((with_reducible refine SP.region (id := 4) ?_); refine SL.e tabOk ?_; refine SL.e tabOk ?_; refine SL.clS (i := 0) (m := 1) (hm := by simp) ent_21 rfl rfl (X := [120]) (n := 0) (fun w2 hw2 => open_back usK usK_length 0 (by decide) (by decide) bb w2 none (some ⟨x1, 0, none⟩) 0 c1 1 0 [] [120] byts_nil (byts_one (by decide)) (Sl.nil w2 none 0) (Sl.of hw2 (.inl ⟨_, by repeat (first | exact List.mem_cons_self | refine List.mem_cons_of_mem _ ?_ | refine List.mem_append_right _ ?_)⟩) (Lies.row (sealV usK (nonV 0) [] [120]) _) (by simp) hc1) rfl (by decide) (by decide) (hbk hw2 bb) (ApartB.nil _ _) (ApartB.own hw2 (gbk x1) (gbk bb) (by decide))) (fun q3 c3 abs3 ha3 => ?_); obtain ⟨x3, J3, T3, rfl, rfl⟩ := ha3.at_ (by simp); have hc3 := ha3.cap; refine SL.e tabOk ?_; refine SL.e tabOk ?_; refine SL.e tabOk ?_; refine SL.e tabOk ?_; refine SL.e tabOk ?_; (with_reducible refine SL.nil ?_)) | ((with_reducible refine SP.region (id := 5) ?_); refine SL.e tabOk ?_; refine SL.bytesC tabOk rfl rfl zero_u8 (by decide) (by decide) rfl aw_c2 (fun _ => bpp) (fun _ => rfl) (fun _ => bpp) (fun wz1 xz1 fz1 hz1 hxz1 hnz1 => ?_); skip; refine SL.e tabOk ?_; refine SL.clS (i := 0) (m := 0) (hm := by simp) ent_21 rfl rfl (X := ([] : List Int)) (n := 60) (fun w2 hw2 => open_bad1 bb w2 _ (some ⟨x2, 0, none⟩) _ c2 (Sl.of hw2 (RdA.old hxz1 hnz1) (Lies.whole [97, 100]) (by simp) (Nat.le_refl _)) (Sl.of hw2 (.inl ⟨_, by repeat (first | exact List.mem_cons_self | refine List.mem_cons_of_mem _ ?_ | refine List.mem_append_right _ ?_)⟩) (Lies.row (sealV usK (nonV 1) [] [121]) _) (by simp) hc2) (hbk hw2 bb) (ApartB.ne (b := bb) (x := xz1) (fun he => hnz1 (by rw [he]; simp))) (ApartB.own hw2 (gbk x2) (gbk bb) (by decide))) (fun q4 c4 abs4 ha4 => ?_); refine SL.e tabOk ?_; refine SL.e tabOk ?_; refine SL.e tabOk ?_; refine SL.e tabOk ?_; refine SL.e tabOk ?_; (with_reducible refine SL.nil ?_)) | ((with_reducible refine SP.region (id := 6) ?_); refine SL.e tabOk ?_; refine SL.e tabOk ?_; refine SL.clB (m := 1) (hm := by simp) ent_23 rfl (X := [121]) (n := 0) (fun w2 hw2 => openAt_back usK usK_length 1 1 (by decide) (by decide) bb w2 none (some ⟨x2, 0, none⟩) 0 c2 1 0 [] [121] byts_nil (byts_one (by decide)) (Sl.nil w2 none 0) (Sl.of hw2 (.inl ⟨_, by repeat (first | exact List.mem_cons_self | refine List.mem_cons_of_mem _ ?_ | refine List.mem_append_right _ ?_)⟩) (Lies.row (sealV usK (nonV 1) [] [121]) _) (by simp) hc2) rfl (by decide) (by decide) (hbk hw2 bb)) (fun q5 c5 abs5 ha5 => ?_); obtain ⟨x5, J5, T5, rfl, rfl⟩ := ha5.at_ (by simp); have hc5 := ha5.cap; refine SL.e tabOk ?_; refine SL.e tabOk ?_; refine SL.e tabOk ?_; refine SL.e tabOk ?_; refine SL.e tabOk ?_; (with_reducible refine SL.nil ?_)) | ((with_reducible refine SP.region (id := 7) ?_); refine SL.e tabOk ?_; refine SL.v (ValO.call ent_17 _ rfl _ (fun w1 hw1 => next_any usK usK_length 1 bb w1 (hbk hw1 bb))) ?_; refine SL.e tabOk ?_; (with_reducible refine SL.nil ?_)) | ((with_reducible refine SP.region (id := 8) ?_); refine SL.e tabOk ?_; refine SL.e tabOk ?_; refine SL.clS (i := 0) (m := 1) (hm := by simp) ent_21 rfl rfl (X := [121]) (n := 0) (fun w2 hw2 => open_back usK usK_length 1 (by decide) (by decide) bb w2 none (some ⟨x2, 0, none⟩) 0 c2 1 0 [] [121] byts_nil (byts_one (by decide)) (Sl.nil w2 none 0) (Sl.of hw2 (.inl ⟨_, by repeat (first | exact List.mem_cons_self | refine List.mem_cons_of_mem _ ?_ | refine List.mem_append_right _ ?_)⟩) (Lies.row (sealV usK (nonV 1) [] [121]) _) (by simp) hc2) rfl (by decide) (by decide) (hbk hw2 bb) (ApartB.nil _ _) (ApartB.own hw2 (gbk x2) (gbk bb) (by decide))) (fun q6 c6 abs6 ha6 => ?_); obtain ⟨x6, J6, T6, rfl, rfl⟩ := ha6.at_ (by simp); have hc6 := ha6.cap; refine SL.e tabOk ?_; refine SL.e tabOk ?_; refine SL.e tabOk ?_; refine SL.e tabOk ?_; refine SL.e tabOk ?_; (with_reducible refine SL.nil ?_)) | ((with_reducible refine SP.region (id := 9) ?_); refine SL.e tabOk ?_; (first | (refine SL.c true tabOk ?_) | (refine SL.c false tabOk ?_) | (refine SL.e tabOk ?_)); refine SL.e tabOk ?_; (first | (refine SL.gT ?_; refine SL.e tabOk ?_) | refine SL.gF ?_); (first | (refine SL.gT ?_; (first | (refine SL.c true tabOk ?_) | (refine SL.c false tabOk ?_) | (refine SL.e tabOk ?_))) | refine SL.gF ?_); refine SL.e tabOk ?_; refine SL.e tabOk ?_; (first | (refine SL.gT ?_; refine SL.e tabOk ?_) | refine SL.gF ?_); (first | (refine SL.gT ?_; refine SL.e tabOk ?_) | refine SL.gF ?_); (first | (refine SL.gT ?_; refine SL.v (ValO.call ent_36 _ rfl _ (fun w1 hw1 => opens_yes _ 1 _ [120] _ (by decide) (by decide +kernel) w1 (Sl.of hw1 (.inl ⟨_, by repeat (first | exact List.mem_cons_self | refine List.mem_cons_of_mem _ ?_ | refine List.mem_append_right _ ?_)⟩) (Lies.row [120] _) (by simp) hc3))) ?_) | refine SL.gF ?_); refine SL.e tabOk ?_; refine SL.e tabOk ?_; (first | (refine SL.gT ?_; refine SL.e tabOk ?_) | refine SL.gF ?_); (first | (refine SL.gT ?_; (first | (refine SL.c true tabOk ?_) | (refine SL.c false tabOk ?_) | (refine SL.e tabOk ?_))) | refine SL.gF ?_); refine SL.e tabOk ?_; refine SL.e tabOk ?_; (first | (refine SL.gT ?_; refine SL.e tabOk ?_) | refine SL.gF ?_); (first | (refine SL.gT ?_; (first | (refine SL.c true tabOk ?_) | (refine SL.c false tabOk ?_) | (refine SL.e tabOk ?_))) | refine SL.gF ?_); refine SL.e tabOk ?_; refine SL.e tabOk ?_; (first | (refine SL.gT ?_; refine SL.e tabOk ?_) | refine SL.gF ?_); (first | (refine SL.gT ?_; refine SL.e tabOk ?_) | refine SL.gF ?_); (first | (refine SL.gT ?_; refine SL.v (ValO.call ent_36 _ rfl _ (fun w1 hw1 => opens_yes _ 1 _ [121] _ (by decide) (by decide +kernel) w1 (Sl.of hw1 (.inl ⟨_, by repeat (first | exact List.mem_cons_self | refine List.mem_cons_of_mem _ ?_ | refine List.mem_append_right _ ?_)⟩) (Lies.row [121] _) (by simp) hc5))) ?_) | refine SL.gF ?_); refine SL.e tabOk ?_; refine SL.e tabOk ?_; (first | (refine SL.gT ?_; refine SL.e tabOk ?_) | refine SL.gF ?_); (first | (refine SL.gT ?_; refine SL.e tabOk ?_) | refine SL.gF ?_); (first | (refine SL.gT ?_; refine SL.v (ValO.call ent_36 _ rfl _ (fun w1 hw1 => opens_yes _ 1 _ [121] _ (by decide) (by decide +kernel) w1 (Sl.of hw1 (.inl ⟨_, by repeat (first | exact List.mem_cons_self | refine List.mem_cons_of_mem _ ?_ | refine List.mem_append_right _ ?_)⟩) (Lies.row [121] _) (by simp) hc6))) ?_) | refine SL.gF ?_); refine SL.e tabOk ?_; refine SL.e tabOk ?_; (first | (refine SL.gT ?_; refine SL.e tabOk ?_) | refine SL.gF ?_); (first | (refine SL.gT ?_; refine SL.v (ValO.call ent_17 _ rfl _ (fun w1 hw1 => next_any usK usK_length 2 ab w1 (hbk hw1 ab))) ?_) | refine SL.gF ?_); (first | (refine SL.gT ?_; (first | (refine SL.c true tabOk ?_) | (refine SL.c false tabOk ?_) | (refine SL.e tabOk ?_))) | refine SL.gF ?_); refine SL.e tabOk ?_; refine SL.e tabOk ?_; (first | (refine SL.gT ?_; refine SL.e tabOk ?_) | refine SL.gF ?_); (first | (refine SL.gT ?_; refine SL.v (ValO.call ent_17 _ rfl _ (fun w1 hw1 => next_any usK usK_length 2 bb w1 (hbk hw1 bb))) ?_) | refine SL.gF ?_); (first | (refine SL.gT ?_; (first | (refine SL.c true tabOk ?_) | (refine SL.c false tabOk ?_) | (refine SL.e tabOk ?_))) | refine SL.gF ?_); refine SL.e tabOk ?_; refine SL.e tabOk ?_; (with_reducible refine SL.nil ?_)) | ((with_reducible refine SP.seqK ?_); intro _ _) | (with_reducible refine thenK_normal ?_) | (refine useK (by assumption) ?_) | (with_reducible refine SP.ret ?_))
  exact doneK.mk rfl (ResO.tmp rfl) rfl

end Sp

end Go.Proofs.Ythbmlpiplfbehaa

namespace Go.Proofs.Ythbmlpiplfbehaa
set_option linter.unusedSimpArgs false
set_option linter.unusedVariables false
open Go Go.RowKit
namespace Sp
open F M
theorem sX_le (K N A B : List Int) : (sX K N A B).length ≤ 4112 := by
  by_cases h : 4096 < A.length ∨ 4096 < B.length
  · rw [sX_long h]; simp
  · rw [sX_ok (by omega) (by omega), sealV_length]; omega
theorem oX_le (K N A X : List Int) : (oX K N A X).length ≤ 4096 := by
  by_cases h : oE K N A X = 0
  · rw [oX_ok h]
    have h2 : ¬ (4096 < A.length ∨ 4112 < X.length) := fun h3 => by rw [oE_long h3] at h; exact absurd h (by decide)
    simp
    omega
  · rw [oX_bad h]; simp
theorem kX_le {X : List Int} {k : Nat} (n : Int) (h : X.length ≤ k) : (kX n X).length ≤ k := by
  by_cases h9 : 9007199254740991 ≤ n
  · rw [kX_end h9]; simp
  · rw [kX_in (by omega)]; exact h
theorem tX_le {X : List Int} {k : Nat} (n : Int) (h : X.length ≤ k) : (tX n X).length ≤ k := by
  by_cases h9 : n < 0 ∨ 9007199254740991 ≤ n
  · rw [tX_out h9]; simp
  · rw [tX_in (by omega) (by omega)]; exact h
theorem kX_byts {X : List Int} (n : Int) (h : Byts X) : Byts (kX n X) := by
  by_cases h9 : 9007199254740991 ≤ n
  · rw [kX_end h9]; exact byts_nil
  · rw [kX_in (by omega)]; exact h
theorem tX_byts {X : List Int} (n : Int) (h : Byts X) : Byts (tX n X) := by
  by_cases h9 : n < 0 ∨ 9007199254740991 ≤ n
  · rw [tX_out h9]; exact byts_nil
  · rw [tX_in (by omega) (by omega)]; exact h
theorem kN_ge {n : Int} (e : Int) (h : 0 ≤ n) : 0 ≤ kN n e := by
  by_cases he : e = 0
  · rw [he, kN_0]; omega
  · rw [kN_ne n he]; exact h
theorem eqb_t (p q : Option Addr) (n m c d : Nat) (A B : List Int) (w : World) (hA : Sl w p n c A) (hB : Sl w q m d B) (hmax : n ≤ 140737488355328) (h : A = B) : Calls Try.prog 16 #[.slice p n c, .slice q m d] w fun e w' => e = .returned (.bool true) ∧ Below w.heap.size w w' := by
  have := eqb_any p q n m c d A B w hA hB hmax
  rwa [decide_eq_true h] at this
end Sp
end Go.Proofs.Ythbmlpiplfbehaa
