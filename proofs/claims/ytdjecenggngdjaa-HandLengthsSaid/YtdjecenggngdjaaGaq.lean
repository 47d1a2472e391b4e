/-
  Joined texts: AeTS, Doc6, CiZ. No conditions.
-/
import Derived.Test.YtdjecenggngdjaaGae
import Derived.Test.YtdjecenggngdjaaGaf
import Derived.Test.YtdjecenggngdjaaGan
import Derived.Test.YtdjecenggngdjaaGao
import Derived.Test.YtdjecenggngdjaaGap
namespace Go.Proofs.Ytdjecenggngdjaa
set_option linter.unusedSimpArgs false
set_option linter.unusedVariables false
set_option maxHeartbeats 16000000
set_option maxRecDepth 20000
section
open Go Go.RowKit
namespace Sp
open F M
theorem zero_sl : (Try.prog.info? 24).map (·.zero) = some (some (.slice none 0 0)) := by kernel_rfl
@[irreducible] def lb8 (n i : Nat) : Int := IntKind.u8.wrap ((n : Int).fdiv (2 ^ (min (IntKind.i64.wrap (8 * (i : Int))).toNat IntKind.i64.bits)))
theorem lb8_b (n i : Nat) : 0 ≤ lb8 n i ∧ lb8 n i < 256 := by unfold lb8; rw [IntKind.wrap_u8]; omega
@[irreducible] def lnF (a b : Nat) : List Int := (List.range 8).map (lb8 a) ++ (List.range 8).map (lb8 b)
theorem lnF_length (a b : Nat) : (lnF a b).length = 16 := by unfold lnF; simp
attribute [simp] lnF_length
theorem lnF_0 (a b i : Nat) (hi : i < 8) : (lnF a b)[8 * 0 + i]? = some (lb8 a i) := by
  unfold lnF
  rw [Nat.mul_zero, Nat.zero_add, List.getElem?_append_left (by simp; omega)]
  simp [hi]
theorem lnF_1 (a b i : Nat) (hi : i < 8) : (lnF a b)[8 * 1 + i]? = some (lb8 b i) := by
  unfold lnF
  rw [List.getElem?_append_right (by simp)]
  simp [hi]
theorem lnF_byts (a b : Nat) : Byts (lnF a b) := byts_mem fun x hx => by
  unfold lnF at hx
  rcases List.mem_append.1 hx with h | h <;> obtain ⟨i, _, rfl⟩ := List.mem_map.1 h <;> exact lb8_b _ _
@[irreducible] def lnP (a b m : Nat) : List Int := (lnF a b).take m ++ List.replicate (16 - m) 0
theorem lnP_0 (a b : Nat) : lnP a b 0 = List.replicate 16 0 := by unfold lnP; simp
theorem lnP_all (a b : Nat) : lnP a b 16 = lnF a b := by unfold lnP; rw [List.take_of_length_le (by simp)]; simp
theorem lnP_s (a b m : Nat) {v : Int} (hm : m < 16) (hv : (lnF a b)[m]? = some v) : (lnP a b m).set m v = lnP a b (m + 1) := by unfold lnP; exact set_take (lnF_length a b) hm hv
theorem lnP_length (a b m : Nat) (hm : m ≤ 16) : (lnP a b m).length = 16 := by unfold lnP; simp; omega
@[irreducible] def aeC (A B : List Int) : Nat → List Int
  | 0 => []
  | 1 => A ++ List.replicate (padN A.length) 0
  | _ => A ++ List.replicate (padN A.length) 0 ++ B ++ List.replicate (padN B.length) 0
theorem aeC_0 (A B : List Int) : aeC A B 0 = [] := by unfold aeC; rfl
theorem aeC_1 (A B : List Int) : aeC A B 1 = aeC A B 0 ++ A ++ List.replicate (padN A.length) 0 := by unfold aeC; rfl
theorem aeC_2 (A B : List Int) : aeC A B 2 = aeC A B 1 ++ B ++ List.replicate (padN B.length) 0 := by unfold aeC; rfl
@[irreducible] def aeM (A B : List Int) : List Int := aeC A B 2 ++ lnF A.length B.length
theorem rep_byts (n : Nat) : Byts (List.replicate n 0) := byts_mem fun x hx => by rw [List.eq_of_mem_replicate hx]; decide
theorem ptN_byts {L : List Int} (h : Byts L) (off : Nat) (x : Int) : ∀ i, Byts (ptN L off x i)
  | 0 => by rw [ptN_0]; exact h
  | i + 1 => by rw [ptN_s]; exact Byts.upd2 (ptN_byts h off x i) _ (by rw [IntKind.wrap_u8]; omega)
theorem ouI_byts (V S : List Int) : ∀ i, Byts (ouI V S i)
  | 0 => by rw [ouI_0]; exact rep_byts 64
  | i + 1 => by rw [ouI_s]; exact ptN_byts (ouI_byts V S i) _ _ _
theorem chB_byts (K : List Int) (ct : Int) (N : List Int) : Byts (chB K ct N) := by unfold chB; exact ouI_byts _ _ _
@[irreducible] def onceK (K N : List Int) : List Int := (chB K 0 N).take 32
theorem onceK_length (K N : List Int) : (onceK K N).length = 32 := by unfold onceK; simp
attribute [simp] onceK_length
theorem onceK_byts (K N : List Int) : Byts (onceK K N) := by unfold onceK; exact (chB_byts K 0 N).take2 32
theorem once_part (K N : List Int) : (ints .u8 (chB K 0 N)).extract 0 (0 + 32) = ints .u8 (onceK K N) := by unfold onceK; exact Lies.extract (Lies.whole _) (by simp)
@[irreducible] def aeT (K N A B : List Int) : List Int := tg (onceK K N) (aeM A B)
theorem aeT_length (K N A B : List Int) : (aeT K N A B).length = 16 := by unfold aeT; simp
attribute [simp] aeT_length
theorem sl_k {w : World} {p q : Option Addr} {n c m d : Nat} {A B : List Int} (hA : Sl w p n c A) (hB : Sl w q m d B) (bA : Byts A) (bB : Byts B) (hn : n ≤ 8192) (hm : m ≤ 8192) {k : Nat} (hk : k < 2) :
    ∃ r o e D, (#[Value.slice p n c, Value.slice q m d] : Array Value)[k]? = some (.slice r o e) ∧ Sl w r o e D ∧ Byts D ∧ o ≤ 8192 ∧ aeC A B (k + 1) = aeC A B k ++ D ++ List.replicate (padN o) 0 ∧ ∀ i, i < 8 → (lnF n m)[8 * k + i]? = some (lb8 o i) := by
  obtain rfl | rfl : k = 0 ∨ k = 1 := by omega
  · exact ⟨p, n, c, A, rfl, hA, bA, hn, by rw [aeC_1, hA.len], fun i hi => lnF_0 n m i hi⟩
  · exact ⟨q, m, d, B, rfl, hB, bB, hm, by rw [aeC_2, hB.len], fun i hi => lnF_1 n m i hi⟩
theorem aeC_byts {A B : List Int} (hA : Byts A) (hB : Byts B) (k : Nat) : Byts (aeC A B k) := by
  unfold aeC
  match k with
  | 0 => exact byts_mem fun x hx => by cases hx
  | 1 => exact hA.app2 (rep_byts _)
  | k + 2 => exact ((hA.app2 (rep_byts _)).app2 hB).app2 (rep_byts _)
theorem aetag_any (K N : List Int) (hK : K.length = 32) (hN : N.length = 12) (p q : Option Addr) (n c m d : Nat) (A B : List Int) (bA : Byts A) (bB : Byts B) (hn : n ≤ 8192) (hm : m ≤ 8192) (w : World) (hSA : Sl w p n c A) (hSB : Sl w q m d B) :
    Calls Try.prog 87 #[.agg (ints .u8 K), .agg (ints .u8 N), .slice p n c, .slice q m d] w fun e w' => e = .returned (.agg (ints .u8 (aeT K N A B))) ∧ Below w.heap.size w w' := by
  have tok_kb : True := trivial
  have tok_nb : True := trivial
  have tok_rb : True := trivial
  have tok_bb : True := trivial
  have tok_lb : True := trivial
  refine pureE Try.func87 Try.ntmps87 Try.results87 ?_
  repeat (first | (refine rgn 0 ?_; refine SL.bx ?_; (first | (have _t := tok_kb; clear _t tok_kb; intro kb) | (have _t := tok_nb; clear _t tok_nb; intro nb) | (have _t := tok_rb; clear _t tok_rb; intro rb) | (have _t := tok_bb; clear _t tok_bb; intro bb) | (have _t := tok_lb; clear _t tok_lb; intro lb) | intro _); refine SL.bx ?_; (first | (have _t := tok_kb; clear _t tok_kb; intro kb) | (have _t := tok_nb; clear _t tok_nb; intro nb) | (have _t := tok_rb; clear _t tok_rb; intro rb) | (have _t := tok_bb; clear _t tok_bb; intro bb) | (have _t := tok_lb; clear _t tok_lb; intro lb) | intro _); refine SL.al zero_140 ?_; (first | (have _t := tok_kb; clear _t tok_kb; intro kb) | (have _t := tok_nb; clear _t tok_nb; intro nb) | (have _t := tok_rb; clear _t tok_rb; intro rb) | (have _t := tok_bb; clear _t tok_bb; intro bb) | (have _t := tok_lb; clear _t tok_lb; intro lb) | intro _); refine nlx ?_) | (refine rgn 1 ?_; (first | (refine SL.ldR tabOk ?_) | (refine SL.ldP tabOk ?_ (hn := by first | (simp [ints_size]; done) | (simp [ints_size]; omega)) (hB := by first | exact (once_part K N)))); (first | (refine SL.ldR tabOk ?_) | (refine SL.ldP tabOk ?_ (hn := by first | (simp [ints_size]; done) | (simp [ints_size]; omega)) (hB := by first | exact (once_part K N)))); refine SL.v (ValO.call ent_92 _ rfl _ (fun w1 hw1 => block_any K 0 N hK hN w1)) ?_; refine SL.al zero_118 ?_; (first | (have _t := tok_kb; clear _t tok_kb; intro kb) | (have _t := tok_nb; clear _t tok_nb; intro nb) | (have _t := tok_rb; clear _t tok_rb; intro rb) | (have _t := tok_bb; clear _t tok_bb; intro bb) | (have _t := tok_lb; clear _t tok_lb; intro lb) | intro _); refine SL.stR tabOk ?_; refine nlx ?_) | (refine rgn 2 ?_; refine SL.ctA tabOk 0 32 ?_; refine SL.v (ValO.s2a tabOk rfl rfl (by decide)) ?_; refine SL.ldP tabOk ?_ (hn := by simp [ints_size]) (hB := once_part K N); refine SL.clN ent_93 rfl (fun w1 _ => pnew_h (onceK K N) (onceK_length K N) w1) (fun pb => ?_); refine sEv ?_; refine nlx ?_) | (refine rgn 3 ?_; refine SL.al zero_140 ?_; (first | (have _t := tok_kb; clear _t tok_kb; intro kb) | (have _t := tok_nb; clear _t tok_nb; intro nb) | (have _t := tok_rb; clear _t tok_rb; intro rb) | (have _t := tok_bb; clear _t tok_bb; intro bb) | (have _t := tok_lb; clear _t tok_lb; intro lb) | intro _); refine nlx ?_) | (refine rgn 4 ?_; refine sEv ?_; refine sEv ?_; refine SL.build2S tabOk zero_sl (fun tb => ?_); refine SL.v (ValO.len tabOk (by rfl)) ?_; refine sEv ?_; refine nlx ?_) | (refine zsq ?_; intro _ _) | (with_reducible refine zkN ?_) | (refine useK (by assumption) ?_) | (with_reducible refine zsB ?_))
  refine SP.loopN (fun k l bs => ∃ s, Holds (onceK K N) (aeC A B k) s ∧ l = [nth l 0, nth l 1, nth l 2, nth l 3, nth l 4, nth l 5, nth l 6, nth l 7, .pointer (some ⟨rb, 0, none⟩), nth l 9, .pointer (some ⟨pb, 0, none⟩), .pointer (some ⟨lb, 0, none⟩), nth l 12, nth l 13, nth l 14, nth l 15, nth l 16, nth l 17, nth l 18, nth l 19, nth l 20, nth l 21, nth l 22, nth l 23, .slice (some ⟨tb, 0, none⟩) 2 2, .int .i64 ((2 : Nat) : Int), .int .i64 ((k : Nat)), nth l 27, nth l 28, nth l 29, nth l 30, nth l 31, nth l 32, nth l 33, nth l 34, nth l 35, nth l 36, nth l 37, nth l 38, nth l 39, nth l 40, nth l 41, nth l 42, nth l 43, nth l 44, nth l 45, nth l 46, nth l 47, nth l 48, nth l 49, nth l 50, nth l 51, nth l 52, nth l 53, nth l 54, nth l 55, nth l 56, nth l 57, nth l 58, nth l 59, nth l 60, nth l 61] ∧ bs = [(tb, #[.slice p n c, .slice q m d], 24), (lb, ints .u8 (lnP n m (8 * k)), 140), (pb, prow (onceK K N) (s), 157), (bb, ints .u8 (chB K 0 N), 118), (rb, ints .u8 (List.replicate 16 0), 140), (nb, ints .u8 N, 138), (kb, ints .u8 K, 23)]) 2 ⟨ps0, by rw [aeC_0]; exact ps0_holds _, rfl, by rw [Nat.mul_zero, lnP_0]⟩ ?_
  rintro k lfk _ hkk ⟨s, Hs, hlk, rfl⟩
  refine SP.cast hlk ?_
  clear hlk
  by_cases hltk : k < 2
  · have hk1 : IntKind.i64.wrap ((k : Int) + 1) = ((k + 1 : Nat) : Int) := by rw [IntWalk.i64_in _ (by omega)]; omega
    obtain ⟨r, o, e, D, hck, hSr, bD, ho, hC, hL⟩ := sl_k hSA hSB bA bB hn hm hltk
    have bC := aeC_byts bA bB k
    have H1 := wr_holds (onceK_byts K N) bC bD Hs
    have H2 := wr_holds (onceK_byts K N) (bC.app2 bD) (rep_byts (padN o)) H1
    repeat (first | (refine rgn 5 ?_; refine sEv ?_; refine nlx ?_) | (refine rgn 6 ?_; refine sEv ?_; refine SL.ixS tabOk ?_; refine SL.ldC tabOk ?_ (hv := hck); refine sEv ?_; refine sEv ?_; refine nlx ?_) | (refine rgn 7 ?_; refine sEv ?_; refine sEv ?_; refine SL.call1 (b := pb) ent_94 rfl (gbk _) (fun w1 hw1 => pwrite_h Hs pb _ _ _ _ _ w1 ((hSr).old hw1.below) (by omega) (Sl.apart (hSr) hw1 (mbk pb)) (hbk hw1 pb)) stt bpp ?_; refine nlx ?_) | (refine rgn 8 ?_; refine sEv ?_; refine sEv ?_; refine SL.v (ValO.len tabOk (by rfl)) ?_; refine sEv ?_; refine sEv ?_; refine SL.made (n := padN o) tabOk zero_u8 (by have := padN_le o; omega) (fun zb => ?_) (congrArg (Value.int .i64) (pad_eq o)) (congrArg (Value.int .i64) (pad_eq o)); refine SL.call1 (b := pb) ent_94 rfl (gbk _) (fun w1 hw1 => pwrite_h H1 pb _ _ _ _ _ w1 (Sl.of hw1 (RdA.own g0) (Lies.whole _) (List.length_replicate ..) (Nat.le_refl _)) (by have := padN_le o; omega) (fun _ sb off he => by cases he; exact hw1.ne (i := 0) (j := 3) rfl rfl (by decide)) (hbk hw1 pb)) stt bpp ?_; refine nlx ?_) | (refine rgn 9 ?_; refine SL.sub ?_ (List.Sublist.cons _ (List.Sublist.refl _)); refine sEv ?_; refine nlx ?_) | (refine zsq ?_; intro _ _) | (with_reducible refine zkN ?_) | (refine useK (by assumption) ?_) | (with_reducible first | refine zsB ?_ | refine zsS ?_) | ((with_reducible show SP _ _ _ (Code.cond _ _ _) _ _ _); first | (refine cdT ?_)))
    refine SP.loopN (fun i l bs => l = [nth l 0, nth l 1, nth l 2, nth l 3, nth l 4, nth l 5, nth l 6, nth l 7, .pointer (some ⟨rb, 0, none⟩), nth l 9, .pointer (some ⟨pb, 0, none⟩), .pointer (some ⟨lb, 0, none⟩), .int .i64 ((k : Nat)), .slice r o e, nth l 14, nth l 15, nth l 16, nth l 17, nth l 18, nth l 19, nth l 20, nth l 21, nth l 22, nth l 23, .slice (some ⟨tb, 0, none⟩) 2 2, .int .i64 ((2 : Nat) : Int), .int .i64 ((k : Nat)), nth l 27, nth l 28, nth l 29, nth l 30, nth l 31, nth l 32, nth l 33, nth l 34, nth l 35, nth l 36, nth l 37, nth l 38, nth l 39, nth l 40, .int .i64 ((i : Nat)), nth l 42, nth l 43, nth l 44, nth l 45, nth l 46, nth l 47, nth l 48, nth l 49, nth l 50, nth l 51, nth l 52, nth l 53, nth l 54, nth l 55, nth l 56, nth l 57, nth l 58, nth l 59, nth l 60, nth l 61] ∧ bs = [(tb, #[.slice p n c, .slice q m d], 24), (lb, ints .u8 (lnP n m (8 * k + i)), 140), (pb, prow (onceK K N) ((wr (onceK K N) (List.replicate (padN o) 0) (wr (onceK K N) D s))), 157), (bb, ints .u8 (chB K 0 N), 118), (rb, ints .u8 (List.replicate 16 0), 140), (nb, ints .u8 N, 138), (kb, ints .u8 K, 23)]) 8 ⟨rfl, by rw [Nat.add_zero]⟩ ?_
    rintro i lfi _ hki ⟨hli, rfl⟩
    refine SP.cast hli ?_
    clear hli
    have hlx := lnP_length n m (8 * k + i) (by omega)
    by_cases hlti : i < 8
    · have hi1 : IntKind.i64.wrap ((i : Int) + 1) = ((i + 1 : Nat) : Int) := by rw [IntWalk.i64_in _ (by omega)]; omega
      have f8 : IntKind.i64.wrap (8 * (i : Int)) = 8 * (i : Int) := IntWalk.i64_in _ (by omega)
      have fi : IntKind.i64.wrap (IntKind.i64.wrap (8 * (k : Int)) + (i : Int)) = ((8 * k + i : Nat) : Int) := by rw [IntWalk.i64_in (8 * (k : Int)) (by omega), IntWalk.i64_in _ (by omega)]; omega
      repeat (first | (refine rgn 10 ?_; refine sEv ?_; refine nlx ?_) | (refine rgn 11 ?_; refine sEv ?_; refine sEv ?_; refine nlx ?_) | (refine rgn 12 ?_; (iterate 5 refine sEv ?_); refine SL.v (ValO.len tabOk (by rfl)) ?_; refine sEv ?_; refine sEv ?_; refine SL.sh ?_; refine sEv ?_; refine SL.ixA tabOk ?_ (hm := by first | (simp only [fi, Nat.zero_add, Nat.mul_one, Nat.one_mul, Int.toNat_natCast]; done) | (simp only [fi, Nat.zero_add, Nat.mul_one, Nat.one_mul, Int.toNat_natCast]; rfl) | rfl); refine SL.stI tabOk ?_; refine nlx ?_) | (refine rgn 13 ?_; refine sEv ?_; refine sEv ?_; refine nlx ?_) | (refine zsq ?_; intro _ _) | (with_reducible refine zkN ?_) | (refine useK (by assumption) ?_) | (with_reducible first | refine zsB ?_ | refine zsS ?_) | ((with_reducible show SP _ _ _ (Code.cond _ _ _) _ _ _); first | (refine cdT ?_)))
      simp only [hi1]
      have hv := hL i hlti
      unfold lb8 at hv
      exact ⟨hlti, rfl, by rw [lnP_s n m (8 * k + i) (by omega) hv, Nat.add_assoc]⟩
    · have hendi : i = 8 := by omega
      replace hendi := Lib.hid hendi
      repeat (first | (refine rgn 10 ?_; refine sEv ?_; refine nlx ?_) | (refine zsq ?_; intro _ _) | (with_reducible refine zkN ?_) | (refine useK (by assumption) ?_) | (with_reducible refine zsX ?_) | ((with_reducible show SP _ _ _ (Code.cond _ _ _) _ _ _); first | (refine cdF ?_)))
      have hq := hendi.out; clear hendi; subst hq
      repeat (first | (refine rgn 14 ?_; refine sEv ?_; refine sEv ?_; refine nlx ?_) | (with_reducible refine zkN ?_))
      simp only [hk1]
      exact ⟨hltk, (wr (onceK K N) (List.replicate (padN o) 0) (wr (onceK K N) D s)), by rw [hC]; exact H2, rfl, by rw [show 8 * k + 8 = 8 * (k + 1) by omega]⟩
  · have hendk : k = 2 := by omega
    replace hendk := Lib.hid hendk
    repeat (first | (refine rgn 5 ?_; refine sEv ?_; refine nlx ?_) | (refine zsq ?_; intro _ _) | (with_reducible refine zkN ?_) | (refine useK (by assumption) ?_) | (with_reducible refine zsX ?_) | ((with_reducible show SP _ _ _ (Code.cond _ _ _) _ _ _); first | (refine cdF ?_)))
    have hq := hendk.out; clear hendk; subst hq
    rw [show 8 * 2 = 16 from rfl, lnP_all]
    have H3 := wr_holds (onceK_byts K N) (aeC_byts bA bB 2) (lnF_byts n m) Hs
    repeat (first | (refine rgn 15 ?_; refine sEv ?_; refine SL.ctA tabOk 0 16 ?_; refine SL.call1 (b := pb) ent_94 rfl (gbk _) (fun w1 hw1 => pwrite_h Hs pb _ _ _ _ _ w1 (Sl.of hw1 (RdA.own g1) (Lies.whole _) (by simp) (Nat.le_refl _)) (by omega) (fun _ sb off he => by cases he; exact hw1.ne (i := 1) (j := 2) rfl rfl (by decide)) (hbk hw1 pb)) stt bpp ?_; refine nlx ?_) | (refine rgn 16 ?_; refine sEv ?_; refine SL.v (ValO.call ent_95 _ rfl _ (fun w1 hw1 => psum_h (onceK_byts K N) H3 pb _ _ w1 (hbk hw1 pb))) ?_; refine SL.stR tabOk ?_; refine nlx ?_) | (refine zsq ?_; intro _ _) | (with_reducible refine zkN ?_) | (refine useK (by assumption) ?_) | (with_reducible refine zsR ?_))
    exact doneK.mk rfl (ResO.cell tabOk rfl rfl rfl (by first | exact RdA.own g0 | exact RdA.own g1 | exact RdA.own g2 | exact RdA.own g3 | exact RdA.own g4 | exact RdA.own g5 | exact RdA.own g6 | exact RdA.own g7 | exact RdA.own g8 | exact RdA.own g9 | exact RdA.own g10 | exact RdA.own g11 | exact RdA.own g12 | exact RdA.own g13 | exact RdA.own g14 | exact RdA.own g15 | exact RdA.old hb (by simp)) (by first | (simp [ints_size]; done) | (simp [ints_size]; omega))) (by unfold aeT aeM; rw [hSA.len, hSB.len])
end Sp
end
section
open Go Go.RowKit
namespace Sp
open F M
theorem or_zero {x y : Int} (hx : 0 ≤ x ∧ x < 256) (hy : 0 ≤ y ∧ y < 256) : (bits .or .u8 x y = 0 ↔ x = 0 ∧ y = 0) ∧ 0 ≤ bits .or .u8 x y ∧ bits .or .u8 x y < 256 := by
  obtain ⟨a, rfl⟩ := Int.eq_ofNat_of_zero_le hx.1
  obtain ⟨b, rfl⟩ := Int.eq_ofNat_of_zero_le hy.1
  rw [u8_or_nat a b (by omega) (by omega)]
  have h := Nat.or_lt_two_pow (n := 8) (x := a) (y := b) (by omega) (by omega)
  have h0 : a ||| b = 0 ↔ a = 0 ∧ b = 0 := Nat.or_eq_zero_iff
  omega
theorem xor_zero {x y : Int} (hx : 0 ≤ x ∧ x < 256) (hy : 0 ≤ y ∧ y < 256) : (bits .xor .u8 x y = 0 ↔ x = y) ∧ 0 ≤ bits .xor .u8 x y ∧ bits .xor .u8 x y < 256 := by
  obtain ⟨a, rfl⟩ := Int.eq_ofNat_of_zero_le hx.1
  obtain ⟨b, rfl⟩ := Int.eq_ofNat_of_zero_le hy.1
  rw [u8_xor_nat a b (by omega) (by omega)]
  have h := Nat.xor_lt_two_pow (n := 8) (x := a) (y := b) (by omega) (by omega)
  have h0 : a ^^^ b = 0 ↔ a = b := by
    constructor
    · intro h
      have h2 : a ^^^ b ^^^ b = 0 ^^^ b := by rw [h]
      rw [Nat.xor_assoc, Nat.xor_self, Nat.xor_zero, Nat.zero_xor] at h2
      exact h2
    · intro h
      rw [h, Nat.xor_self]
  omega
theorem smI_val {A B : List Int} (hA : Byts A) (hB : Byts B) : ∀ k, (smI A B k = 0 ↔ ∀ j, j < k → gi A j = gi B j) ∧ 0 ≤ smI A B k ∧ smI A B k < 256
  | 0 => by rw [smI_0]; exact ⟨⟨fun _ j hj => absurd hj (Nat.not_lt_zero j), fun _ => rfl⟩, by omega, by omega⟩
  | k + 1 => by
    obtain ⟨h1, h2⟩ := smI_val hA hB k
    obtain ⟨x1, x2⟩ := xor_zero (hA k) (hB k)
    obtain ⟨o1, o2⟩ := or_zero h2 x2
    rw [smI_s]
    refine ⟨?_, o2⟩
    rw [o1, h1, x1]
    constructor
    · rintro ⟨ha, hb⟩ j hj
      rcases Nat.lt_or_ge j k with h | h
      · exact ha j h
      · rw [show j = k by omega]; exact hb
    · intro h
      exact ⟨fun j hj => h j (by omega), h k (by omega)⟩
theorem same_val {A B : List Int} {n m : Nat} (hA : Byts A) (hB : Byts B) (lA : A.length = n) (lB : B.length = m) : (decide (n = m) && (smI A B n == 0)) = decide (A = B) := by
  by_cases h : A = B
  · subst h
    rw [decide_eq_true rfl, decide_eq_true (by omega), ((smI_val hA hA n).1).2 (fun _ _ => rfl)]
    rfl
  · rw [decide_eq_false h]
    by_cases hnm : n = m
    · rw [decide_eq_true hnm, Bool.true_and, beq_eq_false_iff_ne]
      intro hz
      exact h (rsame_any_ext (by omega) (fun j hj => ((smI_val hA hB n).1).1 hz j (by omega)))
    · rw [decide_eq_false hnm, Bool.false_and]
theorem psame_h (p q : Option Addr) (n m c d : Nat) (A B : List Int) (bA : Byts A) (bB : Byts B) (w : World) (hA : Sl w p n c A) (hB : Sl w q m d B) (hmax : n ≤ 140737488355328) : Calls Try.prog 89 #[.slice p n c, .slice q m d] w fun e w' => e = .returned (.bool (decide (A = B))) ∧ Below w.heap.size w w' := by
  rw [← same_val bA bB hA.len hB.len]
  exact psame_any p q n m c d A B w hA hB hmax
theorem xo_byts (K : List Int) (ct : Int) (N : List Int) {B : List Int} (hB : Byts B) : Byts (xo K ct N B) := by
  refine byts_mem fun x hx => ?_
  obtain ⟨j, hj⟩ := List.mem_iff_getElem?.1 hx
  have hlt : j < B.length := by
    have := (List.getElem?_eq_some_iff.1 hj).1
    simpa using this
  rw [xo_get _ _ _ _ _ hlt] at hj
  obtain rfl := Option.some.inj hj
  have h1 := hB j
  have h2 : 0 ≤ strm K ct N j ∧ strm K ct N j < 256 := by unfold strm; exact chB_byts _ _ _ _
  exact (xor_zero h1 h2).2
theorem tg_byts (K B : List Int) : Byts (tg K B) := fun j => by
  unfold tg
  by_cases h : j < 16
  · rw [digN_gi _ h]; omega
  · rw [gi_over _ _ (by simp; omega)]; omega
theorem aeT_byts (K N A B : List Int) : Byts (aeT K N A B) := by unfold aeT; exact tg_byts _ _
@[irreducible] def sealV (K N A B : List Int) : List Int := xo K 1 N B ++ aeT K N A (xo K 1 N B)
theorem sealV_length (K N A B : List Int) : (sealV K N A B).length = B.length + 16 := by unfold sealV; simp
attribute [simp] sealV_length
theorem sealV_byts (K N A : List Int) {B : List Int} (hB : Byts B) : Byts (sealV K N A B) := by unfold sealV; exact (xo_byts K 1 N hB).app2 (aeT_byts _ _ _ _)
theorem sealV_take (K N A B : List Int) : (sealV K N A B).take B.length = xo K 1 N B := by unfold sealV; rw [List.take_left' (by simp)]
theorem sealV_drop (K N A B : List Int) : (sealV K N A B).drop B.length = aeT K N A (xo K 1 N B) := by unfold sealV; rw [List.drop_left' (by simp)]
def boxOk (K N A X : List Int) (m : Nat) : Prop := aeT K N A (X.take (m - 16)) = X.drop (m - 16)
theorem seal_ok (K N : List Int) (hK : K.length = 32) (hN : N.length = 12) (p q : Option Addr) (n c m d : Nat) (A B : List Int) (w : World) (hSA : Sl w p n c A) (hSB : Sl w q m d B) (bA : Byts A) (bB : Byts B) (hn : n ≤ 4096) (hm : m ≤ 4096) :
    Calls Try.prog 76 #[.agg (ints .u8 K), .agg (ints .u8 N), .slice p n c, .slice q m d] w fun e w' => ∃ q c abs, e = .returned (.tuple #[.slice q (m + 16) c, .int .i64 0]) ∧ AO q (m + 16) c (sealV K N A B) abs ∧ OwnM w [] w' abs := by
  have tok_kb : True := trivial
  have tok_nb : True := trivial
  have tok_tb : True := trivial
  have hlA := hSA.len
  have hlB := hSB.len
  refine (callE (mu := []) Try.func76 Try.ntmps76 Try.results76 (OwnM.start w) (fun v bs => ∃ q c abs, v = .tuple #[.slice q (m + 16) c, .int .i64 0] ∧ AO q (m + 16) c (sealV K N A B) abs ∧ abs.Sublist bs) ?_).mono ?_
  · repeat (first | (refine rgn 0 ?_; refine SL.bx ?_; (first | (have _t := tok_kb; clear _t tok_kb; intro kb) | (have _t := tok_nb; clear _t tok_nb; intro nb) | (have _t := tok_tb; clear _t tok_tb; intro tb) | intro _); refine SL.bx ?_; (first | (have _t := tok_kb; clear _t tok_kb; intro kb) | (have _t := tok_nb; clear _t tok_nb; intro nb) | (have _t := tok_tb; clear _t tok_tb; intro tb) | intro _); refine sEv ?_; refine sEv ?_; refine nlx ?_) | (refine rgn 1 ?_; refine sEv ?_; refine SL.v (ValO.len tabOk (by rfl)) ?_; (first | (refine SL.c true tabOk ?_) | (refine SL.c false tabOk ?_) | (refine sEv ?_)); refine sEv ?_; (first | (refine SL.gT ?_; refine sEv ?_) | refine SL.gF ?_); (first | (refine SL.gT ?_; refine SL.v (ValO.len tabOk (by rfl)) ?_) | refine SL.gF ?_); (first | (refine SL.gT ?_; (first | (refine SL.c true tabOk ?_) | (refine SL.c false tabOk ?_) | (refine sEv ?_))) | refine SL.gF ?_); refine sEv ?_; refine nlx ?_) | (refine rgn 3 ?_; refine SL.ldR tabOk ?_; refine SL.ldR tabOk ?_; refine sEv ?_; refine SL.clN ent_86 rfl (fun w1 hw1 => xor_any K 1 N hK hN _ m _ _ (by decide) (by omega) w1 (hSB.old hw1.below)) (fun xb => ?_); (iterate 5 refine sEv ?_); refine nlx ?_) | (refine rgn 4 ?_; refine sEv ?_; refine sEv ?_; refine nlx ?_) | (refine rgn 6 ?_; refine SL.ldR tabOk ?_; refine SL.ldR tabOk ?_; refine sEv ?_; refine sEv ?_; refine SL.v (ValO.call ent_87 _ rfl _ (fun w1 hw1 => aetag_any K N hK hN p _ n c m m A (xo K 1 N B) bA (xo_byts K 1 N bB) (by omega) (by omega) w1 (hSA.old hw1.below) (Sl.of hw1 (RdA.own g0) (Lies.whole _) (by simp [hlB]) (Nat.le_refl _)))) ?_; refine SL.al zero_140 ?_; (first | (have _t := tok_kb; clear _t tok_kb; intro kb) | (have _t := tok_nb; clear _t tok_nb; intro nb) | (have _t := tok_tb; clear _t tok_tb; intro tb) | intro _); refine SL.stR tabOk ?_; refine nlx ?_) | (refine rgn 7 ?_; refine sEv ?_; refine SL.ctA tabOk 0 16 ?_; refine SL.appGz (n := m) (m := 16) (c := 16) (nm := m + 16) tabOk (by decide) (by omega) (fun w1 hw1 => Sl.of hw1 (RdA.own g1) (Lies.whole _) (by simp [hlB]) (Nat.le_refl _)) (fun w1 hw1 => Sl.of hw1 (RdA.own g0) (Lies.whole _) (by simp) (Nat.le_refl _)) (fun rb cap hcap => ?_) zero_u8; refine sEv ?_; refine sEv ?_; refine nlx ?_) | (refine zsq ?_; intro _ _) | (with_reducible refine zkN ?_) | (refine useK (by assumption) ?_) | (with_reducible first | refine zsS ?_ | refine zsR ?_) | ((with_reducible show SP _ _ _ (Code.cond _ _ _) _ _ _); first | (refine cdF ?_)))
    refine doneK.mk rfl (ResO.tmp2 rfl rfl) ⟨_, _, _, rfl, AO.row (by simp [hlB]) hcap, by unfold sealV; exact sub1⟩
  · rintro e w' ⟨v, bs', rfl, ⟨q, c, abs, rfl, ha, hs⟩, hw'⟩
    exact ⟨q, c, abs, rfl, ha, hw'.sub hs⟩
theorem seal_long0 (K N : List Int) (hK : K.length = 32) (hN : N.length = 12) (p q : Option Addr) (n c m d : Nat) (A B : List Int) (w : World) (hSA : Sl w p n c A) (hSB : Sl w q m d B) (hn : 4096 < n) (hmax : n ≤ 140737488355328) (hmax2 : m ≤ 140737488355328) :
    Calls Try.prog 76 #[.agg (ints .u8 K), .agg (ints .u8 N), .slice p n c, .slice q m d] w fun e w' => e = .returned (.tuple #[.slice none 0 0, .int .i64 5]) ∧ Below w.heap.size w w' := by
  have tok_kb : True := trivial
  have tok_nb : True := trivial
  have hlA := hSA.len
  have hlB := hSB.len
  refine pureE Try.func76 Try.ntmps76 Try.results76 ?_
  repeat (first | (refine rgn 0 ?_; refine SL.bx ?_; (first | (have _t := tok_kb; clear _t tok_kb; intro kb) | (have _t := tok_nb; clear _t tok_nb; intro nb) | (have _t := tok_tb; clear _t tok_tb; intro tb) | intro _); refine SL.bx ?_; (first | (have _t := tok_kb; clear _t tok_kb; intro kb) | (have _t := tok_nb; clear _t tok_nb; intro nb) | (have _t := tok_tb; clear _t tok_tb; intro tb) | intro _); refine sEv ?_; refine sEv ?_; refine nlx ?_) | (refine rgn 1 ?_; refine sEv ?_; refine SL.v (ValO.len tabOk (by rfl)) ?_; (first | (refine SL.c true tabOk ?_) | (refine SL.c false tabOk ?_) | (refine sEv ?_)); refine sEv ?_; (first | (refine SL.gT ?_; refine sEv ?_) | refine SL.gF ?_); (first | (refine SL.gT ?_; refine SL.v (ValO.len tabOk (by rfl)) ?_) | refine SL.gF ?_); (first | (refine SL.gT ?_; (first | (refine SL.c true tabOk ?_) | (refine SL.c false tabOk ?_) | (refine sEv ?_))) | refine SL.gF ?_); refine sEv ?_; refine nlx ?_) | (refine rgn 2 ?_; refine sEv ?_; refine sEv ?_; refine nlx ?_) | (refine zsq ?_; intro _ _) | (with_reducible refine zkN ?_) | (refine useK (by assumption) ?_) | (with_reducible first | refine zkR ?_ | refine zsR ?_) | ((with_reducible show SP _ _ _ (Code.cond _ _ _) _ _ _); first | (refine cdT ?_)))
  exact doneK.mk rfl (ResO.tmp2 rfl rfl) rfl
theorem seal_long1 (K N : List Int) (hK : K.length = 32) (hN : N.length = 12) (p q : Option Addr) (n c m d : Nat) (A B : List Int) (w : World) (hSA : Sl w p n c A) (hSB : Sl w q m d B) (hn : n ≤ 4096) (hm : 4096 < m) (hmax : n ≤ 140737488355328) (hmax2 : m ≤ 140737488355328) :
    Calls Try.prog 76 #[.agg (ints .u8 K), .agg (ints .u8 N), .slice p n c, .slice q m d] w fun e w' => e = .returned (.tuple #[.slice none 0 0, .int .i64 5]) ∧ Below w.heap.size w w' := by
  have tok_kb : True := trivial
  have tok_nb : True := trivial
  have hlA := hSA.len
  have hlB := hSB.len
  refine pureE Try.func76 Try.ntmps76 Try.results76 ?_
  repeat (first | (refine rgn 0 ?_; refine SL.bx ?_; (first | (have _t := tok_kb; clear _t tok_kb; intro kb) | (have _t := tok_nb; clear _t tok_nb; intro nb) | (have _t := tok_tb; clear _t tok_tb; intro tb) | intro _); refine SL.bx ?_; (first | (have _t := tok_kb; clear _t tok_kb; intro kb) | (have _t := tok_nb; clear _t tok_nb; intro nb) | (have _t := tok_tb; clear _t tok_tb; intro tb) | intro _); refine sEv ?_; refine sEv ?_; refine nlx ?_) | (refine rgn 1 ?_; refine sEv ?_; refine SL.v (ValO.len tabOk (by rfl)) ?_; (first | (refine SL.c true tabOk ?_) | (refine SL.c false tabOk ?_) | (refine sEv ?_)); refine sEv ?_; (first | (refine SL.gT ?_; refine sEv ?_) | refine SL.gF ?_); (first | (refine SL.gT ?_; refine SL.v (ValO.len tabOk (by rfl)) ?_) | refine SL.gF ?_); (first | (refine SL.gT ?_; (first | (refine SL.c true tabOk ?_) | (refine SL.c false tabOk ?_) | (refine sEv ?_))) | refine SL.gF ?_); refine sEv ?_; refine nlx ?_) | (refine rgn 2 ?_; refine sEv ?_; refine sEv ?_; refine nlx ?_) | (refine zsq ?_; intro _ _) | (with_reducible refine zkN ?_) | (refine useK (by assumption) ?_) | (with_reducible first | refine zkR ?_ | refine zsR ?_) | ((with_reducible show SP _ _ _ (Code.cond _ _ _) _ _ _); first | (refine cdT ?_)))
  exact doneK.mk rfl (ResO.tmp2 rfl rfl) rfl
theorem seal_long (K N : List Int) (hK : K.length = 32) (hN : N.length = 12) (p q : Option Addr) (n c m d : Nat) (A B : List Int) (w : World) (hSA : Sl w p n c A) (hSB : Sl w q m d B) (hl : 4096 < n ∨ 4096 < m) (hmax : n ≤ 140737488355328) (hmax2 : m ≤ 140737488355328) : Calls Try.prog 76 #[.agg (ints .u8 K), .agg (ints .u8 N), .slice p n c, .slice q m d] w fun e w' => e = .returned (.tuple #[.slice none 0 0, .int .i64 5]) ∧ Below w.heap.size w w' := by
  by_cases h : 4096 < n
  · exact seal_long0 K N hK hN p q n c m d A B w hSA hSB h hmax hmax2
  · exact seal_long1 K N hK hN p q n c m d A B w hSA hSB (by omega) (by omega) hmax hmax2
theorem open_long0 (K N : List Int) (hK : K.length = 32) (hN : N.length = 12) (p q : Option Addr) (n c m d : Nat) (A B : List Int) (w : World) (hSA : Sl w p n c A) (hSB : Sl w q m d B) (hn : 4096 < n) (hmax : n ≤ 140737488355328) (hmax2 : m ≤ 140737488355328) :
    Calls Try.prog 78 #[.agg (ints .u8 K), .agg (ints .u8 N), .slice p n c, .slice q m d] w fun e w' => e = .returned (.tuple #[.slice none 0 0, .int .i64 5]) ∧ Below w.heap.size w w' := by
  have tok_kb : True := trivial
  have tok_nb : True := trivial
  have hlA := hSA.len
  have hlB := hSB.len
  have f16 : IntKind.i64.wrap ((m : Int) - 16) = (m : Int) - 16 := IntWalk.i64_in _ (by omega)
  refine pureE Try.func78 Try.ntmps78 Try.results78 ?_
  repeat (first | (refine rgn 0 ?_; refine SL.bx ?_; (first | (have _t := tok_kb; clear _t tok_kb; intro kb) | (have _t := tok_nb; clear _t tok_nb; intro nb) | (have _t := tok_tb; clear _t tok_tb; intro tb) | intro _); refine SL.bx ?_; (first | (have _t := tok_kb; clear _t tok_kb; intro kb) | (have _t := tok_nb; clear _t tok_nb; intro nb) | (have _t := tok_tb; clear _t tok_tb; intro tb) | intro _); refine sEv ?_; refine sEv ?_; refine nlx ?_) | (refine rgn 1 ?_; refine sEv ?_; refine SL.v (ValO.len tabOk (by rfl)) ?_; refine sEv ?_; refine sEv ?_; refine nlx ?_) | (refine rgn 2 ?_; refine sEv ?_; refine SL.v (ValO.len tabOk (by rfl)) ?_; (first | (refine SL.c true tabOk ?_) | (refine SL.c false tabOk ?_) | (refine sEv ?_)); refine sEv ?_; (first | (refine SL.gT ?_; refine sEv ?_) | refine SL.gF ?_); (first | (refine SL.gT ?_; (first | (refine SL.c true tabOk ?_) | (refine SL.c false tabOk ?_) | (refine sEv ?_))) | refine SL.gF ?_); refine sEv ?_; refine sEv ?_; refine nlx ?_) | (refine rgn 3 ?_; refine sEv ?_; refine sEv ?_; refine nlx ?_) | (refine zsq ?_; intro _ _) | (with_reducible refine zkN ?_) | (refine useK (by assumption) ?_) | (with_reducible first | refine zsB ?_ | refine zkR ?_ | refine zbR ?_ | refine zsR ?_) | ((with_reducible show SP _ _ _ (Code.cond _ _ _) _ _ _); first | (refine cdT ?_)))
  exact doneK.mk rfl (ResO.tmp2 rfl rfl) rfl
theorem open_long1 (K N : List Int) (hK : K.length = 32) (hN : N.length = 12) (p q : Option Addr) (n c m d : Nat) (A B : List Int) (w : World) (hSA : Sl w p n c A) (hSB : Sl w q m d B) (hn : n ≤ 4096) (hm : 4112 < m) (hmax : n ≤ 140737488355328) (hmax2 : m ≤ 140737488355328) :
    Calls Try.prog 78 #[.agg (ints .u8 K), .agg (ints .u8 N), .slice p n c, .slice q m d] w fun e w' => e = .returned (.tuple #[.slice none 0 0, .int .i64 5]) ∧ Below w.heap.size w w' := by
  have tok_kb : True := trivial
  have tok_nb : True := trivial
  have hlA := hSA.len
  have hlB := hSB.len
  have f16 : IntKind.i64.wrap ((m : Int) - 16) = (m : Int) - 16 := IntWalk.i64_in _ (by omega)
  refine pureE Try.func78 Try.ntmps78 Try.results78 ?_
  repeat (first | (refine rgn 0 ?_; refine SL.bx ?_; (first | (have _t := tok_kb; clear _t tok_kb; intro kb) | (have _t := tok_nb; clear _t tok_nb; intro nb) | (have _t := tok_tb; clear _t tok_tb; intro tb) | intro _); refine SL.bx ?_; (first | (have _t := tok_kb; clear _t tok_kb; intro kb) | (have _t := tok_nb; clear _t tok_nb; intro nb) | (have _t := tok_tb; clear _t tok_tb; intro tb) | intro _); refine sEv ?_; refine sEv ?_; refine nlx ?_) | (refine rgn 1 ?_; refine sEv ?_; refine SL.v (ValO.len tabOk (by rfl)) ?_; refine sEv ?_; refine sEv ?_; refine nlx ?_) | (refine rgn 2 ?_; refine sEv ?_; refine SL.v (ValO.len tabOk (by rfl)) ?_; (first | (refine SL.c true tabOk ?_) | (refine SL.c false tabOk ?_) | (refine sEv ?_)); refine sEv ?_; (first | (refine SL.gT ?_; refine sEv ?_) | refine SL.gF ?_); (first | (refine SL.gT ?_; (first | (refine SL.c true tabOk ?_) | (refine SL.c false tabOk ?_) | (refine sEv ?_))) | refine SL.gF ?_); refine sEv ?_; refine sEv ?_; refine nlx ?_) | (refine rgn 3 ?_; refine sEv ?_; refine sEv ?_; refine nlx ?_) | (refine zsq ?_; intro _ _) | (with_reducible refine zkN ?_) | (refine useK (by assumption) ?_) | (with_reducible first | refine zsB ?_ | refine zkR ?_ | refine zbR ?_ | refine zsR ?_) | ((with_reducible show SP _ _ _ (Code.cond _ _ _) _ _ _); first | (refine cdT ?_)))
  exact doneK.mk rfl (ResO.tmp2 rfl rfl) rfl
theorem open_long (K N : List Int) (hK : K.length = 32) (hN : N.length = 12) (p q : Option Addr) (n c m d : Nat) (A B : List Int) (w : World) (hSA : Sl w p n c A) (hSB : Sl w q m d B) (hl : 4096 < n ∨ 4112 < m) (hmax : n ≤ 140737488355328) (hmax2 : m ≤ 140737488355328) : Calls Try.prog 78 #[.agg (ints .u8 K), .agg (ints .u8 N), .slice p n c, .slice q m d] w fun e w' => e = .returned (.tuple #[.slice none 0 0, .int .i64 5]) ∧ Below w.heap.size w w' := by
  by_cases h : 4096 < n
  · exact open_long0 K N hK hN p q n c m d A B w hSA hSB h hmax hmax2
  · exact open_long1 K N hK hN p q n c m d A B w hSA hSB (by omega) (by omega) hmax hmax2
theorem open_short (K N : List Int) (hK : K.length = 32) (hN : N.length = 12) (p q : Option Addr) (n c m d : Nat) (A B : List Int) (w : World) (hSA : Sl w p n c A) (hSB : Sl w q m d B) (hn : n ≤ 4096) (hm : m < 16) :
    Calls Try.prog 78 #[.agg (ints .u8 K), .agg (ints .u8 N), .slice p n c, .slice q m d] w fun e w' => e = .returned (.tuple #[.slice none 0 0, .int .i64 3]) ∧ Below w.heap.size w w' := by
  have tok_kb : True := trivial
  have tok_nb : True := trivial
  have hlA := hSA.len
  have hlB := hSB.len
  have f16 : IntKind.i64.wrap ((m : Int) - 16) = (m : Int) - 16 := IntWalk.i64_in _ (by omega)
  refine pureE Try.func78 Try.ntmps78 Try.results78 ?_
  repeat (first | (refine rgn 0 ?_; refine SL.bx ?_; (first | (have _t := tok_kb; clear _t tok_kb; intro kb) | (have _t := tok_nb; clear _t tok_nb; intro nb) | (have _t := tok_tb; clear _t tok_tb; intro tb) | intro _); refine SL.bx ?_; (first | (have _t := tok_kb; clear _t tok_kb; intro kb) | (have _t := tok_nb; clear _t tok_nb; intro nb) | (have _t := tok_tb; clear _t tok_tb; intro tb) | intro _); refine sEv ?_; refine sEv ?_; refine nlx ?_) | (refine rgn 1 ?_; refine sEv ?_; refine SL.v (ValO.len tabOk (by rfl)) ?_; refine sEv ?_; refine sEv ?_; refine nlx ?_) | (refine rgn 2 ?_; refine sEv ?_; refine SL.v (ValO.len tabOk (by rfl)) ?_; (first | (refine SL.c true tabOk ?_) | (refine SL.c false tabOk ?_) | (refine sEv ?_)); refine sEv ?_; (first | (refine SL.gT ?_; refine sEv ?_) | refine SL.gF ?_); (first | (refine SL.gT ?_; (first | (refine SL.c true tabOk ?_) | (refine SL.c false tabOk ?_) | (refine sEv ?_))) | refine SL.gF ?_); refine sEv ?_; refine sEv ?_; refine nlx ?_) | (refine rgn 4 ?_; (iterate 3 refine sEv ?_); refine nlx ?_) | (refine rgn 5 ?_; refine sEv ?_; refine sEv ?_; refine nlx ?_) | (refine zsq ?_; intro _ _) | (with_reducible refine zkN ?_) | (refine useK (by assumption) ?_) | (with_reducible first | refine zsB ?_ | refine zkR ?_ | refine zbR ?_ | refine zsR ?_) | (refine cdT ?_) | (refine cdF ?_))
  exact doneK.mk rfl (ResO.tmp2 rfl rfl) rfl
theorem same_yes (p q : Option Addr) (n m c d : Nat) (A B : List Int) (bA : Byts A) (bB : Byts B) (w : World) (hA : Sl w p n c A) (hB : Sl w q m d B) (hmax : n ≤ 140737488355328) (h : A = B) : Calls Try.prog 89 #[.slice p n c, .slice q m d] w fun e w' => e = .returned (.bool true) ∧ Below w.heap.size w w' := by
  have := psame_h p q n m c d A B bA bB w hA hB hmax
  rwa [decide_eq_true h] at this
theorem same_no (p q : Option Addr) (n m c d : Nat) (A B : List Int) (bA : Byts A) (bB : Byts B) (w : World) (hA : Sl w p n c A) (hB : Sl w q m d B) (hmax : n ≤ 140737488355328) (h : A ≠ B) : Calls Try.prog 89 #[.slice p n c, .slice q m d] w fun e w' => e = .returned (.bool false) ∧ Below w.heap.size w w' := by
  have := psame_h p q n m c d A B bA bB w hA hB hmax
  rwa [decide_eq_false h] at this
theorem open_bad (K N : List Int) (hK : K.length = 32) (hN : N.length = 12) (p q : Option Addr) (n c m d : Nat) (A B : List Int) (w : World) (hSA : Sl w p n c A) (hSB : Sl w q m d B) (bA : Byts A) (bB : Byts B) (hn : n ≤ 4096) (hm : 16 ≤ m) (hm2 : m ≤ 4112) (hok : ¬ boxOk K N A B m) :
    Calls Try.prog 78 #[.agg (ints .u8 K), .agg (ints .u8 N), .slice p n c, .slice q m d] w fun e w' => e = .returned (.tuple #[.slice none 0 0, .int .i64 60]) ∧ Below w.heap.size w w' := by
  have tok_kb : True := trivial
  have tok_nb : True := trivial
  have tok_tb : True := trivial
  have hlA := hSA.len
  have hlB := hSB.len
  unfold boxOk at hok
  have f16 : IntKind.i64.wrap ((m : Int) - 16) = ((m - 16 : Nat) : Int) := by rw [IntWalk.i64_in _ (by omega)]; omega
  obtain ⟨b0, o0, A0, T0, z0, rfl, hb0, hA0⟩ := hSB.at_ (by omega)
  have hcd := hSB.cap
  refine pureE Try.func78 Try.ntmps78 Try.results78 ?_
  repeat (first | (refine rgn 0 ?_; refine SL.bx ?_; (first | (have _t := tok_kb; clear _t tok_kb; intro kb) | (have _t := tok_nb; clear _t tok_nb; intro nb) | (have _t := tok_tb; clear _t tok_tb; intro tb) | intro _); refine SL.bx ?_; (first | (have _t := tok_kb; clear _t tok_kb; intro kb) | (have _t := tok_nb; clear _t tok_nb; intro nb) | (have _t := tok_tb; clear _t tok_tb; intro tb) | intro _); refine sEv ?_; refine sEv ?_; refine nlx ?_) | (refine rgn 1 ?_; refine sEv ?_; refine SL.v (ValO.len tabOk (by rfl)) ?_; refine sEv ?_; refine sEv ?_; refine nlx ?_) | (refine rgn 2 ?_; refine sEv ?_; refine SL.v (ValO.len tabOk (by rfl)) ?_; (first | (refine SL.c true tabOk ?_) | (refine SL.c false tabOk ?_) | (refine sEv ?_)); refine sEv ?_; (first | (refine SL.gT ?_; refine sEv ?_) | refine SL.gF ?_); (first | (refine SL.gT ?_; (first | (refine SL.c true tabOk ?_) | (refine SL.c false tabOk ?_) | (refine sEv ?_))) | refine SL.gF ?_); refine sEv ?_; refine sEv ?_; refine nlx ?_) | (refine rgn 4 ?_; (iterate 3 refine sEv ?_); refine nlx ?_) | (refine rgn 8 ?_; refine sEv ?_; refine sEv ?_; refine nlx ?_) | ((with_reducible show SP _ _ _ (Code.region _ _ true) _ _ _); first | (refine SPa (id := 6) [8] [] ([]) [0, 1, 2, 3, 4, 5, 6, 7, 8] follows ?_; refine SF.ldR tabOk ?_; refine SF.ldR tabOk ?_; (iterate 3 refine fPv ?_); refine SF.ctS tabOk 0 (m - 16) ?_ (hhi := by exact f16); refine SF.v (ValO.call ent_87 _ rfl _ (fun w1 hw1 => aetag_any K N hK hN p _ n c (m - 16) d A (B.take (m - 16)) bA (bB.take2 _) (by omega) (by omega) w1 (hSA.old hw1.below) ((hSB.take (k := m - 16) (by omega)).old hw1.below))) ?_; refine SF.al zero_140 ?_; (first | (have _t := tok_kb; clear _t tok_kb; intro kb) | (have _t := tok_nb; clear _t tok_nb; intro nb) | (have _t := tok_tb; clear _t tok_tb; intro tb) | intro _); refine SF.stR tabOk ?_; refine SF.done ?_) | (refine SPa (id := 7) [] [] ([]) [0, 1, 2, 3, 4, 5] follows ?_; refine SF.ctA tabOk 0 16 ?_; refine fPv ?_; refine fPv ?_; refine SF.ctS tabOk (m - 16) m ?_ (hlo := by exact f16); refine SF.v (ValO.call ent_89 _ rfl _ (fun w1 hw1 => same_no _ _ _ _ _ _ (aeT K N A (B.take (m - 16))) (B.drop (m - 16)) (aeT_byts _ _ _ _) (bB.drop2 _) w1 (Sl.of hw1 (RdA.own g0) (Lies.whole _) (by simp) (Nat.le_refl _)) ((hSB.drop (k := m - 16) (by omega)).old hw1.below) (by decide) hok)) ?_; refine SF.e tabOk ?_; refine SF.done ?_)) | (refine zsq ?_; intro _ _) | (with_reducible refine zkN ?_) | (refine useK (by assumption) ?_) | (with_reducible first | refine zsB ?_ | refine zkR ?_ | refine zsS ?_ | refine zsR ?_) | (refine cdT ?_) | (refine cdF ?_))
  exact doneK.mk rfl (ResO.tmp2 rfl rfl) rfl
theorem open_ok (K N : List Int) (hK : K.length = 32) (hN : N.length = 12) (p q : Option Addr) (n c m d : Nat) (A B : List Int) (w : World) (hSA : Sl w p n c A) (hSB : Sl w q m d B) (bA : Byts A) (bB : Byts B) (hn : n ≤ 4096) (hm : 16 ≤ m) (hm2 : m ≤ 4112) (hok : boxOk K N A B m) :
    Calls Try.prog 78 #[.agg (ints .u8 K), .agg (ints .u8 N), .slice p n c, .slice q m d] w fun e w' => ∃ q c abs, e = .returned (.tuple #[.slice q (m - 16) c, .int .i64 0]) ∧ AO q (m - 16) c (xo K 1 N (B.take (m - 16))) abs ∧ OwnM w [] w' abs := by
  have tok_kb : True := trivial
  have tok_nb : True := trivial
  have tok_tb : True := trivial
  have hlA := hSA.len
  have hlB := hSB.len
  unfold boxOk at hok
  have f16 : IntKind.i64.wrap ((m : Int) - 16) = ((m - 16 : Nat) : Int) := by rw [IntWalk.i64_in _ (by omega)]; omega
  obtain ⟨b0, o0, A0, T0, z0, rfl, hb0, hA0⟩ := hSB.at_ (by omega)
  have hcd := hSB.cap
  refine (callE (mu := []) Try.func78 Try.ntmps78 Try.results78 (OwnM.start w) (fun v bs => ∃ q c abs, v = .tuple #[.slice q (m - 16) c, .int .i64 0] ∧ AO q (m - 16) c (xo K 1 N (B.take (m - 16))) abs ∧ abs.Sublist bs) ?_).mono ?_
  · repeat (first | (refine rgn 0 ?_; refine SL.bx ?_; (first | (have _t := tok_kb; clear _t tok_kb; intro kb) | (have _t := tok_nb; clear _t tok_nb; intro nb) | (have _t := tok_tb; clear _t tok_tb; intro tb) | intro _); refine SL.bx ?_; (first | (have _t := tok_kb; clear _t tok_kb; intro kb) | (have _t := tok_nb; clear _t tok_nb; intro nb) | (have _t := tok_tb; clear _t tok_tb; intro tb) | intro _); refine sEv ?_; refine sEv ?_; refine nlx ?_) | (refine rgn 1 ?_; refine sEv ?_; refine SL.v (ValO.len tabOk (by rfl)) ?_; refine sEv ?_; refine sEv ?_; refine nlx ?_) | (refine rgn 2 ?_; refine sEv ?_; refine SL.v (ValO.len tabOk (by rfl)) ?_; (first | (refine SL.c true tabOk ?_) | (refine SL.c false tabOk ?_) | (refine sEv ?_)); refine sEv ?_; (first | (refine SL.gT ?_; refine sEv ?_) | refine SL.gF ?_); (first | (refine SL.gT ?_; (first | (refine SL.c true tabOk ?_) | (refine SL.c false tabOk ?_) | (refine sEv ?_))) | refine SL.gF ?_); refine sEv ?_; refine sEv ?_; refine nlx ?_) | (refine rgn 4 ?_; (iterate 3 refine sEv ?_); refine nlx ?_) | ((with_reducible show SP _ _ _ (Code.region _ _ true) _ _ _); first | (refine SPa (id := 6) [8] [] ([]) [0, 1, 2, 3, 4, 5, 6, 7, 8] follows ?_; refine SF.ldR tabOk ?_; refine SF.ldR tabOk ?_; (iterate 3 refine fPv ?_); refine SF.ctS tabOk 0 (m - 16) ?_ (hhi := by exact f16); refine SF.v (ValO.call ent_87 _ rfl _ (fun w1 hw1 => aetag_any K N hK hN p _ n c (m - 16) d A (B.take (m - 16)) bA (bB.take2 _) (by omega) (by omega) w1 (hSA.old hw1.below) ((hSB.take (k := m - 16) (by omega)).old hw1.below))) ?_; refine SF.al zero_140 ?_; (first | (have _t := tok_kb; clear _t tok_kb; intro kb) | (have _t := tok_nb; clear _t tok_nb; intro nb) | (have _t := tok_tb; clear _t tok_tb; intro tb) | intro _); refine SF.stR tabOk ?_; refine SF.done ?_) | (refine SPa (id := 7) [] [] ([]) [0, 1, 2, 3, 4, 5] follows ?_; refine SF.ctA tabOk 0 16 ?_; refine fPv ?_; refine fPv ?_; refine SF.ctS tabOk (m - 16) m ?_ (hlo := by exact f16); refine SF.v (ValO.call ent_89 _ rfl _ (fun w1 hw1 => same_yes _ _ _ _ _ _ (aeT K N A (B.take (m - 16))) (B.drop (m - 16)) (aeT_byts _ _ _ _) (bB.drop2 _) w1 (Sl.of hw1 (RdA.own g0) (Lies.whole _) (by simp) (Nat.le_refl _)) ((hSB.drop (k := m - 16) (by omega)).old hw1.below) (by decide) hok)) ?_; refine SF.e tabOk ?_; refine SF.done ?_) | (refine SPa (id := 9) [5] [] ([]) [0, 1, 2, 3, 4, 5, 6, 7, 8, 9] follows ?_; refine SF.ldR tabOk ?_; refine SF.ldR tabOk ?_; refine fPv ?_; refine fPv ?_; refine SF.ctS tabOk 0 (m - 16) ?_ (hhi := by exact f16); refine SF.clN ent_86 rfl (fun w1 hw1 => xor_any K 1 N hK hN _ (m - 16) _ _ (by decide) (by omega) w1 (((hSB.take (k := m - 16) (by omega)).old hw1.below))) (fun xb => ?_); (iterate 4 refine fPv ?_); refine SF.done ?_)) | (refine zsq ?_; intro _ _) | (with_reducible refine zkN ?_) | (refine useK (by assumption) ?_) | (with_reducible first | refine zsB ?_ | refine zsS ?_ | refine zsR ?_) | ((with_reducible show SP _ _ _ (Code.cond _ _ _) _ _ _); first | (refine cdF ?_)))
    refine doneK.mk rfl (ResO.tmp2 rfl rfl) ⟨_, _, _, rfl, AO.row (J := []) (by simp; omega) (Nat.le_refl _), by rw [List.append_nil]; exact sub1⟩
  · rintro e w' ⟨v, bs', rfl, ⟨q, c, abs, rfl, ha, hs⟩, hw'⟩
    exact ⟨q, c, abs, rfl, ha, hw'.sub hs⟩
end Sp
end
section
open Go Go.RowKit
namespace Sp
open F M
@[irreducible] def q4 (a b c d : Int) : List Int :=
  let a1 := IntKind.u32.wrap (a + b); let d1 := rot (bits .xor .u32 d a1) 16
  let c1 := IntKind.u32.wrap (c + d1); let b1 := rot (bits .xor .u32 b c1) 12
  let a2 := IntKind.u32.wrap (a1 + b1); let d2 := rot (bits .xor .u32 d1 a2) 8
  let c2 := IntKind.u32.wrap (c1 + d2); let b2 := rot (bits .xor .u32 b1 c2) 7
  [a2, b2, c2, d2]
@[irreducible] def numR (L : List Int) : Int := IntKind.u32.wrap (IntKind.u32.wrap (IntKind.u32.wrap (IntKind.u32.wrap (gi L 0) + IntKind.u32.wrap (IntKind.u32.wrap (gi L 1) * 2 ^ (min (Int.toNat 8) IntKind.u32.bits))) + IntKind.u32.wrap (IntKind.u32.wrap (gi L 2) * 2 ^ (min (Int.toNat 16) IntKind.u32.bits))) + IntKind.u32.wrap (IntKind.u32.wrap (gi L 3) * 2 ^ (min (Int.toNat 24) IntKind.u32.bits)))
end Sp
end
section
open Go Go.RowKit
namespace Sp
open F M
def stR' (K : List Int) : Nat → List Int
  | 0 => stC
  | i + 1 => (stR' K i).set (4 + i) (numR (K.drop (4 * i)))
@[irreducible] def stR (K : List Int) (i : Nat) : List Int := stR' K i
end Sp
end
section
open Go Go.RowKit
namespace Sp
open F M
structure PQ (V : List Int) (a b c d : Nat) (L : List Int) (x y z w : Int) : Prop where
  len : L.length = V.length
  pa : gi L a = x
  pb : gi L b = y
  pc : gi L c = z
  pd : gi L d = w
  rest : ∀ j, j ≠ a → j ≠ b → j ≠ c → j ≠ d → gi L j = gi V j
section
variable {V L : List Int} {a b c d : Nat} {x y z w v : Int}
theorem PQ.eq {L' : List Int} (h : PQ V a b c d L x y z w) (h' : PQ V a b c d L' x y z w) : L = L' := by
  refine eqb_any_ext (by rw [h.len, h'.len]) (fun j _ => ?_)
  by_cases ha : j = a
  · subst ha; rw [h.pa, h'.pa]
  by_cases hb : j = b
  · subst hb; rw [h.pb, h'.pb]
  by_cases hc : j = c
  · subst hc; rw [h.pc, h'.pc]
  by_cases hd : j = d
  · subst hd; rw [h.pd, h'.pd]
  rw [h.rest j ha hb hc hd, h'.rest j ha hb hc hd]
end
end Sp
end
section
open Go Go.RowKit
namespace Sp
open F M
end Sp
end
section
open Go Go.RowKit
namespace Sp
open F M
end Sp
end
section
open Go Go.RowKit
namespace Sp
open F M
end Sp
end
section
open Go Go.RowKit
open Sp F M
def nnI' (v : Nat) : Nat → List Int
  | 0 => List.replicate 12 0
  | i + 1 => (nnI' v i).set (4 + i) (IntKind.u8.wrap ((v / 2 ^ (8 * i) : Nat) : Int))
@[irreducible] def nnI (v i : Nat) : List Int := nnI' v i
theorem nnI_0 (v : Nat) : nnI v 0 = List.replicate 12 0 := by unfold nnI; rfl
theorem nnI_s (v i : Nat) : nnI v (i + 1) = (nnI v i).set (4 + i) (IntKind.u8.wrap ((v / 2 ^ (8 * i) : Nat) : Int)) := by unfold nnI; rfl
theorem nnI_length (v : Nat) : ∀ i, (nnI v i).length = 12
  | 0 => by rw [nnI_0]; rfl
  | i + 1 => by rw [nnI_s, List.length_set, nnI_length v i]
attribute [simp] nnI_length
theorem sh8 (v k : Nat) : Int.fdiv ((v / 2 ^ (8 * k) : Nat) : Int) (2 ^ (min 8 IntKind.i64.bits)) = ((v / 2 ^ (8 * (k + 1)) : Nat) : Int) := by
  show Int.fdiv ((v / 2 ^ (8 * k) : Nat) : Int) 256 = _
  rw [Int.fdiv_eq_ediv_of_nonneg _ (by omega), show (256 : Int) = ((256 : Nat) : Int) from rfl, ← Int.natCast_ediv, Nat.div_div_eq_div_mul, show 2 ^ (8 * k) * 256 = 2 ^ (8 * (k + 1)) by rw [Nat.mul_add, Nat.pow_add]]
attribute [simp] nnI_length
theorem nonce_ok (v : Nat) (h1 : v ≤ 9007199254740991) (w : World) : Calls Try.prog 91 #[.int .i64 v] w fun e w' => e = .returned (.tuple #[.agg (ints .u8 (nnI v 8)), .int .i64 0]) ∧ Below w.heap.size w w' := by
  have tok_ob : True := trivial
  refine pureE Try.func91 Try.ntmps91 Try.results91 ?_
  repeat (first | (refine rgn 0 ?_; refine SL.al zero_138 ?_; (first | (have _t := tok_ob; clear _t tok_ob; intro ob) | intro _); refine sEv ?_; refine nlx ?_) | (refine rgn 1 ?_; refine sEv ?_; (first | (refine SL.c true tabOk ?_) | (refine SL.c false tabOk ?_) | (refine sEv ?_)); refine sEv ?_; (first | (refine SL.gT ?_; refine sEv ?_) | refine SL.gF ?_); (first | (refine SL.gT ?_; (first | (refine SL.c true tabOk ?_) | (refine SL.c false tabOk ?_) | (refine sEv ?_))) | refine SL.gF ?_); refine sEv ?_; refine nlx ?_) | (refine rgn 3 ?_; refine sEv ?_; refine nlx ?_) | (refine zsq ?_; intro _ _) | (with_reducible refine zkN ?_) | (refine useK (by assumption) ?_) | (with_reducible first | refine zsB ?_ | refine zsS ?_) | ((with_reducible show SP _ _ _ (Code.cond _ _ _) _ _ _); first | (refine cdF ?_)))
  refine SP.loopN (fun k l bs => l = [.int .i64 ((v / 2 ^ (8 * k) : Nat) : Int), nth l 1, .pointer (some ⟨ob, 0, none⟩), nth l 3, .int .i64 ((4 + k : Nat)), nth l 5, nth l 6, nth l 7, nth l 8, nth l 9, nth l 10, nth l 11, nth l 12, nth l 13, nth l 14, nth l 15, nth l 16, nth l 17, nth l 18, nth l 19, nth l 20, nth l 21, nth l 22] ∧ bs = [(ob, ints .u8 (nnI v k), 138)]) 8 ⟨by rw [Nat.mul_zero, Nat.pow_zero, Nat.div_one]; rfl, by rw [nnI_0]⟩ ?_
  rintro k lfk _ hkk ⟨hlk, rfl⟩
  refine SP.cast hlk ?_
  clear hlk
  by_cases hltk : k < 8
  · have hk1 : IntKind.i64.wrap (((4 + k : Nat) : Int) + 1) = ((4 + (k + 1) : Nat) : Int) := by rw [IntWalk.i64_in _ (by omega)]; omega
    have hs := sh8 v k
    repeat (first | (refine rgn 4 ?_; refine sEv ?_; refine sEv ?_; refine nlx ?_) | (refine rgn 5 ?_; (iterate 3 refine sEv ?_); refine nlx ?_) | (refine rgn 6 ?_; (iterate 3 refine sEv ?_); refine SL.ixA tabOk ?_; refine SL.stI tabOk ?_; refine nlx ?_) | (refine rgn 7 ?_; (iterate 3 refine sEv ?_); refine nlx ?_) | (refine zsq ?_; intro _ _) | (with_reducible refine zkN ?_) | (refine useK (by assumption) ?_) | (with_reducible first | refine zsB ?_ | refine zsS ?_) | ((with_reducible show SP _ _ _ (Code.cond _ _ _) _ _ _); first | (refine cdT ?_)))
    simp only [hk1, hs]
    exact ⟨hltk, rfl, by rw [nnI_s]⟩
  · have hendk : k = 8 := by omega
    replace hendk := Lib.hid hendk
    repeat (first | (refine rgn 4 ?_; refine sEv ?_; refine sEv ?_; refine nlx ?_) | (refine zsq ?_; intro _ _) | (with_reducible refine zkN ?_) | (refine useK (by assumption) ?_) | (with_reducible refine zsX ?_) | ((with_reducible show SP _ _ _ (Code.cond _ _ _) _ _ _); first | (refine cdF ?_)))
    have hq := hendk.out; clear hendk; subst hq
    repeat (first | (refine rgn 8 ?_; refine SL.ldR tabOk ?_; refine SL.stR tabOk ?_; refine sEv ?_; refine nlx ?_) | (with_reducible refine zkN ?_) | (refine useK (by assumption) ?_) | (with_reducible refine zsR ?_))
    refine doneK.mk rfl (ResO.cellTmp tabOk rfl rfl rfl (by first | exact RdA.own g0 | exact RdA.own g1 | exact RdA.own g2 | exact RdA.own g3 | exact RdA.own g4 | exact RdA.own g5 | exact RdA.own g6 | exact RdA.own g7 | exact RdA.own g8 | exact RdA.own g9 | exact RdA.own g10 | exact RdA.own g11 | exact RdA.own g12 | exact RdA.own g13 | exact RdA.own g14 | exact RdA.own g15) (by first | (simp [ints_size]; done) | (simp [ints_size]; omega)) rfl) rfl
attribute [simp] nnI_length
end
section
open Go Go.RowKit
namespace Sp
open F M
@[irreducible] def nonV (n : Int) : List Int := nnI n.toNat 8
theorem nonV_length (n : Int) : (nonV n).length = 12 := by unfold nonV; simp
attribute [simp] nonV_length
theorem nonce_n {n : Int} (h0 : 0 ≤ n) (h1 : n < 9007199254740991) (w : World) : Calls Try.prog 91 #[.int .i64 n] w fun e w' => e = .returned (.tuple #[.agg (ints .u8 (nonV n)), .int .i64 0]) ∧ Below w.heap.size w w' := by
  have := nonce_ok n.toNat (by omega) w
  rwa [Int.toNat_of_nonneg h0, show nnI n.toNat 8 = nonV n by unfold nonV; rfl] at this
@[irreducible] def sE (A B : List Int) : Int := if 4096 < A.length ∨ 4096 < B.length then 5 else 0
@[irreducible] def sX (K N A B : List Int) : List Int := if 4096 < A.length ∨ 4096 < B.length then [] else sealV K N A B
@[irreducible] def oE (K N A X : List Int) : Int := if 4096 < A.length ∨ 4112 < X.length then 5 else if X.length < 16 then 3 else if aeT K N A (X.take (X.length - 16)) = X.drop (X.length - 16) then 0 else 60
@[irreducible] def oX (K N A X : List Int) : List Int := if oE K N A X = 0 then xo K 1 N (X.take (X.length - 16)) else []
theorem sE_long {A B : List Int} (h : 4096 < A.length ∨ 4096 < B.length) : sE A B = 5 := by unfold sE; rw [if_pos h]
theorem sE_ok {A B : List Int} (h1 : A.length ≤ 4096) (h2 : B.length ≤ 4096) : sE A B = 0 := by unfold sE; rw [if_neg (by omega)]
theorem sX_long {K N A B : List Int} (h : 4096 < A.length ∨ 4096 < B.length) : sX K N A B = [] := by unfold sX; rw [if_pos h]
theorem sX_ok {K N A B : List Int} (h1 : A.length ≤ 4096) (h2 : B.length ≤ 4096) : sX K N A B = sealV K N A B := by unfold sX; rw [if_neg (by omega)]
theorem oE_long {K N A X : List Int} (h : 4096 < A.length ∨ 4112 < X.length) : oE K N A X = 5 := by unfold oE; rw [if_pos h]
theorem oE_short {K N A X : List Int} (h1 : A.length ≤ 4096) (h2 : X.length < 16) : oE K N A X = 3 := by unfold oE; rw [if_neg (by omega), if_pos h2]
theorem oE_ok {K N A X : List Int} (h1 : A.length ≤ 4096) (h2 : 16 ≤ X.length) (h3 : X.length ≤ 4112) (h : boxOk K N A X X.length) : oE K N A X = 0 := by
  unfold oE; rw [if_neg (by omega), if_neg (by omega)]; unfold boxOk at h; rw [if_pos h]
theorem oE_bad {K N A X : List Int} (h1 : A.length ≤ 4096) (h2 : 16 ≤ X.length) (h3 : X.length ≤ 4112) (h : ¬ boxOk K N A X X.length) : oE K N A X = 60 := by
  unfold oE; rw [if_neg (by omega), if_neg (by omega)]; unfold boxOk at h; rw [if_neg h]
theorem oX_ok {K N A X : List Int} (h : oE K N A X = 0) : oX K N A X = xo K 1 N (X.take (X.length - 16)) := by unfold oX; rw [if_pos h]
theorem oX_bad {K N A X : List Int} (h : oE K N A X ≠ 0) : oX K N A X = [] := by unfold oX; rw [if_neg h]
theorem oX_byts {K N A X : List Int} (hB : Byts X) : Byts (oX K N A X) := by
  by_cases h : oE K N A X = 0
  · rw [oX_ok h]; exact xo_byts _ _ _ (hB.take2 _)
  · rw [oX_bad h]; exact fun j => by simp [gi]
def BoxPost (w : World) (X : List Int) (n : Int) (e : Ending) (w' : World) : Prop := ∃ q c abs, e = .returned (.tuple #[.slice q X.length c, .int .i64 n]) ∧ AO q X.length c X abs ∧ OwnM w [] w' abs
theorem BoxPost.nil {w w' : World} {n : Int} (h : Below w.heap.size w w') : BoxPost w [] n (.returned (.tuple #[.slice none 0 0, .int .i64 n])) w' :=
  ⟨none, 0, [], rfl, AO.nil, by simpa using (OwnM.start w).grow h⟩
section
variable (K N : List Int) (hK : K.length = 32) (hN : N.length = 12) (p q : Option Addr) (c d : Nat) (A B : List Int) (bK : Byts K) (bN : Byts N) (bA : Byts A) (bB : Byts B) (w : World) (hSA : Sl w p A.length c A) (hSB : Sl w q B.length d B) (hn : A.length ≤ 140737488355328) (hm : B.length ≤ 140737488355328)
include hK hN bA bB hSA hSB hn hm
theorem seal_u : Calls Try.prog 76 #[.agg (ints .u8 K), .agg (ints .u8 N), .slice p A.length c, .slice q B.length d] w (BoxPost w (sX K N A B) (sE A B)) := by
  by_cases h : 4096 < A.length ∨ 4096 < B.length
  · rw [sX_long h, sE_long h]
    refine (seal_long K N hK hN p q _ c _ d A B w hSA hSB h hn hm).mono ?_
    rintro e w' ⟨rfl, hb⟩
    exact .nil hb
  · rw [sX_ok (by omega) (by omega), sE_ok (by omega) (by omega)]
    refine (seal_ok K N hK hN p q _ c _ d A B w hSA hSB bA bB (by omega) (by omega)).mono ?_
    rintro e w' ⟨q, c, abs, rfl, ha, hw⟩
    exact ⟨q, c, abs, by rw [sealV_length], by rw [sealV_length]; exact ha, hw⟩
theorem open_u : Calls Try.prog 78 #[.agg (ints .u8 K), .agg (ints .u8 N), .slice p A.length c, .slice q B.length d] w (BoxPost w (oX K N A B) (oE K N A B)) := by
  by_cases h : 4096 < A.length ∨ 4112 < B.length
  · have h1 := oE_long (K := K) (N := N) h
    rw [oX_bad (by rw [h1]; decide), h1]
    refine (open_long K N hK hN p q _ c _ d A B w hSA hSB h hn hm).mono ?_
    rintro e w' ⟨rfl, hb⟩
    exact .nil hb
  · by_cases h2 : B.length < 16
    · have h1 := oE_short (K := K) (N := N) (A := A) (by omega) h2
      rw [oX_bad (by rw [h1]; decide), h1]
      refine (open_short K N hK hN p q _ c _ d A B w hSA hSB (by omega) h2).mono ?_
      rintro e w' ⟨rfl, hb⟩
      exact .nil hb
    · by_cases h3 : boxOk K N A B B.length
      · have h1 := oE_ok (by omega) (by omega) (by omega) h3
        rw [oX_ok h1, h1]
        refine (open_ok K N hK hN p q _ c _ d A B w hSA hSB bA bB (by omega) (by omega) (by omega) h3).mono ?_
        have e1 : (xo K 1 N (B.take (B.length - 16))).length = B.length - 16 := by simp
        rintro e w' ⟨q, c, abs, rfl, ha, hw⟩
        exact ⟨q, c, abs, by rw [e1], by rw [e1]; exact ha, hw⟩
      · have h1 := oE_bad (by omega) (by omega) (by omega) h3
        rw [oX_bad (by rw [h1]; decide), h1]
        refine (open_bad K N hK hN p q _ c _ d A B w hSA hSB bA bB (by omega) (by omega) (by omega) h3).mono ?_
        rintro e w' ⟨rfl, hb⟩
        exact .nil hb
include bK bN
end
end Sp
end
end Go.Proofs.Ytdjecenggngdjaa
