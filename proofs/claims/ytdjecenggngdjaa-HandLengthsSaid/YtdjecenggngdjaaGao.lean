/-
  Joined texts: ChX1. No conditions.
-/
import Derived.Test.YtdjecenggngdjaaGae
import Derived.Test.YtdjecenggngdjaaGaf
import Derived.Test.YtdjecenggngdjaaGal
import Derived.Test.YtdjecenggngdjaaGam
import Derived.Test.YtdjecenggngdjaaGan
import Derived.KernelRfl
import Derived.Lib.Hide
namespace Go.Proofs.Ytdjecenggngdjaa
set_option linter.unusedSimpArgs false
set_option linter.unusedVariables false
set_option maxHeartbeats 16000000
set_option maxRecDepth 20000
section
open Go Go.RowKit
namespace Sp
open F M
def wrdN' (L : List Int) : Nat → Int
  | 0 => 0
  | i + 1 => bits .or .u32 (wrdN' L i) (IntKind.u32.wrap (IntKind.u32.wrap (gi L i) * 2 ^ (min (IntKind.i64.wrap (8 * (i : Int))).toNat IntKind.u32.bits)))
@[irreducible] def wrdN (L : List Int) (i : Nat) : Int := wrdN' L i
theorem wrdN_0 (L : List Int) : wrdN L 0 = 0 := by unfold wrdN; rfl
theorem wrdN_s (L : List Int) (i : Nat) : wrdN L (i + 1) = bits .or .u32 (wrdN L i) (IntKind.u32.wrap (IntKind.u32.wrap (gi L i) * 2 ^ (min (IntKind.i64.wrap (8 * (i : Int))).toNat IntKind.u32.bits))) := by unfold wrdN; rfl
theorem word_any (b off n c : Nat) (A : Array Value) (T : TypeId) (fz : Nat × Nat) (L : List Int) (w : World) (hb : w.heap[b]? = some (.cells A T fz)) (hA : ∀ j, j < 4 → A[off + j]? = some (.int .u8 (gi L j))) (hn : 4 ≤ n) (hc : n ≤ c) :
    Calls Try.prog 96 #[.slice (some ⟨b, off, none⟩) n c] w fun e w' => e = .returned (.int .u32 (wrdN L 4)) ∧ Below w.heap.size w w' := by
  refine pureE Try.func96 Try.ntmps96 Try.results96 ?_
  repeat (first | (refine rgn 0 ?_; refine sEv ?_; refine nlx ?_) | (refine rgn 1 ?_; refine sEv ?_; refine SL.ctS tabOk 0 4 ?_; refine SL.v (ValO.len tabOk (by rfl)) ?_; refine sEv ?_; refine nlx ?_) | (refine zsq ?_; intro _ _) | (with_reducible refine zkN ?_) | (refine useK (by assumption) ?_) | (with_reducible refine zsB ?_))
  refine SP.loopN (fun k l bs => l = [nth l 0, nth l 1, .int .u32 (wrdN L k), nth l 3, nth l 4, nth l 5, .slice (some ⟨b, off, none⟩) 4 c, .int .i64 ((4 : Nat) : Int), .int .i64 ((k : Nat)), nth l 9, nth l 10, nth l 11, nth l 12, nth l 13, nth l 14, nth l 15, nth l 16, nth l 17, nth l 18, nth l 19, nth l 20, nth l 21] ∧ bs = []) 4 ⟨(by first | rfl | (simp only [wrdN_0]; done) | (simp only [wrdN_0]; rfl) | (rw [wrdN_0]; rfl)), (by first | rfl | (simp only [wrdN_0]; done) | (simp only [wrdN_0]; rfl) | (rw [wrdN_0]; rfl))⟩ ?_
  rintro k lfk _ hkk ⟨hlk, rfl⟩
  refine SP.cast hlk ?_
  clear hlk
  by_cases hltk : k < 4
  · have hk1 : IntKind.i64.wrap ((k : Int) + 1) = ((k + 1 : Nat) : Int) := by rw [IntWalk.i64_in _ (by omega)]; omega
    have f1 : IntKind.i64.wrap (8 * (k : Int)) = 8 * k := IntWalk.i64_in _ (by omega)
    repeat (first | (refine rgn 2 ?_; refine sEv ?_; refine nlx ?_) | (refine rgn 3 ?_; refine sEv ?_; refine SL.ixS tabOk ?_; (first | (refine SL.ldI tabOk ?_) | (refine SL.ldC tabOk ?_ (hv := by first | exact (hA k (by omega))))); refine sEv ?_; refine sEv ?_; refine nlx ?_) | (refine rgn 4 ?_; (iterate 5 refine sEv ?_); refine SL.sh ?_; refine sEv ?_; refine sEv ?_; refine nlx ?_) | (refine rgn 5 ?_; refine sEv ?_; refine sEv ?_; refine nlx ?_) | (refine zsq ?_; intro _ _) | (with_reducible refine zkN ?_) | (refine useK (by assumption) ?_) | (with_reducible first | refine zsB ?_ | refine zsS ?_) | ((with_reducible show SP _ _ _ (Code.cond _ _ _) _ _ _); first | (refine cdT ?_)))
    simp only [hk1]
    exact ⟨hltk, (by first | rfl | (simp only [wrdN_s]; done) | (simp only [wrdN_s]; rfl) | (rw [wrdN_s]; rfl)), (by first | rfl | (simp only [wrdN_s]; done) | (simp only [wrdN_s]; rfl) | (rw [wrdN_s]; rfl))⟩
  · have hendk : k = 4 := by omega
    replace hendk := Lib.hid hendk
    repeat (first | (refine rgn 2 ?_; refine sEv ?_; refine nlx ?_) | (refine rgn 6 ?_; refine sEv ?_; refine sEv ?_; refine nlx ?_) | (refine zsq ?_; intro _ _) | (with_reducible refine zkN ?_) | (refine useK (by assumption) ?_) | (with_reducible first | refine zsR ?_ | refine zsX ?_) | ((with_reducible show SP _ _ _ (Code.cond _ _ _) _ _ _); first | (refine cdF ?_)))
    have hq := hendk.out; clear hendk; subst hq
    refine doneK.mk rfl (ResO.tmp rfl) rfl
def ptN' (L : List Int) (off : Nat) (x : Int) : Nat → List Int
  | 0 => L
  | i + 1 => (ptN' L off x i).set (off + i) (IntKind.u8.wrap (x.fdiv (2 ^ (min (IntKind.i64.wrap (8 * (i : Int))).toNat IntKind.u32.bits))))
@[irreducible] def ptN (L : List Int) (off : Nat) (x : Int) (i : Nat) : List Int := ptN' L off x i
theorem ptN_0 (L : List Int) (off : Nat) (x : Int) : ptN L off x 0 = L := by unfold ptN; rfl
theorem ptN_s (L : List Int) (off : Nat) (x : Int) (i : Nat) : ptN L off x (i + 1) = (ptN L off x i).set (off + i) (IntKind.u8.wrap (x.fdiv (2 ^ (min (IntKind.i64.wrap (8 * (i : Int))).toNat IntKind.u32.bits)))) := by unfold ptN; rfl
theorem ptN_length (L : List Int) (off : Nat) (x : Int) : ∀ i, (ptN L off x i).length = L.length
  | 0 => by rw [ptN_0]
  | i + 1 => by rw [ptN_s, List.length_set, ptN_length L off x i]
attribute [simp] ptN_length
theorem put_any (b off n c : Nat) (T : TypeId) (L : List Int) (x : Int) (w : World) (hb : w.heap[b]? = some (.cells (ints .u8 L) T (0, 0))) (hn : 4 ≤ n) (hl : off + 4 ≤ L.length) :
    Calls Try.prog 98 #[.slice (some ⟨b, off, none⟩) n c, .int .u32 x] w fun e w' => e = .returned (.tuple #[]) ∧ OwnM w [b] w' [(b, ints .u8 (ptN L off x 4), T)] := by
  refine mutE Try.func98 Try.ntmps98 Try.results98 hb ?_
  repeat (first | (refine rgn 0 ?_; refine sEv ?_; refine nlx ?_) | (refine zsq ?_; intro _ _) | (with_reducible refine zkN ?_) | (refine useK (by assumption) ?_) | (with_reducible refine zsB ?_))
  refine SP.loopN (fun k l bs => l = [.slice (some ⟨b, off, none⟩) n c, .int .u32 x, nth l 2, nth l 3, nth l 4, .int .i64 ((k : Nat)), nth l 6, nth l 7, nth l 8, nth l 9, nth l 10, nth l 11, nth l 12, nth l 13, nth l 14, nth l 15, nth l 16] ∧ bs = [(b, ints .u8 (ptN L off x k), T)]) 4 ⟨(by first | rfl | (simp only [ptN_0]; done) | (simp only [ptN_0]; rfl) | (rw [ptN_0]; rfl)), (by first | rfl | (simp only [ptN_0]; done) | (simp only [ptN_0]; rfl) | (rw [ptN_0]; rfl))⟩ ?_
  rintro k lfk _ hkk ⟨hlk, rfl⟩
  refine SP.cast hlk ?_
  clear hlk
  by_cases hltk : k < 4
  · have hk1 : IntKind.i64.wrap ((k : Int) + 1) = ((k + 1 : Nat) : Int) := by rw [IntWalk.i64_in _ (by omega)]; omega
    have f1 : IntKind.i64.wrap (8 * (k : Int)) = 8 * k := IntWalk.i64_in _ (by omega)
    repeat (first | (refine rgn 1 ?_; refine sEv ?_; refine nlx ?_) | (refine rgn 2 ?_; refine sEv ?_; refine sEv ?_; refine nlx ?_) | (refine rgn 3 ?_; (iterate 5 refine sEv ?_); refine SL.sh ?_; refine sEv ?_; refine SL.ixS tabOk ?_; refine SL.stI tabOk ?_; refine nlx ?_) | (refine rgn 4 ?_; refine sEv ?_; refine sEv ?_; refine nlx ?_) | (refine zsq ?_; intro _ _) | (with_reducible refine zkN ?_) | (refine useK (by assumption) ?_) | (with_reducible first | refine zsB ?_ | refine zsS ?_) | ((with_reducible show SP _ _ _ (Code.cond _ _ _) _ _ _); first | (refine cdT ?_)))
    simp only [hk1]
    exact ⟨hltk, (by first | rfl | (simp only [ptN_s]; done) | (simp only [ptN_s]; rfl) | (rw [ptN_s]; rfl)), (by first | rfl | (simp only [ptN_s]; done) | (simp only [ptN_s]; rfl) | (rw [ptN_s]; rfl))⟩
  · have hendk : k = 4 := by omega
    replace hendk := Lib.hid hendk
    repeat (first | (refine rgn 1 ?_; refine sEv ?_; refine nlx ?_) | (refine zsq ?_; intro _ _) | (with_reducible refine zkN ?_) | (refine useK (by assumption) ?_) | (with_reducible first | refine zkX ?_ | refine zbE ?_ | refine zsX ?_) | ((with_reducible show SP _ _ _ (Code.cond _ _ _) _ _ _); first | (refine cdF ?_)))
    have hq := hendk.out; clear hendk; subst hq
    exact doneK.mk rfl ResO.nil ⟨rfl, (by first | exact sub1 | exact subc sub1 | exact subc (subc sub1) | exact subc (subc (subc sub1)) | exact subc (subc (subc (subc sub1))))⟩
@[irreducible] def rot (x k : Int) : Int := bits .or .u32 (IntKind.u32.wrap (x * 2 ^ (min (Int.toNat (bits .and .u64 (IntKind.u64.wrap k) 31)) IntKind.u32.bits))) (x.fdiv (2 ^ (min (Int.toNat (IntKind.u64.wrap (32 - bits .and .u64 (IntKind.u64.wrap k) 31))) IntKind.u32.bits)))
theorem rot_any (x k : Int) (hk : 0 ≤ bits .and .u64 (IntKind.u64.wrap k) 31) (w : World) :
    Calls Try.prog 90 #[.int .u32 x, .int .i64 k] w fun e w' => e = .returned (.int .u32 (rot x k)) ∧ Below w.heap.size w w' := by
  have hk2 : 0 ≤ IntKind.u64.wrap (32 - bits .and .u64 (IntKind.u64.wrap k) 31) := by rw [IntKind.wrap_u64]; omega
  unfold rot
  refine pureE Try.func90 Try.ntmps90 Try.results90 ?_
  repeat (first | (refine rgn 0 ?_; refine sEv ?_; refine nlx ?_) | (refine rgn 1 ?_; (iterate 4 refine sEv ?_); refine nlx ?_) | (refine rgn 2 ?_; refine sEv ?_; refine sEv ?_; refine SL.sh ?_; (iterate 3 refine sEv ?_); refine SL.sh ?_; refine sEv ?_; refine sEv ?_; refine nlx ?_) | (refine zsq ?_; intro _ _) | (with_reducible refine zkN ?_) | (refine useK (by assumption) ?_) | (with_reducible refine zsR ?_))
  refine doneK.mk rfl (ResO.tmp rfl) rfl
@[irreducible] def qadd (V : List Int) (a b : Nat) : List Int := (V).set a (IntKind.u32.wrap (gi (V) a + gi (V) b))
@[irreducible] def qxor (V : List Int) (a b : Nat) (r : Int) : List Int := V.set a (rot (bits .xor .u32 (gi V a) (gi V b)) r)
theorem qadd_length (V : List Int) (a b : Nat) : (qadd V a b).length = V.length := by unfold qadd; simp
theorem qxor_length (V : List Int) (a b : Nat) (r : Int) : (qxor V a b r).length = V.length := by unfold qxor; simp
attribute [simp] qadd_length qxor_length
@[irreducible] def qr (V : List Int) (a b c d : Nat) : List Int := qxor (qadd (qxor (qadd (qxor (qadd (qxor (qadd V a b) d a 16) c d) b c 12) a b) d a 8) c d) b c 7
theorem qr_length (V : List Int) (a b c d : Nat) : (qr V a b c d).length = V.length := by unfold qr; simp
attribute [simp] qr_length
theorem qadd_eq (V : List Int) (a b : Nat) : V.set a (IntKind.u32.wrap (gi V a + gi V b)) = qadd V a b := by unfold qadd; rfl
theorem qxor_eq (V : List Int) (a b : Nat) (r : Int) : V.set a (rot (bits .xor .u32 (gi V a) (gi V b)) r) = qxor V a b r := by unfold qxor; rfl
theorem quarter_any (b ia ib ic id : Nat) (T : TypeId) (V : List Int) (w : World) (hl : V.length = 16) (h0 : ia < 16) (h1 : ib < 16) (h2 : ic < 16) (h3 : id < 16) (hb : w.heap[b]? = some (.cells (ints .u32 V) T (0, 0))) :
    Calls Try.prog 97 #[.pointer (some ⟨b, ia, none⟩), .pointer (some ⟨b, ib, none⟩), .pointer (some ⟨b, ic, none⟩), .pointer (some ⟨b, id, none⟩)] w fun e w' => e = .returned (.tuple #[]) ∧ OwnM w [b] w' [(b, ints .u32 (qr V ia ib ic id), T)] := by
  unfold qr
  refine mutE Try.func97 Try.ntmps97 Try.results97 hb ?_
  repeat (first | ((with_reducible show SP _ _ _ (Code.region _ _ true) _ _ _); first | (refine SPa (id := 0) [8] [] ([]) [0, 1, 2, 3, 4, 5, 6, 7, 8] follows ?_; refine fPv ?_; refine SF.nc ?_; refine SF.ldI tabOk ?_; refine fPv ?_; refine SF.nc ?_; refine SF.ldI tabOk ?_; refine SF.e tabOk ?_; refine SF.nc ?_; refine SF.stI tabOk ?_; refine SF.done ?_)) | (refine zsq ?_; intro _ _) | (with_reducible refine zkN ?_) | (refine useK (by assumption) ?_))
  rw [qadd_eq]
  repeat (first | ((with_reducible show SP _ _ _ (Code.region _ _ true) _ _ _); first | (refine SPa (id := 1) [10] [] ([]) [0, 1, 2, 3, 4, 5, 6, 7, 8, 9, 10] follows ?_; refine fPv ?_; refine fPv ?_; refine SF.nc ?_; refine SF.ldI tabOk ?_; refine fPv ?_; refine SF.nc ?_; refine SF.ldI tabOk ?_; refine SF.e tabOk ?_; refine SF.v (ValO.call ent_90 _ rfl _ (fun w1 _ => rot_any _ _ (by decide +kernel) w1)) ?_; refine SF.nc ?_; refine SF.stI tabOk ?_; refine SF.done ?_)) | (refine zsq ?_; intro _ _) | (with_reducible refine zkN ?_) | (refine useK (by assumption) ?_))
  rw [qxor_eq]
  repeat (first | ((with_reducible show SP _ _ _ (Code.region _ _ true) _ _ _); first | (refine SPa (id := 2) [8] [] ([]) [0, 1, 2, 3, 4, 5, 6, 7, 8] follows ?_; refine fPv ?_; refine SF.nc ?_; refine SF.ldI tabOk ?_; refine fPv ?_; refine SF.nc ?_; refine SF.ldI tabOk ?_; refine SF.e tabOk ?_; refine SF.nc ?_; refine SF.stI tabOk ?_; refine SF.done ?_)) | (refine zsq ?_; intro _ _) | (with_reducible refine zkN ?_) | (refine useK (by assumption) ?_))
  rw [qadd_eq]
  repeat (first | ((with_reducible show SP _ _ _ (Code.region _ _ true) _ _ _); first | (refine SPa (id := 3) [10] [] ([]) [0, 1, 2, 3, 4, 5, 6, 7, 8, 9, 10] follows ?_; refine fPv ?_; refine fPv ?_; refine SF.nc ?_; refine SF.ldI tabOk ?_; refine fPv ?_; refine SF.nc ?_; refine SF.ldI tabOk ?_; refine SF.e tabOk ?_; refine SF.v (ValO.call ent_90 _ rfl _ (fun w1 _ => rot_any _ _ (by decide +kernel) w1)) ?_; refine SF.nc ?_; refine SF.stI tabOk ?_; refine SF.done ?_)) | (refine zsq ?_; intro _ _) | (with_reducible refine zkN ?_) | (refine useK (by assumption) ?_))
  rw [qxor_eq]
  repeat (first | ((with_reducible show SP _ _ _ (Code.region _ _ true) _ _ _); first | (refine SPa (id := 4) [8] [] ([]) [0, 1, 2, 3, 4, 5, 6, 7, 8] follows ?_; refine fPv ?_; refine SF.nc ?_; refine SF.ldI tabOk ?_; refine fPv ?_; refine SF.nc ?_; refine SF.ldI tabOk ?_; refine SF.e tabOk ?_; refine SF.nc ?_; refine SF.stI tabOk ?_; refine SF.done ?_)) | (refine zsq ?_; intro _ _) | (with_reducible refine zkN ?_) | (refine useK (by assumption) ?_))
  rw [qadd_eq]
  repeat (first | ((with_reducible show SP _ _ _ (Code.region _ _ true) _ _ _); first | (refine SPa (id := 5) [10] [] ([]) [0, 1, 2, 3, 4, 5, 6, 7, 8, 9, 10] follows ?_; refine fPv ?_; refine fPv ?_; refine SF.nc ?_; refine SF.ldI tabOk ?_; refine fPv ?_; refine SF.nc ?_; refine SF.ldI tabOk ?_; refine SF.e tabOk ?_; refine SF.v (ValO.call ent_90 _ rfl _ (fun w1 _ => rot_any _ _ (by decide +kernel) w1)) ?_; refine SF.nc ?_; refine SF.stI tabOk ?_; refine SF.done ?_)) | (refine zsq ?_; intro _ _) | (with_reducible refine zkN ?_) | (refine useK (by assumption) ?_))
  rw [qxor_eq]
  repeat (first | ((with_reducible show SP _ _ _ (Code.region _ _ true) _ _ _); first | (refine SPa (id := 6) [8] [] ([]) [0, 1, 2, 3, 4, 5, 6, 7, 8] follows ?_; refine fPv ?_; refine SF.nc ?_; refine SF.ldI tabOk ?_; refine fPv ?_; refine SF.nc ?_; refine SF.ldI tabOk ?_; refine SF.e tabOk ?_; refine SF.nc ?_; refine SF.stI tabOk ?_; refine SF.done ?_)) | (with_reducible refine zkN ?_) | (refine useK (by assumption) ?_))
  rw [qadd_eq]
  repeat (first | ((with_reducible show SP _ _ _ (Code.region _ _ true) _ _ _); first | (refine SPa (id := 7) [10] [] ([]) [0, 1, 2, 3, 4, 5, 6, 7, 8, 9, 10] follows ?_; refine fPv ?_; refine fPv ?_; refine SF.nc ?_; refine SF.ldI tabOk ?_; refine fPv ?_; refine SF.nc ?_; refine SF.ldI tabOk ?_; refine SF.e tabOk ?_; refine SF.v (ValO.call ent_90 _ rfl _ (fun w1 _ => rot_any _ _ (by decide +kernel) w1)) ?_; refine SF.nc ?_; refine SF.stI tabOk ?_; refine SF.done ?_)))
  rw [qxor_eq]
  exact doneK.mk rfl ResO.nil ⟨rfl, (by first | exact sub1 | exact subc sub1 | exact subc (subc sub1) | exact subc (subc (subc sub1)) | exact subc (subc (subc (subc sub1))))⟩
end Sp
end
section
open Go Go.RowKit
namespace Sp
open F M
@[irreducible] def stC : List Int := [1634760805, 857760878, 2036477234, 1797285236, 0, 0, 0, 0, 0, 0, 0, 0, 0, 0, 0, 0]
theorem stC_length : stC.length = 16 := by unfold stC; rfl
attribute [simp] stC_length
def stI' (K : List Int) : Nat → List Int
  | 0 => stC
  | i + 1 => (stI' K i).set (4 + i) (wrdN (K.drop (4 * i)) 4)
@[irreducible] def stI (K : List Int) (i : Nat) : List Int := stI' K i
theorem stI_0 (K : List Int) : stI K 0 = stC := by unfold stI; rfl
theorem stI_s (K : List Int) (i : Nat) : stI K (i + 1) = (stI K i).set (4 + i) (wrdN (K.drop (4 * i)) 4) := by unfold stI; rfl
theorem stI_length (K : List Int) : ∀ i, (stI K i).length = 16
  | 0 => by rw [stI_0]; simp
  | i + 1 => by rw [stI_s]; simp [stI_length K i]
attribute [simp] stI_length
def snI' (B N : List Int) : Nat → List Int
  | 0 => B
  | i + 1 => (snI' B N i).set (13 + i) (wrdN (N.drop (4 * i)) 4)
@[irreducible] def snI (B N : List Int) (i : Nat) : List Int := snI' B N i
theorem snI_0 (B N : List Int) : snI B N 0 = B := by unfold snI; rfl
theorem snI_s (B N : List Int) (i : Nat) : snI B N (i + 1) = (snI B N i).set (13 + i) (wrdN (N.drop (4 * i)) 4) := by unfold snI; rfl
theorem snI_length (B N : List Int) : ∀ i, (snI B N i).length = B.length
  | 0 => by rw [snI_0]
  | i + 1 => by rw [snI_s]; simp [snI_length B N i]
attribute [simp] snI_length
def rdI' (V : List Int) (t : Nat) : Nat → List Int
  | 0 => V
  | i + 1 => qr (rdI' V t i) i (4 + (i + t) % 4) (8 + (i + 2 * t) % 4) (12 + (i + 3 * t) % 4)
@[irreducible] def rdI (V : List Int) (t : Nat) (i : Nat) : List Int := rdI' V t i
theorem rdI_0 (V : List Int) (t : Nat) : rdI V t 0 = V := by unfold rdI; rfl
theorem rdI_s (V : List Int) (t : Nat) (i : Nat) : rdI V t (i + 1) = qr (rdI V t i) i (4 + (i + t) % 4) (8 + (i + 2 * t) % 4) (12 + (i + 3 * t) % 4) := by unfold rdI; rfl
theorem rdI_length (V : List Int) (t : Nat) : ∀ i, (rdI V t i).length = V.length
  | 0 => by rw [rdI_0]
  | i + 1 => by rw [rdI_s]; simp [rdI_length V t i]
attribute [simp] rdI_length
def rdO' (V : List Int) : Nat → List Int
  | 0 => V
  | i + 1 => rdI (rdO' V i) (i % 2) 4
@[irreducible] def rdO (V : List Int) (i : Nat) : List Int := rdO' V i
theorem rdO_0 (V : List Int) : rdO V 0 = V := by unfold rdO; rfl
theorem rdO_s (V : List Int) (i : Nat) : rdO V (i + 1) = rdI (rdO V i) (i % 2) 4 := by unfold rdO; rfl
theorem rdO_length (V : List Int) : ∀ i, (rdO V i).length = V.length
  | 0 => by rw [rdO_0]
  | i + 1 => by rw [rdO_s]; simp [rdO_length V i]
attribute [simp] rdO_length
def ouI' (V S : List Int) : Nat → List Int
  | 0 => List.replicate 64 0
  | i + 1 => ptN (ouI' V S i) (4 * i) (IntKind.u32.wrap (gi V i + gi S i)) 4
@[irreducible] def ouI (V S : List Int) (i : Nat) : List Int := ouI' V S i
theorem ouI_0 (V S : List Int) : ouI V S 0 = List.replicate 64 0 := by unfold ouI; rfl
theorem ouI_s (V S : List Int) (i : Nat) : ouI V S (i + 1) = ptN (ouI V S i) (4 * i) (IntKind.u32.wrap (gi V i + gi S i)) 4 := by unfold ouI; rfl
theorem ouI_length (V S : List Int) : ∀ i, (ouI V S i).length = 64
  | 0 => by rw [ouI_0]; simp
  | i + 1 => by rw [ouI_s]; simp [ouI_length V S i]
attribute [simp] ouI_length
@[irreducible] def chS (K : List Int) (ct : Int) (N : List Int) : List Int := snI ((stI K 8).set 12 ct) N 3
theorem chS_length (K : List Int) (ct : Int) (N : List Int) : (chS K ct N).length = 16 := by unfold chS; simp
attribute [simp] chS_length
@[irreducible] def chB (K : List Int) (ct : Int) (N : List Int) : List Int := ouI (rdO (chS K ct N) 20) (chS K ct N) 16
theorem chB_length (K : List Int) (ct : Int) (N : List Int) : (chB K ct N).length = 64 := by unfold chB; simp
attribute [simp] chB_length
theorem tmod2 (k : Nat) : Int.tmod (k : Int) 2 = ((k % 2 : Nat) : Int) := rfl
theorem tmod4 (k : Nat) : Int.tmod (k : Int) 4 = ((k % 4 : Nat) : Int) := rfl
theorem qix1 (c i k : Nat) (hc : c ≤ 12) (hi : i < 4) : IntKind.i64.wrap ((c : Int) + Int.tmod (IntKind.i64.wrap ((i : Int) + Int.tmod (k : Int) 2)) 4) = ((c + (i + k % 2) % 4 : Nat) : Int) := by
  rw [tmod2, IntWalk.i64_in ((i : Int) + ((k % 2 : Nat) : Int)) (by omega), show ((i : Int) + ((k % 2 : Nat) : Int)) = ((i + k % 2 : Nat) : Int) by omega, tmod4, IntWalk.i64_in _ (by omega)]
  omega
theorem qixm (c m i k : Nat) (hc : c ≤ 12) (hm : m ≤ 3) (hi : i < 4) : IntKind.i64.wrap ((c : Int) + Int.tmod (IntKind.i64.wrap ((i : Int) + IntKind.i64.wrap ((m : Int) * Int.tmod (k : Int) 2))) 4) = ((c + (i + m * (k % 2)) % 4 : Nat) : Int) := by
  have hmk : m * (k % 2) ≤ 3 := by
    rcases Nat.mod_two_eq_zero_or_one k with h | h <;> rw [h] <;> omega
  rw [tmod2, show (m : Int) * ((k % 2 : Nat) : Int) = ((m * (k % 2) : Nat) : Int) by rw [Int.natCast_mul], IntWalk.i64_in (((m * (k % 2) : Nat)) : Int) (by omega), IntWalk.i64_in ((i : Int) + ((m * (k % 2) : Nat) : Int)) (by omega), show ((i : Int) + ((m * (k % 2) : Nat) : Int)) = ((i + m * (k % 2) : Nat) : Int) by omega, tmod4, IntWalk.i64_in _ (by omega)]
  omega
theorem block_any (K : List Int) (ct : Int) (N : List Int) (hK : K.length = 32) (hN : N.length = 12) (w : World) :
    Calls Try.prog 92 #[.agg (ints .u8 K), .int .u32 ct, .agg (ints .u8 N)] w fun e w' => e = .returned (.agg (ints .u8 (chB K ct N))) ∧ Below w.heap.size w w' := by
  have tok_kb : True := trivial
  have tok_nb : True := trivial
  have tok_ob : True := trivial
  have tok_sb : True := trivial
  have tok_vb : True := trivial
  refine pureE Try.func92 Try.ntmps92 Try.results92 ?_
  repeat (first | (refine rgn 0 ?_; refine SL.bx ?_; (first | (have _t := tok_kb; clear _t tok_kb; intro kb) | (have _t := tok_nb; clear _t tok_nb; intro nb) | (have _t := tok_ob; clear _t tok_ob; intro ob) | (have _t := tok_sb; clear _t tok_sb; intro sb) | (have _t := tok_vb; clear _t tok_vb; intro vb) | intro _); refine SL.bx ?_; (first | (have _t := tok_kb; clear _t tok_kb; intro kb) | (have _t := tok_nb; clear _t tok_nb; intro nb) | (have _t := tok_ob; clear _t tok_ob; intro ob) | (have _t := tok_sb; clear _t tok_sb; intro sb) | (have _t := tok_vb; clear _t tok_vb; intro vb) | intro _); refine SL.al zero_118 ?_; (first | (have _t := tok_kb; clear _t tok_kb; intro kb) | (have _t := tok_nb; clear _t tok_nb; intro nb) | (have _t := tok_ob; clear _t tok_ob; intro ob) | (have _t := tok_sb; clear _t tok_sb; intro sb) | (have _t := tok_vb; clear _t tok_vb; intro vb) | intro _); refine nlx ?_) | (refine rgn 1 ?_; refine SL.al zero_128 ?_; (first | (have _t := tok_kb; clear _t tok_kb; intro kb) | (have _t := tok_nb; clear _t tok_nb; intro nb) | (have _t := tok_ob; clear _t tok_ob; intro ob) | (have _t := tok_sb; clear _t tok_sb; intro sb) | (have _t := tok_vb; clear _t tok_vb; intro vb) | intro _); refine nlx ?_) | (refine rgn 2 ?_; refine sEv ?_; refine SL.stI tabOk ?_; refine sEv ?_; refine SL.stI tabOk ?_; refine sEv ?_; refine SL.stI tabOk ?_; refine sEv ?_; refine SL.stI tabOk ?_; refine nlx ?_) | (refine rgn 3 ?_; refine sEv ?_; refine nlx ?_) | (refine zsq ?_; intro _ _) | (with_reducible refine zkN ?_) | (refine useK (by assumption) ?_) | (with_reducible refine zsB ?_))
  rw [show (((((List.replicate 16 (0 : Int)).set 0 1634760805).set 1 857760878).set 2 2036477234).set 3 1797285236) = stC by unfold stC; rfl]
  refine SP.loopN (fun k l bs => l = [nth l 0, .int .u32 ct, nth l 2, .pointer (some ⟨kb, 0, none⟩), nth l 4, .pointer (some ⟨nb, 0, none⟩), .pointer (some ⟨ob, 0, none⟩), .pointer (some ⟨sb, 0, none⟩), nth l 8, nth l 9, nth l 10, nth l 11, nth l 12, nth l 13, nth l 14, nth l 15, nth l 16, nth l 17, nth l 18, nth l 19, .int .i64 ((k : Nat)), nth l 21, nth l 22, nth l 23, nth l 24, nth l 25, nth l 26, nth l 27, nth l 28, nth l 29, nth l 30, nth l 31, nth l 32, nth l 33, nth l 34, nth l 35, nth l 36, nth l 37, nth l 38, nth l 39, nth l 40, nth l 41, nth l 42, nth l 43, nth l 44, nth l 45, nth l 46, nth l 47, nth l 48, nth l 49, nth l 50, nth l 51, nth l 52, nth l 53, nth l 54, nth l 55, nth l 56, nth l 57, nth l 58, nth l 59, nth l 60, nth l 61, nth l 62, nth l 63, nth l 64, nth l 65, nth l 66, nth l 67, nth l 68, nth l 69, nth l 70, nth l 71, nth l 72, nth l 73, nth l 74, nth l 75, nth l 76, nth l 77, nth l 78, nth l 79, nth l 80, nth l 81, nth l 82, nth l 83, nth l 84, nth l 85, nth l 86, nth l 87, nth l 88, nth l 89, nth l 90, nth l 91, nth l 92, nth l 93] ∧ bs = [(sb, ints .u32 (stI K k), 128), (ob, ints .u8 (List.replicate 64 0), 118), (nb, ints .u8 N, 138), (kb, ints .u8 K, 23)]) 8 ⟨(by first | rfl | (simp only [stI_0]; done) | (simp only [stI_0]; rfl) | (rw [stI_0]; rfl)), (by first | rfl | (simp only [stI_0]; done) | (simp only [stI_0]; rfl) | (rw [stI_0]; rfl))⟩ ?_
  rintro k lfk _ hkk ⟨hlk, rfl⟩
  refine SP.cast hlk ?_
  clear hlk
  by_cases hltk : k < 8
  · have hk1 : IntKind.i64.wrap ((k : Int) + 1) = ((k + 1 : Nat) : Int) := by rw [IntWalk.i64_in _ (by omega)]; omega
    have f4 : IntKind.i64.wrap (4 * (k : Int)) = ((4 * k : Nat) : Int) := by rw [IntWalk.i64_in _ (by omega)]; omega
    have fc : IntKind.i64.wrap (4 + (k : Int)) = ((4 + k : Nat) : Int) := by rw [IntWalk.i64_in _ (by omega)]; omega
    repeat (first | (refine rgn 4 ?_; refine sEv ?_; refine nlx ?_) | (refine rgn 5 ?_; refine sEv ?_; refine sEv ?_; refine nlx ?_) | (refine rgn 6 ?_; (iterate 4 refine sEv ?_); refine SL.ctA tabOk (4 * k) 32 ?_ (hlo := by exact f4); refine SL.v (ValO.call ent_96 _ rfl _ (fun w1 hw1 => word_any kb (4 * k) (32 - 4 * k) (32 - 4 * k) _ _ _ (K.drop (4 * k)) w1 (hbk hw1 kb) (fun j hj => ints_drop (by omega)) (by omega) (by omega))) ?_; refine SL.ixA tabOk ?_ (hm := by first | (simp only [f4, fc, Nat.zero_add, Nat.mul_one, Nat.one_mul, Int.toNat_natCast]; done) | (simp only [f4, fc, Nat.zero_add, Nat.mul_one, Nat.one_mul, Int.toNat_natCast]; rfl) | rfl); refine SL.stI tabOk ?_; refine nlx ?_) | (refine rgn 7 ?_; refine sEv ?_; refine sEv ?_; refine nlx ?_) | (refine zsq ?_; intro _ _) | (with_reducible refine zkN ?_) | (refine useK (by assumption) ?_) | (with_reducible first | refine zsB ?_ | refine zsS ?_) | ((with_reducible show SP _ _ _ (Code.cond _ _ _) _ _ _); first | (refine cdT ?_)))
    simp only [hk1]
    exact ⟨hltk, (by first | rfl | (simp only [stI_s]; done) | (simp only [stI_s]; rfl) | (rw [stI_s]; rfl)), (by first | rfl | (simp only [stI_s]; done) | (simp only [stI_s]; rfl) | (rw [stI_s]; rfl))⟩
  · have hendk : k = 8 := by omega
    replace hendk := Lib.hid hendk
    repeat (first | (refine rgn 4 ?_; refine sEv ?_; refine nlx ?_) | (refine zsq ?_; intro _ _) | (with_reducible refine zkN ?_) | (refine useK (by assumption) ?_) | (with_reducible refine zsX ?_) | ((with_reducible show SP _ _ _ (Code.cond _ _ _) _ _ _); first | (refine cdF ?_)))
    have hq := hendk.out; clear hendk; subst hq
    repeat (first | (refine rgn 8 ?_; refine sEv ?_; refine sEv ?_; refine SL.stI tabOk ?_; refine nlx ?_) | (refine rgn 9 ?_; refine sEv ?_; refine nlx ?_) | (refine zsq ?_; intro _ _) | (with_reducible refine zkN ?_) | (refine useK (by assumption) ?_) | (with_reducible refine zsB ?_))
    refine SP.loopN (fun k l bs => l = [nth l 0, .int .u32 ct, nth l 2, .pointer (some ⟨kb, 0, none⟩), nth l 4, .pointer (some ⟨nb, 0, none⟩), .pointer (some ⟨ob, 0, none⟩), .pointer (some ⟨sb, 0, none⟩), nth l 8, nth l 9, nth l 10, nth l 11, nth l 12, nth l 13, nth l 14, nth l 15, nth l 16, nth l 17, nth l 18, nth l 19, nth l 20, nth l 21, nth l 22, nth l 23, nth l 24, nth l 25, nth l 26, nth l 27, nth l 28, nth l 29, nth l 30, nth l 31, nth l 32, .int .i64 ((k : Nat)), nth l 34, nth l 35, nth l 36, nth l 37, nth l 38, nth l 39, nth l 40, nth l 41, nth l 42, nth l 43, nth l 44, nth l 45, nth l 46, nth l 47, nth l 48, nth l 49, nth l 50, nth l 51, nth l 52, nth l 53, nth l 54, nth l 55, nth l 56, nth l 57, nth l 58, nth l 59, nth l 60, nth l 61, nth l 62, nth l 63, nth l 64, nth l 65, nth l 66, nth l 67, nth l 68, nth l 69, nth l 70, nth l 71, nth l 72, nth l 73, nth l 74, nth l 75, nth l 76, nth l 77, nth l 78, nth l 79, nth l 80, nth l 81, nth l 82, nth l 83, nth l 84, nth l 85, nth l 86, nth l 87, nth l 88, nth l 89, nth l 90, nth l 91, nth l 92, nth l 93] ∧ bs = [(sb, ints .u32 (snI ((stI K 8).set 12 ct) N k), 128), (ob, ints .u8 (List.replicate 64 0), 118), (nb, ints .u8 N, 138), (kb, ints .u8 K, 23)]) 3 ⟨(by first | rfl | (simp only [snI_0]; done) | (simp only [snI_0]; rfl) | (rw [snI_0]; rfl)), (by first | rfl | (simp only [snI_0]; done) | (simp only [snI_0]; rfl) | (rw [snI_0]; rfl))⟩ ?_
    rintro k lfk _ hkk ⟨hlk, rfl⟩
    refine SP.cast hlk ?_
    clear hlk
    by_cases hltk : k < 3
    · have hk1 : IntKind.i64.wrap ((k : Int) + 1) = ((k + 1 : Nat) : Int) := by rw [IntWalk.i64_in _ (by omega)]; omega
      have f4 : IntKind.i64.wrap (4 * (k : Int)) = ((4 * k : Nat) : Int) := by rw [IntWalk.i64_in _ (by omega)]; omega
      have fc : IntKind.i64.wrap (13 + (k : Int)) = ((13 + k : Nat) : Int) := by rw [IntWalk.i64_in _ (by omega)]; omega
      repeat (first | (refine rgn 10 ?_; refine sEv ?_; refine nlx ?_) | (refine rgn 11 ?_; refine sEv ?_; refine sEv ?_; refine nlx ?_) | (refine rgn 12 ?_; (iterate 4 refine sEv ?_); refine SL.ctA tabOk (4 * k) 12 ?_ (hlo := by exact f4); refine SL.v (ValO.call ent_96 _ rfl _ (fun w1 hw1 => word_any nb (4 * k) (12 - 4 * k) (12 - 4 * k) _ _ _ (N.drop (4 * k)) w1 (hbk hw1 nb) (fun j hj => ints_drop (by omega)) (by omega) (by omega))) ?_; refine SL.ixA tabOk ?_ (hm := by first | (simp only [f4, fc, Nat.zero_add, Nat.mul_one, Nat.one_mul, Int.toNat_natCast]; done) | (simp only [f4, fc, Nat.zero_add, Nat.mul_one, Nat.one_mul, Int.toNat_natCast]; rfl) | rfl); refine SL.stI tabOk ?_; refine nlx ?_) | (refine rgn 13 ?_; refine sEv ?_; refine sEv ?_; refine nlx ?_) | (refine zsq ?_; intro _ _) | (with_reducible refine zkN ?_) | (refine useK (by assumption) ?_) | (with_reducible first | refine zsB ?_ | refine zsS ?_) | ((with_reducible show SP _ _ _ (Code.cond _ _ _) _ _ _); first | (refine cdT ?_)))
      simp only [hk1]
      exact ⟨hltk, (by first | rfl | (simp only [snI_s]; done) | (simp only [snI_s]; rfl) | (rw [snI_s]; rfl)), (by first | rfl | (simp only [snI_s]; done) | (simp only [snI_s]; rfl) | (rw [snI_s]; rfl))⟩
    · have hendk : k = 3 := by omega
      replace hendk := Lib.hid hendk
      repeat (first | (refine rgn 10 ?_; refine sEv ?_; refine nlx ?_) | (refine zsq ?_; intro _ _) | (with_reducible refine zkN ?_) | (refine useK (by assumption) ?_) | (with_reducible refine zsX ?_) | ((with_reducible show SP _ _ _ (Code.cond _ _ _) _ _ _); first | (refine cdF ?_)))
      have hq := hendk.out; clear hendk; subst hq
      rw [show snI ((stI K 8).set 12 ct) N 3 = (chS K ct N) by unfold chS; rfl]
      repeat (first | (refine rgn 14 ?_; refine SL.ldR tabOk ?_; refine SL.al zero_128 ?_; (first | (have _t := tok_kb; clear _t tok_kb; intro kb) | (have _t := tok_nb; clear _t tok_nb; intro nb) | (have _t := tok_ob; clear _t tok_ob; intro ob) | (have _t := tok_sb; clear _t tok_sb; intro sb) | (have _t := tok_vb; clear _t tok_vb; intro vb) | intro _); refine SL.stR tabOk ?_; refine nlx ?_) | (refine rgn 15 ?_; refine sEv ?_; refine nlx ?_) | (refine zsq ?_; intro _ _) | (with_reducible refine zkN ?_) | (refine useK (by assumption) ?_) | (with_reducible refine zsB ?_))
      refine SP.loopN (fun k l bs => l = [nth l 0, .int .u32 ct, nth l 2, .pointer (some ⟨kb, 0, none⟩), nth l 4, .pointer (some ⟨nb, 0, none⟩), .pointer (some ⟨ob, 0, none⟩), .pointer (some ⟨sb, 0, none⟩), nth l 8, nth l 9, .pointer (some ⟨vb, 0, none⟩), nth l 11, nth l 12, nth l 13, nth l 14, nth l 15, nth l 16, nth l 17, nth l 18, nth l 19, nth l 20, nth l 21, nth l 22, nth l 23, nth l 24, nth l 25, nth l 26, nth l 27, nth l 28, nth l 29, nth l 30, nth l 31, nth l 32, nth l 33, nth l 34, nth l 35, nth l 36, nth l 37, nth l 38, nth l 39, nth l 40, nth l 41, nth l 42, nth l 43, nth l 44, .int .i64 ((k : Nat)), nth l 46, nth l 47, nth l 48, nth l 49, nth l 50, nth l 51, nth l 52, nth l 53, nth l 54, nth l 55, nth l 56, nth l 57, nth l 58, nth l 59, nth l 60, nth l 61, nth l 62, nth l 63, nth l 64, nth l 65, nth l 66, nth l 67, nth l 68, nth l 69, nth l 70, nth l 71, nth l 72, nth l 73, nth l 74, nth l 75, nth l 76, nth l 77, nth l 78, nth l 79, nth l 80, nth l 81, nth l 82, nth l 83, nth l 84, nth l 85, nth l 86, nth l 87, nth l 88, nth l 89, nth l 90, nth l 91, nth l 92, nth l 93] ∧ bs = [(vb, ints .u32 (rdO (chS K ct N) k), 128), (sb, ints .u32 (chS K ct N), 128), (ob, ints .u8 (List.replicate 64 0), 118), (nb, ints .u8 N, 138), (kb, ints .u8 K, 23)]) 20 ⟨(by first | rfl | (simp only [rdO_0]; done) | (simp only [rdO_0]; rfl) | (rw [rdO_0]; rfl)), (by first | rfl | (simp only [rdO_0]; done) | (simp only [rdO_0]; rfl) | (rw [rdO_0]; rfl))⟩ ?_
      rintro k lfk _ hkk ⟨hlk, rfl⟩
      refine SP.cast hlk ?_
      clear hlk
      by_cases hltk : k < 20
      · have hk1 : IntKind.i64.wrap ((k : Int) + 1) = ((k + 1 : Nat) : Int) := by rw [IntWalk.i64_in _ (by omega)]; omega
        repeat (first | (refine rgn 16 ?_; refine sEv ?_; refine nlx ?_) | (refine rgn 17 ?_; refine sEv ?_; refine sEv ?_; refine nlx ?_) | (refine rgn 18 ?_; (iterate 3 refine sEv ?_); refine nlx ?_) | (refine rgn 19 ?_; refine sEv ?_; refine nlx ?_) | (refine zsq ?_; intro _ _) | (with_reducible refine zkN ?_) | (refine useK (by assumption) ?_) | (with_reducible first | refine zsB ?_ | refine zsS ?_) | ((with_reducible show SP _ _ _ (Code.cond _ _ _) _ _ _); first | (refine cdT ?_)))
        refine SP.loopN (fun i l bs => l = [nth l 0, .int .u32 ct, nth l 2, .pointer (some ⟨kb, 0, none⟩), nth l 4, .pointer (some ⟨nb, 0, none⟩), .pointer (some ⟨ob, 0, none⟩), .pointer (some ⟨sb, 0, none⟩), nth l 8, nth l 9, .pointer (some ⟨vb, 0, none⟩), nth l 11, .int .i64 (Int.tmod (k : Int) 2), nth l 13, nth l 14, nth l 15, nth l 16, nth l 17, nth l 18, nth l 19, nth l 20, nth l 21, nth l 22, nth l 23, nth l 24, nth l 25, nth l 26, nth l 27, nth l 28, nth l 29, nth l 30, nth l 31, nth l 32, nth l 33, nth l 34, nth l 35, nth l 36, nth l 37, nth l 38, nth l 39, nth l 40, nth l 41, nth l 42, nth l 43, nth l 44, .int .i64 ((k : Nat)), nth l 46, nth l 47, nth l 48, nth l 49, .int .i64 ((i : Nat)), nth l 51, nth l 52, nth l 53, nth l 54, nth l 55, nth l 56, nth l 57, nth l 58, nth l 59, nth l 60, nth l 61, nth l 62, nth l 63, nth l 64, nth l 65, nth l 66, nth l 67, nth l 68, nth l 69, nth l 70, nth l 71, nth l 72, nth l 73, nth l 74, nth l 75, nth l 76, nth l 77, nth l 78, nth l 79, nth l 80, nth l 81, nth l 82, nth l 83, nth l 84, nth l 85, nth l 86, nth l 87, nth l 88, nth l 89, nth l 90, nth l 91, nth l 92, nth l 93] ∧ bs = [(vb, ints .u32 (rdI (rdO (chS K ct N) k) (k % 2) i), 128), (sb, ints .u32 (chS K ct N), 128), (ob, ints .u8 (List.replicate 64 0), 118), (nb, ints .u8 N, 138), (kb, ints .u8 K, 23)]) 4 ⟨(by first | rfl | (simp only [rdI_0]; done) | (simp only [rdI_0]; rfl) | (rw [rdI_0]; rfl)), (by first | rfl | (simp only [rdI_0]; done) | (simp only [rdI_0]; rfl) | (rw [rdI_0]; rfl))⟩ ?_
        rintro i lfi _ hki ⟨hli, rfl⟩
        refine SP.cast hli ?_
        clear hli
        by_cases hlti : i < 4
        · have hi1 : IntKind.i64.wrap ((i : Int) + 1) = ((i + 1 : Nat) : Int) := by rw [IntWalk.i64_in _ (by omega)]; omega
          have F1 := qix1 4 i k (by omega) hlti
          have F2 := qixm 8 2 i k (by omega) (by omega) hlti
          have F3 := qixm 12 3 i k (by omega) (by omega) hlti
          rw [show ((4 : Nat) : Int) = 4 from rfl] at F1
          rw [show ((8 : Nat) : Int) = 8 from rfl, show ((2 : Nat) : Int) = 2 from rfl] at F2
          rw [show ((12 : Nat) : Int) = 12 from rfl, show ((3 : Nat) : Int) = 3 from rfl] at F3
          repeat (first | (refine rgn 20 ?_; refine sEv ?_; refine nlx ?_) | (refine rgn 21 ?_; refine sEv ?_; refine sEv ?_; refine nlx ?_) | (refine rgn 23 ?_; refine sEv ?_; refine sEv ?_; refine nlx ?_) | ((with_reducible show SP _ _ _ (Code.region _ _ true) _ _ _); first | (refine SPa (id := 22) [22] [] ([]) [0, 1, 2, 3, 4, 5, 6, 7, 8, 9, 10, 11, 12, 13, 14, 15, 16, 17, 18, 19, 20, 21, 22] follows ?_; refine fPv ?_; refine SF.ixA tabOk ?_ (hm := by first | (simp only [F1, F2, F3, Nat.zero_add, Nat.mul_one, Nat.one_mul, Int.toNat_natCast]; done) | (simp only [F1, F2, F3, Nat.zero_add, Nat.mul_one, Nat.one_mul, Int.toNat_natCast]; rfl) | rfl); refine fPv ?_; refine fPv ?_; refine SF.e tabOk ?_; refine SF.e tabOk ?_; refine SF.e tabOk ?_; refine SF.ixA tabOk ?_ (hm := by first | (simp only [F1, F2, F3, Nat.zero_add, Nat.mul_one, Nat.one_mul, Int.toNat_natCast]; done) | (simp only [F1, F2, F3, Nat.zero_add, Nat.mul_one, Nat.one_mul, Int.toNat_natCast]; rfl) | rfl); refine fPv ?_; refine fPv ?_; refine SF.e tabOk ?_; refine SF.e tabOk ?_; refine SF.e tabOk ?_; refine SF.e tabOk ?_; refine SF.ixA tabOk ?_ (hm := by first | (simp only [F1, F2, F3, Nat.zero_add, Nat.mul_one, Nat.one_mul, Int.toNat_natCast]; done) | (simp only [F1, F2, F3, Nat.zero_add, Nat.mul_one, Nat.one_mul, Int.toNat_natCast]; rfl) | rfl); refine fPv ?_; refine fPv ?_; refine SF.e tabOk ?_; refine SF.e tabOk ?_; refine SF.e tabOk ?_; refine SF.e tabOk ?_; refine SF.ixA tabOk ?_ (hm := by first | (simp only [F1, F2, F3, Nat.zero_add, Nat.mul_one, Nat.one_mul, Int.toNat_natCast]; done) | (simp only [F1, F2, F3, Nat.zero_add, Nat.mul_one, Nat.one_mul, Int.toNat_natCast]; rfl) | rfl); refine SF.call1 rfl (b := vb) ent_97 rfl (gbk _) (fun w1 hw1 => quarter_any vb i (4 + (i + k % 2) % 4) (8 + (i + 2 * (k % 2)) % 4) (12 + (i + 3 * (k % 2)) % 4) _ (rdI (rdO (chS K ct N) k) (k % 2) i) w1 (by simp) (by omega) (by omega) (by omega) (by omega) (hbk hw1 vb)) stt (by first | exact Kept.nil | (simp [Kept]; done)) bpp ?_; refine SF.done ?_)) | (refine zsq ?_; intro _ _) | (with_reducible refine zkN ?_) | (refine useK (by assumption) ?_) | (with_reducible first | refine zsB ?_ | refine zsS ?_) | ((with_reducible show SP _ _ _ (Code.cond _ _ _) _ _ _); first | (refine cdT ?_)))
          simp only [hi1]
          exact ⟨hlti, (by first | rfl | (simp only [rdI_s]; done) | (simp only [rdI_s]; rfl) | (rw [rdI_s]; rfl)), (by first | rfl | (simp only [rdI_s]; done) | (simp only [rdI_s]; rfl) | (rw [rdI_s]; rfl))⟩
        · have hendi : i = 4 := by omega
          replace hendi := Lib.hid hendi
          repeat (first | (refine rgn 20 ?_; refine sEv ?_; refine nlx ?_) | (refine zsq ?_; intro _ _) | (with_reducible refine zkN ?_) | (refine useK (by assumption) ?_) | (with_reducible refine zsX ?_) | ((with_reducible show SP _ _ _ (Code.cond _ _ _) _ _ _); first | (refine cdF ?_)))
          have hq := hendi.out; clear hendi; subst hq
          repeat (first | (refine rgn 24 ?_; refine sEv ?_; refine sEv ?_; refine nlx ?_) | (with_reducible refine zkN ?_))
          simp only [hk1]
          exact ⟨hltk, (by first | rfl | (simp only [rdO_s]; done) | (simp only [rdO_s]; rfl) | (rw [rdO_s]; rfl)), (by first | rfl | (simp only [rdO_s]; done) | (simp only [rdO_s]; rfl) | (rw [rdO_s]; rfl))⟩
      · have hendk : k = 20 := by omega
        replace hendk := Lib.hid hendk
        repeat (first | (refine rgn 16 ?_; refine sEv ?_; refine nlx ?_) | (refine zsq ?_; intro _ _) | (with_reducible refine zkN ?_) | (refine useK (by assumption) ?_) | (with_reducible refine zsX ?_) | ((with_reducible show SP _ _ _ (Code.cond _ _ _) _ _ _); first | (refine cdF ?_)))
        have hq := hendk.out; clear hendk; subst hq
        repeat (first | (refine rgn 25 ?_; refine SL.ldR tabOk ?_; refine sEv ?_; refine nlx ?_) | (with_reducible refine zkN ?_) | (refine useK (by assumption) ?_) | (with_reducible refine zsB ?_))
        refine SP.loopN (fun k l bs => l = [nth l 0, .int .u32 ct, nth l 2, .pointer (some ⟨kb, 0, none⟩), nth l 4, .pointer (some ⟨nb, 0, none⟩), .pointer (some ⟨ob, 0, none⟩), .pointer (some ⟨sb, 0, none⟩), nth l 8, nth l 9, .pointer (some ⟨vb, 0, none⟩), nth l 11, nth l 12, nth l 13, nth l 14, nth l 15, nth l 16, nth l 17, nth l 18, nth l 19, nth l 20, nth l 21, nth l 22, nth l 23, nth l 24, nth l 25, nth l 26, nth l 27, nth l 28, nth l 29, nth l 30, nth l 31, nth l 32, nth l 33, nth l 34, nth l 35, nth l 36, nth l 37, nth l 38, nth l 39, nth l 40, nth l 41, nth l 42, nth l 43, nth l 44, nth l 45, nth l 46, nth l 47, nth l 48, nth l 49, nth l 50, nth l 51, nth l 52, nth l 53, nth l 54, nth l 55, nth l 56, nth l 57, nth l 58, nth l 59, nth l 60, nth l 61, nth l 62, nth l 63, nth l 64, nth l 65, nth l 66, nth l 67, nth l 68, nth l 69, nth l 70, nth l 71, nth l 72, nth l 73, nth l 74, nth l 75, nth l 76, nth l 77, .agg (ints .u32 (rdO (chS K ct N) 20)), .int .i64 ((k : Nat)), nth l 80, nth l 81, nth l 82, nth l 83, nth l 84, nth l 85, nth l 86, nth l 87, nth l 88, nth l 89, nth l 90, nth l 91, nth l 92, nth l 93] ∧ bs = [(vb, ints .u32 (rdO (chS K ct N) 20), 128), (sb, ints .u32 (chS K ct N), 128), (ob, ints .u8 (ouI (rdO (chS K ct N) 20) (chS K ct N) k), 118), (nb, ints .u8 N, 138), (kb, ints .u8 K, 23)]) 16 ⟨(by first | rfl | (simp only [ouI_0]; done) | (simp only [ouI_0]; rfl) | (rw [ouI_0]; rfl)), (by first | rfl | (simp only [ouI_0]; done) | (simp only [ouI_0]; rfl) | (rw [ouI_0]; rfl))⟩ ?_
        rintro k lfk _ hkk ⟨hlk, rfl⟩
        refine SP.cast hlk ?_
        clear hlk
        by_cases hltk : k < 16
        · have hk1 : IntKind.i64.wrap ((k : Int) + 1) = ((k + 1 : Nat) : Int) := by rw [IntWalk.i64_in _ (by omega)]; omega
          have f4 : IntKind.i64.wrap (4 * (k : Int)) = ((4 * k : Nat) : Int) := by rw [IntWalk.i64_in _ (by omega)]; omega
          repeat (first | (refine rgn 26 ?_; refine sEv ?_; refine nlx ?_) | (refine rgn 27 ?_; refine sEv ?_; refine SL.ix tabOk ?_; refine sEv ?_; refine sEv ?_; refine nlx ?_) | (refine rgn 29 ?_; refine sEv ?_; refine sEv ?_; refine nlx ?_) | ((with_reducible show SP _ _ _ (Code.region _ _ true) _ _ _); first | (refine SPa (id := 28) [8] [] ([]) [0, 1, 2, 3, 4, 5, 6, 7, 8] follows ?_; refine fPv ?_; refine SF.e tabOk ?_; refine SF.ctA tabOk (4 * k) 64 ?_ (hlo := by exact f4); refine fPv ?_; refine fPv ?_; refine SF.ixA tabOk ?_ (hm := by first | (simp only [f4, Nat.zero_add, Nat.mul_one, Nat.one_mul, Int.toNat_natCast]; done) | (simp only [f4, Nat.zero_add, Nat.mul_one, Nat.one_mul, Int.toNat_natCast]; rfl) | rfl); refine SF.ldI tabOk ?_; refine SF.e tabOk ?_; refine SF.call1 rfl (b := ob) ent_98 rfl (gbk _) (fun w1 hw1 => put_any ob (4 * k) (64 - 4 * k) (64 - 4 * k) _ _ _ w1 (hbk hw1 ob) (by omega) (by simp; omega)) stt (by first | exact Kept.nil | (simp [Kept]; done)) bpp ?_; refine SF.done ?_)) | (refine zsq ?_; intro _ _) | (with_reducible refine zkN ?_) | (refine useK (by assumption) ?_) | (with_reducible first | refine zsB ?_ | refine zsS ?_) | ((with_reducible show SP _ _ _ (Code.cond _ _ _) _ _ _); first | (refine cdT ?_)))
          simp only [hk1]
          exact ⟨hltk, (by first | rfl | (simp only [ouI_s]; done) | (simp only [ouI_s]; rfl) | (rw [ouI_s]; rfl)), (by first | rfl | (simp only [ouI_s]; done) | (simp only [ouI_s]; rfl) | (rw [ouI_s]; rfl))⟩
        · have hendk : k = 16 := by omega
          replace hendk := Lib.hid hendk
          repeat (first | (refine rgn 26 ?_; refine sEv ?_; refine nlx ?_) | (refine zsq ?_; intro _ _) | (with_reducible refine zkN ?_) | (refine useK (by assumption) ?_) | (with_reducible refine zsX ?_) | ((with_reducible show SP _ _ _ (Code.cond _ _ _) _ _ _); first | (refine cdF ?_)))
          have hq := hendk.out; clear hendk; subst hq
          repeat (first | (refine rgn 30 ?_; refine SL.ldR tabOk ?_; refine SL.stR tabOk ?_; refine nlx ?_) | (with_reducible refine zkN ?_) | (refine useK (by assumption) ?_) | (with_reducible refine zsR ?_))
          exact doneK.mk rfl (ResO.cell tabOk rfl rfl rfl (by first | exact RdA.own g0 | exact RdA.own g1 | exact RdA.own g2 | exact RdA.own g3 | exact RdA.own g4 | exact RdA.own g5 | exact RdA.own g6 | exact RdA.own g7 | exact RdA.own g8 | exact RdA.own g9 | exact RdA.own g10 | exact RdA.own g11 | exact RdA.own g12 | exact RdA.own g13 | exact RdA.own g14 | exact RdA.own g15) (by first | (simp [ints_size]; done) | (simp [ints_size]; omega))) (by unfold chB; rfl)
end Sp
end
section
open Go Go.RowKit
namespace Sp
open F M
@[irreducible] def strm (K : List Int) (ct : Int) (N : List Int) (j : Nat) : Int := gi (chB K (ct + ((j / 64 : Nat) : Int)) N) (j % 64)
theorem strm_at (K : List Int) (ct : Int) (N : List Int) (k i : Nat) (hi : i < 64) : strm K ct N (64 * k + i) = gi (chB K (ct + (k : Int)) N) i := by
  unfold strm
  rw [show (64 * k + i) / 64 = k by omega, show (64 * k + i) % 64 = i by omega]
@[irreducible] def xo (K : List Int) (ct : Int) (N B : List Int) : List Int := B.mapIdx fun j x => bits .xor .u8 x (strm K ct N j)
theorem xo_length (K : List Int) (ct : Int) (N B : List Int) : (xo K ct N B).length = B.length := by unfold xo; simp
attribute [simp] xo_length
theorem xo_get (K : List Int) (ct : Int) (N B : List Int) (j : Nat) (hj : j < B.length) : (xo K ct N B)[j]? = some (bits .xor .u8 (gi B j) (strm K ct N j)) := by
  unfold xo gi
  rw [List.getElem?_mapIdx, List.getElem?_eq_getElem hj]
  simp [hj]
theorem gi_xo (K : List Int) (ct : Int) (N B : List Int) (j : Nat) (hj : j < B.length) : gi (xo K ct N B) j = bits .xor .u8 (gi B j) (strm K ct N j) := by
  rw [gi, List.getD_eq_getElem?_getD, xo_get _ _ _ _ _ hj]
  rfl
@[irreducible] def xoP (K : List Int) (ct : Int) (N B : List Int) (m : Nat) : List Int := (xo K ct N B).take m ++ List.replicate (B.length - m) 0
theorem xoP_0 (K : List Int) (ct : Int) (N B : List Int) : xoP K ct N B 0 = List.replicate B.length 0 := by unfold xoP; simp
theorem xoP_all (K : List Int) (ct : Int) (N B : List Int) : xoP K ct N B B.length = xo K ct N B := by
  unfold xoP
  rw [List.take_of_length_le (by simp), Nat.sub_self, List.replicate_zero, List.append_nil]
theorem xoP_length (K : List Int) (ct : Int) (N B : List Int) (m : Nat) (hm : m ≤ B.length) : (xoP K ct N B m).length = B.length := by unfold xoP; simp; omega
theorem set_take {L : List Int} {n m : Nat} {v : Int} (hn : L.length = n) (hm : m < n) (hv : L[m]? = some v) : (L.take m ++ List.replicate (n - m) 0).set m v = L.take (m + 1) ++ List.replicate (n - (m + 1)) 0 := by
  have e : List.replicate (n - m) (0 : Int) = 0 :: List.replicate (n - (m + 1)) 0 := by rw [← List.replicate_succ]; congr 1; omega
  have ht : (L.take m).length = m := by simp; omega
  rw [List.set_append_right _ _ (by omega), ht, Nat.sub_self, e, List.set_cons_zero, List.take_add_one, hv]
  simp
theorem xoP_s (K : List Int) (ct : Int) (N B : List Int) (k i : Nat) (hi : i < 64) (hm : 64 * k + i < B.length) :
    (xoP K ct N B (64 * k + i)).set (64 * k + i) (bits .xor .u8 (gi B (64 * k + i)) (gi (chB K (ct + (k : Int)) N) i)) = xoP K ct N B (64 * k + (i + 1)) := by
  unfold xoP
  rw [← strm_at K ct N k i hi, ← Nat.add_assoc]
  exact set_take (xo_length ..) hm (xo_get _ _ _ _ _ hm)
theorem xlim (ct : Int) (n : Nat) (h0 : 0 ≤ ct) (h1 : ct + n < 4294967296) : decide (IntKind.u64.wrap (IntKind.u64.wrap ct + IntKind.u64.wrap (Int.tdiv (IntKind.u64.wrap (IntKind.i64.wrap (IntKind.i64.wrap ((n : Int) + 64) - 1))) 64)) > 4294967296) = false := by
  rw [decide_eq_false_iff_not, IntWalk.i64_in ((n : Int) + 64) (by omega), IntWalk.i64_in ((n : Int) + 64 - 1) (by omega), IntKind.wrap_u64 ((n : Int) + 64 - 1), show ((n : Int) + 64 - 1) % 18446744073709551616 = ((n + 63 : Nat) : Int) by omega,
    show Int.tdiv ((n + 63 : Nat) : Int) 64 = (((n + 63) / 64 : Nat) : Int) from rfl]
  simp only [IntKind.wrap_u64]
  omega
theorem xor_any (K : List Int) (ct : Int) (N : List Int) (hK : K.length = 32) (hN : N.length = 12) (p : Option Addr) (n c : Nat) (B : List Int) (h0 : 0 ≤ ct) (h1 : ct + n < 4294967296) (w : World) (hS : Sl w p n c B) :
    Calls Try.prog 86 #[.agg (ints .u8 K), .int .u32 ct, .agg (ints .u8 N), .slice p n c] w fun e w' => ∃ xb, e = .returned (.tuple #[.slice (some ⟨xb, 0, none⟩) n n, .int .i64 0]) ∧ OwnM w [] w' [(xb, ints .u8 (xo K ct N B), 5)] := by
  have hlen := hS.len
  have hcap := hS.cap
  have tok_kb : True := trivial
  have tok_nb : True := trivial
  have tok_s2 : True := trivial
  refine newE Try.func86 Try.ntmps86 Try.results86 ?_
  repeat (first | (refine rgn 0 ?_; refine SL.bx ?_; (first | (have _t := tok_kb; clear _t tok_kb; intro kb) | (have _t := tok_nb; clear _t tok_nb; intro nb) | (have _t := tok_s2; clear _t tok_s2; intro s2) | intro _); refine SL.bx ?_; (first | (have _t := tok_kb; clear _t tok_kb; intro kb) | (have _t := tok_nb; clear _t tok_nb; intro nb) | (have _t := tok_s2; clear _t tok_s2; intro s2) | intro _); refine sEv ?_; refine sEv ?_; refine nlx ?_) | (refine rgn 1 ?_; (iterate 3 refine sEv ?_); refine SL.v (ValO.len tabOk (by rfl)) ?_; (iterate 5 refine sEv ?_); refine SL.c false tabOk ?_ (hb := xlim ct n h0 h1); refine nlx ?_) | (refine rgn 3 ?_; refine sEv ?_; refine SL.v (ValO.len tabOk (by rfl)) ?_; refine SL.made (n := n) tabOk zero_u8 (by omega) (fun xb => ?_); refine sEv ?_; refine nlx ?_) | (refine rgn 4 ?_; refine sEv ?_; refine nlx ?_) | (refine zsq ?_; intro _ _) | (with_reducible refine zkN ?_) | (refine useK (by assumption) ?_) | (with_reducible first | refine zsB ?_ | refine zsS ?_) | ((with_reducible show SP _ _ _ (Code.cond _ _ _) _ _ _); first | (refine cdF ?_)))
  refine SP.loopN (fun k l bs => l = [nth l 0, .int .u32 (ct + (k : Int)), nth l 2, .slice p n c, .pointer (some ⟨kb, 0, none⟩), nth l 5, .pointer (some ⟨nb, 0, none⟩), nth l 7, nth l 8, nth l 9, .slice (some ⟨xb, 0, none⟩) n n, .int .i64 ((64 * k : Nat)), nth l 12, nth l 13, nth l 14, nth l 15, nth l 16, nth l 17, nth l 18, nth l 19, nth l 20, nth l 21, nth l 22, nth l 23, nth l 24, nth l 25, nth l 26, nth l 27, nth l 28, nth l 29, nth l 30, nth l 31, nth l 32, nth l 33, nth l 34, nth l 35, nth l 36, nth l 37, nth l 38, nth l 39, nth l 40, nth l 41, nth l 42, nth l 43, nth l 44, nth l 45, nth l 46, nth l 47, nth l 48, nth l 49, nth l 50, nth l 51, nth l 52, nth l 53, nth l 54, nth l 55, nth l 56, nth l 57, nth l 58, nth l 59, nth l 60, nth l 61, nth l 62, nth l 63, nth l 64, nth l 65] ∧ bs = [(xb, ints .u8 (xoP K ct N B (min (64 * k) n)), 5), (nb, ints .u8 N, 138), (kb, ints .u8 K, 23)]) ((n + 63) / 64) ⟨by first | rfl | (rw [Int.natCast_zero, Int.add_zero]; rfl) | (simp only [Int.natCast_zero, Int.add_zero, Nat.mul_zero]; rfl), by rw [Nat.mul_zero, Nat.zero_min, xoP_0, hlen]⟩ ?_
  rintro k lfk _ hkk ⟨hlk, rfl⟩
  refine SP.cast hlk ?_
  clear hlk
  by_cases hltk : k < (n + 63) / 64
  · have h64 : 64 * k < n := by omega
    obtain ⟨sb, so, A, T, fz, rfl, hb, hA⟩ := hS.at_ (by omega)
    rw [show min (64 * k) n = 64 * k by omega]
    have fk : IntKind.u32.wrap (ct + (k : Int) + 1) = ct + ((k + 1 : Nat) : Int) := by rw [IntKind.wrap_u32]; omega
    have fa : IntKind.i64.wrap (((64 * k : Nat) : Int) + 64) = ((64 * (k + 1) : Nat) : Int) := by rw [IntWalk.i64_in _ (by omega)]; omega
    obtain ⟨z, hz⟩ : ∃ z, z = min (64 * (k + 1)) n := ⟨_, rfl⟩
    have hmin : (if (n : Int) < IntKind.i64.wrap (((64 * k : Nat) : Int) + 64) then (n : Int) else IntKind.i64.wrap (((64 * k : Nat) : Int) + 64)) = (z : Int) := by rw [fa]; split <;> omega
    repeat (first | (refine rgn 5 ?_; refine sEv ?_; refine sEv ?_; refine SL.v (ValO.len tabOk (by rfl)) ?_; refine sEv ?_; refine nlx ?_) | (refine rgn 7 ?_; refine SL.ldR tabOk ?_; refine sEv ?_; refine SL.ldR tabOk ?_; refine SL.v (ValO.call ent_92 _ rfl _ (fun w1 hw1 => block_any K (ct + (k : Int)) N hK hN w1)) ?_; refine SL.al zero_118 ?_; (first | (have _t := tok_kb; clear _t tok_kb; intro kb) | (have _t := tok_nb; clear _t tok_nb; intro nb) | (have _t := tok_s2; clear _t tok_s2; intro s2) | intro _); refine SL.stR tabOk ?_; refine nlx ?_) | (refine rgn 8 ?_; (iterate 5 refine sEv ?_); refine SL.v (ValO.len tabOk (by rfl)) ?_; refine SL.v (ValO.min _ _ _ rfl rfl _ hmin) ?_; refine SL.ctS tabOk (64 * k) z ?_; refine SL.v (ValO.len tabOk (by rfl)) ?_; refine sEv ?_; refine nlx ?_) | (refine zsq ?_; intro _ _) | (with_reducible refine zkN ?_) | (refine useK (by assumption) ?_) | (with_reducible first | refine zsB ?_ | refine zsS ?_) | ((with_reducible show SP _ _ _ (Code.cond _ _ _) _ _ _); first | (refine cdT ?_)))
    refine SP.loopN (fun i l bs => l = [nth l 0, .int .u32 (ct + (k : Int)), nth l 2, .slice (some ⟨sb, so, none⟩) n c, .pointer (some ⟨kb, 0, none⟩), nth l 5, .pointer (some ⟨nb, 0, none⟩), nth l 7, nth l 8, nth l 9, .slice (some ⟨xb, 0, none⟩) n n, .int .i64 ((64 * k : Nat)), .pointer (some ⟨s2, 0, none⟩), nth l 13, nth l 14, nth l 15, nth l 16, nth l 17, nth l 18, nth l 19, nth l 20, nth l 21, nth l 22, nth l 23, nth l 24, nth l 25, nth l 26, nth l 27, nth l 28, nth l 29, nth l 30, nth l 31, nth l 32, nth l 33, nth l 34, nth l 35, nth l 36, nth l 37, nth l 38, nth l 39, nth l 40, nth l 41, nth l 42, nth l 43, nth l 44, .slice (some ⟨sb, so + 64 * k, none⟩) (z - 64 * k) (c - 64 * k), .int .i64 ((z - 64 * k : Nat) : Int), .int .i64 ((i : Nat)), nth l 48, nth l 49, nth l 50, nth l 51, nth l 52, nth l 53, nth l 54, nth l 55, nth l 56, nth l 57, nth l 58, nth l 59, nth l 60, nth l 61, nth l 62, nth l 63, nth l 64, nth l 65] ∧ bs = [(s2, ints .u8 (chB K (ct + (k : Int)) N), 118), (xb, ints .u8 (xoP K ct N B (64 * k + i)), 5), (nb, ints .u8 N, 138), (kb, ints .u8 K, 23)]) (z - 64 * k) ⟨rfl, by rw [Nat.add_zero]⟩ ?_
    rintro i lfi _ hki ⟨hli, rfl⟩
    refine SP.cast hli ?_
    clear hli
    have hlx := xoP_length K ct N B (64 * k + i) (by omega)
    by_cases hlti : i < z - 64 * k
    · have hi1 : IntKind.i64.wrap ((i : Int) + 1) = ((i + 1 : Nat) : Int) := by rw [IntWalk.i64_in _ (by omega)]; omega
      have fi : IntKind.i64.wrap (((64 * k : Nat) : Int) + (i : Int)) = ((64 * k + i : Nat) : Int) := by rw [IntWalk.i64_in _ (by omega)]; omega
      have hc1 : A[so + 64 * k + i]? = some (.int .u8 (gi B (64 * k + i))) := by rw [Nat.add_assoc]; exact hA _ (by omega)
      repeat (first | (refine rgn 9 ?_; refine sEv ?_; refine nlx ?_) | (refine rgn 10 ?_; refine sEv ?_; refine SL.ixS tabOk ?_ (hm := by first | (simp only [fi, Nat.zero_add, Nat.mul_one, Nat.one_mul, Int.toNat_natCast]; done) | (simp only [fi, Nat.zero_add, Nat.mul_one, Nat.one_mul, Int.toNat_natCast]; rfl) | rfl); (first | (refine SL.ldI tabOk ?_) | (refine SL.ldC tabOk ?_ (hv := by first | exact hc1))); refine sEv ?_; refine sEv ?_; refine nlx ?_) | (refine rgn 11 ?_; (iterate 6 refine sEv ?_); refine SL.ixA tabOk ?_ (hm := by first | (simp only [fi, Nat.zero_add, Nat.mul_one, Nat.one_mul, Int.toNat_natCast]; done) | (simp only [fi, Nat.zero_add, Nat.mul_one, Nat.one_mul, Int.toNat_natCast]; rfl) | rfl); (first | (refine SL.ldI tabOk ?_) | (refine SL.ldC tabOk ?_ (hv := by first | exact hc1))); refine sEv ?_; refine SL.ixS tabOk ?_ (hm := by first | (simp only [fi, Nat.zero_add, Nat.mul_one, Nat.one_mul, Int.toNat_natCast]; done) | (simp only [fi, Nat.zero_add, Nat.mul_one, Nat.one_mul, Int.toNat_natCast]; rfl) | rfl); refine SL.stI tabOk ?_; refine nlx ?_) | (refine rgn 12 ?_; refine sEv ?_; refine sEv ?_; refine nlx ?_) | (refine zsq ?_; intro _ _) | (with_reducible refine zkN ?_) | (refine useK (by assumption) ?_) | (with_reducible first | refine zsB ?_ | refine zsS ?_) | ((with_reducible show SP _ _ _ (Code.cond _ _ _) _ _ _); first | (refine cdT ?_)))
      simp only [hi1]
      exact ⟨hlti, rfl, by rw [xoP_s K ct N B k i (by omega) (by omega)]⟩
    · have hendi : i = z - 64 * k := by omega
      replace hendi := Lib.hid hendi
      repeat (first | (refine rgn 9 ?_; refine sEv ?_; refine nlx ?_) | (refine zsq ?_; intro _ _) | (with_reducible refine zkN ?_) | (refine useK (by assumption) ?_) | (with_reducible refine zsX ?_) | ((with_reducible show SP _ _ _ (Code.cond _ _ _) _ _ _); first | (refine cdF ?_)))
      have hq := hendi.out; clear hendi; subst hq
      repeat (first | (refine rgn 6 ?_; refine SL.sub ?_ (List.Sublist.cons _ (List.Sublist.refl _)); (iterate 3 refine sEv ?_); refine nlx ?_) | (refine rgn 13 ?_; (iterate 3 refine sEv ?_); refine nlx ?_) | (with_reducible refine zkN ?_) | (refine useK (by assumption) ?_))
      simp only [fk, fa]
      exact ⟨hltk, rfl, by rw [show 64 * k + (z - 64 * k) = min (64 * (k + 1)) n by omega]⟩
  · have hendk : k = (n + 63) / 64 := by omega
    replace hendk := Lib.hid hendk
    have hmm : min (64 * k) n = n := by have := hendk.out; omega
    rw [hmm]
    repeat (first | (refine rgn 5 ?_; refine sEv ?_; refine sEv ?_; refine SL.v (ValO.len tabOk (by rfl)) ?_; refine sEv ?_; refine nlx ?_) | (refine rgn 14 ?_; (iterate 3 refine sEv ?_); refine nlx ?_) | (refine zsq ?_; intro _ _) | (with_reducible refine zkN ?_) | (refine useK (by assumption) ?_) | (with_reducible first | refine zsR ?_ | refine zsX ?_) | ((with_reducible show SP _ _ _ (Code.cond _ _ _) _ _ _); first | (refine cdF ?_)))
    have hx := xoP_all K ct N B
    rw [hlen] at hx
    exact doneK.mk rfl (ResO.tmp2 rfl rfl) ⟨xb, rfl, by rw [hx]; exact sub1⟩
end Sp
end
end Go.Proofs.Ytdjecenggngdjaa
