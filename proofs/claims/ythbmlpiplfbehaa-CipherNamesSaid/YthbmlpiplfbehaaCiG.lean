/-
  Bring: a number is brought below another.
-/
import Derived.Test.YthbmlpiplfbehaaCiW
namespace Go.Proofs.Ythbmlpiplfbehaa
set_option linter.unusedSimpArgs false
set_option linter.unusedVariables false
open Go Go.RowKit

namespace Sp
open F M
theorem tmod_cases (a m : Int) (hm : 0 < m) : (a.tmod m < 0 ∧ a.tmod m + m = a % m) ∨ (0 ≤ a.tmod m ∧ a.tmod m = a % m) := by
  have h1 := Int.emod_nonneg a (show m ≠ 0 by omega)
  have h2 := Int.emod_lt_of_pos a hm
  by_cases ha : 0 ≤ a
  · exact .inr ⟨by rw [Int.tmod_eq_emod_of_nonneg ha]; exact h1, Int.tmod_eq_emod_of_nonneg ha⟩
  · have h3 := Int.tmod_eq_emod (a := a) (b := m)
    split at h3
    · right
      rw [h3]
      omega
    · left
      omega
set_option maxRecDepth 20000 in
theorem bring_any (a m : Int) (hm : 0 < m) (hm2 : m < 4294967296) (w : World) :
    Calls Try.prog 22 #[.int .i64 a, .int .i64 m] w fun e w' => e = .returned (.int .i64 (a % m)) ∧ Below w.heap.size w w' := by
  have h1 := Int.emod_nonneg a (show m ≠ 0 by omega)
  have h2 := Int.emod_lt_of_pos a hm
  rcases tmod_cases a m hm with ⟨h3, h4⟩ | ⟨h3, h4⟩
  · have hw : IntKind.i64.wrap (a.tmod m + m) = a % m := by rw [h4, IntWalk.i64_in _ (by omega)]
    have hw2 : IntKind.i64.wrap (a.tmod m) = a.tmod m := IntWalk.i64_in _ (by omega)
    refine pureE Try.func22 Try.ntmps22 Try.results22 ?_
    repeat (first | ((with_reducible refine SP.region (id := 0) ?_); refine SL.e tabOk ?_; (with_reducible refine SL.nil ?_)) | ((with_reducible refine SP.region (id := 1) ?_); refine SL.e tabOk ?_; refine SL.e tabOk ?_; (with_reducible refine SL.nil ?_)) | ((with_reducible refine SP.region (id := 3) ?_); refine SL.e tabOk ?_; refine SL.e tabOk ?_; refine SL.dv ?_; refine SL.e tabOk ?_; (with_reducible refine SL.nil ?_)) | ((with_reducible refine SP.region (id := 4) ?_); refine SL.e tabOk ?_; refine SL.e tabOk ?_; (with_reducible refine SL.nil ?_)) | ((with_reducible refine SP.region (id := 5) ?_); refine SL.e tabOk ?_; refine SL.e tabOk ?_; refine SL.e tabOk ?_; refine SL.e tabOk ?_; (with_reducible refine SL.nil ?_)) | ((with_reducible refine SP.region (id := 6) ?_); refine SL.e tabOk ?_; refine SL.e tabOk ?_; (with_reducible refine SL.nil ?_)) | ((with_reducible refine SP.seqK ?_); intro _ _) | (with_reducible refine thenK_normal ?_) | (refine useK (by assumption) ?_) | (with_reducible refine SP.skip ?_) | (with_reducible refine SP.ret ?_) | ((with_reducible show SP _ _ _ (Code.cond _ _ _) _ _ _); first | (refine SP.condT rfl (by first | rfl | (simp only [decide_eq_true_eq, beq_iff_eq, bne_iff_ne]; first | done | omega)) ?_) | (refine SP.condF rfl (by first | rfl | (simp only [decide_eq_false_iff_not, beq_eq_false_iff_ne, bne_eq_false_iff_eq]; first | done | omega)) ?_)))
    exact doneK.mk rfl (ResO.tmp rfl) (by simp only [hw]; rfl)
  · refine pureE Try.func22 Try.ntmps22 Try.results22 ?_
    repeat (first | ((with_reducible refine SP.region (id := 0) ?_); refine SL.e tabOk ?_; (with_reducible refine SL.nil ?_)) | ((with_reducible refine SP.region (id := 1) ?_); refine SL.e tabOk ?_; refine SL.e tabOk ?_; (with_reducible refine SL.nil ?_)) | ((with_reducible refine SP.region (id := 3) ?_); refine SL.e tabOk ?_; refine SL.e tabOk ?_; refine SL.dv ?_; refine SL.e tabOk ?_; (with_reducible refine SL.nil ?_)) | ((with_reducible refine SP.region (id := 4) ?_); refine SL.e tabOk ?_; refine SL.e tabOk ?_; (with_reducible refine SL.nil ?_)) | ((with_reducible refine SP.region (id := 6) ?_); refine SL.e tabOk ?_; refine SL.e tabOk ?_; (with_reducible refine SL.nil ?_)) | ((with_reducible refine SP.seqK ?_); intro _ _) | (with_reducible refine thenK_normal ?_) | (refine useK (by assumption) ?_) | (with_reducible refine SP.skip ?_) | (with_reducible refine SP.ret ?_) | ((with_reducible show SP _ _ _ (Code.cond _ _ _) _ _ _); first | (refine SP.condF rfl (by first | rfl | (simp only [decide_eq_false_iff_not, beq_eq_false_iff_ne, bne_eq_false_iff_eq]; first | done | omega)) ?_)))
    exact doneK.mk rfl (ResO.tmp rfl) (by rw [h4]; rfl)

def rkI' (K : List Int) : Nat → List Int
  | 0 => K
  | i + 1 => rkV (rkI' K i)
@[irreducible] def rkI (K : List Int) (i : Nat) : List Int := rkI' K i
theorem rkI_0 (K : List Int) : rkI K 0 = K := by unfold rkI; rfl
theorem rkI_s (K : List Int) (i : Nat) : rkI K (i + 1) = rkV (rkI K i) := by unfold rkI; rfl
theorem rkI_len (K : List Int) (hK : K.length = 32) : ∀ i, (rkI K i).length = 32
  | 0 => by rw [rkI_0]; exact hK
  | i + 1 => by rw [rkI_s]; simp
theorem rkI_byts (K : List Int) (bK : Byts K) : ∀ i, Byts (rkI K i)
  | 0 => by rw [rkI_0]; exact bK
  | i + 1 => by rw [rkI_s]; exact rkV_byts _

/-- Seal, where it answers; where something is too long; at the last number. -/
theorem seal_in (K : List Int) (hK : K.length = 32) (n : Int) (hn0 : 0 ≤ n) (b : Nat) (w : World) (p q : Option Addr) (c d : Nat) (A B : List Int) (bA : Byts A) (bB : Byts B) (hSA : Sl w p A.length c A) (hSB : Sl w q B.length d B) (hmA : A.length ≤ 140737488355328) (hmB : B.length ≤ 140737488355328) (hb : w.heap[b]? = some (.cells (stRow true K n) 62 (0, 0))) (hp : ApartB b p A.length) (hq : ApartB b q B.length) (hn1 : n < 9007199254740991) (h1 : A.length ≤ 4096) (h2 : B.length ≤ 4096) :
    Calls Try.prog 14 #[.pointer (some ⟨b, 0, none⟩), .slice p A.length c, .slice q B.length d] w (StPost w b 62 (stRow true K (n + 1)) (sealV K (nonV n) A B) 0) := by
  have h := seal_st K hK n hn0 b w p q c d A B bA bB hSA hSB hmA hmB hb hp hq
  rwa [kX_in hn1, kE_in hn1, sX_ok h1 h2, sE_ok h1 h2, kN_0] at h
theorem seal_lg (K : List Int) (hK : K.length = 32) (n : Int) (hn0 : 0 ≤ n) (b : Nat) (w : World) (p q : Option Addr) (c d : Nat) (A B : List Int) (bA : Byts A) (bB : Byts B) (hSA : Sl w p A.length c A) (hSB : Sl w q B.length d B) (hmA : A.length ≤ 140737488355328) (hmB : B.length ≤ 140737488355328) (hb : w.heap[b]? = some (.cells (stRow true K n) 62 (0, 0))) (hp : ApartB b p A.length) (hq : ApartB b q B.length) (hn1 : n < 9007199254740991) (h1 : 4096 < A.length ∨ 4096 < B.length) :
    Calls Try.prog 14 #[.pointer (some ⟨b, 0, none⟩), .slice p A.length c, .slice q B.length d] w (StPost w b 62 (stRow true K n) [] 5) := by
  have h := seal_st K hK n hn0 b w p q c d A B bA bB hSA hSB hmA hmB hb hp hq
  rwa [kX_in hn1, kE_in hn1, sX_long h1, sE_long h1, kN_ne n (by decide)] at h
theorem seal_end (K : List Int) (hK : K.length = 32) (n : Int) (hn0 : 0 ≤ n) (b : Nat) (w : World) (p q : Option Addr) (c d : Nat) (A B : List Int) (bA : Byts A) (bB : Byts B) (hSA : Sl w p A.length c A) (hSB : Sl w q B.length d B) (hmA : A.length ≤ 140737488355328) (hmB : B.length ≤ 140737488355328) (hb : w.heap[b]? = some (.cells (stRow true K n) 62 (0, 0))) (hp : ApartB b p A.length) (hq : ApartB b q B.length) (hn1 : 9007199254740991 ≤ n) :
    Calls Try.prog 14 #[.pointer (some ⟨b, 0, none⟩), .slice p A.length c, .slice q B.length d] w (StPost w b 62 (stRow true K n) [] 90) := by
  have h := seal_st K hK n hn0 b w p q c d A B bA bB hSA hSB hmA hmB hb hp hq
  rwa [kX_end hn1, kE_end hn1, kN_ne n (by decide)] at h
theorem aseal_in (K N : List Int) (hK : K.length = 32) (hN : N.length = 12) (w : World) (p q : Option Addr) (c d : Nat) (A B : List Int) (bA : Byts A) (bB : Byts B) (hSA : Sl w p A.length c A) (hSB : Sl w q B.length d B) (hmA : A.length ≤ 140737488355328) (hmB : B.length ≤ 140737488355328) (h1 : A.length ≤ 4096) (h2 : B.length ≤ 4096) :
    Calls Try.prog 26 #[.agg (ints .u8 K), .agg (ints .u8 N), .slice p A.length c, .slice q B.length d] w (BoxPost w (sealV K N A B) 0) := by
  have h := seal_u K N hK hN p q c d A B bA bB w hSA hSB hmA hmB
  rwa [sX_ok h1 h2, sE_ok h1 h2] at h
theorem aseal_lg (K N : List Int) (hK : K.length = 32) (hN : N.length = 12) (w : World) (p q : Option Addr) (c d : Nat) (A B : List Int) (bA : Byts A) (bB : Byts B) (hSA : Sl w p A.length c A) (hSB : Sl w q B.length d B) (hmA : A.length ≤ 140737488355328) (hmB : B.length ≤ 140737488355328) (h1 : 4096 < A.length ∨ 4096 < B.length) :
    Calls Try.prog 26 #[.agg (ints .u8 K), .agg (ints .u8 N), .slice p A.length c, .slice q B.length d] w (BoxPost w [] 5) := by
  have h := seal_u K N hK hN p q c d A B bA bB w hSA hSB hmA hmB
  rwa [sX_long h1, sE_long h1] at h
theorem skip_in (K : List Int) (hK : K.length = 32) (n m : Int) (b : Nat) (w : World) (hb : w.heap[b]? = some (.cells (stRow true K n) 62 (0, 0))) (h1 : n ≤ m) (h2 : m ≤ 9007199254740991) :
    Calls Try.prog 24 #[.pointer (some ⟨b, 0, none⟩), .int .i64 m] w fun e w' => e = .returned (.int .i64 0) ∧ OwnM w [b] w' [(b, stRow true K m, 62)] := by
  have h := skip_any K hK n m b w hb
  rwa [pE_in h1 h2, pN_in h1 h2] at h
theorem skip_out (K : List Int) (hK : K.length = 32) (n m : Int) (b : Nat) (w : World) (hb : w.heap[b]? = some (.cells (stRow true K n) 62 (0, 0))) (h1 : m < n ∨ 9007199254740991 < m) :
    Calls Try.prog 24 #[.pointer (some ⟨b, 0, none⟩), .int .i64 m] w fun e w' => e = .returned (.int .i64 9) ∧ OwnM w [b] w' [(b, stRow true K n, 62)] := by
  have h := skip_any K hK n m b w hb
  rwa [pE_out h1, pN_out h1] at h

end Sp

end Go.Proofs.Ythbmlpiplfbehaa
