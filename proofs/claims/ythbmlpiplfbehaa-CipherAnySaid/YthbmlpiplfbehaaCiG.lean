/-
  Bring: a number is brought below another.
-/
import Derived.Test.YthbmlpiplfbehaaCiW
namespace Go.Proofs.Ythbmlpiplfbehaa
set_option linter.unusedSimpArgs false
set_option linter.unusedVariables false
open Go Go.RowKit

namespace Sp
open F M
theorem tmod_cases (a m : Int) (hm : 0 < m) : (a.tmod m < 0 ∧ a.tmod m + m = a % m) ∨ (0 ≤ a.tmod m ∧ a.tmod m = a % m) := by
  have h1 := Int.emod_nonneg a (show m ≠ 0 by omega)
  have h2 := Int.emod_lt_of_pos a hm
  by_cases ha : 0 ≤ a
  · exact .inr ⟨by rw [Int.tmod_eq_emod_of_nonneg ha]; exact h1, Int.tmod_eq_emod_of_nonneg ha⟩
  · have h3 := Int.tmod_eq_emod (a := a) (b := m)
    split at h3
    · right
      rw [h3]
      omega
    · left
      omega
set_option maxRecDepth 20000 in
theorem bring_any (a m : Int) (hm : 0 < m) (hm2 : m < 4294967296) (w : World) :
    Calls Try.prog 22 #[.int .i64 a, .int .i64 m] w fun e w' => e = .returned (.int .i64 (a % m)) ∧ Below w.heap.size w w' := by
  have h1 := Int.emod_nonneg a (show m ≠ 0 by omega)
  have h2 := Int.emod_lt_of_pos a hm
  rcases tmod_cases a m hm with ⟨h3, h4⟩ | ⟨h3, h4⟩
  · have hw : IntKind.i64.wrap (a.tmod m + m) = a % m := by rw [h4, IntWalk.i64_in _ (by omega)]
    have hw2 : IntKind.i64.wrap (a.tmod m) = a.tmod m := IntWalk.i64_in _ (by omega)
    refine pureE Try.func22 Try.ntmps22 Try.results22 ?_
    repeat (first | ((with_reducible refine SP.region (id := 0) ?_); refine SL.e tabOk ?_; (with_reducible refine SL.nil ?_)) | ((with_reducible refine SP.region (id := 1) ?_); refine SL.e tabOk ?_; refine SL.e tabOk ?_; (with_reducible refine SL.nil ?_)) | ((with_reducible refine SP.region (id := 3) ?_); refine SL.e tabOk ?_; refine SL.e tabOk ?_; refine SL.dv ?_; refine SL.e tabOk ?_; (with_reducible refine SL.nil ?_)) | ((with_reducible refine SP.region (id := 4) ?_); refine SL.e tabOk ?_; refine SL.e tabOk ?_; (with_reducible refine SL.nil ?_)) | ((with_reducible refine SP.region (id := 5) ?_); refine SL.e tabOk ?_; refine SL.e tabOk ?_; refine SL.e tabOk ?_; refine SL.e tabOk ?_; (with_reducible refine SL.nil ?_)) | ((with_reducible refine SP.region (id := 6) ?_); refine SL.e tabOk ?_; refine SL.e tabOk ?_; (with_reducible refine SL.nil ?_)) | ((with_reducible refine SP.seqK ?_); intro _ _) | (with_reducible refine thenK_normal ?_) | (refine useK (by assumption) ?_) | (with_reducible refine SP.skip ?_) | (with_reducible refine SP.ret ?_) | ((with_reducible show SP _ _ _ (Code.cond _ _ _) _ _ _); first | (refine SP.condT rfl (by first | rfl | (simp only [decide_eq_true_eq, beq_iff_eq, bne_iff_ne]; first | done | omega)) ?_) | (refine SP.condF rfl (by first | rfl | (simp only [decide_eq_false_iff_not, beq_eq_false_iff_ne, bne_eq_false_iff_eq]; first | done | omega)) ?_)))
    exact doneK.mk rfl (ResO.tmp rfl) (by simp only [hw]; rfl)
  · refine pureE Try.func22 Try.ntmps22 Try.results22 ?_
    repeat (first | ((with_reducible refine SP.region (id := 0) ?_); refine SL.e tabOk ?_; (with_reducible refine SL.nil ?_)) | ((with_reducible refine SP.region (id := 1) ?_); refine SL.e tabOk ?_; refine SL.e tabOk ?_; (with_reducible refine SL.nil ?_)) | ((with_reducible refine SP.region (id := 3) ?_); refine SL.e tabOk ?_; refine SL.e tabOk ?_; refine SL.dv ?_; refine SL.e tabOk ?_; (with_reducible refine SL.nil ?_)) | ((with_reducible refine SP.region (id := 4) ?_); refine SL.e tabOk ?_; refine SL.e tabOk ?_; (with_reducible refine SL.nil ?_)) | ((with_reducible refine SP.region (id := 6) ?_); refine SL.e tabOk ?_; refine SL.e tabOk ?_; (with_reducible refine SL.nil ?_)) | ((with_reducible refine SP.seqK ?_); intro _ _) | (with_reducible refine thenK_normal ?_) | (refine useK (by assumption) ?_) | (with_reducible refine SP.skip ?_) | (with_reducible refine SP.ret ?_) | ((with_reducible show SP _ _ _ (Code.cond _ _ _) _ _ _); first | (refine SP.condF rfl (by first | rfl | (simp only [decide_eq_false_iff_not, beq_eq_false_iff_ne, bne_eq_false_iff_eq]; first | done | omega)) ?_)))
    exact doneK.mk rfl (ResO.tmp rfl) (by rw [h4]; rfl)

def rkI' (K : List Int) : Nat → List Int
  | 0 => K
  | i + 1 => rkV (rkI' K i)
@[irreducible] def rkI (K : List Int) (i : Nat) : List Int := rkI' K i
theorem rkI_0 (K : List Int) : rkI K 0 = K := by unfold rkI; rfl
theorem rkI_s (K : List Int) (i : Nat) : rkI K (i + 1) = rkV (rkI K i) := by unfold rkI; rfl
theorem rkI_len (K : List Int) (hK : K.length = 32) : ∀ i, (rkI K i).length = 32
  | 0 => by rw [rkI_0]; exact hK
  | i + 1 => by rw [rkI_s]; simp
theorem rkI_byts (K : List Int) (bK : Byts K) : ∀ i, Byts (rkI K i)
  | 0 => by rw [rkI_0]; exact bK
  | i + 1 => by rw [rkI_s]; exact rkV_byts _

/-- Seal, where it answers; where something is too long; at the last number. -/
theorem seal_in (K : List Int) (hK : K.length = 32) (n : Int) (hn0 : 0 ≤ n) (b : Nat) (w : World) (p q : Option Addr) (c d : Nat) (A B : List Int) (bA : Byts A) (bB : Byts B) (hSA : Sl w p A.length c A) (hSB : Sl w q B.length d B) (hmA : A.length ≤ 140737488355328) (hmB : B.length ≤ 140737488355328) (hb : w.heap[b]? = some (.cells (stRow true K n) 62 (0, 0))) (hp : ApartB b p A.length) (hq : ApartB b q B.length) (hn1 : n < 9007199254740991) (h1 : A.length ≤ 4096) (h2 : B.length ≤ 4096) :
    Calls Try.prog 14 #[.pointer (some ⟨b, 0, none⟩), .slice p A.length c, .slice q B.length d] w (StPost w b 62 (stRow true K (n + 1)) (sealV K (nonV n) A B) 0) := by
  have h := seal_st K hK n hn0 b w p q c d A B bA bB hSA hSB hmA hmB hb hp hq
  rwa [kX_in hn1, kE_in hn1, sX_ok h1 h2, sE_ok h1 h2, kN_0] at h
theorem seal_lg (K : List Int) (hK : K.length = 32) (n : Int) (hn0 : 0 ≤ n) (b : Nat) (w : World) (p q : Option Addr) (c d : Nat) (A B : List Int) (bA : Byts A) (bB : Byts B) (hSA : Sl w p A.length c A) (hSB : Sl w q B.length d B) (hmA : A.length ≤ 140737488355328) (hmB : B.length ≤ 140737488355328) (hb : w.heap[b]? = some (.cells (stRow true K n) 62 (0, 0))) (hp : ApartB b p A.length) (hq : ApartB b q B.length) (hn1 : n < 9007199254740991) (h1 : 4096 < A.length ∨ 4096 < B.length) :
    Calls Try.prog 14 #[.pointer (some ⟨b, 0, none⟩), .slice p A.length c, .slice q B.length d] w (StPost w b 62 (stRow true K n) [] 5) := by
  have h := seal_st K hK n hn0 b w p q c d A B bA bB hSA hSB hmA hmB hb hp hq
  rwa [kX_in hn1, kE_in hn1, sX_long h1, sE_long h1, kN_ne n (by decide)] at h
theorem seal_end (K : List Int) (hK : K.length = 32) (n : Int) (hn0 : 0 ≤ n) (b : Nat) (w : World) (p q : Option Addr) (c d : Nat) (A B : List Int) (bA : Byts A) (bB : Byts B) (hSA : Sl w p A.length c A) (hSB : Sl w q B.length d B) (hmA : A.length ≤ 140737488355328) (hmB : B.length ≤ 140737488355328) (hb : w.heap[b]? = some (.cells (stRow true K n) 62 (0, 0))) (hp : ApartB b p A.length) (hq : ApartB b q B.length) (hn1 : 9007199254740991 ≤ n) :
    Calls Try.prog 14 #[.pointer (some ⟨b, 0, none⟩), .slice p A.length c, .slice q B.length d] w (StPost w b 62 (stRow true K n) [] 90) := by
  have h := seal_st K hK n hn0 b w p q c d A B bA bB hSA hSB hmA hmB hb hp hq
  rwa [kX_end hn1, kE_end hn1, kN_ne n (by decide)] at h
theorem aseal_in (K N : List Int) (hK : K.length = 32) (hN : N.length = 12) (w : World) (p q : Option Addr) (c d : Nat) (A B : List Int) (bA : Byts A) (bB : Byts B) (hSA : Sl w p A.length c A) (hSB : Sl w q B.length d B) (hmA : A.length ≤ 140737488355328) (hmB : B.length ≤ 140737488355328) (h1 : A.length ≤ 4096) (h2 : B.length ≤ 4096) :
    Calls Try.prog 26 #[.agg (ints .u8 K), .agg (ints .u8 N), .slice p A.length c, .slice q B.length d] w (BoxPost w (sealV K N A B) 0) := by
  have h := seal_u K N hK hN p q c d A B bA bB w hSA hSB hmA hmB
  rwa [sX_ok h1 h2, sE_ok h1 h2] at h
theorem aseal_lg (K N : List Int) (hK : K.length = 32) (hN : N.length = 12) (w : World) (p q : Option Addr) (c d : Nat) (A B : List Int) (bA : Byts A) (bB : Byts B) (hSA : Sl w p A.length c A) (hSB : Sl w q B.length d B) (hmA : A.length ≤ 140737488355328) (hmB : B.length ≤ 140737488355328) (h1 : 4096 < A.length ∨ 4096 < B.length) :
    Calls Try.prog 26 #[.agg (ints .u8 K), .agg (ints .u8 N), .slice p A.length c, .slice q B.length d] w (BoxPost w [] 5) := by
  have h := seal_u K N hK hN p q c d A B bA bB w hSA hSB hmA hmB
  rwa [sX_long h1, sE_long h1] at h
theorem skip_in (K : List Int) (hK : K.length = 32) (n m : Int) (b : Nat) (w : World) (hb : w.heap[b]? = some (.cells (stRow true K n) 62 (0, 0))) (h1 : n ≤ m) (h2 : m ≤ 9007199254740991) :
    Calls Try.prog 24 #[.pointer (some ⟨b, 0, none⟩), .int .i64 m] w fun e w' => e = .returned (.int .i64 0) ∧ OwnM w [b] w' [(b, stRow true K m, 62)] := by
  have h := skip_any K hK n m b w hb
  rwa [pE_in h1 h2, pN_in h1 h2] at h
theorem skip_out (K : List Int) (hK : K.length = 32) (n m : Int) (b : Nat) (w : World) (hb : w.heap[b]? = some (.cells (stRow true K n) 62 (0, 0))) (h1 : m < n ∨ 9007199254740991 < m) :
    Calls Try.prog 24 #[.pointer (some ⟨b, 0, none⟩), .int .i64 m] w fun e w' => e = .returned (.int .i64 9) ∧ OwnM w [b] w' [(b, stRow true K n, 62)] := by
  have h := skip_any K hK n m b w hb
  rwa [pE_out h1, pN_out h1] at h

/-- The same by lengths. -/
theorem seal_inL (K : List Int) (hK : K.length = 32) (n : Int) (hn0 : 0 ≤ n) (b : Nat) (w : World) (p q : Option Addr) (c d k m : Nat) (A B : List Int) (bA : Byts A) (bB : Byts B) (hSA : Sl w p k c A) (hSB : Sl w q m d B) (hmA : k ≤ 140737488355328) (hmB : m ≤ 140737488355328) (hb : w.heap[b]? = some (.cells (stRow true K n) 62 (0, 0))) (hp : ApartB b p k) (hq : ApartB b q m) (hn1 : n < 9007199254740991) (h1 : k ≤ 4096) (h2 : m ≤ 4096) :
    Calls Try.prog 14 #[.pointer (some ⟨b, 0, none⟩), .slice p k c, .slice q m d] w (StPost w b 62 (stRow true K (n + 1)) (sealV K (nonV n) A B) 0) := by
  obtain rfl := hSA.len
  obtain rfl := hSB.len
  exact seal_in K hK n hn0 b w p q c d A B bA bB hSA hSB hmA hmB hb hp hq hn1 h1 h2
theorem seal_lgL (K : List Int) (hK : K.length = 32) (n : Int) (hn0 : 0 ≤ n) (b : Nat) (w : World) (p q : Option Addr) (c d k m : Nat) (A B : List Int) (bA : Byts A) (bB : Byts B) (hSA : Sl w p k c A) (hSB : Sl w q m d B) (hmA : k ≤ 140737488355328) (hmB : m ≤ 140737488355328) (hb : w.heap[b]? = some (.cells (stRow true K n) 62 (0, 0))) (hp : ApartB b p k) (hq : ApartB b q m) (hn1 : n < 9007199254740991) (h1 : 4096 < k ∨ 4096 < m) :
    Calls Try.prog 14 #[.pointer (some ⟨b, 0, none⟩), .slice p k c, .slice q m d] w (StPost w b 62 (stRow true K n) [] 5) := by
  obtain rfl := hSA.len
  obtain rfl := hSB.len
  exact seal_lg K hK n hn0 b w p q c d A B bA bB hSA hSB hmA hmB hb hp hq hn1 h1
/-- A box that does not open. -/
theorem open_no (K : List Int) (hK : K.length = 32) (n : Int) (hn0 : 0 ≤ n) (b : Nat) (w : World) (p q : Option Addr) (c d k m : Nat) (A B : List Int) (bA : Byts A) (bB : Byts B) (hSA : Sl w p k c A) (hSB : Sl w q m d B) (hmA : k ≤ 140737488355328) (hmB : m ≤ 140737488355328) (hb : w.heap[b]? = some (.cells (stRow true K n) 62 (0, 0))) (hp : ApartB b p k) (hq : ApartB b q m) (hn1 : n < 9007199254740991) (e : Int) (he : oE K (nonV n) A B = e) (h0 : e ≠ 0) :
    Calls Try.prog 21 #[.pointer (some ⟨b, 0, none⟩), .slice p k c, .slice q m d] w (StPost w b 62 (stRow true K n) [] e) := by
  obtain rfl := hSA.len
  obtain rfl := hSB.len
  have h := open_st K hK n hn0 b w p q c d A B bA bB hSA hSB hmA hmB hb hp hq
  rwa [kX_in hn1, kE_in hn1, oX_bad (by rw [he]; exact h0), he, kN_ne n h0] at h
theorem xor1_ne {x : Int} (h : 0 ≤ x ∧ x < 256) : bits .xor .u8 x 1 ≠ x := by
  obtain ⟨a, rfl⟩ := Int.eq_ofNat_of_zero_le h.1
  have ha := h.2
  rw [show (1 : Int) = ((1 : Nat) : Int) from rfl, u8_xor_nat a 1 (by omega) (by omega)]
  intro he
  have h1 : a ^^^ 1 = a := by omega
  have := congrArg (fun t => a ^^^ t) h1
  simp [← Nat.xor_assoc] at this
theorem xor1_b {x : Int} (h : 0 ≤ x ∧ x < 256) : 0 ≤ bits .xor .u8 x 1 ∧ bits .xor .u8 x 1 < 256 := by
  obtain ⟨a, rfl⟩ := Int.eq_ofNat_of_zero_le h.1
  have ha := h.2
  rw [show (1 : Int) = ((1 : Nat) : Int) from rfl, u8_xor_nat a 1 (by omega) (by omega)]
  have h1 : a ^^^ 1 < 2 ^ 8 := Nat.xor_lt_two_pow (by omega) (by omega)
  omega
/-- A box whose last byte is another one does not open. -/
theorem oE_spoilt (K N A B : List Int) (h1 : A.length ≤ 4096) (h2 : B.length ≤ 4096) (v : Int) (hv : v ≠ gi (sealV K N A B) (B.length + 15)) : oE K N A ((sealV K N A B).set (B.length + 15) v) = 60 := by
  have hl : (sealV K N A B).length = B.length + 16 := sealV_length _ _ _ _
  refine oE_bad h1 (by rw [List.length_set, hl]; omega) (by rw [List.length_set, hl]; omega) ?_
  rw [List.length_set, hl]
  have h := box_ok K N A B B.length rfl
  unfold boxOk at *
  rw [Nat.add_sub_cancel] at *
  rw [List.take_set_of_le (by omega), h]
  intro he
  have e1 := congrArg (fun L => gi L 15) he
  have e2 : gi ((sealV K N A B).drop B.length) 15 = gi (sealV K N A B) (B.length + 15) := by simp [gi, List.getElem?_drop]
  have e3 : gi (((sealV K N A B).set (B.length + 15) v).drop B.length) 15 = v := by
    have : ((sealV K N A B).set (B.length + 15) v)[B.length + 15]? = some v := by
      rw [List.getElem?_set_self (by omega)]
    simp [gi, List.getElem?_drop, this]
  simp only [e2, e3] at e1
  exact hv e1.symm

end Sp

end Go.Proofs.Ythbmlpiplfbehaa
