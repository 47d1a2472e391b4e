/-
  Boxes in one form: what Seal and Open answer, of all lengths, the code's and the document's.
-/
import Derived.Test.YthbmlpiplfbehaaCiN
import Derived.Test.YthbmlpiplfbehaaStRow
import Derived.Test.YthbmlpiplfbehaaCallV
import Derived.Test.YthbmlpiplfbehaaDoc6
namespace Go.Proofs.Ythbmlpiplfbehaa
set_option linter.unusedSimpArgs false
set_option linter.unusedVariables false
open Go Go.RowKit
namespace Sp
open F M
/-- The nonce of a number. -/
@[irreducible] def nonV (n : Int) : List Int := nnI n.toNat 8
theorem nonV_length (n : Int) : (nonV n).length = 12 := by unfold nonV; simp
attribute [simp] nonV_length
theorem nnI_byts (v : Nat) : ∀ i, Byts (nnI v i)
  | 0 => by rw [nnI_0]; exact byts_rep _
  | i + 1 => by
    rw [nnI_s]
    refine (nnI_byts v i).upd2 _ ?_
    rw [IntKind.wrap_u8]
    omega
theorem nonV_byts (n : Int) : Byts (nonV n) := by unfold nonV; exact nnI_byts _ _
theorem nonce_n {n : Int} (h0 : 0 ≤ n) (h1 : n < 9007199254740991) (w : World) : Calls Try.prog 25 #[.int .i64 n] w fun e w' => e = .returned (.tuple #[.agg (ints .u8 (nonV n)), .int .i64 0]) ∧ Below w.heap.size w w' := by
  have := nonce_ok n.toNat (by omega) w
  rwa [Int.toNat_of_nonneg h0, show nnI n.toNat 8 = nonV n by unfold nonV; rfl] at this
theorem rnonce_n {n : Int} (h0 : 0 ≤ n) (h1 : n < 9007199254740991) (w : World) : Calls Try.prog 33 #[.int .i64 n] w fun e w' => e = .returned (.tuple #[.agg (ints .u8 (nonV n)), .int .i64 0]) ∧ Below w.heap.size w w' := by
  have := rnonce_ok n.toNat (by omega) w
  rwa [Int.toNat_of_nonneg h0, show nnI n.toNat 8 = nonV n by unfold nonV; rfl] at this
/-- What is wrong with a text. -/
@[irreducible] def sE (A B : List Int) : Int := if 4096 < A.length ∨ 4096 < B.length then 5 else 0
@[irreducible] def sX (K N A B : List Int) : List Int := if 4096 < A.length ∨ 4096 < B.length then [] else sealV K N A B
/-- What is wrong with a box. -/
@[irreducible] def oE (K N A X : List Int) : Int := if 4096 < A.length ∨ 4112 < X.length then 5 else if X.length < 16 then 3 else if aeT K N A (X.take (X.length - 16)) = X.drop (X.length - 16) then 0 else 60
@[irreducible] def oX (K N A X : List Int) : List Int := if oE K N A X = 0 then xo K 1 N (X.take (X.length - 16)) else []
theorem sE_long {A B : List Int} (h : 4096 < A.length ∨ 4096 < B.length) : sE A B = 5 := by unfold sE; rw [if_pos h]
theorem sE_ok {A B : List Int} (h1 : A.length ≤ 4096) (h2 : B.length ≤ 4096) : sE A B = 0 := by unfold sE; rw [if_neg (by omega)]
theorem sX_long {K N A B : List Int} (h : 4096 < A.length ∨ 4096 < B.length) : sX K N A B = [] := by unfold sX; rw [if_pos h]
theorem sX_ok {K N A B : List Int} (h1 : A.length ≤ 4096) (h2 : B.length ≤ 4096) : sX K N A B = sealV K N A B := by unfold sX; rw [if_neg (by omega)]
theorem oE_long {K N A X : List Int} (h : 4096 < A.length ∨ 4112 < X.length) : oE K N A X = 5 := by unfold oE; rw [if_pos h]
theorem oE_short {K N A X : List Int} (h1 : A.length ≤ 4096) (h2 : X.length < 16) : oE K N A X = 3 := by unfold oE; rw [if_neg (by omega), if_pos h2]
theorem oE_ok {K N A X : List Int} (h1 : A.length ≤ 4096) (h2 : 16 ≤ X.length) (h3 : X.length ≤ 4112) (h : boxOk K N A X X.length) : oE K N A X = 0 := by
  unfold oE; rw [if_neg (by omega), if_neg (by omega)]; unfold boxOk at h; rw [if_pos h]
theorem oE_bad {K N A X : List Int} (h1 : A.length ≤ 4096) (h2 : 16 ≤ X.length) (h3 : X.length ≤ 4112) (h : ¬ boxOk K N A X X.length) : oE K N A X = 60 := by
  unfold oE; rw [if_neg (by omega), if_neg (by omega)]; unfold boxOk at h; rw [if_neg h]
theorem oX_ok {K N A X : List Int} (h : oE K N A X = 0) : oX K N A X = xo K 1 N (X.take (X.length - 16)) := by unfold oX; rw [if_pos h]
theorem oX_bad {K N A X : List Int} (h : oE K N A X ≠ 0) : oX K N A X = [] := by unfold oX; rw [if_neg h]
theorem sX_byts {K N A B : List Int} (hB : Byts B) : Byts (sX K N A B) := by
  by_cases h : 4096 < A.length ∨ 4096 < B.length
  · rw [sX_long h]; exact fun j => by simp [gi]
  · rw [sX_ok (by omega) (by omega)]; exact sealV_byts _ _ _ hB
theorem oX_byts {K N A X : List Int} (hB : Byts X) : Byts (oX K N A X) := by
  by_cases h : oE K N A X = 0
  · rw [oX_ok h]; exact xo_byts _ _ _ (hB.take2 _)
  · rw [oX_bad h]; exact fun j => by simp [gi]
/-- Where a call that answers bytes and a number ends. -/
def BoxPost (w : World) (X : List Int) (n : Int) (e : Ending) (w' : World) : Prop := ∃ q c abs, e = .returned (.tuple #[.slice q X.length c, .int .i64 n]) ∧ AO q X.length c X abs ∧ OwnM w [] w' abs
theorem BoxPost.nil {w w' : World} {n : Int} (h : Below w.heap.size w w') : BoxPost w [] n (.returned (.tuple #[.slice none 0 0, .int .i64 n])) w' :=
  ⟨none, 0, [], rfl, AO.nil, by simpa using (OwnM.start w).grow h⟩
section
variable (K N : List Int) (hK : K.length = 32) (hN : N.length = 12) (p q : Option Addr) (c d : Nat) (A B : List Int) (bK : Byts K) (bN : Byts N) (bA : Byts A) (bB : Byts B) (w : World) (hSA : Sl w p A.length c A) (hSB : Sl w q B.length d B) (hn : A.length ≤ 140737488355328) (hm : B.length ≤ 140737488355328)
include hK hN bA bB hSA hSB hn hm
theorem seal_u : Calls Try.prog 26 #[.agg (ints .u8 K), .agg (ints .u8 N), .slice p A.length c, .slice q B.length d] w (BoxPost w (sX K N A B) (sE A B)) := by
  by_cases h : 4096 < A.length ∨ 4096 < B.length
  · rw [sX_long h, sE_long h]
    refine (seal_long K N hK hN p q _ c _ d A B w hSA hSB h hn hm).mono ?_
    rintro e w' ⟨rfl, hb⟩
    exact .nil hb
  · rw [sX_ok (by omega) (by omega), sE_ok (by omega) (by omega)]
    refine (seal_ok K N hK hN p q _ c _ d A B w hSA hSB bA bB (by omega) (by omega)).mono ?_
    rintro e w' ⟨q, c, abs, rfl, ha, hw⟩
    exact ⟨q, c, abs, by rw [sealV_length], by rw [sealV_length]; exact ha, hw⟩
theorem open_u : Calls Try.prog 37 #[.agg (ints .u8 K), .agg (ints .u8 N), .slice p A.length c, .slice q B.length d] w (BoxPost w (oX K N A B) (oE K N A B)) := by
  by_cases h : 4096 < A.length ∨ 4112 < B.length
  · have h1 := oE_long (K := K) (N := N) h
    rw [oX_bad (by rw [h1]; decide), h1]
    refine (open_long K N hK hN p q _ c _ d A B w hSA hSB h hn hm).mono ?_
    rintro e w' ⟨rfl, hb⟩
    exact .nil hb
  · by_cases h2 : B.length < 16
    · have h1 := oE_short (K := K) (N := N) (A := A) (by omega) h2
      rw [oX_bad (by rw [h1]; decide), h1]
      refine (open_short K N hK hN p q _ c _ d A B w hSA hSB (by omega) h2).mono ?_
      rintro e w' ⟨rfl, hb⟩
      exact .nil hb
    · by_cases h3 : boxOk K N A B B.length
      · have h1 := oE_ok (by omega) (by omega) (by omega) h3
        rw [oX_ok h1, h1]
        refine (open_ok K N hK hN p q _ c _ d A B w hSA hSB bA bB (by omega) (by omega) (by omega) h3).mono ?_
        have e1 : (xo K 1 N (B.take (B.length - 16))).length = B.length - 16 := by simp
        rintro e w' ⟨q, c, abs, rfl, ha, hw⟩
        exact ⟨q, c, abs, by rw [e1], by rw [e1]; exact ha, hw⟩
      · have h1 := oE_bad (by omega) (by omega) (by omega) h3
        rw [oX_bad (by rw [h1]; decide), h1]
        refine (open_bad K N hK hN p q _ c _ d A B w hSA hSB bA bB (by omega) (by omega) (by omega) h3).mono ?_
        rintro e w' ⟨rfl, hb⟩
        exact .nil hb
include bK bN
theorem rseal_u : Calls Try.prog 34 #[.agg (ints .u8 K), .agg (ints .u8 N), .slice p A.length c, .slice q B.length d] w (BoxPost w (sX K N A B) (sE A B)) := by
  by_cases h : 4096 < A.length ∨ 4096 < B.length
  · rw [sX_long h, sE_long h]
    refine (rseal_long K N hK hN p q _ c _ d A B w hSA hSB h hn hm).mono ?_
    rintro e w' ⟨rfl, hb⟩
    exact .nil hb
  · rw [sX_ok (by omega) (by omega), sE_ok (by omega) (by omega)]
    refine (rseal_ok K N hK hN p q _ c _ d A B w hSA hSB bK bN bA bB (by omega) (by omega)).mono ?_
    rintro e w' ⟨av, abs, rfl, ha, hw⟩
    obtain ⟨q, c, rfl, ha2⟩ := AllO.ao ha rfl
    exact ⟨q, c, abs, rfl, ha2, hw⟩
theorem ropen_u : Calls Try.prog 51 #[.agg (ints .u8 K), .agg (ints .u8 N), .slice p A.length c, .slice q B.length d] w (BoxPost w (oX K N A B) (oE K N A B)) := by
  by_cases h : 4096 < A.length ∨ 4112 < B.length
  · have h1 := oE_long (K := K) (N := N) h
    rw [oX_bad (by rw [h1]; decide), h1]
    refine (ropen_long K N hK hN p q _ c _ d A B w hSA hSB h hn hm).mono ?_
    rintro e w' ⟨rfl, hb⟩
    exact .nil hb
  · by_cases h2 : B.length < 16
    · have h1 := oE_short (K := K) (N := N) (A := A) (by omega) h2
      rw [oX_bad (by rw [h1]; decide), h1]
      refine (ropen_short K N hK hN p q _ c _ d A B w hSA hSB (by omega) h2).mono ?_
      rintro e w' ⟨rfl, hb⟩
      exact .nil hb
    · by_cases h3 : boxOk K N A B B.length
      · have h1 := oE_ok (by omega) (by omega) (by omega) h3
        rw [oX_ok h1, h1]
        refine (ropen_ok K N hK hN p q _ c _ d A B w hSA hSB bK bN bA bB (by omega) (by omega) (by omega) h3).mono ?_
        rintro e w' ⟨av, abs, rfl, ha, hw⟩
        obtain ⟨q, c, rfl, ha2⟩ := AllO.ao ha rfl
        exact ⟨q, c, abs, rfl, ha2, hw⟩
      · have h1 := oE_bad (by omega) (by omega) (by omega) h3
        rw [oX_bad (by rw [h1]; decide), h1]
        refine (ropen_bad K N hK hN p q _ c _ d A B w hSA hSB bK bN bA bB (by omega) (by omega) (by omega) h3).mono ?_
        rintro e w' ⟨rfl, hb⟩
        exact .nil hb
end
end Sp
end Go.Proofs.Ythbmlpiplfbehaa
