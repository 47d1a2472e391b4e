/-
  PolyKnown's rows and the tags of its constants.
-/
import Derived.Test.YtngbfamlhlhbmaaPolyS
namespace Go.Proofs.Ytngbfamlhlhbmaa
set_option linter.unusedSimpArgs false
set_option linter.unusedVariables false
open Go Go.RowKit

open Sp F M
def ffI' : Nat → List Int
  | 0 => List.replicate 64 0
  | k + 1 => (ffI' k).set k 255
@[irreducible] def ffI (k : Nat) : List Int := ffI' k
theorem ffI_0 : ffI 0 = List.replicate 64 0 := by unfold ffI; rfl
theorem ffI_s (k : Nat) : ffI (k + 1) = (ffI k).set k 255 := by unfold ffI; rfl
theorem ffI_length : ∀ k, (ffI k).length = 64
  | 0 => by rw [ffI_0]; rfl
  | k + 1 => by rw [ffI_s, List.length_set, ffI_length k]
attribute [simp] ffI_length
def tpI' : Nat → List Int
  | 0 => (2 :: List.replicate 31 0)
  | k + 1 => (tpI' k).set (16 + k) 255
@[irreducible] def tpI (k : Nat) : List Int := tpI' k
theorem tpI_0 : tpI 0 = (2 :: List.replicate 31 0) := by unfold tpI; rfl
theorem tpI_s (k : Nat) : tpI (k + 1) = (tpI k).set (16 + k) 255 := by unfold tpI; rfl
theorem tpI_length : ∀ k, (tpI k).length = 32
  | 0 => by rw [tpI_0]; rfl
  | k + 1 => by rw [tpI_s, List.length_set, tpI_length k]
attribute [simp] tpI_length
theorem ffI_64 : ffI 64 = List.replicate 64 255 := by unfold ffI; decide +kernel
theorem tpI_16 : tpI 16 = 2 :: (List.replicate 15 0 ++ List.replicate 16 255) := by unfold tpI; decide +kernel
@[irreducible] def kTwo : List Int := 2 :: List.replicate 31 0
@[irreducible] def kOne : List Int := 1 :: List.replicate 31 0
@[irreducible] def kTop : List Int := 2 :: (List.replicate 15 0 ++ List.replicate 16 255)
theorem kTwo_length : kTwo.length = 32 := by unfold kTwo; rfl
theorem kOne_length : kOne.length = 32 := by unfold kOne; rfl
theorem kTop_length : kTop.length = 32 := by unfold kTop; rfl
attribute [simp] kTwo_length kOne_length kTop_length
theorem tpI_0' : tpI 0 = kTwo := by unfold kTwo; rw [tpI_0]
theorem tpI_16' : tpI 16 = kTop := by unfold kTop; exact tpI_16
theorem ff_16 : Lies (ints .u8 (List.replicate 64 255)) 0 (List.replicate 16 255) := Lies.row (List.replicate 16 255) (List.replicate 48 255)
theorem ff_15 : Lies (ints .u8 (List.replicate 64 255)) 0 (List.replicate 15 255) := Lies.row (List.replicate 15 255) (List.replicate 49 255)
theorem byts_c {L : List Int} (h : ∀ x ∈ L, 0 ≤ x ∧ x < 256) : Byts L := by
  intro j
  unfold gi
  rw [List.getD_eq_getElem?_getD]
  cases hj : L[j]? with
  | none => simp
  | some x => exact h x (List.mem_of_getElem? hj)
theorem kTwo_byts : Byts kTwo := byts_c (by unfold kTwo; decide +kernel)
theorem kOne_byts : Byts kOne := byts_c (by unfold kOne; decide +kernel)
theorem kTop_byts : Byts kTop := byts_c (by unfold kTop; decide +kernel)
theorem tg_k1 : tg kTwo (List.replicate 16 255) = 3 :: List.replicate 15 0 := by unfold tg kTwo; decide +kernel
theorem tg_k2 : tg kTop (2 :: List.replicate 15 0) = 3 :: List.replicate 15 0 := by unfold tg kTop; decide +kernel
theorem tg_k3 : tg kOne (List.replicate 16 255 ++ [240] ++ List.replicate 15 255 ++ [17] ++ List.replicate 15 0) = 5 :: List.replicate 15 0 := by unfold tg kOne; decide +kernel
theorem tg_k4 : tg kOne (List.replicate 16 255 ++ [251] ++ List.replicate 15 254 ++ List.replicate 16 1) = List.replicate 16 0 := by unfold tg kOne; decide +kernel
theorem tg_k5 : tg kTwo ([253] ++ List.replicate 15 255) = 250 :: List.replicate 15 255 := by unfold tg kTwo; decide +kernel


end Go.Proofs.Ytngbfamlhlhbmaa
