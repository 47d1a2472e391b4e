/-
  Joined texts: FieldD, FieldM, RefA, RefB, RefC, RefD, RefM, RefN, RefO, FieldN, FieldO, FieldP, RefE, Open. No conditions.
-/
import Derived.Test.YtdjecenggngdjaaGaa
import Derived.Test.YtdjecenggngdjaaGaf
import Derived.Test.YtdjecenggngdjaaGag
import Derived.Lib.Hide
import Derived.ProofKit
import Derived.OpenShut
namespace Go.Proofs.Ytdjecenggngdjaa
set_option linter.unusedSimpArgs false
set_option linter.unusedVariables false
set_option maxHeartbeats 16000000
section
open Go Go.RowKit
theorem carriedL_ok (l : List Int) : AllG (carriedL l) := by
  intro i
  match i with
  | 0 | 1 | 2 | 3 | 4 => exact W64.wrap _
  | n + 5 => exact W64.zero
theorem mulR_ok (a b : List Int) : AllG (mulR a b) := carriedL_ok _
def invN (a : List Int) : Nat → List Int
  | 0 => [1, 0, 0, 0, 0]
  | k + 1 => if k = 252 ∨ k = 250 then mulR (invN a k) (invN a k) else mulR (mulR (invN a k) (invN a k)) a
theorem invN_length (a : List Int) (k : Nat) : (invN a k).length = 5 := by
  cases k with
  | zero => rfl
  | succ k => simp only [invN]; split <;> rfl
theorem one_ok : AllG [1, 0, 0, 0, 0] := by
  intro i
  match i with
  | 0 => exact ⟨by decide, by decide⟩
  | 1 | 2 | 3 | 4 => exact W64.zero
  | n + 5 => exact W64.zero
theorem invN_ok (a : List Int) (k : Nat) : AllG (invN a k) := by
  cases k with
  | zero => exact one_ok
  | succ k => simp only [invN]; split <;> exact mulR_ok _ _
@[irreducible] def mulI (a b : List Int) : List Int := mulR a b
theorem mulI_eq (a b : List Int) : mulI a b = mulR a b := by unfold mulI; rfl
theorem mulI_length (a b : List Int) : (mulI a b).length = 5 := by rw [mulI_eq]; rfl
theorem mulI_ok (a b : List Int) : AllG (mulI a b) := by rw [mulI_eq]; exact mulR_ok a b
theorem mulI_any (a b : List Int) (ha : a.length = 5) (hb : b.length = 5) (wa : AllG a) (wb : AllG b) (w : World) :
    Calls Try.prog 48 #[.agg (ints .u64 a), .agg (ints .u64 b)] w fun e w' => e = .returned (.agg (ints .u64 (mulI a b))) ∧ Below w.heap.size w w' := by
  rw [mulI_eq]; exact mul_any a b ha hb wa wb w
set_option maxRecDepth 20000 in
theorem inv_any (a : List Int) (ha : a.length = 5) (wa : AllG a) (w : World) :
    Calls Try.prog 49 #[.agg (ints .u64 a)] w fun e w' => e = .returned (.agg (ints .u64 (invN a 255))) ∧ Below w.heap.size w w' := by
  have hown := Own.start w
  have hL := invN_length a
  have hO := invN_ok a
  have hS : ∀ k, (k = 252 ∨ k = 250) → invN a (k + 1) = mulI (invN a k) (invN a k) := fun k h => by rw [mulI_eq]; exact if_pos h
  have hM : ∀ k, ¬ (k = 252 ∨ k = 250) → invN a (k + 1) = mulI (mulI (invN a k) (invN a k)) a := fun k h => by rw [mulI_eq, mulI_eq]; exact if_neg h
  have h0 : invN a 0 = [1, 0, 0, 0, 0] := rfl
  obtain ⟨inv, hinv⟩ : ∃ inv, inv = invN a := ⟨_, rfl⟩
  rw [← hinv] at hL hO hS hM h0 ⊢
  clear hinv
  go_enter Try.func49, Try.ntmps49
  have tok_b1 : True := trivial
  have tok_b2 : True := trivial
  have tok_b3 : True := trivial
  go_wp2_with (first | ((with_reducible show wpList _ _ _ (⟨_, .box _ _, _, _, _, _⟩ :: _) _ _); have _t := tok_b1; refine wpl_box hown rfl _ _ rfl _ rfl ?_; clear hown _t tok_b1; intro b1 _ hown; dsimp only [putL, setNth]) | ((with_reducible show wpList _ _ _ (⟨_, .alloc _, _, _, _, _⟩ :: _) _ _); have _t := tok_b2; refine wpl_alloc hown rfl _ rfl _ zero_elem ?_; clear hown _t tok_b2; intro b2 _ hown; dsimp only [putL, setNth]) | ((with_reducible show wpList _ _ _ (⟨_, .alloc _, _, _, _, _⟩ :: _) _ _); have _t := tok_b3; refine wpl_alloc hown rfl _ rfl _ zero_elem ?_; clear hown _t tok_b3; intro b3 _ hown; dsimp only [putL, setNth]) | ((with_reducible show wpList _ _ _ (⟨_, .load _ _, _, _, _, _⟩ :: _) _ _); refine wpl_load_row hown rfl 82 _ rfl _ rfl 0 _ _ rfl _ Try.underlying82 rfl (sz_elem (by first | exact hL _ | exact mulI_length _ _ | exact ha)) ?_; dsimp only [putL, setNth]) | ((with_reducible show wpList _ _ _ (⟨_, .load _ _, _, _, _, _⟩ :: _) _ _); refine wpl_load_row hown rfl 82 _ rfl _ rfl 2 _ _ rfl _ Try.underlying82 rfl (sz_elem (by first | exact hL _ | exact mulI_length _ _ | exact ha)) ?_; dsimp only [putL, setNth]) | (go_at_call 45; refine (small_any 1 ?_ ?_ _).mono ?_; (· omega); (· omega); rintro e w' ⟨rfl, hb⟩; replace hown := hown.grow hb; clear hb) | (go_at_call 48; refine (mulI_any _ _ ?_ ?_ ?_ ?_ _).mono ?_; (first | exact hL _ | exact mulI_length _ _ | exact ha); (first | exact hL _ | exact mulI_length _ _ | exact ha); (first | exact hO _ | exact mulI_ok _ _ | exact wa); (first | exact hO _ | exact mulI_ok _ _ | exact wa); rintro e w' ⟨rfl, hb⟩; replace hown := hown.grow hb; clear hb) | ((with_reducible show wpList _ _ _ (⟨_, .store _ _ _, _, _, _, _⟩ :: _) _ _); refine wpl_store_row hown rfl 82 _ _ rfl _ rfl _ rfl (ints_cell _ _) (sz_elem (by first | exact hL _ | exact mulI_length _ _ | exact ha)) 0 _ _ rfl (sz_eq (n := 5) (by first | exact hL _ | exact mulI_length _ _ | exact ha) (by first | exact hL _ | exact mulI_length _ _ | exact ha)) ?_; clear hown; intro _ hown; dsimp only [putL]; simp only [List.set_cons_zero, List.set_cons_succ] at hown) | ((with_reducible show wpList _ _ _ (⟨_, .store _ _ _, _, _, _, _⟩ :: _) _ _); refine wpl_store_row hown rfl 82 _ _ rfl _ rfl _ rfl (ints_cell _ _) (sz_elem rfl) 0 _ _ rfl (sz_eq (n := 5) rfl rfl) ?_; clear hown; intro _ hown; dsimp only [putL]; simp only [List.set_cons_zero, List.set_cons_succ] at hown) | ((with_reducible show wpList _ _ _ (⟨_, .store _ _ _, _, _, _, _⟩ :: _) _ _); refine wpl_store_row hown rfl 82 _ _ rfl _ rfl _ rfl (ints_cell _ _) (sz_elem (by first | exact hL _ | exact mulI_length _ _ | exact ha)) 1 _ _ rfl (sz_eq (n := 5) (by first | exact hL _ | exact mulI_length _ _ | exact ha) (by first | exact hL _ | exact mulI_length _ _ | exact ha)) ?_; clear hown; intro _ hown; dsimp only [putL]; simp only [List.set_cons_zero, List.set_cons_succ] at hown) | ((with_reducible show wpList _ _ _ (⟨_, .store _ _ _, _, _, _, _⟩ :: _) _ _); refine wpl_store_row hown rfl 82 _ _ rfl _ rfl _ rfl (ints_cell _ _) (sz_elem (by first | exact hL _ | exact mulI_length _ _ | exact ha)) 1 _ _ rfl (sz_eq (n := 5) rfl (by first | exact hL _ | exact mulI_length _ _ | exact ha)) ?_; clear hown; intro _ hown; dsimp only [putL]; simp only [List.set_cons_zero, List.set_cons_succ] at hown))
  go_loopw [4] (fun i wr => ∃ k : Nat, k ≤ 255 ∧ i = .int .i64 (254 - (k : Int)) ∧ Own w wr [(b3, ints .u64 (inv k), 82), (b2, ints .u64 (List.replicate 5 0), 82), (b1, ints .u64 a, 82)]) (fun i _ => (intOf i + 1).toNat)
  case atStart => exact ⟨0, by omega, rfl, by rw [h0]; exact hown⟩
  case round =>
    clear hown
    obtain ⟨k, hk, rfl, hown⟩ := hrel
    have f1 : IntKind.i64.wrap (254 - (k : Int) - 1) = 254 - (k : Int) - 1 := IntWalk.i64_in _ (by omega)
    by_cases hlt : k < 255
    · by_cases h2 : k = 252
      · have HS := Lib.hid (hS k (Or.inl h2))
        have g2 : 254 - (k : Int) = 2 := by omega
        clear hS hM h2 h0
        go_wp2_with (first | ((with_reducible show wpList _ _ _ (⟨_, .load _ _, _, _, _, _⟩ :: _) _ _); refine wpl_load_row hown rfl 82 _ rfl _ rfl 0 _ _ rfl _ Try.underlying82 rfl (sz_elem (by first | exact hL _ | exact mulI_length _ _ | exact ha)) ?_; dsimp only [putL, setNth]) | ((with_reducible show wpList _ _ _ (⟨_, .load _ _, _, _, _, _⟩ :: _) _ _); refine wpl_load_row hown rfl 82 _ rfl _ rfl 2 _ _ rfl _ Try.underlying82 rfl (sz_elem (by first | exact hL _ | exact mulI_length _ _ | exact ha)) ?_; dsimp only [putL, setNth]) | (go_at_call 45; refine (small_any 1 ?_ ?_ _).mono ?_; (· omega); (· omega); rintro e w' ⟨rfl, hb⟩; replace hown := hown.grow hb; clear hb) | (go_at_call 48; refine (mulI_any _ _ ?_ ?_ ?_ ?_ _).mono ?_; (first | exact hL _ | exact mulI_length _ _ | exact ha); (first | exact hL _ | exact mulI_length _ _ | exact ha); (first | exact hO _ | exact mulI_ok _ _ | exact wa); (first | exact hO _ | exact mulI_ok _ _ | exact wa); rintro e w' ⟨rfl, hb⟩; replace hown := hown.grow hb; clear hb) | ((with_reducible show wpList _ _ _ (⟨_, .store _ _ _, _, _, _, _⟩ :: _) _ _); refine wpl_store_row hown rfl 82 _ _ rfl _ rfl _ rfl (ints_cell _ _) (sz_elem (by first | exact hL _ | exact mulI_length _ _ | exact ha)) 0 _ _ rfl (sz_eq (n := 5) (by first | exact hL _ | exact mulI_length _ _ | exact ha) (by first | exact hL _ | exact mulI_length _ _ | exact ha)) ?_; clear hown; intro _ hown; dsimp only [putL]; simp only [List.set_cons_zero, List.set_cons_succ] at hown) | ((with_reducible show wpList _ _ _ (⟨_, .store _ _ _, _, _, _, _⟩ :: _) _ _); refine wpl_store_row hown rfl 82 _ _ rfl _ rfl _ rfl (ints_cell _ _) (sz_elem rfl) 0 _ _ rfl (sz_eq (n := 5) rfl rfl) ?_; clear hown; intro _ hown; dsimp only [putL]; simp only [List.set_cons_zero, List.set_cons_succ] at hown) | ((with_reducible show wpList _ _ _ (⟨_, .store _ _ _, _, _, _, _⟩ :: _) _ _); refine wpl_store_row hown rfl 82 _ _ rfl _ rfl _ rfl (ints_cell _ _) (sz_elem (by first | exact hL _ | exact mulI_length _ _ | exact ha)) 1 _ _ rfl (sz_eq (n := 5) (by first | exact hL _ | exact mulI_length _ _ | exact ha) (by first | exact hL _ | exact mulI_length _ _ | exact ha)) ?_; clear hown; intro _ hown; dsimp only [putL]; simp only [List.set_cons_zero, List.set_cons_succ] at hown) | ((with_reducible show wpList _ _ _ (⟨_, .store _ _ _, _, _, _, _⟩ :: _) _ _); refine wpl_store_row hown rfl 82 _ _ rfl _ rfl _ rfl (ints_cell _ _) (sz_elem (by first | exact hL _ | exact mulI_length _ _ | exact ha)) 1 _ _ rfl (sz_eq (n := 5) rfl (by first | exact hL _ | exact mulI_length _ _ | exact ha)) ?_; clear hown; intro _ hown; dsimp only [putL]; simp only [List.set_cons_zero, List.set_cons_succ] at hown))
        go_roundw
        case rel => exact ⟨k + 1, by omega, by go_num, by rw [HS.out]; exact hown⟩
        case measure => simp [intOf, f1]; omega
      · by_cases h4 : k = 250
        · have HS := Lib.hid (hS k (Or.inr h4))
          have g2 : ¬ (254 - (k : Int) = 2) := by omega
          have g4 : 254 - (k : Int) = 4 := by omega
          clear hS hM h2 h4 h0
          go_wp2_with (first | ((with_reducible show wpList _ _ _ (⟨_, .load _ _, _, _, _, _⟩ :: _) _ _); refine wpl_load_row hown rfl 82 _ rfl _ rfl 0 _ _ rfl _ Try.underlying82 rfl (sz_elem (by first | exact hL _ | exact mulI_length _ _ | exact ha)) ?_; dsimp only [putL, setNth]) | ((with_reducible show wpList _ _ _ (⟨_, .load _ _, _, _, _, _⟩ :: _) _ _); refine wpl_load_row hown rfl 82 _ rfl _ rfl 2 _ _ rfl _ Try.underlying82 rfl (sz_elem (by first | exact hL _ | exact mulI_length _ _ | exact ha)) ?_; dsimp only [putL, setNth]) | (go_at_call 45; refine (small_any 1 ?_ ?_ _).mono ?_; (· omega); (· omega); rintro e w' ⟨rfl, hb⟩; replace hown := hown.grow hb; clear hb) | (go_at_call 48; refine (mulI_any _ _ ?_ ?_ ?_ ?_ _).mono ?_; (first | exact hL _ | exact mulI_length _ _ | exact ha); (first | exact hL _ | exact mulI_length _ _ | exact ha); (first | exact hO _ | exact mulI_ok _ _ | exact wa); (first | exact hO _ | exact mulI_ok _ _ | exact wa); rintro e w' ⟨rfl, hb⟩; replace hown := hown.grow hb; clear hb) | ((with_reducible show wpList _ _ _ (⟨_, .store _ _ _, _, _, _, _⟩ :: _) _ _); refine wpl_store_row hown rfl 82 _ _ rfl _ rfl _ rfl (ints_cell _ _) (sz_elem (by first | exact hL _ | exact mulI_length _ _ | exact ha)) 0 _ _ rfl (sz_eq (n := 5) (by first | exact hL _ | exact mulI_length _ _ | exact ha) (by first | exact hL _ | exact mulI_length _ _ | exact ha)) ?_; clear hown; intro _ hown; dsimp only [putL]; simp only [List.set_cons_zero, List.set_cons_succ] at hown) | ((with_reducible show wpList _ _ _ (⟨_, .store _ _ _, _, _, _, _⟩ :: _) _ _); refine wpl_store_row hown rfl 82 _ _ rfl _ rfl _ rfl (ints_cell _ _) (sz_elem rfl) 0 _ _ rfl (sz_eq (n := 5) rfl rfl) ?_; clear hown; intro _ hown; dsimp only [putL]; simp only [List.set_cons_zero, List.set_cons_succ] at hown) | ((with_reducible show wpList _ _ _ (⟨_, .store _ _ _, _, _, _, _⟩ :: _) _ _); refine wpl_store_row hown rfl 82 _ _ rfl _ rfl _ rfl (ints_cell _ _) (sz_elem (by first | exact hL _ | exact mulI_length _ _ | exact ha)) 1 _ _ rfl (sz_eq (n := 5) (by first | exact hL _ | exact mulI_length _ _ | exact ha) (by first | exact hL _ | exact mulI_length _ _ | exact ha)) ?_; clear hown; intro _ hown; dsimp only [putL]; simp only [List.set_cons_zero, List.set_cons_succ] at hown) | ((with_reducible show wpList _ _ _ (⟨_, .store _ _ _, _, _, _, _⟩ :: _) _ _); refine wpl_store_row hown rfl 82 _ _ rfl _ rfl _ rfl (ints_cell _ _) (sz_elem (by first | exact hL _ | exact mulI_length _ _ | exact ha)) 1 _ _ rfl (sz_eq (n := 5) rfl (by first | exact hL _ | exact mulI_length _ _ | exact ha)) ?_; clear hown; intro _ hown; dsimp only [putL]; simp only [List.set_cons_zero, List.set_cons_succ] at hown))
          go_roundw
          case rel => exact ⟨k + 1, by omega, by go_num, by rw [HS.out]; exact hown⟩
          case measure => simp [intOf, f1]; omega
        · have HS := Lib.hid (hM k (by omega))
          clear hS hM h0
          have g2 : ¬ (254 - (k : Int) = 2) := by omega
          have g4 : ¬ (254 - (k : Int) = 4) := by omega
          go_wp2_with (first | ((with_reducible show wpList _ _ _ (⟨_, .load _ _, _, _, _, _⟩ :: _) _ _); refine wpl_load_row hown rfl 82 _ rfl _ rfl 0 _ _ rfl _ Try.underlying82 rfl (sz_elem (by first | exact hL _ | exact mulI_length _ _ | exact ha)) ?_; dsimp only [putL, setNth]) | ((with_reducible show wpList _ _ _ (⟨_, .load _ _, _, _, _, _⟩ :: _) _ _); refine wpl_load_row hown rfl 82 _ rfl _ rfl 2 _ _ rfl _ Try.underlying82 rfl (sz_elem (by first | exact hL _ | exact mulI_length _ _ | exact ha)) ?_; dsimp only [putL, setNth]) | (go_at_call 45; refine (small_any 1 ?_ ?_ _).mono ?_; (· omega); (· omega); rintro e w' ⟨rfl, hb⟩; replace hown := hown.grow hb; clear hb) | (go_at_call 48; refine (mulI_any _ _ ?_ ?_ ?_ ?_ _).mono ?_; (first | exact hL _ | exact mulI_length _ _ | exact ha); (first | exact hL _ | exact mulI_length _ _ | exact ha); (first | exact hO _ | exact mulI_ok _ _ | exact wa); (first | exact hO _ | exact mulI_ok _ _ | exact wa); rintro e w' ⟨rfl, hb⟩; replace hown := hown.grow hb; clear hb) | ((with_reducible show wpList _ _ _ (⟨_, .store _ _ _, _, _, _, _⟩ :: _) _ _); refine wpl_store_row hown rfl 82 _ _ rfl _ rfl _ rfl (ints_cell _ _) (sz_elem (by first | exact hL _ | exact mulI_length _ _ | exact ha)) 0 _ _ rfl (sz_eq (n := 5) (by first | exact hL _ | exact mulI_length _ _ | exact ha) (by first | exact hL _ | exact mulI_length _ _ | exact ha)) ?_; clear hown; intro _ hown; dsimp only [putL]; simp only [List.set_cons_zero, List.set_cons_succ] at hown) | ((with_reducible show wpList _ _ _ (⟨_, .store _ _ _, _, _, _, _⟩ :: _) _ _); refine wpl_store_row hown rfl 82 _ _ rfl _ rfl _ rfl (ints_cell _ _) (sz_elem rfl) 0 _ _ rfl (sz_eq (n := 5) rfl rfl) ?_; clear hown; intro _ hown; dsimp only [putL]; simp only [List.set_cons_zero, List.set_cons_succ] at hown) | ((with_reducible show wpList _ _ _ (⟨_, .store _ _ _, _, _, _, _⟩ :: _) _ _); refine wpl_store_row hown rfl 82 _ _ rfl _ rfl _ rfl (ints_cell _ _) (sz_elem (by first | exact hL _ | exact mulI_length _ _ | exact ha)) 1 _ _ rfl (sz_eq (n := 5) (by first | exact hL _ | exact mulI_length _ _ | exact ha) (by first | exact hL _ | exact mulI_length _ _ | exact ha)) ?_; clear hown; intro _ hown; dsimp only [putL]; simp only [List.set_cons_zero, List.set_cons_succ] at hown) | ((with_reducible show wpList _ _ _ (⟨_, .store _ _ _, _, _, _, _⟩ :: _) _ _); refine wpl_store_row hown rfl 82 _ _ rfl _ rfl _ rfl (ints_cell _ _) (sz_elem (by first | exact hL _ | exact mulI_length _ _ | exact ha)) 1 _ _ rfl (sz_eq (n := 5) rfl (by first | exact hL _ | exact mulI_length _ _ | exact ha)) ?_; clear hown; intro _ hown; dsimp only [putL]; simp only [List.set_cons_zero, List.set_cons_succ] at hown))
          go_roundw
          case rel => exact ⟨k + 1, by omega, by go_num, by rw [HS.out]; exact hown⟩
          case measure => simp [intOf, f1]; omega
          rename_i hx
          rcases hx with hx | hx <;> simp at hx <;> omega
    · clear hS hM h0
      obtain rfl : k = 255 := by omega
      go_wp2_with (first | ((with_reducible show wpList _ _ _ (⟨_, .load _ _, _, _, _, _⟩ :: _) _ _); refine wpl_load_row hown rfl 82 _ rfl _ rfl 0 _ _ rfl _ Try.underlying82 rfl (sz_elem (by first | exact hL _ | exact mulI_length _ _ | exact ha)) ?_; dsimp only [putL, setNth]) | ((with_reducible show wpList _ _ _ (⟨_, .load _ _, _, _, _, _⟩ :: _) _ _); refine wpl_load_row hown rfl 82 _ rfl _ rfl 2 _ _ rfl _ Try.underlying82 rfl (sz_elem (by first | exact hL _ | exact mulI_length _ _ | exact ha)) ?_; dsimp only [putL, setNth]) | (go_at_call 45; refine (small_any 1 ?_ ?_ _).mono ?_; (· omega); (· omega); rintro e w' ⟨rfl, hb⟩; replace hown := hown.grow hb; clear hb) | (go_at_call 48; refine (mulI_any _ _ ?_ ?_ ?_ ?_ _).mono ?_; (first | exact hL _ | exact mulI_length _ _ | exact ha); (first | exact hL _ | exact mulI_length _ _ | exact ha); (first | exact hO _ | exact mulI_ok _ _ | exact wa); (first | exact hO _ | exact mulI_ok _ _ | exact wa); rintro e w' ⟨rfl, hb⟩; replace hown := hown.grow hb; clear hb) | ((with_reducible show wpList _ _ _ (⟨_, .store _ _ _, _, _, _, _⟩ :: _) _ _); refine wpl_store_row hown rfl 82 _ _ rfl _ rfl _ rfl (ints_cell _ _) (sz_elem (by first | exact hL _ | exact mulI_length _ _ | exact ha)) 0 _ _ rfl (sz_eq (n := 5) (by first | exact hL _ | exact mulI_length _ _ | exact ha) (by first | exact hL _ | exact mulI_length _ _ | exact ha)) ?_; clear hown; intro _ hown; dsimp only [putL]; simp only [List.set_cons_zero, List.set_cons_succ] at hown) | ((with_reducible show wpList _ _ _ (⟨_, .store _ _ _, _, _, _, _⟩ :: _) _ _); refine wpl_store_row hown rfl 82 _ _ rfl _ rfl _ rfl (ints_cell _ _) (sz_elem rfl) 0 _ _ rfl (sz_eq (n := 5) rfl rfl) ?_; clear hown; intro _ hown; dsimp only [putL]; simp only [List.set_cons_zero, List.set_cons_succ] at hown) | ((with_reducible show wpList _ _ _ (⟨_, .store _ _ _, _, _, _, _⟩ :: _) _ _); refine wpl_store_row hown rfl 82 _ _ rfl _ rfl _ rfl (ints_cell _ _) (sz_elem (by first | exact hL _ | exact mulI_length _ _ | exact ha)) 1 _ _ rfl (sz_eq (n := 5) (by first | exact hL _ | exact mulI_length _ _ | exact ha) (by first | exact hL _ | exact mulI_length _ _ | exact ha)) ?_; clear hown; intro _ hown; dsimp only [putL]; simp only [List.set_cons_zero, List.set_cons_succ] at hown) | ((with_reducible show wpList _ _ _ (⟨_, .store _ _ _, _, _, _, _⟩ :: _) _ _); refine wpl_store_row hown rfl 82 _ _ rfl _ rfl _ rfl (ints_cell _ _) (sz_elem (by first | exact hL _ | exact mulI_length _ _ | exact ha)) 1 _ _ rfl (sz_eq (n := 5) rfl (by first | exact hL _ | exact mulI_length _ _ | exact ha)) ?_; clear hown; intro _ hown; dsimp only [putL]; simp only [List.set_cons_zero, List.set_cons_succ] at hown))
      refine bodyPost_ret (results_own hown rfl _ rfl 1 _ _ rfl _ Try.underlying82 rfl (sz_elem (hL _))) rfl ⟨rfl, hown.below⟩
end
section
open Go Go.RowKit
theorem bit_of_digit (N : Int) (w q r : Nat) (hr : r < w) : N / (2 ^ w) ^ q % 2 ^ w / 2 ^ r % 2 = N / 2 ^ (w * q + r) % 2 := by
  obtain ⟨c, rfl⟩ : ∃ c, w = r + 1 + c := ⟨w - r - 1, by omega⟩
  have hA : (0 : Int) < 2 ^ r := pow_pos' (by omega) r
  have hQ : (0 : Int) ≤ 2 ^ ((r + 1 + c) * q) := Int.le_of_lt (pow_pos' (by omega) _)
  rw [← Int.pow_mul, Int.pow_add 2 ((r + 1 + c) * q) r, ← Int.ediv_ediv_of_nonneg hQ]
  generalize N / 2 ^ ((r + 1 + c) * q) = M
  have e : (2 : Int) ^ (r + 1 + c) = 2 ^ r * (2 * 2 ^ c) := by rw [Int.pow_add, Int.pow_succ, Int.mul_assoc]
  rw [e]
  have h := Int.emod_add_mul_ediv M (2 ^ r * (2 * 2 ^ c))
  generalize M % (2 ^ r * (2 * 2 ^ c)) = s at h ⊢
  generalize M / (2 ^ r * (2 * 2 ^ c)) = t at h
  rw [← h, Int.mul_assoc (2 ^ r), Int.add_mul_ediv_left _ _ (by omega), Int.mul_assoc 2, Int.add_mul_emod_self_left]
theorem bits_sum (N : Int) : ∀ K, sumN 2 (fun k => N / 2 ^ k % 2) K = N % 2 ^ K
  | 0 => by simp [sumN, Int.emod_one]
  | k + 1 => by
    have hA : (0 : Int) < 2 ^ k := pow_pos' (by omega) k
    have h1 := Int.emod_add_mul_ediv N (2 ^ k)
    have h2 := Int.emod_nonneg N (show (2 : Int) ^ k ≠ 0 by omega)
    have h3 := Int.emod_lt_of_pos N hA
    simp only [sumN]
    rw [bits_sum N k]
    generalize N % 2 ^ k = r at *
    generalize N / 2 ^ k = q at *
    obtain ⟨b, hb⟩ : ∃ b, b = q % 2 := ⟨_, rfl⟩
    obtain ⟨t, ht⟩ : ∃ t, t = q / 2 := ⟨_, rfl⟩
    have hq : q = 2 * t + b := by omega
    have hb2 : b = 0 ∨ b = 1 := by omega
    rw [← hb, Int.pow_succ]
    have e : N = (r + b * 2 ^ k) + 2 ^ k * 2 * t := by
      rw [← h1, hq, Int.mul_add, Int.mul_comm b, Int.mul_assoc]
      omega
    rw [e, Int.add_mul_emod_self_left]
    symm
    apply Int.emod_eq_of_lt
    · rcases hb2 with h | h <;> rw [h] <;> omega
    · rcases hb2 with h | h <;> rw [h] <;> omega
theorem fill_bits51 {F : Nat → List Int} {β : Nat → Int} {n : Nat} (hl : ∀ k, (F k).length = n) (h0 : ∀ j, gi (F 0) j = 0) (hβ : ∀ k, 0 ≤ β k ∧ β k ≤ 1)
    (hs : ∀ k, k < 51 * n → 0 ≤ gi (F k) (k / 51) → gi (F k) (k / 51) < 2 ^ (k % 51) → F (k + 1) = (F k).set (k / 51) (gi (F k) (k / 51) + β k * 2 ^ (k % 51))) : ∀ k, k ≤ 51 * n →
    (∀ j, j < k / 51 → 0 ≤ gi (F k) j ∧ gi (F k) j < 2251799813685248) ∧ 0 ≤ gi (F k) (k / 51) ∧ gi (F k) (k / 51) < 2 ^ (k % 51) ∧ (∀ j, k / 51 < j → gi (F k) j = 0) ∧ sumN 2251799813685248 (gi (F k)) n = sumN 2 β k
  | 0, _ => ⟨fun j hj => by omega, by rw [h0]; omega, by rw [h0]; decide, fun j _ => h0 j, by rw [sumN_zero _ _ _ (fun j _ => h0 j)]; rfl⟩
  | k + 1, hk => by
    obtain ⟨h1, h2, h3, h4, h5⟩ := fill_bits51 hl h0 hβ hs k (by omega)
    have e := hs k (by omega) h2 h3
    obtain ⟨b1, b2⟩ := hβ k
    have hp : (0 : Int) < 2 ^ (k % 51) := pow_pos' (by omega) _
    have hb0 : 0 ≤ β k * 2 ^ (k % 51) := Int.mul_nonneg b1 (by omega)
    have hb1 : β k * 2 ^ (k % 51) ≤ 1 * 2 ^ (k % 51) := Int.mul_le_mul_of_nonneg_right b2 (by omega)
    have hlt : k / 51 < (F k).length := by rw [hl]; omega
    have hsum : sumN 2251799813685248 (gi (F (k + 1))) n = sumN 2 β (k + 1) := by
      rw [e, sumN_set (by omega) hlt, h5]
      simp only [sumN]
      have hpow : (2 : Int) ^ k = 2 ^ (k % 51) * 2251799813685248 ^ (k / 51) := by
        rw [show (2251799813685248 : Int) = 2 ^ 51 from rfl, ← Int.pow_mul, ← Int.pow_add]
        congr 1
        omega
      rw [hpow, show gi (F k) (k / 51) + β k * 2 ^ (k % 51) - gi (F k) (k / 51) = β k * 2 ^ (k % 51) by omega, Int.mul_assoc]
    have hsame : gi (F (k + 1)) (k / 51) = gi (F k) (k / 51) + β k * 2 ^ (k % 51) := by rw [e, gi_same _ _ _ hlt]
    have hoth : ∀ j, j ≠ k / 51 → gi (F (k + 1)) j = gi (F k) j := fun j hj => by rw [e, gi_upd _ _ _ _ hj]
    by_cases hc : k % 51 = 50
    · have d1 : (k + 1) / 51 = k / 51 + 1 := by omega
      have d2 : (k + 1) % 51 = 0 := by omega
      rw [hc] at h3 hb1 hb0 hsame
      rw [d1, d2]
      refine ⟨fun j hj => ?_, ?_, ?_, fun j hj => ?_, hsum⟩
      · by_cases h : j = k / 51
        · subst h
          rw [hsame]
          have : (2 : Int) ^ 50 = 1125899906842624 := rfl
          rw [this] at *
          omega
        · rw [hoth j h]
          exact h1 j (by omega)
      · rw [hoth _ (by omega), h4 _ (by omega)]
        omega
      · rw [hoth _ (by omega), h4 _ (by omega)]
        decide
      · rw [hoth _ (by omega)]
        exact h4 _ (by omega)
    · have d1 : (k + 1) / 51 = k / 51 := by omega
      have d2 : (k + 1) % 51 = k % 51 + 1 := by omega
      rw [d1, d2, Int.pow_succ]
      refine ⟨fun j hj => ?_, ?_, ?_, fun j hj => ?_, hsum⟩
      · rw [hoth j (by omega)]
        exact h1 j hj
      · rw [hsame]
        omega
      · rw [hsame]
        omega
      · rw [hoth _ (by omega)]
        exact h4 _ hj
theorem fill_bits8 {F : Nat → List Int} {β : Nat → Int} {n : Nat} (hl : ∀ k, (F k).length = n) (h0 : ∀ j, gi (F 0) j = 0) (hβ : ∀ k, 0 ≤ β k ∧ β k ≤ 1)
    (hs : ∀ k, k < 8 * n → 0 ≤ gi (F k) (k / 8) → gi (F k) (k / 8) < 2 ^ (k % 8) → F (k + 1) = (F k).set (k / 8) (gi (F k) (k / 8) + β k * 2 ^ (k % 8))) : ∀ k, k ≤ 8 * n →
    (∀ j, j < k / 8 → 0 ≤ gi (F k) j ∧ gi (F k) j < 256) ∧ 0 ≤ gi (F k) (k / 8) ∧ gi (F k) (k / 8) < 2 ^ (k % 8) ∧ (∀ j, k / 8 < j → gi (F k) j = 0) ∧ sumN 256 (gi (F k)) n = sumN 2 β k
  | 0, _ => ⟨fun j hj => by omega, by rw [h0]; omega, by rw [h0]; decide, fun j _ => h0 j, by rw [sumN_zero _ _ _ (fun j _ => h0 j)]; rfl⟩
  | k + 1, hk => by
    obtain ⟨h1, h2, h3, h4, h5⟩ := fill_bits8 hl h0 hβ hs k (by omega)
    have e := hs k (by omega) h2 h3
    obtain ⟨b1, b2⟩ := hβ k
    have hp : (0 : Int) < 2 ^ (k % 8) := pow_pos' (by omega) _
    have hb0 : 0 ≤ β k * 2 ^ (k % 8) := Int.mul_nonneg b1 (by omega)
    have hb1 : β k * 2 ^ (k % 8) ≤ 1 * 2 ^ (k % 8) := Int.mul_le_mul_of_nonneg_right b2 (by omega)
    have hlt : k / 8 < (F k).length := by rw [hl]; omega
    have hsum : sumN 256 (gi (F (k + 1))) n = sumN 2 β (k + 1) := by
      rw [e, sumN_set (by omega) hlt, h5]
      simp only [sumN]
      have hpow : (2 : Int) ^ k = 2 ^ (k % 8) * 256 ^ (k / 8) := by
        rw [show (256 : Int) = 2 ^ 8 from rfl, ← Int.pow_mul, ← Int.pow_add]
        congr 1
        omega
      rw [hpow, show gi (F k) (k / 8) + β k * 2 ^ (k % 8) - gi (F k) (k / 8) = β k * 2 ^ (k % 8) by omega, Int.mul_assoc]
    have hsame : gi (F (k + 1)) (k / 8) = gi (F k) (k / 8) + β k * 2 ^ (k % 8) := by rw [e, gi_same _ _ _ hlt]
    have hoth : ∀ j, j ≠ k / 8 → gi (F (k + 1)) j = gi (F k) j := fun j hj => by rw [e, gi_upd _ _ _ _ hj]
    by_cases hc : k % 8 = 7
    · have d1 : (k + 1) / 8 = k / 8 + 1 := by omega
      have d2 : (k + 1) % 8 = 0 := by omega
      rw [hc] at h3 hb1 hb0 hsame
      rw [d1, d2]
      refine ⟨fun j hj => ?_, ?_, ?_, fun j hj => ?_, hsum⟩
      · by_cases h : j = k / 8
        · subst h
          rw [hsame]
          have : (2 : Int) ^ 7 = 128 := rfl
          rw [this] at *
          omega
        · rw [hoth j h]
          exact h1 j (by omega)
      · rw [hoth _ (by omega), h4 _ (by omega)]
        omega
      · rw [hoth _ (by omega), h4 _ (by omega)]
        decide
      · rw [hoth _ (by omega)]
        exact h4 _ (by omega)
    · have d1 : (k + 1) / 8 = k / 8 := by omega
      have d2 : (k + 1) % 8 = k % 8 + 1 := by omega
      rw [d1, d2, Int.pow_succ]
      refine ⟨fun j hj => ?_, ?_, ?_, fun j hj => ?_, hsum⟩
      · rw [hoth j (by omega)]
        exact h1 j hj
      · rw [hsame]
        omega
      · rw [hsame]
        omega
      · rw [hoth _ (by omega)]
        exact h4 _ hj
end
section
open Go Go.RowKit
def primeN : Nat → List Int
  | 0 => List.replicate 32 0
  | k + 1 => (primeN k).set k 255
def primeL : List Int := ((primeN 32).set 0 237).set 31 127
end
section
open Go Go.RowKit
end
section
open Go Go.RowKit
end
section
open Go Go.RowKit
@[irreducible] def primeI : List Int := primeL
@[irreducible] def prime2L : List Int := primeI.set 0 ((gi primeI 0 - 2) % 256)
def rinvT (i : Nat) : Prop := (gi prime2L (i / 8) / 2 ^ (i % 8)).tmod 2 = 1
instance (i : Nat) : Decidable (rinvT i) := by unfold rinvT; exact inferInstance
end
section
open Go Go.RowKit
def PP : Int := 57896044618658097711785492504343953926634992332820282019728792003956564819949
def Q256 : Int := 115792089237316195423570985008687907853269984665640564039457584007913129639936
end
section
open Go Go.RowKit
theorem modP {v w c : Int} (h : v = w + c * PP) : v % PP = w % PP := by rw [h, Int.add_mul_emod_self_right]
theorem sumN_add (B : Int) (f g : Nat → Int) : ∀ k, sumN B (fun i => f i + g i) k = sumN B f k + sumN B g k
  | 0 => rfl
  | k + 1 => by
    simp only [sumN]
    rw [sumN_add B f g k, Int.add_mul]
    omega
theorem sumN_sub (B : Int) (f g : Nat → Int) : ∀ k, sumN B (fun i => f i - g i) k = sumN B f k - sumN B g k
  | 0 => rfl
  | k + 1 => by
    simp only [sumN]
    rw [sumN_sub B f g k, Int.sub_mul]
    omega
def v32 (b : List Int) : Int := sumN 256 (gi b) 32
def H255 : Int := 57896044618658097711785492504343953926634992332820282019728792003956564819968
end
section
open Go Go.RowKit
def invV (v : Int) : Nat → Int
  | 0 => 1
  | k + 1 => if k = 252 ∨ k = 250 then invV v k * invV v k else invV v k * invV v k * v
end
section
open Go Go.RowKit
def v5 (l : List Int) : Int := sumN 2251799813685248 (gi l) 5
theorem v5_eq (l : List Int) : v5 l = gi l 0 + gi l 1 * 2251799813685248 + gi l 2 * 5070602400912917605986812821504 + gi l 3 * 11417981541647679048466287755595961091061972992 + gi l 4 * 25711008708143844408671393477458601640355247900524685364822016 := by
  unfold v5
  simp only [sumN, Int.pow_zero, Int.mul_one, Int.zero_add, Int.reducePow]
def IsE (l : List Int) (v : Int) : Prop := l.length = 5 ∧ (∀ i, i < 5 → 0 ≤ gi l i ∧ gi l i < 2251799813947392) ∧ v5 l % PP = v % PP
theorem allG_of {l : List Int} (hl : l.length = 5) (h : ∀ i, i < 5 → 0 ≤ gi l i ∧ gi l i < 18446744073709551616) : AllG l := by
  intro i
  by_cases hi : i < 5
  · have := h i hi
    unfold W64 M64
    omega
  · rw [gi_over l i (by omega)]
    exact W64.zero
theorem IsE.allG {l : List Int} {v : Int} (h : IsE l v) : AllG l := allG_of h.1 fun i hi => by have := h.2.1 i hi; omega
theorem AllG.in {l : List Int} (h : AllG l) (i : Nat) : 0 ≤ gi l i ∧ gi l i < 18446744073709551616 := h i
theorem carriedL_spec (l : List Int) (h : AllG l) : (∀ i, i < 5 → 0 ≤ gi (carriedL l) i ∧ gi (carriedL l) i < 2251799813947392) ∧ v5 (carriedL l) = v5 l - gi l 4 / 2251799813685248 * PP := by
  have a0 := h.in 0
  have a1 := h.in 1
  have a2 := h.in 2
  have a3 := h.in 3
  have a4 := h.in 4
  have e0 : gi (carriedL l) 0 = gi l 0 % 2251799813685248 + 19 * (gi l 4 / 2251799813685248) := by
    show IntKind.u64.wrap (bits .and .u64 (gi l 0) 2251799813685247 + IntKind.u64.wrap (19 * (gi l 4 / 2251799813685248))) = _
    rw [mask51 (h 0), u64_in (x := 19 * (gi l 4 / 2251799813685248)) (by omega) (by unfold M64; omega), u64_in (by omega) (by unfold M64; omega)]
  have e1 : gi (carriedL l) 1 = gi l 1 % 2251799813685248 + gi l 0 / 2251799813685248 := by
    show IntKind.u64.wrap (bits .and .u64 (gi l 1) 2251799813685247 + gi l 0 / 2251799813685248) = _
    rw [mask51 (h 1), u64_in (by omega) (by unfold M64; omega)]
  have e2 : gi (carriedL l) 2 = gi l 2 % 2251799813685248 + gi l 1 / 2251799813685248 := by
    show IntKind.u64.wrap (bits .and .u64 (gi l 2) 2251799813685247 + gi l 1 / 2251799813685248) = _
    rw [mask51 (h 2), u64_in (by omega) (by unfold M64; omega)]
  have e3 : gi (carriedL l) 3 = gi l 3 % 2251799813685248 + gi l 2 / 2251799813685248 := by
    show IntKind.u64.wrap (bits .and .u64 (gi l 3) 2251799813685247 + gi l 2 / 2251799813685248) = _
    rw [mask51 (h 3), u64_in (by omega) (by unfold M64; omega)]
  have e4 : gi (carriedL l) 4 = gi l 4 % 2251799813685248 + gi l 3 / 2251799813685248 := by
    show IntKind.u64.wrap (bits .and .u64 (gi l 4) 2251799813685247 + gi l 3 / 2251799813685248) = _
    rw [mask51 (h 4), u64_in (by omega) (by unfold M64; omega)]
  refine ⟨fun i hi => ?_, ?_⟩
  · match i, hi with
    | 0, _ => rw [e0]; omega
    | 1, _ => rw [e1]; omega
    | 2, _ => rw [e2]; omega
    | 3, _ => rw [e3]; omega
    | 4, _ => rw [e4]; omega
  · rw [v5_eq, v5_eq, e0, e1, e2, e3, e4]
    unfold PP
    omega
theorem carriedL_isE {l : List Int} {v : Int} (h : AllG l) (hv : v5 l % PP = v % PP) : IsE (carriedL l) v := by
  obtain ⟨h1, h2⟩ := carriedL_spec l h
  refine ⟨rfl, h1, ?_⟩
  rw [← hv]
  refine modP (c := -(gi l 4 / 2251799813685248)) ?_
  rw [h2, Int.neg_mul]
  rfl
theorem tmod_toNat (k m : Nat) : ((k : Int).tmod m).toNat = k % m := by
  rw [Int.tmod_eq_emod_of_nonneg (by omega)]
  omega
theorem fdiv_pow (x : Int) (r : Nat) : x.fdiv (2 ^ r) = x / 2 ^ r := Int.fdiv_eq_ediv_of_nonneg _ (Int.le_of_lt (pow_pos' (by omega) r))
theorem ediv_pow_le {x : Int} (h : 0 ≤ x) (r : Nat) : 0 ≤ x / 2 ^ r ∧ x / 2 ^ r ≤ x :=
  ⟨Int.ediv_nonneg h (Int.le_of_lt (pow_pos' (by omega) r)), Int.ediv_le_self _ h⟩
theorem pow_le_50 (r : Nat) (h : r < 51) : (0 : Int) < 2 ^ r ∧ (2 : Int) ^ r ≤ 1125899906842624 := by
  refine ⟨pow_pos' (by omega) r, ?_⟩
  have h1 : (2 : Nat) ^ r ≤ 2 ^ 50 := Nat.pow_le_pow_right (by omega) (by omega)
  have h2 : ((2 ^ r : Nat) : Int) = 2 ^ r := by simp
  have h3 : (2 : Nat) ^ 50 = 1125899906842624 := rfl
  omega
theorem from_isE (b : List Int) (hb : b.length = 32) (hd : Dig 256 (gi b) 32) : IsE (carriedL (fromN b 255)) (v32 b % H255) := by
  have hl := fromN_length b
  obtain ⟨N, hN⟩ : ∃ N, N = v32 b := ⟨_, rfl⟩
  have hbit : ∀ k, k < 255 → gi b (k / 8) / 2 ^ (k % 8) % 2 = N / 2 ^ k % 2 := by
    intro k hk
    rw [sumN_digit (by omega) hd (show k / 8 < 32 by omega), show sumN 256 (gi b) 32 = N from hN.symm]
    have := bit_of_digit N 8 (k / 8) (k % 8) (by omega)
    rw [show 8 * (k / 8) + k % 8 = k by omega] at this
    exact this
  have hs : ∀ k, k < 51 * 5 → 0 ≤ gi (fromN b k) (k / 51) → gi (fromN b k) (k / 51) < 2 ^ (k % 51) → fromN b (k + 1) = (fromN b k).set (k / 51) (gi (fromN b k) (k / 51) + N / 2 ^ k % 2 * 2 ^ (k % 51)) := by
    intro k hk h0 h1
    obtain ⟨d0, d1⟩ := hd (k / 8) (by omega)
    obtain ⟨q0, q1⟩ := ediv_pow_le d0 (k % 8)
    obtain ⟨p0, p1⟩ := pow_le_50 (k % 51) (by omega)
    have hβ : N / 2 ^ k % 2 = 0 ∨ N / 2 ^ k % 2 = 1 := by omega
    show (fromN b k).set (k / 51) _ = _
    rw [show ((k : Int).tmod 8).toNat = k % 8 from tmod_toNat k 8, show ((k : Int).tmod 51).toNat = k % 51 from tmod_toNat k 51, Nat.min_eq_left (by omega), Nat.min_eq_left (by omega), fdiv_pow, u8_bit q0 (by omega), hbit k (by omega)]
    generalize N / 2 ^ k % 2 = β at hβ ⊢
    have hm : 0 ≤ β * 2 ^ (k % 51) ∧ β * 2 ^ (k % 51) ≤ 1125899906842624 := by
      rcases hβ with h | h <;> rw [h] <;> omega
    rw [u64_in (x := β) (by omega) (by unfold M64; omega), u64_in (by omega) (by unfold M64; omega), u64_or_high (k % 51) h0 h1 (by omega) (by unfold M64; omega)]
  obtain ⟨f1, f2, f3, f4, f5⟩ := fill_bits51 (F := fromN b) (β := fun k => N / 2 ^ k % 2) hl (fun j => gi_rep 5 j) (fun k => by omega) hs 255 (by omega)
  have hg : AllG (fromN b 255) := allG_of (hl 255) fun i hi => by have := f1 i (by omega); omega
  refine carriedL_isE hg ?_
  rw [show v5 (fromN b 255) = sumN 2251799813685248 (gi (fromN b 255)) 5 from rfl, f5, bits_sum, hN]
  rfl
theorem small_isE (n : Int) (h0 : 0 ≤ n) (h1 : n < 4294967296) : IsE [n, 0, 0, 0, 0] n := by
  refine ⟨rfl, fun i hi => ?_, ?_⟩
  · match i, hi with
    | 0, _ => show 0 ≤ n ∧ n < 2251799813947392; omega
    | 1, _ | 2, _ | 3, _ | 4, _ => show (0 : Int) ≤ 0 ∧ (0 : Int) < 2251799813947392; omega
  · rw [v5_eq]
    show (n + 0 * 2251799813685248 + 0 * 5070602400912917605986812821504 + 0 * 11417981541647679048466287755595961091061972992 + 0 * 25711008708143844408671393477458601640355247900524685364822016) % PP = _
    congr 1
    omega
theorem fill_upd {R : Nat → List Int} {a : List Int} {f : Nat → Int} {n : Nat} (hl : ∀ k, (R k).length = n) (h0 : R 0 = a) (hs : ∀ k, k < n → gi (R k) k = gi a k → R (k + 1) = (R k).set k (f k)) : ∀ k, k ≤ n → (∀ i, i < k → gi (R k) i = f i) ∧ (∀ i, k ≤ i → gi (R k) i = gi a i)
  | 0, _ => ⟨fun i hi => by omega, fun i _ => by rw [h0]⟩
  | k + 1, hk => by
    obtain ⟨h1, h2⟩ := fill_upd hl h0 hs k (by omega)
    have e := hs k (by omega) (h2 k (Nat.le_refl k))
    refine ⟨fun i hi => ?_, fun i hi => ?_⟩
    · rw [e]
      by_cases h : i = k
      · subst h
        rw [gi_same _ _ _ (by rw [hl]; omega)]
      · rw [gi_upd _ _ _ _ h]
        exact h1 i (by omega)
    · rw [e, gi_upd _ _ _ _ (by omega)]
      exact h2 i (by omega)
theorem add_isE {a b : List Int} {v w : Int} (ha : IsE a v) (hb : IsE b w) : IsE (carriedL (addN a b 5)) (v + w) := by
  have hl := addN_length a b ha.1
  obtain ⟨hf, _⟩ := fill_upd (R := addN a b) (a := a) (f := fun k => gi a k + gi b k) hl rfl (fun k hk he => by
    obtain ⟨a1, a2⟩ := ha.2.1 k hk
    obtain ⟨b1, b2⟩ := hb.2.1 k hk
    show (addN a b k).set k (IntKind.u64.wrap (gi (addN a b k) k + gi b k)) = _
    rw [he, u64_in (by omega) (by unfold M64; omega)]) 5 (by omega)
  refine carriedL_isE (allG_of (hl 5) fun i hi => ?_) ?_
  · obtain ⟨a1, a2⟩ := ha.2.1 i hi
    obtain ⟨b1, b2⟩ := hb.2.1 i hi
    rw [hf i hi]
    omega
  · have : v5 (addN a b 5) = v5 a + v5 b := by
      unfold v5
      rw [sumN_congr hf, sumN_add]
    rw [this, Int.add_emod, ha.2.2, hb.2.2, ← Int.add_emod]
theorem sub_isE {a b : List Int} {v w : Int} (ha : IsE a v) (hb : IsE b w) : IsE (carriedL ((subN a b 5).set 0 (IntKind.u64.wrap (gi (subN a b 5) 0 - 72)))) (v - w) := by
  have hl := subN_length a b ha.1
  obtain ⟨hf, _⟩ := fill_upd (R := subN a b) (a := a) (f := fun k => gi a k - gi b k + 9007199254740988) hl rfl (fun k hk he => by
    obtain ⟨a1, a2⟩ := ha.2.1 k hk
    obtain ⟨b1, b2⟩ := hb.2.1 k hk
    show (subN a b k).set k (IntKind.u64.wrap (gi (subN a b k) k + IntKind.u64.wrap (9007199254740988 - gi b k))) = _
    rw [he, u64_in (x := 9007199254740988 - gi b k) (by omega) (by unfold M64; omega), u64_in (by omega) (by unfold M64; omega), show gi a k + (9007199254740988 - gi b k) = gi a k - gi b k + 9007199254740988 by omega]) 5 (by omega)
  have h0 := hf 0 (by omega)
  have a0 := ha.2.1 0 (by omega)
  have b0 := hb.2.1 0 (by omega)
  rw [u64_in (x := gi (subN a b 5) 0 - 72) (by omega) (by unfold M64; omega)]
  refine carriedL_isE (allG_of (by simp [hl]) fun i hi => ?_) ?_
  · obtain ⟨a1, a2⟩ := ha.2.1 i hi
    obtain ⟨b1, b2⟩ := hb.2.1 i hi
    have := hf i hi
    by_cases h : i = 0
    · subst h
      rw [gi_same _ _ _ (by rw [hl]; omega)]
      omega
    · rw [gi_upd _ _ _ _ h]
      omega
  · have h1 : sumN 2251799813685248 (gi (subN a b 5)) 5 = v5 a - v5 b + 231584178474632390847141970017375815706539969331281128078915168015826259279868 := by
      rw [sumN_congr hf, sumN_add 2251799813685248 (fun i => gi a i - gi b i) (fun _ => 9007199254740988), sumN_sub]
      rfl
    have : v5 ((subN a b 5).set 0 (gi (subN a b 5) 0 - 72)) = v5 a - v5 b + 4 * PP := by
      unfold v5
      rw [sumN_set (by omega) (by rw [hl]; omega), h1]
      simp only [Int.pow_zero, v5]
      unfold PP
      omega
    rw [modP this, Int.sub_emod, ha.2.2, hb.2.2, ← Int.sub_emod]
end
section
open Go Go.RowKit
def sumP : List (Int × Int) → Int
  | [] => 0
  | (x, y) :: l => sumP l + x * y
def FitP (m : Int) (l : List (Int × Int)) : Prop := ∀ p ∈ l, 0 ≤ p.1 * p.2 ∧ p.1 * p.2 ≤ m
theorem accR_val (m : Int) (hm : m < 1298074214633706907132624082305024) : ∀ l : List (Int × Int), l.length ≤ 5 → FitP m l → (accR l).1 * M64 + (accR l).2 = sumP l ∧ 0 ≤ sumP l ∧ sumP l ≤ m * l.length
  | [], _, _ => by simp [accR, sumP]
  | (x, y) :: l, hl, h => by
    have hl' : l.length ≤ 4 := by simp at hl; omega
    obtain ⟨h1, h2, h3⟩ := accR_val m hm l (by omega) (fun p hp => h p (List.mem_cons_of_mem _ hp))
    obtain ⟨p1, p2⟩ := h (x, y) (List.mem_cons_self ..)
    have hm0 : 0 ≤ m := by omega
    have hn : m * (l.length : Int) ≤ m * 4 := Int.mul_le_mul_of_nonneg_left (by omega) hm0
    have hW := accR_W l
    simp only [accR, plusHi, plusLo, sumP, List.length_cons]
    unfold addLo addHi mulHi mulLo W64 M64 at *
    generalize x * y = q at *
    generalize (accR l).1 = hi at *
    generalize (accR l).2 = lo at *
    have e : m * ((l.length + 1 : Nat) : Int) = m * l.length + m := by
      rw [Int.natCast_add, Int.mul_add]
      simp
    rw [e]
    omega
theorem u64_or_low {x a : Int} (i : Nat) (h0 : 0 ≤ x) (h1 : x < 2 ^ i) (ha : 0 ≤ a) (hw : x + a * 2 ^ i < M64) : bits .or .u64 (a * 2 ^ i) x = x + a * 2 ^ i := by
  have hc : bits .or .u64 (a * 2 ^ i) x = bits .or .u64 x (a * 2 ^ i) := by simp only [bits, BitVec.or_comm]
  rw [hc, u64_or_high i h0 h1 ha hw]
theorem mul_step {hi lo c W : Int} (hW : hi * M64 + lo = W) (h0 : 0 ≤ W) (h1 : W < 20769187434139310514121985316880384) (hc0 : 0 ≤ c) (hc1 : c < 18446744073709551616) (hlo : W64 lo) (hhi : W64 hi) :
    bits .and .u64 (addLo lo c 0) 2251799813685247 = (W + c) % 2251799813685248 ∧
    bits .or .u64 (IntKind.u64.wrap (IntKind.u64.wrap (hi + addHi lo c 0) * 8192)) (addLo lo c 0 / 2251799813685248) = (W + c) / 2251799813685248 := by
  have hl := W64.addLo lo c 0
  rw [mask51 hl]
  unfold addLo addHi W64 M64 at *
  have e1 : IntKind.u64.wrap (hi + (lo + c + 0) / 18446744073709551616) = hi + (lo + c + 0) / 18446744073709551616 := u64_in (by omega) (by unfold M64; omega)
  rw [e1]
  have e2 : IntKind.u64.wrap ((hi + (lo + c + 0) / 18446744073709551616) * 8192) = (hi + (lo + c + 0) / 18446744073709551616) * 8192 := u64_in (by omega) (by unfold M64; omega)
  rw [e2]
  have e3 := u64_or_low (x := (lo + c + 0) % 18446744073709551616 / 2251799813685248) (a := hi + (lo + c + 0) / 18446744073709551616) 13 (by omega) (by show _ < (8192 : Int); omega) (by omega) (by show _ + _ * (8192 : Int) < M64; unfold M64; omega)
  rw [show (2 : Int) ^ 13 = 8192 from rfl] at e3
  rw [e3]
  omega
def mulP (a b : List Int) : Nat → List (Int × Int)
  | 0 => [(gi a 4, z19 b 1), (gi a 3, z19 b 2), (gi a 2, z19 b 3), (gi a 1, z19 b 4), (gi a 0, gi b 0)]
  | 1 => [(gi a 4, z19 b 2), (gi a 3, z19 b 3), (gi a 2, z19 b 4), (gi a 1, gi b 0), (gi a 0, gi b 1)]
  | 2 => [(gi a 4, z19 b 3), (gi a 3, z19 b 4), (gi a 2, gi b 0), (gi a 1, gi b 1), (gi a 0, gi b 2)]
  | 3 => [(gi a 4, z19 b 4), (gi a 3, gi b 0), (gi a 2, gi b 1), (gi a 1, gi b 2), (gi a 0, gi b 3)]
  | _ => [(gi a 4, gi b 0), (gi a 3, gi b 1), (gi a 2, gi b 2), (gi a 1, gi b 3), (gi a 0, gi b 4)]
theorem mulW_hi (a b : List Int) (k : Nat) (hk : k < 5) : gi (mulW a b) (k * 2) = (accR (mulP a b k)).1 := by
  match k, hk with
  | 0, _ | 1, _ | 2, _ | 3, _ | 4, _ => rfl
theorem mulW_lo (a b : List Int) (k : Nat) (hk : k < 5) : gi (mulW a b) (k * 2 + 1) = (accR (mulP a b k)).2 := by
  match k, hk with
  | 0, _ | 1, _ | 2, _ | 3, _ | 4, _ => rfl
def mulC (W : Nat → Int) : Nat → Int
  | 0 => 0
  | k + 1 => (W k + mulC W k) / 2251799813685248
theorem mulC_bound {W : Nat → Int} (h : ∀ k, k < 5 → 0 ≤ W k ∧ W k < 20769187434139310514121985316880384) : ∀ k, k ≤ 5 → 0 ≤ mulC W k ∧ mulC W k < 18446744073709551616
  | 0, _ => by simp [mulC]
  | k + 1, hk => by
    have h1 := mulC_bound h k (by omega)
    have h2 := h k (by omega)
    simp only [mulC]
    omega
theorem mulS_spec {a b : List Int} {W : Nat → Int} (hW : ∀ k, k < 5 → (accR (mulP a b k)).1 * M64 + (accR (mulP a b k)).2 = W k ∧ 0 ≤ W k ∧ W k < 20769187434139310514121985316880384) : ∀ k, k ≤ 5 →
    (∀ j, k * 2 ≤ j → gi (mulS a b k).1 j = gi (mulW a b) j) ∧ (∀ i, i < k → gi (mulS a b k).2.1 i = (W i + mulC W i) % 2251799813685248) ∧ (mulS a b k).2.2 = mulC W k
  | 0, _ => ⟨fun j _ => rfl, fun i hi => by omega, rfl⟩
  | k + 1, hk => by
    obtain ⟨h1, h2, h3⟩ := mulS_spec hW k (by omega)
    obtain ⟨l1, l2, l3, l4⟩ := mulS_ok a b k
    obtain ⟨w1, w2, w3⟩ := hW k (by omega)
    obtain ⟨c1, c2⟩ := mulC_bound (fun k hk => (hW k hk).2) k (by omega)
    have g1 : gi (mulS a b k).1 (k * 2) = (accR (mulP a b k)).1 := by rw [h1 _ (by omega), mulW_hi a b k (by omega)]
    have g2 : gi (mulS a b k).1 (k * 2 + 1) = (accR (mulP a b k)).2 := by rw [h1 _ (by omega), mulW_lo a b k (by omega)]
    obtain ⟨s1, s2⟩ := mul_step w1 w2 w3 c1 c2 (accR_W _).2 (accR_W _).1
    have e1 : gi ((mulS a b k).1.set (k * 2 + 1) (addLo (gi (mulS a b k).1 (k * 2 + 1)) (mulS a b k).2.2 0)) (k * 2) = (accR (mulP a b k)).1 := by rw [gi_upd _ _ _ _ (by omega), g1]
    have e2 : ∀ v, gi (((mulS a b k).1.set (k * 2 + 1) (addLo (gi (mulS a b k).1 (k * 2 + 1)) (mulS a b k).2.2 0)).set (k * 2) v) (k * 2 + 1) = addLo (accR (mulP a b k)).2 (mulC W k) 0 := by
      intro v
      rw [gi_upd _ _ _ _ (by omega), gi_same _ _ _ (by omega), g2, h3]
    have e3 : ∀ v, gi (((mulS a b k).1.set (k * 2 + 1) (addLo (gi (mulS a b k).1 (k * 2 + 1)) (mulS a b k).2.2 0)).set (k * 2) v) (k * 2) = v := by
      intro v
      rw [gi_same _ _ _ (by simp; omega)]
    refine ⟨fun j hj => ?_, fun i hi => ?_, ?_⟩
    · show gi (((mulS a b k).1.set (k * 2 + 1) _).set (k * 2) _) j = _
      rw [gi_upd _ _ _ _ (by omega), gi_upd _ _ _ _ (by omega)]
      exact h1 j (by omega)
    · show gi ((mulS a b k).2.1.set k (bits .and .u64 (gi (((mulS a b k).1.set (k * 2 + 1) (addLo (gi (mulS a b k).1 (k * 2 + 1)) (mulS a b k).2.2 0)).set (k * 2) _) (k * 2 + 1)) 2251799813685247)) i = _
      rw [e2, s1]
      by_cases h : i = k
      · subst h
        rw [gi_same _ _ _ (by omega)]
      · rw [gi_upd _ _ _ _ h]
        exact h2 i (by omega)
    · show bits .or .u64 (IntKind.u64.wrap (gi (((mulS a b k).1.set (k * 2 + 1) _).set (k * 2) _) (k * 2) * 8192)) (gi (((mulS a b k).1.set (k * 2 + 1) _).set (k * 2) _) (k * 2 + 1) / 2251799813685248) = _
      rw [e2, e3, e1, g2, h3, s2]
      rfl
theorem mul_le_lim {x y : Int} (hx : 0 ≤ x ∧ x < 2251799813947392) (hy : 0 ≤ y ∧ y < 2251799813947392) : 0 ≤ x * y ∧ x * y ≤ 5070602402093524939083839766528 := by
  refine ⟨Int.mul_nonneg hx.1 hy.1, ?_⟩
  have h1 : x * y ≤ 2251799813947391 * y := Int.mul_le_mul_of_nonneg_right (by omega) hy.1
  omega
theorem mul_isE {a b : List Int} {v w : Int} (ha : IsE a v) (hb : IsE b w) : IsE (mulR a b) (v * w) := by
  have hz : ∀ i, i < 5 → z19 b i = 19 * gi b i := by
    intro i hi
    have := hb.2.1 i hi
    unfold z19
    exact u64_in (by omega) (by unfold M64; omega)
  have hp : ∀ i j, i < 5 → j < 5 → 0 ≤ gi a i * gi b j ∧ gi a i * gi b j ≤ 5070602402093524939083839766528 := fun i j hi hj => mul_le_lim (ha.2.1 i hi) (hb.2.1 j hj)
  have hfit : ∀ k, FitP 96341445639776973842592955564032 (mulP a b k) := by
    have hd : ∀ i j, i < 5 → j < 5 → 0 ≤ gi a i * gi b j ∧ gi a i * gi b j ≤ 96341445639776973842592955564032 := fun i j hi hj => by have := hp i j hi hj; omega
    have hq : ∀ i j, i < 5 → j < 5 → 0 ≤ gi a i * z19 b j ∧ gi a i * z19 b j ≤ 96341445639776973842592955564032 := fun i j hi hj => by
      have := hp i j hi hj
      rw [hz j hj, ← Int.mul_assoc, Int.mul_comm (gi a i) 19, Int.mul_assoc]
      omega
    intro k p h
    match k with
    | 0 | 1 | 2 | 3 | n + 4 =>
      simp only [mulP, List.mem_cons, List.not_mem_nil, or_false] at h
      rcases h with rfl | rfl | rfl | rfl | rfl <;> first | exact hd _ _ (by omega) (by omega) | exact hq _ _ (by omega) (by omega)
  have hlen : ∀ k, (mulP a b k).length = 5 := by
    intro k
    match k with
    | 0 | 1 | 2 | 3 | n + 4 => rfl
  have hW : ∀ k, k < 5 → (accR (mulP a b k)).1 * M64 + (accR (mulP a b k)).2 = sumP (mulP a b k) ∧ 0 ≤ sumP (mulP a b k) ∧ sumP (mulP a b k) < 20769187434139310514121985316880384 := by
    intro k _
    obtain ⟨h1, h2, h3⟩ := accR_val 96341445639776973842592955564032 (by omega) (mulP a b k) (by rw [hlen k]; omega) (hfit k)
    rw [hlen k] at h3
    exact ⟨h1, h2, by omega⟩
  obtain ⟨_, hs, hc⟩ := mulS_spec (W := fun k => sumP (mulP a b k)) hW 5 (by omega)
  obtain ⟨l1, l2, l3, l4⟩ := mulS_ok a b 5
  have s0 := hs 0 (by omega)
  have s1 := hs 1 (by omega)
  have s2 := hs 2 (by omega)
  have s3 := hs 3 (by omega)
  have s4 := hs 4 (by omega)
  clear hs
  simp only [mulC] at s0 s1 s2 s3 s4 hc
  have b0 := (hW 0 (by omega)).2
  have b1 := (hW 1 (by omega)).2
  have b2 := (hW 2 (by omega)).2
  have b3 := (hW 3 (by omega)).2
  have b4 := (hW 4 (by omega)).2
  have t4 : sumP (mulP a b 4) ≤ 25353012010467624695419198832640 := by
    have q0 := hp 4 0 (by omega) (by omega)
    have q1 := hp 3 1 (by omega) (by omega)
    have q2 := hp 2 2 (by omega) (by omega)
    have q3 := hp 1 3 (by omega) (by omega)
    have q4 := hp 0 4 (by omega) (by omega)
    simp only [mulP, sumP]
    omega
  have hval : v5 a * v5 b = (sumP (mulP a b 0) + sumP (mulP a b 1) * 2251799813685248 + sumP (mulP a b 2) * 5070602400912917605986812821504 + sumP (mulP a b 3) * 11417981541647679048466287755595961091061972992 + sumP (mulP a b 4) * 25711008708143844408671393477458601640355247900524685364822016)
      + PP * ((gi a 4 * gi b 1 + gi a 3 * gi b 2 + gi a 2 * gi b 3 + gi a 1 * gi b 4) + (gi a 4 * gi b 2 + gi a 3 * gi b 3 + gi a 2 * gi b 4) * 2251799813685248 + (gi a 4 * gi b 3 + gi a 3 * gi b 4) * 5070602400912917605986812821504 + gi a 4 * gi b 4 * 11417981541647679048466287755595961091061972992) := by
    rw [v5_eq, v5_eq]
    simp only [mulP, sumP, hz 1 (by omega), hz 2 (by omega), hz 3 (by omega), hz 4 (by omega)]
    unfold PP
    grind
  generalize sumP (mulP a b 0) = W0 at *
  generalize sumP (mulP a b 1) = W1 at *
  generalize sumP (mulP a b 2) = W2 at *
  generalize sumP (mulP a b 3) = W3 at *
  generalize sumP (mulP a b 4) = W4 at *
  have e0 : IntKind.u64.wrap (gi (mulS a b 5).2.1 0 + IntKind.u64.wrap (19 * (mulS a b 5).2.2)) = gi (mulS a b 5).2.1 0 + 19 * (mulS a b 5).2.2 := by
    rw [hc, s0, u64_in (x := 19 * _) (by omega) (by unfold M64; omega), u64_in (by omega) (by unfold M64; omega)]
  unfold mulR
  rw [e0]
  refine carriedL_isE (allG_of (by simp [l2]) fun i hi => ?_) ?_
  · match i, hi with
    | 0, _ => rw [gi_same _ _ _ (by omega), hc, s0]; omega
    | 1, _ => rw [gi_upd _ _ _ _ (by omega), s1]; omega
    | 2, _ => rw [gi_upd _ _ _ _ (by omega), s2]; omega
    | 3, _ => rw [gi_upd _ _ _ _ (by omega), s3]; omega
    | 4, _ => rw [gi_upd _ _ _ _ (by omega), s4]; omega
  · have hv : v5 ((mulS a b 5).2.1.set 0 (gi (mulS a b 5).2.1 0 + 19 * (mulS a b 5).2.2)) = (W0 + W1 * 2251799813685248 + W2 * 5070602400912917605986812821504 + W3 * 11417981541647679048466287755595961091061972992 + W4 * 25711008708143844408671393477458601640355247900524685364822016) + (-(mulS a b 5).2.2) * PP := by
      rw [v5_eq, gi_same _ _ _ (by omega), gi_upd _ _ _ _ (by omega), gi_upd _ _ _ _ (by omega), gi_upd _ _ _ _ (by omega), gi_upd _ _ _ _ (by omega), hc, s0, s1, s2, s3, s4]
      unfold PP
      omega
    rw [modP hv, Int.mul_emod v w, ← ha.2.2, ← hb.2.2, ← Int.mul_emod, hval, Int.add_mul_emod_self_left]
theorem one_isE : IsE [1, 0, 0, 0, 0] 1 := small_isE 1 (by omega) (by omega)
theorem inv_isE {a : List Int} {v : Int} (ha : IsE a v) : ∀ k, IsE (invN a k) (invV v k)
  | 0 => one_isE
  | k + 1 => by
    have ih := inv_isE ha k
    simp only [invN, invV]
    split
    · exact mul_isE ih ih
    · exact mul_isE (mul_isE ih ih) ha
end
section
open Go Go.RowKit
theorem bytesC_spec {a : List Int} {v : Int} (ha : IsE a v) : (∀ i, i < 5 → 0 ≤ gi (bytesC a) i ∧ gi (bytesC a) i < 2251799813685268) ∧ v5 (bytesC a) % PP = v % PP := by
  have h1 := carriedL_isE ha.allG ha.2.2
  have h2 := carriedL_isE h1.allG h1.2.2
  refine ⟨fun i hi => ?_, h2.2.2⟩
  have g := h1.allG
  have a0 := h1.2.1 0 (by omega)
  have a1 := h1.2.1 1 (by omega)
  have a2 := h1.2.1 2 (by omega)
  have a3 := h1.2.1 3 (by omega)
  have a4 := h1.2.1 4 (by omega)
  generalize hl : carriedL a = l at *
  have e0 : gi (carriedL l) 0 = gi l 0 % 2251799813685248 + 19 * (gi l 4 / 2251799813685248) := by
    show IntKind.u64.wrap (bits .and .u64 (gi l 0) 2251799813685247 + IntKind.u64.wrap (19 * (gi l 4 / 2251799813685248))) = _
    rw [mask51 (g 0), u64_in (x := 19 * (gi l 4 / 2251799813685248)) (by omega) (by unfold M64; omega), u64_in (by omega) (by unfold M64; omega)]
  have e1 : gi (carriedL l) 1 = gi l 1 % 2251799813685248 + gi l 0 / 2251799813685248 := by
    show IntKind.u64.wrap (bits .and .u64 (gi l 1) 2251799813685247 + gi l 0 / 2251799813685248) = _
    rw [mask51 (g 1), u64_in (by omega) (by unfold M64; omega)]
  have e2 : gi (carriedL l) 2 = gi l 2 % 2251799813685248 + gi l 1 / 2251799813685248 := by
    show IntKind.u64.wrap (bits .and .u64 (gi l 2) 2251799813685247 + gi l 1 / 2251799813685248) = _
    rw [mask51 (g 2), u64_in (by omega) (by unfold M64; omega)]
  have e3 : gi (carriedL l) 3 = gi l 3 % 2251799813685248 + gi l 2 / 2251799813685248 := by
    show IntKind.u64.wrap (bits .and .u64 (gi l 3) 2251799813685247 + gi l 2 / 2251799813685248) = _
    rw [mask51 (g 3), u64_in (by omega) (by unfold M64; omega)]
  have e4 : gi (carriedL l) 4 = gi l 4 % 2251799813685248 + gi l 3 / 2251799813685248 := by
    show IntKind.u64.wrap (bits .and .u64 (gi l 4) 2251799813685247 + gi l 3 / 2251799813685248) = _
    rw [mask51 (g 4), u64_in (by omega) (by unfold M64; omega)]
  show 0 ≤ gi (carriedL (carriedL a)) i ∧ gi (carriedL (carriedL a)) i < _
  rw [hl]
  match i, hi with
  | 0, _ => rw [e0]; omega
  | 1, _ => rw [e1]; omega
  | 2, _ => rw [e2]; omega
  | 3, _ => rw [e3]; omega
  | 4, _ => rw [e4]; omega
def quotE (l : List Int) : Nat → Int
  | 0 => 19
  | k + 1 => (gi l k + quotE l k) / 2251799813685248
theorem quotN_eq {l : List Int} (h : ∀ i, i < 5 → 0 ≤ gi l i ∧ gi l i < 2251799813685268) : ∀ k, k ≤ 5 → quotN l k = quotE l k ∧ 0 ≤ quotE l k ∧ quotE l k ≤ 19
  | 0, _ => ⟨rfl, by simp [quotE], by simp [quotE]⟩
  | k + 1, hk => by
    obtain ⟨h1, h2, h3⟩ := quotN_eq h k (by omega)
    have h4 := h k (by omega)
    simp only [quotN, quotE]
    rw [h1, u64_in (by omega) (by unfold M64; omega)]
    omega
def cutE (l : List Int) (c : Int) : Nat → Int
  | 0 => c
  | k + 1 => (gi l k + cutE l c k) / 2251799813685248
theorem cutN_eq {l : List Int} {c : Int} (hl : l.length = 5) (h : ∀ i, i < 5 → 0 ≤ gi l i ∧ gi l i < 2251799813685268) (hc : 0 ≤ c ∧ c ≤ 361) : ∀ k, k ≤ 5 →
    (∀ i, i < k → gi (cutN l c k).1 i = (gi l i + cutE l c i) % 2251799813685248) ∧ (∀ i, k ≤ i → gi (cutN l c k).1 i = gi l i) ∧ (cutN l c k).2 = cutE l c k ∧ 0 ≤ cutE l c k ∧ cutE l c k ≤ 361
  | 0, _ => ⟨fun i hi => by omega, fun i _ => rfl, rfl, hc.1, hc.2⟩
  | k + 1, hk => by
    obtain ⟨h1, h2, h3, h4, h5⟩ := cutN_eq hl h hc k (by omega)
    have h6 := h k (by omega)
    have hlen := cutN_length l c hl k
    have e : IntKind.u64.wrap (gi (cutN l c k).1 k + (cutN l c k).2) = gi l k + cutE l c k := by
      rw [h2 k (Nat.le_refl k), h3, u64_in (by omega) (by unfold M64; omega)]
    have e1 : (cutN l c (k + 1)).1 = ((cutN l c k).1.set k (gi l k + cutE l c k)).set k ((gi l k + cutE l c k) % 2251799813685248) := by
      simp only [cutN]
      rw [e, gi_same _ _ _ (by omega), mask51 (by unfold W64 M64; omega)]
    have e2 : (cutN l c (k + 1)).2 = (gi l k + cutE l c k) / 2251799813685248 := by
      simp only [cutN]
      rw [e, gi_same _ _ _ (by omega)]
    refine ⟨fun i hi => ?_, fun i hi => ?_, e2, ?_, ?_⟩
    · rw [e1]
      by_cases hik : i = k
      · subst hik
        rw [gi_same _ _ _ (by simp; omega)]
      · rw [gi_upd _ _ _ _ hik, gi_upd _ _ _ _ hik]
        exact h1 i (by omega)
    · rw [e1, gi_upd _ _ _ _ (by omega), gi_upd _ _ _ _ (by omega)]
      exact h2 i (by omega)
    · simp only [cutE]
      omega
    · simp only [cutE]
      omega
theorem bytesL_spec {a : List Int} {v : Int} (ha : IsE a v) : (∀ i, i < 5 → 0 ≤ gi (bytesL a) i ∧ gi (bytesL a) i < 2251799813685248) ∧ v5 (bytesL a) = v % PP := by
  obtain ⟨h1, h2⟩ := bytesC_spec ha
  have hl := bytesC_length a
  unfold bytesL
  generalize bytesC a = l at *
  obtain ⟨q1, q2, q3⟩ := quotN_eq h1 5 (by omega)
  rw [q1, u64_in (x := 19 * quotE l 5) (by omega) (by unfold M64; omega)]
  obtain ⟨c1, _, _, c4, c5⟩ := cutN_eq hl h1 (c := 19 * quotE l 5) (by omega) 5 (by omega)
  have b0 := c1 0 (by omega)
  have b1 := c1 1 (by omega)
  have b2 := c1 2 (by omega)
  have b3 := c1 3 (by omega)
  have b4 := c1 4 (by omega)
  refine ⟨fun i hi => ?_, ?_⟩
  · rw [c1 i hi]
    omega
  · have a0 := h1 0 (by omega)
    have a1 := h1 1 (by omega)
    have a2 := h1 2 (by omega)
    have a3 := h1 3 (by omega)
    have a4 := h1 4 (by omega)
    clear c1 h1
    rw [← h2, v5_eq, v5_eq, b0, b1, b2, b3, b4]
    clear b0 b1 b2 b3 b4 h2
    have hq : quotE l 5 = (gi l 0 + gi l 1 * 2251799813685248 + gi l 2 * 5070602400912917605986812821504 + gi l 3 * 11417981541647679048466287755595961091061972992 + gi l 4 * 25711008708143844408671393477458601640355247900524685364822016 + 19) / H255 := by
      simp only [quotE]
      unfold H255
      omega
    have hcut : ∀ c, cutE l c 0 = c ∧ cutE l c 1 = (gi l 0 + c) / 2251799813685248 ∧ cutE l c 2 = (gi l 1 + cutE l c 1) / 2251799813685248 ∧ cutE l c 3 = (gi l 2 + cutE l c 2) / 2251799813685248 ∧ cutE l c 4 = (gi l 3 + cutE l c 3) / 2251799813685248 := fun c => ⟨rfl, rfl, rfl, rfl, rfl⟩
    obtain ⟨k0, k1, k2, k3, k4⟩ := hcut (19 * quotE l 5)
    rw [k0]
    generalize cutE l (19 * quotE l 5) 1 = u1 at *
    generalize cutE l (19 * quotE l 5) 2 = u2 at *
    generalize cutE l (19 * quotE l 5) 3 = u3 at *
    generalize cutE l (19 * quotE l 5) 4 = u4 at *
    generalize quotE l 5 = q at *
    unfold H255 at hq
    unfold PP
    obtain ⟨R, hR⟩ : ∃ R, R = (gi l 0 + 19 * q) % 2251799813685248 + (gi l 1 + u1) % 2251799813685248 * 2251799813685248 + (gi l 2 + u2) % 2251799813685248 * 5070602400912917605986812821504 + (gi l 3 + u3) % 2251799813685248 * 11417981541647679048466287755595961091061972992 + (gi l 4 + u4) % 2251799813685248 * 25711008708143844408671393477458601640355247900524685364822016 := ⟨_, rfl⟩
    obtain ⟨o, ho⟩ : ∃ o, o = (gi l 4 + u4) / 2251799813685248 := ⟨_, rfl⟩
    have h1 : R = (gi l 0 + gi l 1 * 2251799813685248 + gi l 2 * 5070602400912917605986812821504 + gi l 3 * 11417981541647679048466287755595961091061972992 + gi l 4 * 25711008708143844408671393477458601640355247900524685364822016) + 19 * q - 57896044618658097711785492504343953926634992332820282019728792003956564819968 * o := by omega
    have h2 : 0 ≤ R ∧ R < 57896044618658097711785492504343953926634992332820282019728792003956564819968 := by
      clear h1 hq q1 q2 q3 c4 c5 k1 k2 k3 k4 ho
      omega
    rw [← hR]
    clear hR ho k1 k2 k3 k4 c4 c5
    obtain ⟨V, hV⟩ : ∃ V, V = gi l 0 + gi l 1 * 2251799813685248 + gi l 2 * 5070602400912917605986812821504 + gi l 3 * 11417981541647679048466287755595961091061972992 + gi l 4 * 25711008708143844408671393477458601640355247900524685364822016 := ⟨_, rfl⟩
    rw [← hV] at h1 hq ⊢
    have h3 : 0 ≤ V ∧ V < 57896044618658097711785492504343953926634992332820282019728792003956564819968 + 57896044618658097711785492504343953926634992332820282019728792003956564819900 := by
      clear h1 h2 hq
      omega
    clear hV a0 a1 a2 a3 a4 hl hcut
    have h4 : q = 0 ∨ q = 1 := by omega
    rcases h4 with h4 | h4 <;> subst h4 <;> omega
theorem bytes_isB {a : List Int} {v : Int} (ha : IsE a v) : IsB (bytesR a) (v % PP) := by
  obtain ⟨h1, h2⟩ := bytesL_spec ha
  unfold bytesR
  generalize bytesL a = l at *
  have hl := outN_length l
  have hd : Dig 2251799813685248 (gi l) 5 := h1
  obtain ⟨N, hN⟩ : ∃ N, N = v5 l := ⟨_, rfl⟩
  have hbit : ∀ k, k < 255 → gi l (k / 51) / 2 ^ (k % 51) % 2 = N / 2 ^ k % 2 := by
    intro k hk
    rw [sumN_digit (by omega) hd (show k / 51 < 5 by omega), show sumN 2251799813685248 (gi l) 5 = N from hN.symm]
    have := bit_of_digit N 51 (k / 51) (k % 51) (by omega)
    rw [show 51 * (k / 51) + k % 51 = k by omega] at this
    exact this
  have hs : ∀ k, k < 255 → 0 ≤ gi (outN l k) (k / 8) → gi (outN l k) (k / 8) < 2 ^ (k % 8) → outN l (k + 1) = (outN l k).set (k / 8) (gi (outN l k) (k / 8) + N / 2 ^ k % 2 * 2 ^ (k % 8)) := by
    intro k hk h0 h1'
    obtain ⟨d0, d1⟩ := h1 (k / 51) (by omega)
    obtain ⟨q0, q1⟩ := ediv_pow_le d0 (k % 51)
    have p0 : (0 : Int) < 2 ^ (k % 8) := pow_pos' (by omega) _
    have p1 : (2 : Int) ^ (k % 8) ≤ 128 := by
      have h1 : (2 : Nat) ^ (k % 8) ≤ 2 ^ 7 := Nat.pow_le_pow_right (by omega) (by omega)
      have h2 : ((2 ^ (k % 8) : Nat) : Int) = 2 ^ (k % 8) := by simp
      have h3 : (2 : Nat) ^ 7 = 128 := rfl
      omega
    have hβ : N / 2 ^ k % 2 = 0 ∨ N / 2 ^ k % 2 = 1 := by omega
    show (outN l k).set (k / 8) _ = _
    rw [show ((k : Int).tmod 8).toNat = k % 8 from tmod_toNat k 8, show ((k : Int).tmod 51).toNat = k % 51 from tmod_toNat k 51, Nat.min_eq_left (by omega), Nat.min_eq_left (by omega), fdiv_pow, u64_bit (by unfold W64 M64; omega), hbit k (by omega)]
    generalize N / 2 ^ k % 2 = β at hβ ⊢
    have hm : 0 ≤ β * 2 ^ (k % 8) ∧ β * 2 ^ (k % 8) ≤ 128 := by
      rcases hβ with h | h <;> rw [h] <;> omega
    rw [u8_in (x := β) (by omega) (by omega), u8_in (by omega) (by omega), u8_or_high (k % 8) h0 h1' (by omega) (by rcases hβ with h | h <;> rw [h] <;> omega)]
  have hs' : ∀ k, k < 8 * 32 → 0 ≤ gi (if k ≤ 255 then outN l k else outN l 255) (k / 8) → gi (if k ≤ 255 then outN l k else outN l 255) (k / 8) < 2 ^ (k % 8) → (if k + 1 ≤ 255 then outN l (k + 1) else outN l 255) = (if k ≤ 255 then outN l k else outN l 255).set (k / 8) (gi (if k ≤ 255 then outN l k else outN l 255) (k / 8) + (if k < 255 then N / 2 ^ k % 2 else 0) * 2 ^ (k % 8)) := by
    intro k hk h0 h1
    by_cases hlt : k < 255
    · rw [if_pos (by omega)] at h0 h1 ⊢
      rw [if_pos (by omega), if_pos (by omega)] at *
      exact hs k hlt h0 h1
    · obtain rfl : k = 255 := by omega
      simp only [Nat.reduceLeDiff, if_true, if_false, Nat.lt_irrefl, Int.zero_mul, Int.add_zero, Nat.le_refl]
      refine ext_gi (by simp) fun i _ => ?_
      by_cases h : i = 255 / 8
      · subst h
        rw [gi_same _ _ _ (by rw [hl]; decide)]
      · rw [gi_upd _ _ _ _ h]
  obtain ⟨f1, f2, f3, f4, f5⟩ := fill_bits8 (F := fun k => if k ≤ 255 then outN l k else outN l 255) (β := fun k => if k < 255 then N / 2 ^ k % 2 else 0) (fun k => by split <;> exact hl _) (fun j => by simp only [Nat.zero_le, if_true]; exact gi_rep 32 j) (fun k => by split <;> omega) hs' 255 (by omega)
  simp only [Nat.le_refl, if_true] at f1 f2 f3 f4 f5
  refine ⟨hl 255, fun i hi => ?_, ?_⟩
  · by_cases h : i < 255 / 8
    · exact f1 i h
    · obtain rfl : i = 255 / 8 := by omega
      have : (2 : Int) ^ (255 % 8) = 128 := rfl
      omega
  · rw [f5, sumN_congr (g := fun k => N / 2 ^ k % 2) (fun i hi => if_pos hi), bits_sum, hN, h2]
    refine Int.emod_eq_of_lt (Int.emod_nonneg _ (by decide)) (Int.lt_trans (Int.emod_lt_of_pos _ (by decide)) (by decide))
theorem swap_one {x y m : Int} (hx : W64 x) (hy : W64 y) (hm : m = 0 ∨ m = 18446744073709551615) :
    bits .xor .u64 x (bits .and .u64 m (bits .xor .u64 x y)) = (if m = 0 then x else y) ∧ bits .xor .u64 y (bits .and .u64 m (bits .xor .u64 x y)) = (if m = 0 then y else x) := by
  obtain ⟨x0, x1⟩ := hx
  obtain ⟨y0, y1⟩ := hy
  unfold M64 at x1 y1
  obtain ⟨n, rfl⟩ := Int.eq_ofNat_of_zero_le x0
  obtain ⟨k, rfl⟩ := Int.eq_ofNat_of_zero_le y0
  have hxy : n ^^^ k < 2 ^ 64 := Nat.xor_lt_two_pow (by omega) (by omega)
  have h64 : (2 : Nat) ^ 64 = 18446744073709551616 := rfl
  rw [u64_xor_nat n k (by omega) (by omega)]
  rcases hm with rfl | rfl
  · have e := u64_and_nat 0 (n ^^^ k) (by omega) (by omega)
    rw [Nat.zero_and] at e
    have e' : bits .and .u64 0 ((n ^^^ k : Nat) : Int) = ((0 : Nat) : Int) := e
    rw [e', u64_xor_nat n 0 (by omega) (by omega), u64_xor_nat k 0 (by omega) (by omega)]
    simp
  · have e := u64_and_nat 18446744073709551615 (n ^^^ k) (by omega) (by omega)
    rw [Nat.and_comm, show 18446744073709551615 = 2 ^ 64 - 1 from rfl, Nat.and_two_pow_sub_one_eq_mod, Nat.mod_eq_of_lt hxy] at e
    have e' : bits .and .u64 18446744073709551615 ((n ^^^ k : Nat) : Int) = ((n ^^^ k : Nat) : Int) := e
    rw [e', u64_xor_nat n _ (by omega) (by omega), u64_xor_nat k _ (by omega) (by omega)]
    refine ⟨?_, ?_⟩
    · rw [if_neg (by decide), ← Nat.xor_assoc, Nat.xor_self, Nat.zero_xor]
    · rw [if_neg (by decide), Nat.xor_comm n k, ← Nat.xor_assoc, Nat.xor_self, Nat.zero_xor]
theorem swapM_eq (bit : Int) : swapM bit = if bit % 2 = 0 then 0 else 18446744073709551615 := by
  unfold swapM
  rw [i64_bit]
  split
  · next h => rw [h]; rfl
  · next h => rw [show bit % 2 = 1 by omega]; rfl
theorem swapN_gi {a b : List Int} (ha : a.length = 5) (hb : b.length = 5) (wa : AllG a) (wb : AllG b) {m : Int} (hm : m = 0 ∨ m = 18446744073709551615) : ∀ k, k ≤ 5 →
    (∀ i, i < k → gi (swapN a b m k).1 i = (if m = 0 then gi a i else gi b i) ∧ gi (swapN a b m k).2 i = (if m = 0 then gi b i else gi a i)) ∧ (∀ i, k ≤ i → gi (swapN a b m k).1 i = gi a i ∧ gi (swapN a b m k).2 i = gi b i)
  | 0, _ => ⟨fun i hi => by omega, fun i _ => ⟨rfl, rfl⟩⟩
  | k + 1, hk => by
    obtain ⟨h1, h2⟩ := swapN_gi ha hb wa wb hm k (by omega)
    obtain ⟨l1, l2⟩ := swapN_length a b m ha hb k
    obtain ⟨g1, g2⟩ := h2 k (Nat.le_refl k)
    obtain ⟨s1, s2⟩ := swap_one (wa k) (wb k) hm
    have e1 : (swapN a b m (k + 1)).1 = (swapN a b m k).1.set k (if m = 0 then gi a k else gi b k) := by
      simp only [swapN]
      rw [g1, g2, s1]
    have e2 : (swapN a b m (k + 1)).2 = (swapN a b m k).2.set k (if m = 0 then gi b k else gi a k) := by
      simp only [swapN]
      rw [g1, g2, s2]
    rw [e1, e2]
    refine ⟨fun i hi => ?_, fun i hi => ?_⟩
    · by_cases h : i = k
      · subst h
        rw [gi_same _ _ _ (by omega), gi_same _ _ _ (by omega)]
        exact ⟨rfl, rfl⟩
      · rw [gi_upd _ _ _ _ h, gi_upd _ _ _ _ h]
        exact h1 i (by omega)
    · rw [gi_upd _ _ _ _ (by omega), gi_upd _ _ _ _ (by omega)]
      exact h2 i (by omega)
theorem swap_eq {a b : List Int} (ha : a.length = 5) (hb : b.length = 5) (wa : AllG a) (wb : AllG b) (bit : Int) :
    (swapN a b (swapM bit) 5).1 = (if bit % 2 = 0 then a else b) ∧ (swapN a b (swapM bit) 5).2 = (if bit % 2 = 0 then b else a) := by
  have hm : swapM bit = 0 ∨ swapM bit = 18446744073709551615 := by
    rw [swapM_eq]
    split
    · exact Or.inl rfl
    · exact Or.inr rfl
  have hz : swapM bit = 0 ↔ bit % 2 = 0 := by
    rw [swapM_eq]
    split <;> simp_all
  obtain ⟨h1, _⟩ := swapN_gi ha hb wa wb hm 5 (by omega)
  obtain ⟨l1, l2⟩ := swapN_length a b (swapM bit) ha hb 5
  by_cases h : bit % 2 = 0
  · rw [if_pos h, if_pos h]
    refine ⟨ext_gi (by omega) fun i hi => ?_, ext_gi (by omega) fun i hi => ?_⟩
    · rw [(h1 i (by omega)).1, if_pos (hz.2 h)]
    · rw [(h1 i (by omega)).2, if_pos (hz.2 h)]
  · rw [if_neg h, if_neg h]
    refine ⟨ext_gi (by omega) fun i hi => ?_, ext_gi (by omega) fun i hi => ?_⟩
    · rw [(h1 i (by omega)).1, if_neg (fun e => h (hz.1 e))]
    · rw [(h1 i (by omega)).2, if_neg (fun e => h (hz.1 e))]
end
section
open Go Go.RowKit
theorem p256 : (256 : Int) ^ 32 = Q256 := by decide
theorem IsB.bound {r : List Int} {v : Int} (h : IsB r v) : 0 ≤ v ∧ v < Q256 := by
  have := sumN_bound (B := 256) (by omega) h.2.1
  rw [h.2.2, p256] at this
  exact this
theorem digits_sum {B : Int} (hB : 0 < B) (N : Int) : ∀ K, sumN B (fun k => N / B ^ k % B) K = N % B ^ K
  | 0 => by simp [sumN, Int.emod_one]
  | k + 1 => by
    have hA : (0 : Int) < B ^ k := pow_pos' hB k
    have h1 := Int.emod_add_mul_ediv N (B ^ k)
    have h2 := Int.emod_nonneg N (show B ^ k ≠ 0 by omega)
    have h3 := Int.emod_lt_of_pos N hA
    simp only [sumN]
    rw [digits_sum hB N k]
    generalize N % B ^ k = r at *
    generalize N / B ^ k = q at *
    have g1 := Int.emod_add_mul_ediv q B
    have g2 := Int.emod_nonneg q (show B ≠ 0 by omega)
    have g3 := Int.emod_lt_of_pos q hB
    generalize q % B = b at *
    generalize q / B = t at *
    rw [Int.pow_succ]
    have e : N = (r + b * B ^ k) + B ^ k * B * t := by
      rw [← h1, ← g1, Int.mul_add, Int.mul_comm b, Int.mul_assoc]
      omega
    rw [e, Int.add_mul_emod_self_left]
    symm
    have m1 : 0 ≤ b * B ^ k := Int.mul_nonneg g2 (by omega)
    have m2 : b * B ^ k ≤ (B - 1) * B ^ k := Int.mul_le_mul_of_nonneg_right (by omega) (by omega)
    rw [Int.sub_mul, Int.one_mul, Int.mul_comm B] at m2
    exact Int.emod_eq_of_lt (by omega) (by omega)
def le32 (v : Int) : List Int := (List.range 32).map fun i => v / 256 ^ i % 256
theorem le32_length (v : Int) : (le32 v).length = 32 := by simp [le32]
theorem le32_gi (v : Int) (i : Nat) (h : i < 32) : gi (le32 v) i = v / 256 ^ i % 256 := by
  unfold gi le32
  simp [List.getD_eq_getElem?_getD, h]
theorem le32_isB {v : Int} (h0 : 0 ≤ v) (h1 : v < Q256) : IsB (le32 v) v := by
  refine ⟨le32_length v, fun i hi => ?_, ?_⟩
  · rw [le32_gi v i hi]
    omega
  · rw [sumN_congr (g := fun k => v / 256 ^ k % 256) (fun i hi => le32_gi v i hi), digits_sum (by omega), p256]
    exact Int.emod_eq_of_lt h0 h1
theorem IsB.le {r : List Int} {v : Int} (h : IsB r v) : r = le32 v := h.inj (le32_isB h.bound.1 h.bound.2)
theorem pp_range (v : Int) : 0 ≤ v % PP ∧ v % PP < PP ∧ v % PP < Q256 := by
  have h1 := Int.emod_nonneg v (show PP ≠ 0 by decide)
  have h2 := Int.emod_lt_of_pos v (show 0 < PP by decide)
  have h3 : PP < Q256 := by decide
  omega
theorem le32_p (v : Int) : IsB (le32 (v % PP)) (v % PP) := le32_isB (pp_range v).1 (pp_range v).2.2
end
section
open Go Go.ChangeShapes Go.WideShapes Go.ChangeAt Go.RowKit
section
variable {H : Type} {enc : TypeId × Value → H} {P : Program} {w : World} {base : Nat} {spare : Nat → Bool} {held : Bool}
end
end
end Go.Proofs.Ytdjecenggngdjaa
