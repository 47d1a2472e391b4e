/-
  The power p - 2 of an element: what the code computes.
-/
import Derived.Test.YtmchkfganpgheaaFieldC
import Derived.Lib.Hide
namespace Go.Proofs.Ytmchkfganpgheaa
set_option linter.unusedSimpArgs false
set_option linter.unusedVariables false
open Go Go.RowKit


theorem mulR_length (a b : List Int) : (mulR a b).length = 5 := rfl
theorem carriedL_ok (l : List Int) : AllG (carriedL l) := by
  intro i
  match i with
  | 0 | 1 | 2 | 3 | 4 => exact W64.wrap _
  | n + 5 => exact W64.zero
theorem mulR_ok (a b : List Int) : AllG (mulR a b) := carriedL_ok _
/-- The element after k rounds. -/
def invN (a : List Int) : Nat → List Int
  | 0 => [1, 0, 0, 0, 0]
  | k + 1 => if k = 252 ∨ k = 250 then mulR (invN a k) (invN a k) else mulR (mulR (invN a k) (invN a k)) a
theorem invN_length (a : List Int) (k : Nat) : (invN a k).length = 5 := by
  cases k with
  | zero => rfl
  | succ k => simp only [invN]; split <;> rfl
theorem one_ok : AllG [1, 0, 0, 0, 0] := by
  intro i
  match i with
  | 0 => exact ⟨by decide, by decide⟩
  | 1 | 2 | 3 | 4 => exact W64.zero
  | n + 5 => exact W64.zero
theorem invN_ok (a : List Int) (k : Nat) : AllG (invN a k) := by
  cases k with
  | zero => exact one_ok
  | succ k => simp only [invN]; split <;> exact mulR_ok _ _
/-- The same, not to be opened by a walk. -/
@[irreducible] def mulI (a b : List Int) : List Int := mulR a b
theorem mulI_eq (a b : List Int) : mulI a b = mulR a b := by unfold mulI; rfl
theorem mulI_length (a b : List Int) : (mulI a b).length = 5 := by rw [mulI_eq]; rfl
theorem mulI_ok (a b : List Int) : AllG (mulI a b) := by rw [mulI_eq]; exact mulR_ok a b
theorem mulI_any (a b : List Int) (ha : a.length = 5) (hb : b.length = 5) (wa : AllG a) (wb : AllG b) (w : World) :
    Calls Try.prog 48 #[.agg (ints .u64 a), .agg (ints .u64 b)] w fun e w' => e = .returned (.agg (ints .u64 (mulI a b))) ∧ Below w.heap.size w w' := by
  rw [mulI_eq]; exact mul_any a b ha hb wa wb w
set_option maxRecDepth 20000 in
set_option maxHeartbeats 1000000 in
theorem inv_any (a : List Int) (ha : a.length = 5) (wa : AllG a) (w : World) :
    Calls Try.prog 24 #[.agg (ints .u64 a)] w fun e w' => e = .returned (.agg (ints .u64 (invN a 255))) ∧ Below w.heap.size w w' := by
  have hown := Own.start w
  have hL := invN_length a
  have hO := invN_ok a
  have hS : ∀ k, (k = 252 ∨ k = 250) → invN a (k + 1) = mulI (invN a k) (invN a k) := fun k h => by rw [mulI_eq]; exact if_pos h
  have hM : ∀ k, ¬ (k = 252 ∨ k = 250) → invN a (k + 1) = mulI (mulI (invN a k) (invN a k)) a := fun k h => by rw [mulI_eq, mulI_eq]; exact if_neg h
  have h0 : invN a 0 = [1, 0, 0, 0, 0] := rfl
  obtain ⟨inv, hinv⟩ : ∃ inv, inv = invN a := ⟨_, rfl⟩
  rw [← hinv] at hL hO hS hM h0 ⊢
  clear hinv
  go_enter Try.func24, Try.ntmps24

  have tok_b1 : True := trivial
  have tok_b2 : True := trivial
  have tok_b3 : True := trivial
  go_wp2_with (first | ((with_reducible show wpList _ _ _ (⟨_, .box _ _, _, _, _, _⟩ :: _) _ _); have _t := tok_b1; refine wpl_box hown rfl _ _ rfl _ rfl ?_; clear hown _t tok_b1; intro b1 _ hown; dsimp only [putL, setNth]) | ((with_reducible show wpList _ _ _ (⟨_, .alloc _, _, _, _, _⟩ :: _) _ _); have _t := tok_b2; refine wpl_alloc hown rfl _ rfl _ zero_elem ?_; clear hown _t tok_b2; intro b2 _ hown; dsimp only [putL, setNth]) | ((with_reducible show wpList _ _ _ (⟨_, .alloc _, _, _, _, _⟩ :: _) _ _); have _t := tok_b3; refine wpl_alloc hown rfl _ rfl _ zero_elem ?_; clear hown _t tok_b3; intro b3 _ hown; dsimp only [putL, setNth]) | ((with_reducible show wpList _ _ _ (⟨_, .load _ _, _, _, _, _⟩ :: _) _ _); refine wpl_load_row hown rfl 26 _ rfl _ rfl 0 _ _ rfl _ Try.underlying26 rfl (sz_elem (by first | exact hL _ | exact mulI_length _ _ | exact ha)) ?_; dsimp only [putL, setNth]) | ((with_reducible show wpList _ _ _ (⟨_, .load _ _, _, _, _, _⟩ :: _) _ _); refine wpl_load_row hown rfl 26 _ rfl _ rfl 2 _ _ rfl _ Try.underlying26 rfl (sz_elem (by first | exact hL _ | exact mulI_length _ _ | exact ha)) ?_; dsimp only [putL, setNth]) | (go_at_call 25; refine (small_any 1 ?_ ?_ _).mono ?_; (· omega); (· omega); rintro e w' ⟨rfl, hb⟩; replace hown := hown.grow hb; clear hb) | (go_at_call 48; refine (mulI_any _ _ ?_ ?_ ?_ ?_ _).mono ?_; (first | exact hL _ | exact mulI_length _ _ | exact ha); (first | exact hL _ | exact mulI_length _ _ | exact ha); (first | exact hO _ | exact mulI_ok _ _ | exact wa); (first | exact hO _ | exact mulI_ok _ _ | exact wa); rintro e w' ⟨rfl, hb⟩; replace hown := hown.grow hb; clear hb) | ((with_reducible show wpList _ _ _ (⟨_, .store _ _ _, _, _, _, _⟩ :: _) _ _); refine wpl_store_row hown rfl 26 _ _ rfl _ rfl _ rfl (ints_cell _ _) (sz_elem (by first | exact hL _ | exact mulI_length _ _ | exact ha)) 0 _ _ rfl (sz_eq (n := 5) (by first | exact hL _ | exact mulI_length _ _ | exact ha) (by first | exact hL _ | exact mulI_length _ _ | exact ha)) ?_; clear hown; intro _ hown; dsimp only [putL]; simp only [List.set_cons_zero, List.set_cons_succ] at hown) | ((with_reducible show wpList _ _ _ (⟨_, .store _ _ _, _, _, _, _⟩ :: _) _ _); refine wpl_store_row hown rfl 26 _ _ rfl _ rfl _ rfl (ints_cell _ _) (sz_elem rfl) 0 _ _ rfl (sz_eq (n := 5) rfl rfl) ?_; clear hown; intro _ hown; dsimp only [putL]; simp only [List.set_cons_zero, List.set_cons_succ] at hown) | ((with_reducible show wpList _ _ _ (⟨_, .store _ _ _, _, _, _, _⟩ :: _) _ _); refine wpl_store_row hown rfl 26 _ _ rfl _ rfl _ rfl (ints_cell _ _) (sz_elem (by first | exact hL _ | exact mulI_length _ _ | exact ha)) 1 _ _ rfl (sz_eq (n := 5) (by first | exact hL _ | exact mulI_length _ _ | exact ha) (by first | exact hL _ | exact mulI_length _ _ | exact ha)) ?_; clear hown; intro _ hown; dsimp only [putL]; simp only [List.set_cons_zero, List.set_cons_succ] at hown) | ((with_reducible show wpList _ _ _ (⟨_, .store _ _ _, _, _, _, _⟩ :: _) _ _); refine wpl_store_row hown rfl 26 _ _ rfl _ rfl _ rfl (ints_cell _ _) (sz_elem (by first | exact hL _ | exact mulI_length _ _ | exact ha)) 1 _ _ rfl (sz_eq (n := 5) rfl (by first | exact hL _ | exact mulI_length _ _ | exact ha)) ?_; clear hown; intro _ hown; dsimp only [putL]; simp only [List.set_cons_zero, List.set_cons_succ] at hown))
  go_loopw [4] (fun i wr => ∃ k : Nat, k ≤ 255 ∧ i = .int .i64 (254 - (k : Int)) ∧ Own w wr [(b3, ints .u64 (inv k), 26), (b2, ints .u64 (List.replicate 5 0), 26), (b1, ints .u64 a, 26)]) (fun i _ => (intOf i + 1).toNat)
  case atStart => exact ⟨0, by omega, rfl, by rw [h0]; exact hown⟩
  case round =>
    clear hown
    obtain ⟨k, hk, rfl, hown⟩ := hrel
    have f1 : IntKind.i64.wrap (254 - (k : Int) - 1) = 254 - (k : Int) - 1 := IntWalk.i64_in _ (by omega)
    by_cases hlt : k < 255
    · by_cases h2 : k = 252
      · have HS := Lib.hid (hS k (Or.inl h2))
        have g2 : 254 - (k : Int) = 2 := by omega
        clear hS hM h2 h0
        go_wp2_with (first | ((with_reducible show wpList _ _ _ (⟨_, .load _ _, _, _, _, _⟩ :: _) _ _); refine wpl_load_row hown rfl 26 _ rfl _ rfl 0 _ _ rfl _ Try.underlying26 rfl (sz_elem (by first | exact hL _ | exact mulI_length _ _ | exact ha)) ?_; dsimp only [putL, setNth]) | ((with_reducible show wpList _ _ _ (⟨_, .load _ _, _, _, _, _⟩ :: _) _ _); refine wpl_load_row hown rfl 26 _ rfl _ rfl 2 _ _ rfl _ Try.underlying26 rfl (sz_elem (by first | exact hL _ | exact mulI_length _ _ | exact ha)) ?_; dsimp only [putL, setNth]) | (go_at_call 25; refine (small_any 1 ?_ ?_ _).mono ?_; (· omega); (· omega); rintro e w' ⟨rfl, hb⟩; replace hown := hown.grow hb; clear hb) | (go_at_call 48; refine (mulI_any _ _ ?_ ?_ ?_ ?_ _).mono ?_; (first | exact hL _ | exact mulI_length _ _ | exact ha); (first | exact hL _ | exact mulI_length _ _ | exact ha); (first | exact hO _ | exact mulI_ok _ _ | exact wa); (first | exact hO _ | exact mulI_ok _ _ | exact wa); rintro e w' ⟨rfl, hb⟩; replace hown := hown.grow hb; clear hb) | ((with_reducible show wpList _ _ _ (⟨_, .store _ _ _, _, _, _, _⟩ :: _) _ _); refine wpl_store_row hown rfl 26 _ _ rfl _ rfl _ rfl (ints_cell _ _) (sz_elem (by first | exact hL _ | exact mulI_length _ _ | exact ha)) 0 _ _ rfl (sz_eq (n := 5) (by first | exact hL _ | exact mulI_length _ _ | exact ha) (by first | exact hL _ | exact mulI_length _ _ | exact ha)) ?_; clear hown; intro _ hown; dsimp only [putL]; simp only [List.set_cons_zero, List.set_cons_succ] at hown) | ((with_reducible show wpList _ _ _ (⟨_, .store _ _ _, _, _, _, _⟩ :: _) _ _); refine wpl_store_row hown rfl 26 _ _ rfl _ rfl _ rfl (ints_cell _ _) (sz_elem rfl) 0 _ _ rfl (sz_eq (n := 5) rfl rfl) ?_; clear hown; intro _ hown; dsimp only [putL]; simp only [List.set_cons_zero, List.set_cons_succ] at hown) | ((with_reducible show wpList _ _ _ (⟨_, .store _ _ _, _, _, _, _⟩ :: _) _ _); refine wpl_store_row hown rfl 26 _ _ rfl _ rfl _ rfl (ints_cell _ _) (sz_elem (by first | exact hL _ | exact mulI_length _ _ | exact ha)) 1 _ _ rfl (sz_eq (n := 5) (by first | exact hL _ | exact mulI_length _ _ | exact ha) (by first | exact hL _ | exact mulI_length _ _ | exact ha)) ?_; clear hown; intro _ hown; dsimp only [putL]; simp only [List.set_cons_zero, List.set_cons_succ] at hown) | ((with_reducible show wpList _ _ _ (⟨_, .store _ _ _, _, _, _, _⟩ :: _) _ _); refine wpl_store_row hown rfl 26 _ _ rfl _ rfl _ rfl (ints_cell _ _) (sz_elem (by first | exact hL _ | exact mulI_length _ _ | exact ha)) 1 _ _ rfl (sz_eq (n := 5) rfl (by first | exact hL _ | exact mulI_length _ _ | exact ha)) ?_; clear hown; intro _ hown; dsimp only [putL]; simp only [List.set_cons_zero, List.set_cons_succ] at hown))
        go_roundw
        case rel => exact ⟨k + 1, by omega, by go_num, by rw [HS.out]; exact hown⟩
        case measure => simp [intOf, f1]; omega
      · by_cases h4 : k = 250
        · have HS := Lib.hid (hS k (Or.inr h4))
          have g2 : ¬ (254 - (k : Int) = 2) := by omega
          have g4 : 254 - (k : Int) = 4 := by omega
          clear hS hM h2 h4 h0
          go_wp2_with (first | ((with_reducible show wpList _ _ _ (⟨_, .load _ _, _, _, _, _⟩ :: _) _ _); refine wpl_load_row hown rfl 26 _ rfl _ rfl 0 _ _ rfl _ Try.underlying26 rfl (sz_elem (by first | exact hL _ | exact mulI_length _ _ | exact ha)) ?_; dsimp only [putL, setNth]) | ((with_reducible show wpList _ _ _ (⟨_, .load _ _, _, _, _, _⟩ :: _) _ _); refine wpl_load_row hown rfl 26 _ rfl _ rfl 2 _ _ rfl _ Try.underlying26 rfl (sz_elem (by first | exact hL _ | exact mulI_length _ _ | exact ha)) ?_; dsimp only [putL, setNth]) | (go_at_call 25; refine (small_any 1 ?_ ?_ _).mono ?_; (· omega); (· omega); rintro e w' ⟨rfl, hb⟩; replace hown := hown.grow hb; clear hb) | (go_at_call 48; refine (mulI_any _ _ ?_ ?_ ?_ ?_ _).mono ?_; (first | exact hL _ | exact mulI_length _ _ | exact ha); (first | exact hL _ | exact mulI_length _ _ | exact ha); (first | exact hO _ | exact mulI_ok _ _ | exact wa); (first | exact hO _ | exact mulI_ok _ _ | exact wa); rintro e w' ⟨rfl, hb⟩; replace hown := hown.grow hb; clear hb) | ((with_reducible show wpList _ _ _ (⟨_, .store _ _ _, _, _, _, _⟩ :: _) _ _); refine wpl_store_row hown rfl 26 _ _ rfl _ rfl _ rfl (ints_cell _ _) (sz_elem (by first | exact hL _ | exact mulI_length _ _ | exact ha)) 0 _ _ rfl (sz_eq (n := 5) (by first | exact hL _ | exact mulI_length _ _ | exact ha) (by first | exact hL _ | exact mulI_length _ _ | exact ha)) ?_; clear hown; intro _ hown; dsimp only [putL]; simp only [List.set_cons_zero, List.set_cons_succ] at hown) | ((with_reducible show wpList _ _ _ (⟨_, .store _ _ _, _, _, _, _⟩ :: _) _ _); refine wpl_store_row hown rfl 26 _ _ rfl _ rfl _ rfl (ints_cell _ _) (sz_elem rfl) 0 _ _ rfl (sz_eq (n := 5) rfl rfl) ?_; clear hown; intro _ hown; dsimp only [putL]; simp only [List.set_cons_zero, List.set_cons_succ] at hown) | ((with_reducible show wpList _ _ _ (⟨_, .store _ _ _, _, _, _, _⟩ :: _) _ _); refine wpl_store_row hown rfl 26 _ _ rfl _ rfl _ rfl (ints_cell _ _) (sz_elem (by first | exact hL _ | exact mulI_length _ _ | exact ha)) 1 _ _ rfl (sz_eq (n := 5) (by first | exact hL _ | exact mulI_length _ _ | exact ha) (by first | exact hL _ | exact mulI_length _ _ | exact ha)) ?_; clear hown; intro _ hown; dsimp only [putL]; simp only [List.set_cons_zero, List.set_cons_succ] at hown) | ((with_reducible show wpList _ _ _ (⟨_, .store _ _ _, _, _, _, _⟩ :: _) _ _); refine wpl_store_row hown rfl 26 _ _ rfl _ rfl _ rfl (ints_cell _ _) (sz_elem (by first | exact hL _ | exact mulI_length _ _ | exact ha)) 1 _ _ rfl (sz_eq (n := 5) rfl (by first | exact hL _ | exact mulI_length _ _ | exact ha)) ?_; clear hown; intro _ hown; dsimp only [putL]; simp only [List.set_cons_zero, List.set_cons_succ] at hown))
          go_roundw
          case rel => exact ⟨k + 1, by omega, by go_num, by rw [HS.out]; exact hown⟩
          case measure => simp [intOf, f1]; omega
        · have HS := Lib.hid (hM k (by omega))
          clear hS hM h0
          have g2 : ¬ (254 - (k : Int) = 2) := by omega
          have g4 : ¬ (254 - (k : Int) = 4) := by omega
          go_wp2_with (first | ((with_reducible show wpList _ _ _ (⟨_, .load _ _, _, _, _, _⟩ :: _) _ _); refine wpl_load_row hown rfl 26 _ rfl _ rfl 0 _ _ rfl _ Try.underlying26 rfl (sz_elem (by first | exact hL _ | exact mulI_length _ _ | exact ha)) ?_; dsimp only [putL, setNth]) | ((with_reducible show wpList _ _ _ (⟨_, .load _ _, _, _, _, _⟩ :: _) _ _); refine wpl_load_row hown rfl 26 _ rfl _ rfl 2 _ _ rfl _ Try.underlying26 rfl (sz_elem (by first | exact hL _ | exact mulI_length _ _ | exact ha)) ?_; dsimp only [putL, setNth]) | (go_at_call 25; refine (small_any 1 ?_ ?_ _).mono ?_; (· omega); (· omega); rintro e w' ⟨rfl, hb⟩; replace hown := hown.grow hb; clear hb) | (go_at_call 48; refine (mulI_any _ _ ?_ ?_ ?_ ?_ _).mono ?_; (first | exact hL _ | exact mulI_length _ _ | exact ha); (first | exact hL _ | exact mulI_length _ _ | exact ha); (first | exact hO _ | exact mulI_ok _ _ | exact wa); (first | exact hO _ | exact mulI_ok _ _ | exact wa); rintro e w' ⟨rfl, hb⟩; replace hown := hown.grow hb; clear hb) | ((with_reducible show wpList _ _ _ (⟨_, .store _ _ _, _, _, _, _⟩ :: _) _ _); refine wpl_store_row hown rfl 26 _ _ rfl _ rfl _ rfl (ints_cell _ _) (sz_elem (by first | exact hL _ | exact mulI_length _ _ | exact ha)) 0 _ _ rfl (sz_eq (n := 5) (by first | exact hL _ | exact mulI_length _ _ | exact ha) (by first | exact hL _ | exact mulI_length _ _ | exact ha)) ?_; clear hown; intro _ hown; dsimp only [putL]; simp only [List.set_cons_zero, List.set_cons_succ] at hown) | ((with_reducible show wpList _ _ _ (⟨_, .store _ _ _, _, _, _, _⟩ :: _) _ _); refine wpl_store_row hown rfl 26 _ _ rfl _ rfl _ rfl (ints_cell _ _) (sz_elem rfl) 0 _ _ rfl (sz_eq (n := 5) rfl rfl) ?_; clear hown; intro _ hown; dsimp only [putL]; simp only [List.set_cons_zero, List.set_cons_succ] at hown) | ((with_reducible show wpList _ _ _ (⟨_, .store _ _ _, _, _, _, _⟩ :: _) _ _); refine wpl_store_row hown rfl 26 _ _ rfl _ rfl _ rfl (ints_cell _ _) (sz_elem (by first | exact hL _ | exact mulI_length _ _ | exact ha)) 1 _ _ rfl (sz_eq (n := 5) (by first | exact hL _ | exact mulI_length _ _ | exact ha) (by first | exact hL _ | exact mulI_length _ _ | exact ha)) ?_; clear hown; intro _ hown; dsimp only [putL]; simp only [List.set_cons_zero, List.set_cons_succ] at hown) | ((with_reducible show wpList _ _ _ (⟨_, .store _ _ _, _, _, _, _⟩ :: _) _ _); refine wpl_store_row hown rfl 26 _ _ rfl _ rfl _ rfl (ints_cell _ _) (sz_elem (by first | exact hL _ | exact mulI_length _ _ | exact ha)) 1 _ _ rfl (sz_eq (n := 5) rfl (by first | exact hL _ | exact mulI_length _ _ | exact ha)) ?_; clear hown; intro _ hown; dsimp only [putL]; simp only [List.set_cons_zero, List.set_cons_succ] at hown))
          go_roundw
          case rel => exact ⟨k + 1, by omega, by go_num, by rw [HS.out]; exact hown⟩
          case measure => simp [intOf, f1]; omega
          rename_i hx
          rcases hx with hx | hx <;> simp at hx <;> omega
    · clear hS hM h0
      obtain rfl : k = 255 := by omega
      go_wp2_with (first | ((with_reducible show wpList _ _ _ (⟨_, .load _ _, _, _, _, _⟩ :: _) _ _); refine wpl_load_row hown rfl 26 _ rfl _ rfl 0 _ _ rfl _ Try.underlying26 rfl (sz_elem (by first | exact hL _ | exact mulI_length _ _ | exact ha)) ?_; dsimp only [putL, setNth]) | ((with_reducible show wpList _ _ _ (⟨_, .load _ _, _, _, _, _⟩ :: _) _ _); refine wpl_load_row hown rfl 26 _ rfl _ rfl 2 _ _ rfl _ Try.underlying26 rfl (sz_elem (by first | exact hL _ | exact mulI_length _ _ | exact ha)) ?_; dsimp only [putL, setNth]) | (go_at_call 25; refine (small_any 1 ?_ ?_ _).mono ?_; (· omega); (· omega); rintro e w' ⟨rfl, hb⟩; replace hown := hown.grow hb; clear hb) | (go_at_call 48; refine (mulI_any _ _ ?_ ?_ ?_ ?_ _).mono ?_; (first | exact hL _ | exact mulI_length _ _ | exact ha); (first | exact hL _ | exact mulI_length _ _ | exact ha); (first | exact hO _ | exact mulI_ok _ _ | exact wa); (first | exact hO _ | exact mulI_ok _ _ | exact wa); rintro e w' ⟨rfl, hb⟩; replace hown := hown.grow hb; clear hb) | ((with_reducible show wpList _ _ _ (⟨_, .store _ _ _, _, _, _, _⟩ :: _) _ _); refine wpl_store_row hown rfl 26 _ _ rfl _ rfl _ rfl (ints_cell _ _) (sz_elem (by first | exact hL _ | exact mulI_length _ _ | exact ha)) 0 _ _ rfl (sz_eq (n := 5) (by first | exact hL _ | exact mulI_length _ _ | exact ha) (by first | exact hL _ | exact mulI_length _ _ | exact ha)) ?_; clear hown; intro _ hown; dsimp only [putL]; simp only [List.set_cons_zero, List.set_cons_succ] at hown) | ((with_reducible show wpList _ _ _ (⟨_, .store _ _ _, _, _, _, _⟩ :: _) _ _); refine wpl_store_row hown rfl 26 _ _ rfl _ rfl _ rfl (ints_cell _ _) (sz_elem rfl) 0 _ _ rfl (sz_eq (n := 5) rfl rfl) ?_; clear hown; intro _ hown; dsimp only [putL]; simp only [List.set_cons_zero, List.set_cons_succ] at hown) | ((with_reducible show wpList _ _ _ (⟨_, .store _ _ _, _, _, _, _⟩ :: _) _ _); refine wpl_store_row hown rfl 26 _ _ rfl _ rfl _ rfl (ints_cell _ _) (sz_elem (by first | exact hL _ | exact mulI_length _ _ | exact ha)) 1 _ _ rfl (sz_eq (n := 5) (by first | exact hL _ | exact mulI_length _ _ | exact ha) (by first | exact hL _ | exact mulI_length _ _ | exact ha)) ?_; clear hown; intro _ hown; dsimp only [putL]; simp only [List.set_cons_zero, List.set_cons_succ] at hown) | ((with_reducible show wpList _ _ _ (⟨_, .store _ _ _, _, _, _, _⟩ :: _) _ _); refine wpl_store_row hown rfl 26 _ _ rfl _ rfl _ rfl (ints_cell _ _) (sz_elem (by first | exact hL _ | exact mulI_length _ _ | exact ha)) 1 _ _ rfl (sz_eq (n := 5) rfl (by first | exact hL _ | exact mulI_length _ _ | exact ha)) ?_; clear hown; intro _ hown; dsimp only [putL]; simp only [List.set_cons_zero, List.set_cons_succ] at hown))
      refine bodyPost_ret (results_own hown rfl _ rfl 1 _ _ rfl _ Try.underlying26 rfl (sz_elem (hL _))) rfl ⟨rfl, hown.below⟩

end Go.Proofs.Ytmchkfganpgheaa
