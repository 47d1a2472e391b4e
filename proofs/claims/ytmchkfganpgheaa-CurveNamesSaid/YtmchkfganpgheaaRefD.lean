/-
  The document's answer for numbers, on: the power p - 2.
-/
import Derived.Test.YtmchkfganpgheaaRefC
namespace Go.Proofs.Ytmchkfganpgheaa
set_option linter.unusedSimpArgs false
set_option linter.unusedVariables false
open Go Go.RowKit


@[irreducible] def rsmallL (n : Int) : List Int := ((List.replicate 16 0).set 0 (wrap64 (bits .and .u32 n 65535))).set 1 (n / 65536)
theorem rsmallL_eq (n : Int) : rsmallL n = ((List.replicate 16 0).set 0 (wrap64 (bits .and .u32 n 65535))).set 1 (n / 65536) := by unfold rsmallL; rfl
theorem rsmallL_length (n : Int) : (rsmallL n).length = 16 := by rw [rsmallL_eq]; rfl
theorem rsmallL_any (n : Int) (h0 : 0 ≤ n) (h1 : n < 4294967296) (w : World) :
    Calls Try.prog 44 #[.int .u32 n] w fun e w' => e = .returned (.agg (ints .i64 (rsmallL n))) ∧ Below w.heap.size w w' := by
  rw [rsmallL_eq]; exact rsmall_any n h0 h1 w
@[irreducible] def primeI : List Int := primeL
theorem primeI_eq : primeI = primeL := by unfold primeI; rfl
theorem primeI_length : primeI.length = 32 := by rw [primeI_eq]; exact primeL_length
theorem rprimeI_any (w : World) :
    Calls Try.prog 56 #[] w fun e w' => e = .returned (.agg (ints .u8 primeI)) ∧ Below w.heap.size w w' := by
  rw [primeI_eq]; exact rprime_any w
/-- p - 2, as bytes; its bit i; the power, a bit at a time from the highest on. -/
@[irreducible] def prime2L : List Int := primeI.set 0 ((gi primeI 0 - 2) % 256)
theorem prime2_eq : prime2L = primeI.set 0 ((gi primeI 0 - 2) % 256) := by unfold prime2L; rfl
theorem prime2_length : prime2L.length = 32 := by rw [prime2_eq]; simp [primeI_length]
def rinvT (i : Nat) : Prop := (gi prime2L (i / 8) / 2 ^ (i % 8)).tmod 2 = 1
instance (i : Nat) : Decidable (rinvT i) := by unfold rinvT; exact inferInstance
def rinvN (a : List Int) : Nat → List Int
  | 0 => rsmallL 1
  | k + 1 => if rinvT (254 - k) then rmul (rmul (rinvN a k) (rinvN a k)) a else rmul (rinvN a k) (rinvN a k)
theorem rinvN_length (a : List Int) (k : Nat) : (rinvN a k).length = 16 := by
  cases k with
  | zero => exact rsmallL_length 1
  | succ k => simp only [rinvN]; split <;> exact rmul_length _ _
set_option maxRecDepth 20000 in
set_option maxHeartbeats 1000000 in
theorem rinv_any (a : List Int) (ha : a.length = 16) (w : World) :
    Calls Try.prog 55 #[.agg (ints .i64 a)] w fun e w' => e = .returned (.agg (ints .i64 (rinvN a 255))) ∧ Below w.heap.size w w' := by
  have hown := Own.start w
  obtain ⟨S, hS⟩ : ∃ S : Nat → List Int, S = fun j => rinvN a (255 - j) := ⟨_, rfl⟩
  have hL : ∀ j, (S j).length = 16 := by intro j; rw [hS]; exact rinvN_length a _
  have h255 : S 255 = rsmallL 1 := by rw [hS]; rfl
  have hSt : ∀ n, n < 255 → S n = if rinvT n then rmul (rmul (S (n + 1)) (S (n + 1))) a else rmul (S (n + 1)) (S (n + 1)) := by
    intro n hn
    rw [hS]
    show rinvN a (255 - n) = _
    rw [show 255 - n = (254 - n) + 1 by omega]
    simp only [rinvN]
    rw [show 254 - (254 - n) = n by omega, show 255 - (n + 1) = 254 - n by omega]
  have h0 : rinvN a 255 = S 0 := by rw [hS]
  rw [h0]
  clear h0 hS
  have HSt := Lib.hid hSt
  clear hSt
  have hpl := primeI_length
  have HP := Lib.hid prime2_eq
  go_enter Try.func55, Try.ntmps55

  have tok_b1 : True := trivial
  have tok_b2 : True := trivial
  have tok_b3 : True := trivial
  have tok_b4 : True := trivial
  go_wp2_with (first | ((with_reducible show wpList _ _ _ (⟨_, .box _ _, _, _, _, _⟩ :: _) _ _); have _t := tok_b1; refine wpl_box hown rfl _ _ rfl _ rfl ?_; clear hown _t tok_b1; intro b1 _ hown; dsimp only [putL, setNth]) | ((with_reducible show wpList _ _ _ (⟨_, .alloc _, _, _, _, _⟩ :: _) _ _); have _t := tok_b2; refine wpl_alloc hown rfl _ rfl _ zero_num ?_; clear hown _t tok_b2; intro b2 _ hown; dsimp only [putL, setNth]) | ((with_reducible show wpList _ _ _ (⟨_, .alloc _, _, _, _, _⟩ :: _) _ _); have _t := tok_b3; refine wpl_alloc hown rfl _ rfl _ zero_num ?_; clear hown _t tok_b3; intro b3 _ hown; dsimp only [putL, setNth]) | (go_at_call 44; refine (rsmallL_any 1 ?_ ?_ _).mono ?_; (· omega); (· omega); rintro e w' ⟨rfl, hb⟩; replace hown := hown.grow hb; clear hb) | ((with_reducible show wpList _ _ _ (⟨_, .store _ _ _, _, _, _, _⟩ :: _) _ _); refine wpl_store_row hown rfl 31 _ _ rfl _ rfl _ rfl (ints_cell _ _) (sz_num (rsmallL_length 1)) 0 _ _ rfl (sz_eq (n := 16) rfl (rsmallL_length 1)) ?_; clear hown; intro _ hown; dsimp only [putL]; simp only [List.set_cons_zero, List.set_cons_succ] at hown) | (go_at_call 56; refine (rprimeI_any _).mono ?_; rintro e w' ⟨rfl, hb⟩; replace hown := hown.grow hb; clear hb) | ((with_reducible show wpList _ _ _ (⟨_, .alloc _, _, _, _, _⟩ :: _) _ _); have _t := tok_b4; refine wpl_alloc hown rfl _ rfl _ zero_b32 ?_; clear hown _t tok_b4; intro b4 _ hown; dsimp only [putL, setNth]) | ((with_reducible show wpList _ _ _ (⟨_, .store _ _ _, _, _, _, _⟩ :: _) _ _); refine wpl_store_row hown rfl 22 _ _ rfl _ rfl _ rfl (ints_cell _ _) (sz_b32 hpl) 0 _ _ rfl (sz_eq (n := 32) rfl hpl) ?_; clear hown; intro _ hown; dsimp only [putL]; simp only [List.set_cons_zero, List.set_cons_succ] at hown) | ((with_reducible show wpList _ _ _ (⟨_, .load _ _, _, _, _, _⟩ :: _) _ _); refine wpl_load_int hown rfl 5 _ rfl _ _ rfl _ Try.underlying5 0 _ _ rfl (by rw [hpl]; omega) ?_; dsimp only [putL, setNth]) | ((with_reducible show wpList _ _ _ (⟨_, .store _ _ _, _, _, _, _⟩ :: _) _ _); refine wpl_store_int hown rfl 5 _ _ rfl _ _ rfl _ _ rfl size_u8 0 _ _ rfl (by rw [hpl]; omega) ?_; clear hown; intro _ hown; dsimp only [putL]; simp only [List.set_cons_zero, List.set_cons_succ] at hown))
  rw [← HP.out] at hown
  clear hpl HP
  have hp2 := prime2_length
  go_loopw [5] (fun i wr => ∃ j : Nat, j ≤ 255 ∧ i = .int .i64 ((j : Int) - 1) ∧ Own w wr [(b4, ints .u8 prime2L, 22), (b3, ints .i64 (S j), 31), (b2, ints .i64 (List.replicate 16 0), 31), (b1, ints .i64 a, 31)]) (fun i _ => (intOf i + 1).toNat)
  case atStart => exact ⟨255, by omega, rfl, by rw [h255]; exact hown⟩
  case round =>
    clear hown
    obtain ⟨j, hj, rfl, hown⟩ := hrel
    cases j with
    | zero =>
      go_wp2_with (first | ((with_reducible show wpList _ _ _ (⟨_, .load _ _, _, _, _, _⟩ :: _) _ _); refine wpl_load_row hown rfl 31 _ rfl _ rfl 1 _ _ rfl _ Try.underlying31 rfl (sz_num (by first | exact hL _ | exact rmul_length _ _ | exact ha)) ?_; dsimp only [putL, setNth]) | ((with_reducible show wpList _ _ _ (⟨_, .load _ _, _, _, _, _⟩ :: _) _ _); refine wpl_load_row hown rfl 31 _ rfl _ rfl 3 _ _ rfl _ Try.underlying31 rfl (sz_num (by first | exact hL _ | exact rmul_length _ _ | exact ha)) ?_; dsimp only [putL, setNth]) | (go_at_call 49; refine (rmul_any _ _ ?_ ?_ _).mono ?_; (first | exact hL _ | exact rmul_length _ _ | exact ha); (first | exact hL _ | exact rmul_length _ _ | exact ha); rintro e w' ⟨rfl, hb⟩; replace hown := hown.grow hb; clear hb) | ((with_reducible show wpList _ _ _ (⟨_, .store _ _ _, _, _, _, _⟩ :: _) _ _); refine wpl_store_row hown rfl 31 _ _ rfl _ rfl _ rfl (ints_cell _ _) (sz_num (by first | exact hL _ | exact rmul_length _ _ | exact ha)) 1 _ _ rfl (sz_eq (n := 16) (by first | exact hL _ | exact rmul_length _ _ | exact ha) (by first | exact hL _ | exact rmul_length _ _ | exact ha)) ?_; clear hown; intro _ hown; dsimp only [putL]; simp only [List.set_cons_zero, List.set_cons_succ] at hown) | ((with_reducible show wpList _ _ _ (⟨_, .store _ _ _, _, _, _, _⟩ :: _) _ _); refine wpl_store_row hown rfl 31 _ _ rfl _ rfl _ rfl (ints_cell _ _) (sz_num (by first | exact hL _ | exact rmul_length _ _ | exact ha)) 2 _ _ rfl (sz_eq (n := 16) rfl (by first | exact hL _ | exact rmul_length _ _ | exact ha)) ?_; clear hown; intro _ hown; dsimp only [putL]; simp only [List.set_cons_zero, List.set_cons_succ] at hown))
      refine bodyPost_ret (results_own hown rfl _ rfl 2 _ _ rfl _ Try.underlying31 rfl (sz_num (hL _))) rfl ⟨rfl, hown.below⟩
    | succ n =>
      have e0 : (((n + 1 : Nat) : Int) - 1) = (n : Int) := by omega
      rw [e0]
      have f1 : IntKind.i64.wrap ((n : Int) / 8) = (n : Int) / 8 := IntWalk.i64_in _ (by omega)
      have f2 : ((n : Int) / 8).toNat = n / 8 := by omega
      have f3 : (0 : Int) ≤ (n : Int) / 8 := by omega
      have f4 : (n : Int) / 8 < 32 := by omega
      have f5 : (0 : Int) ≤ (n : Int) := by omega
      have f6 : (n : Int) < 255 := by omega
      have f7 : n / 8 < 32 := by omega
      have f8 : (0 : Int) ≤ (n : Int).tmod 8 := by rw [Int.tmod_eq_emod_of_nonneg (by omega)]; omega
      have HS := Lib.hid (HSt.out n (by omega))
      have f9 : IntKind.i64.wrap ((n : Int) - 1) = (n : Int) - 1 := IntWalk.i64_in _ (by omega)
      clear HSt h255 e0
      go_upto_region 9 with (go_big_may; (first | ((with_reducible show wpList _ _ _ (⟨_, .load _ _, _, _, _, _⟩ :: _) _ _); refine wpl_load_row hown rfl 31 _ rfl _ rfl 1 _ _ rfl _ Try.underlying31 rfl (sz_num (by first | exact hL _ | exact rmul_length _ _ | exact ha)) ?_; dsimp only [putL, setNth]) | ((with_reducible show wpList _ _ _ (⟨_, .load _ _, _, _, _, _⟩ :: _) _ _); refine wpl_load_row hown rfl 31 _ rfl _ rfl 3 _ _ rfl _ Try.underlying31 rfl (sz_num (by first | exact hL _ | exact rmul_length _ _ | exact ha)) ?_; dsimp only [putL, setNth]) | (go_at_call 49; refine (rmul_any _ _ ?_ ?_ _).mono ?_; (first | exact hL _ | exact rmul_length _ _ | exact ha); (first | exact hL _ | exact rmul_length _ _ | exact ha); rintro e w' ⟨rfl, hb⟩; replace hown := hown.grow hb; clear hb) | ((with_reducible show wpList _ _ _ (⟨_, .store _ _ _, _, _, _, _⟩ :: _) _ _); refine wpl_store_row hown rfl 31 _ _ rfl _ rfl _ rfl (ints_cell _ _) (sz_num (by first | exact hL _ | exact rmul_length _ _ | exact ha)) 1 _ _ rfl (sz_eq (n := 16) (by first | exact hL _ | exact rmul_length _ _ | exact ha) (by first | exact hL _ | exact rmul_length _ _ | exact ha)) ?_; clear hown; intro _ hown; dsimp only [putL]; simp only [List.set_cons_zero, List.set_cons_succ] at hown) | ((with_reducible show wpList _ _ _ (⟨_, .store _ _ _, _, _, _, _⟩ :: _) _ _); refine wpl_store_row hown rfl 31 _ _ rfl _ rfl _ rfl (ints_cell _ _) (sz_num (by first | exact hL _ | exact rmul_length _ _ | exact ha)) 2 _ _ rfl (sz_eq (n := 16) rfl (by first | exact hL _ | exact rmul_length _ _ | exact ha)) ?_; clear hown; intro _ hown; dsimp only [putL]; simp only [List.set_cons_zero, List.set_cons_succ] at hown) | ((with_reducible show wpList _ _ _ (⟨_, .load _ _, _, _, _, _⟩ :: _) _ _); refine wpl_load_int hown rfl 5 _ rfl _ _ rfl _ Try.underlying5 0 _ _ rfl (by rw [hp2]; omega) ?_; dsimp only [putL, setNth])))
      · rename_i hx
        have HX := Lib.hid (show rinvT n by unfold rinvT; first | exact hx | simpa using hx)
        clear hx
        go_wp2_with (first | ((with_reducible show wpList _ _ _ (⟨_, .load _ _, _, _, _, _⟩ :: _) _ _); refine wpl_load_row hown rfl 31 _ rfl _ rfl 1 _ _ rfl _ Try.underlying31 rfl (sz_num (by first | exact hL _ | exact rmul_length _ _ | exact ha)) ?_; dsimp only [putL, setNth]) | ((with_reducible show wpList _ _ _ (⟨_, .load _ _, _, _, _, _⟩ :: _) _ _); refine wpl_load_row hown rfl 31 _ rfl _ rfl 3 _ _ rfl _ Try.underlying31 rfl (sz_num (by first | exact hL _ | exact rmul_length _ _ | exact ha)) ?_; dsimp only [putL, setNth]) | (go_at_call 49; refine (rmul_any _ _ ?_ ?_ _).mono ?_; (first | exact hL _ | exact rmul_length _ _ | exact ha); (first | exact hL _ | exact rmul_length _ _ | exact ha); rintro e w' ⟨rfl, hb⟩; replace hown := hown.grow hb; clear hb) | ((with_reducible show wpList _ _ _ (⟨_, .store _ _ _, _, _, _, _⟩ :: _) _ _); refine wpl_store_row hown rfl 31 _ _ rfl _ rfl _ rfl (ints_cell _ _) (sz_num (by first | exact hL _ | exact rmul_length _ _ | exact ha)) 1 _ _ rfl (sz_eq (n := 16) (by first | exact hL _ | exact rmul_length _ _ | exact ha) (by first | exact hL _ | exact rmul_length _ _ | exact ha)) ?_; clear hown; intro _ hown; dsimp only [putL]; simp only [List.set_cons_zero, List.set_cons_succ] at hown) | ((with_reducible show wpList _ _ _ (⟨_, .store _ _ _, _, _, _, _⟩ :: _) _ _); refine wpl_store_row hown rfl 31 _ _ rfl _ rfl _ rfl (ints_cell _ _) (sz_num (by first | exact hL _ | exact rmul_length _ _ | exact ha)) 2 _ _ rfl (sz_eq (n := 16) rfl (by first | exact hL _ | exact rmul_length _ _ | exact ha)) ?_; clear hown; intro _ hown; dsimp only [putL]; simp only [List.set_cons_zero, List.set_cons_succ] at hown))
        go_roundw
        case rel => exact ⟨n, by omega, by first | rfl | go_num, by rw [HS.out, if_pos HX.out]; exact hown⟩
        case measure => simp [intOf]
      · rename_i hx
        have HX := Lib.hid (show ¬ rinvT n by unfold rinvT; first | exact hx | simpa using hx)
        refine ⟨⟨n, by omega, by first | rfl | go_num, by rw [HS.out, if_neg HX.out]; exact hown⟩, ?_⟩
        simp [intOf]

end Go.Proofs.Ytmchkfganpgheaa
