/-
  Both sides' functions on numbers, as the laws call them.
-/
import Derived.Test.YtmchkfganpgheaaFieldP
import Derived.Test.YtmchkfganpgheaaRefE
import Derived.Test.YtmchkfganpgheaaEq
import Derived.Test.YtmchkfganpgheaaOpen
namespace Go.Proofs.Ytmchkfganpgheaa
set_option linter.unusedSimpArgs false
set_option linter.unusedVariables false
open Go Go.RowKit

theorem Try.laidOut : laidOutB Try.prog = true := by kernel_rfl
open Go.ChangeShapes Go.WideShapes Go.ChangeAt in
theorem rfl_vars {H : Type} {enc : TypeId × Value → H} {W : World} {sp : Nat → Bool} : DataW.TrodVars enc Try.prog W sp [] [] [] := rfl

theorem IsB.unique {r : List Int} {v u : Int} (h : IsB r v) (e : v = u) : r = le32 u := by subst e; exact h.le
def Bytes32 (b : List Int) : Prop := b.length = 32 ∧ Dig 256 (gi b) 32
theorem bytes32_of {b : List Int} (hl : b.length = 32) (hw : ∀ x ∈ b, (Lit.int .u8 x).wf = true) : Bytes32 b := by
  refine ⟨hl, fun i hi => ?_⟩
  have hm : gi b i ∈ b := by
    unfold gi
    rw [List.getD_eq_getElem?_getD, List.getElem?_eq_getElem (by omega)]
    exact List.getElem_mem ..
  have := bounds_u8 (hw _ hm)
  omega
theorem W64.toE {n : Int} (h : (Lit.int .u32 n).wf = true) : 0 ≤ n ∧ n < 4294967296 := by
  have := bounds_u32 h
  omega

@[irreducible] def fromE (b : List Int) : List Int := carriedL (fromN b 255)
theorem fromE_eq (b : List Int) : fromE b = carriedL (fromN b 255) := by unfold fromE; rfl
theorem fromE_any (b : List Int) (h : Bytes32 b) (w : World) :
    Calls Try.prog 15 #[.agg (ints .u8 b)] w fun e w' => e = .returned (.agg (ints .u64 (fromE b))) ∧ Below w.heap.size w w' := by
  rw [fromE_eq]; exact from_any b h.1 w
theorem fromE_is {b : List Int} (h : Bytes32 b) : IsE (fromE b) (v32 b % H255) := by
  rw [fromE_eq]; exact from_isE b h.1 h.2
@[irreducible] def smallE (n : Int) : List Int := [n, 0, 0, 0, 0]
theorem smallE_eq (n : Int) : smallE n = [n, 0, 0, 0, 0] := by unfold smallE; rfl
theorem smallE_any (n : Int) (h : 0 ≤ n ∧ n < 4294967296) (w : World) :
    Calls Try.prog 25 #[.int .u32 n] w fun e w' => e = .returned (.agg (ints .u64 (smallE n))) ∧ Below w.heap.size w w' := by
  rw [smallE_eq]; exact small_any n h.1 h.2 w
theorem smallE_is {n : Int} (h : 0 ≤ n ∧ n < 4294967296) : IsE (smallE n) n := by
  rw [smallE_eq]; exact small_isE n h.1 h.2
@[irreducible] def addE (a : List Int) (b : List Int) : List Int := carriedL (addN a b 5)
theorem addE_eq (a : List Int) (b : List Int) : addE a b = carriedL (addN a b 5) := by unfold addE; rfl
theorem addE_any (a : List Int) (b : List Int) {v u : Int} (ha : IsE a v) (hb : IsE b u) (w : World) :
    Calls Try.prog 45 #[.agg (ints .u64 a), .agg (ints .u64 b)] w fun e w' => e = .returned (.agg (ints .u64 (addE a b))) ∧ Below w.heap.size w w' := by
  rw [addE_eq]; exact add_any a b ha.1 hb.1 w
theorem addE_is {a b : List Int} {v w : Int} (ha : IsE a v) (hb : IsE b w) : IsE (addE a b) (v + w) := by
  rw [addE_eq]; exact add_isE ha hb
@[irreducible] def subE (a : List Int) (b : List Int) : List Int := carriedL ((subN a b 5).set 0 (IntKind.u64.wrap (gi (subN a b 5) 0 - 72)))
theorem subE_eq (a : List Int) (b : List Int) : subE a b = carriedL ((subN a b 5).set 0 (IntKind.u64.wrap (gi (subN a b 5) 0 - 72))) := by unfold subE; rfl
theorem subE_any (a : List Int) (b : List Int) {v u : Int} (ha : IsE a v) (hb : IsE b u) (w : World) :
    Calls Try.prog 38 #[.agg (ints .u64 a), .agg (ints .u64 b)] w fun e w' => e = .returned (.agg (ints .u64 (subE a b))) ∧ Below w.heap.size w w' := by
  rw [subE_eq]; exact sub_any a b ha.1 hb.1 w
theorem subE_is {a b : List Int} {v w : Int} (ha : IsE a v) (hb : IsE b w) : IsE (subE a b) (v - w) := by
  rw [subE_eq]; exact sub_isE ha hb
@[irreducible] def mulE (a : List Int) (b : List Int) : List Int := mulR a b
theorem mulE_eq (a : List Int) (b : List Int) : mulE a b = mulR a b := by unfold mulE; rfl
theorem mulE_any (a : List Int) (b : List Int) {v u : Int} (ha : IsE a v) (hb : IsE b u) (w : World) :
    Calls Try.prog 48 #[.agg (ints .u64 a), .agg (ints .u64 b)] w fun e w' => e = .returned (.agg (ints .u64 (mulE a b))) ∧ Below w.heap.size w w' := by
  rw [mulE_eq]; exact mul_any a b ha.1 hb.1 ha.allG hb.allG w
theorem mulE_is {a b : List Int} {v w : Int} (ha : IsE a v) (hb : IsE b w) : IsE (mulE a b) (v * w) := by
  rw [mulE_eq]; exact mul_isE ha hb
@[irreducible] def invE (a : List Int) : List Int := invN a 255
theorem invE_eq (a : List Int) : invE a = invN a 255 := by unfold invE; rfl
theorem invE_any (a : List Int) {v : Int} (ha : IsE a v) (w : World) :
    Calls Try.prog 24 #[.agg (ints .u64 a)] w fun e w' => e = .returned (.agg (ints .u64 (invE a))) ∧ Below w.heap.size w w' := by
  rw [invE_eq]; exact inv_any a ha.1 ha.allG w
theorem invE_is {a : List Int} {v : Int} (ha : IsE a v) : IsE (invE a) (invV v 255) := by
  rw [invE_eq]; exact inv_isE ha 255
@[irreducible] def rfromI (b : List Int) : List Int := rfromR b
theorem rfromI_eq (b : List Int) : rfromI b = rfromR b := by unfold rfromI; rfl
theorem rfromI_any (b : List Int) (h : Bytes32 b) (w : World) :
    Calls Try.prog 16 #[.agg (ints .u8 b)] w fun e w' => e = .returned (.agg (ints .i64 (rfromI b))) ∧ Below w.heap.size w w' := by
  rw [rfromI_eq]; exact rfrom_any b h.1 w
theorem rfromI_is {b : List Int} (h : Bytes32 b) : IsN (rfromI b) (v32 b % H255) := by
  rw [rfromI_eq]; exact rfrom_isN b h.1 h.2
@[irreducible] def raddI (a : List Int) (b : List Int) : List Int := rcar (raddR a b)
theorem raddI_eq (a : List Int) (b : List Int) : raddI a b = rcar (raddR a b) := by unfold raddI; rfl
theorem raddI_any (a : List Int) (b : List Int) {v u : Int} (ha : IsN a v) (hb : IsN b u) (w : World) :
    Calls Try.prog 46 #[.agg (ints .i64 a), .agg (ints .i64 b)] w fun e w' => e = .returned (.agg (ints .i64 (raddI a b))) ∧ Below w.heap.size w w' := by
  rw [raddI_eq]; exact radd_any a b ha.1 hb.1 w
theorem raddI_is {a b : List Int} {v w : Int} (ha : IsN a v) (hb : IsN b w) : IsN (raddI a b) (v + w) := by
  rw [raddI_eq]; exact radd_isN ha hb
@[irreducible] def rsubI (a : List Int) (b : List Int) : List Int := rcar (rsubR a b)
theorem rsubI_eq (a : List Int) (b : List Int) : rsubI a b = rcar (rsubR a b) := by unfold rsubI; rfl
theorem rsubI_any (a : List Int) (b : List Int) {v u : Int} (ha : IsN a v) (hb : IsN b u) (w : World) :
    Calls Try.prog 47 #[.agg (ints .i64 a), .agg (ints .i64 b)] w fun e w' => e = .returned (.agg (ints .i64 (rsubI a b))) ∧ Below w.heap.size w w' := by
  rw [rsubI_eq]; exact rsub_any a b ha.1 hb.1 w
theorem rsubI_is {a b : List Int} {v w : Int} (ha : IsN a v) (hb : IsN b w) : IsN (rsubI a b) (v - w) := by
  rw [rsubI_eq]; exact rsub_isN ha hb
@[irreducible] def rmulI (a : List Int) (b : List Int) : List Int := rmul a b
theorem rmulI_eq (a : List Int) (b : List Int) : rmulI a b = rmul a b := by unfold rmulI; rfl
theorem rmulI_any (a : List Int) (b : List Int) {v u : Int} (ha : IsN a v) (hb : IsN b u) (w : World) :
    Calls Try.prog 49 #[.agg (ints .i64 a), .agg (ints .i64 b)] w fun e w' => e = .returned (.agg (ints .i64 (rmulI a b))) ∧ Below w.heap.size w w' := by
  rw [rmulI_eq]; exact rmul_any a b ha.1 hb.1 w
theorem rmulI_is {a b : List Int} {v w : Int} (ha : IsN a v) (hb : IsN b w) : IsN (rmulI a b) (v * w) := by
  rw [rmulI_eq]; exact rmul_isN ha hb
@[irreducible] def rinvI (a : List Int) : List Int := rinvN a 255
theorem rinvI_eq (a : List Int) : rinvI a = rinvN a 255 := by unfold rinvI; rfl
theorem rinvI_any (a : List Int) {v : Int} (ha : IsN a v) (w : World) :
    Calls Try.prog 55 #[.agg (ints .i64 a)] w fun e w' => e = .returned (.agg (ints .i64 (rinvI a))) ∧ Below w.heap.size w w' := by
  rw [rinvI_eq]; exact rinv_any a ha.1 w
theorem rinvI_is {a : List Int} {v : Int} (ha : IsN a v) : IsN (rinvI a) (invV v 255) := by
  rw [rinvI_eq]; exact rinv_isN ha 255 (Nat.le_refl _)

theorem rsmallI_any (n : Int) (h : 0 ≤ n ∧ n < 4294967296) (w : World) :
    Calls Try.prog 44 #[.int .u32 n] w fun e w' => e = .returned (.agg (ints .i64 (rsmallL n))) ∧ Below w.heap.size w w' := rsmallL_any n h.1 h.2 w
theorem rsmallI_is {n : Int} (h : 0 ≤ n ∧ n < 4294967296) : IsN (rsmallL n) n := rsmall_isN n h.1 h.2
theorem bytesE_any {a : List Int} {v : Int} (ha : IsE a v) (w : World) :
    Calls Try.prog 26 #[.agg (ints .u64 a)] w fun e w' => e = .returned (.agg (ints .u8 (le32 (v % PP)))) ∧ Below w.heap.size w w' := by
  have := bytes_any a ha.1 w
  rw [(bytes_isB ha).le] at this
  exact this
theorem zeroE_any {a : List Int} {v : Int} (ha : IsE a v) (w : World) :
    Calls Try.prog 28 #[.agg (ints .u64 a)] w fun e w' => e = .returned (.bool (decide (v % PP = 0))) ∧ Below w.heap.size w w' := by
  have := zero_any a ha.1 w
  rw [show decide (bytesR a = List.replicate 32 0) = decide (v % PP = 0) from by rw [decide_eq_decide]; exact zeroT ha] at this
  exact this

set_option maxHeartbeats 400000 in
theorem is_any {l x : List Int} {v u : Int} (hl : IsE l v) (hx : IsN x u) (w : World) :
    Calls Try.prog 17 #[.agg (ints .u64 l), .agg (ints .i64 x)] w fun e w' => e = .returned (.bool (decide (v % PP = u % PP))) ∧ Below w.heap.size w w' := by
  have hown := Own.start w
  have hll := hl.1
  have hxl := hx.1
  go_enter Try.func17, Try.ntmps17

  go_wp2_with (first | ((with_reducible show wpList _ _ _ (⟨_, .box _ _, _, _, _, _⟩ :: _) _ _); refine wpl_box hown rfl _ _ rfl _ rfl ?_; clear hown; intro _ _ hown; dsimp only [putL, setNth]))
  refine wp_region_grow 5 [0, 1, 2, 3, 4] (by kernel_rfl) (by kernel_rfl) hown ?_; simp only [List.filterMap_cons, List.filterMap_nil, List.getElem?_cons_zero, List.getElem?_cons_succ, List.drop_succ_cons, List.drop_zero]
  (refine wpV_step rfl rfl _ (growAt_load_row 26 _ rfl _ rfl 1 _ _ rfl _ Try.underlying26 rfl (sz_elem hll)) ?_; dsimp only [putL, setNth])
  (refine wpV_step rfl rfl _ (growAt_call (args := #[.agg (ints .u64 l)]) (by intro w; go_simp) (fun w => bytesE_any hl w)) ?_; dsimp only [putL, setNth])
  (refine wpV_step rfl rfl _ (growAt_load_row 31 _ rfl _ rfl 0 _ _ rfl _ Try.underlying31 rfl (sz_num hxl)) ?_; dsimp only [putL, setNth])
  (refine wpV_step rfl rfl _ (growAt_call (args := #[.agg (ints .i64 x)]) (by intro w; go_simp) (fun w => rbytes_any hx w)) ?_; dsimp only [putL, setNth])
  (refine wpV_step rfl rfl _ (growAt_eql 22 _ _ _ rfl _ _ _ rfl rfl 5 _ _ Try.underlying22 Try.underlying5 (size_u8) (by kernel_rfl) (le32_length _) (le32_length _)) ?_; dsimp only [putL, setNth])
  refine wpV_nil ?_; clear hown; intro _ hown; simp only [List.nil_append, List.cons_append] at hown
  go_wp2 
  go_ret
  exact ⟨by show Ending.returned (Value.bool (decide (le32 (v % PP) = le32 (u % PP)))) = _; rw [show decide (le32 (v % PP) = le32 (u % PP)) = decide (v % PP = u % PP) from decide_eq_decide.2 le32_inj], hown.below⟩
set_option maxHeartbeats 400000 in
theorem same_any {l x : List Int} {v u : Int} (hl : IsE l v) (hx : IsE x u) (w : World) :
    Calls Try.prog 29 #[.agg (ints .u64 l), .agg (ints .u64 x)] w fun e w' => e = .returned (.bool (decide (v % PP = u % PP))) ∧ Below w.heap.size w w' := by
  have hown := Own.start w
  have hll := hl.1
  have hxl := hx.1
  go_enter Try.func29, Try.ntmps29

  go_wp2_with (first | ((with_reducible show wpList _ _ _ (⟨_, .box _ _, _, _, _, _⟩ :: _) _ _); refine wpl_box hown rfl _ _ rfl _ rfl ?_; clear hown; intro _ _ hown; dsimp only [putL, setNth]))
  refine wp_region_grow 5 [0, 1, 2, 3, 4] (by kernel_rfl) (by kernel_rfl) hown ?_; simp only [List.filterMap_cons, List.filterMap_nil, List.getElem?_cons_zero, List.getElem?_cons_succ, List.drop_succ_cons, List.drop_zero]
  (refine wpV_step rfl rfl _ (growAt_load_row 26 _ rfl _ rfl 1 _ _ rfl _ Try.underlying26 rfl (sz_elem hll)) ?_; dsimp only [putL, setNth])
  (refine wpV_step rfl rfl _ (growAt_call (args := #[.agg (ints .u64 l)]) (by intro w; go_simp) (fun w => bytesE_any hl w)) ?_; dsimp only [putL, setNth])
  (refine wpV_step rfl rfl _ (growAt_load_row 26 _ rfl _ rfl 0 _ _ rfl _ Try.underlying26 rfl (sz_elem hxl)) ?_; dsimp only [putL, setNth])
  (refine wpV_step rfl rfl _ (growAt_call (args := #[.agg (ints .u64 x)]) (by intro w; go_simp) (fun w => bytesE_any hx w)) ?_; dsimp only [putL, setNth])
  (refine wpV_step rfl rfl _ (growAt_eql 22 _ _ _ rfl _ _ _ rfl rfl 5 _ _ Try.underlying22 Try.underlying5 (size_u8) (by kernel_rfl) (le32_length _) (le32_length _)) ?_; dsimp only [putL, setNth])
  refine wpV_nil ?_; clear hown; intro _ hown; simp only [List.nil_append, List.cons_append] at hown
  go_wp2 
  go_ret
  exact ⟨by show Ending.returned (Value.bool (decide (le32 (v % PP) = le32 (u % PP)))) = _; rw [show decide (le32 (v % PP) = le32 (u % PP)) = decide (v % PP = u % PP) from decide_eq_decide.2 le32_inj], hown.below⟩

end Go.Proofs.Ytmchkfganpgheaa
