/-
  Joined texts: FieldA, Ret2, FieldB, FieldC. No conditions.
-/
import Derived.Test.YtdjecenggngdjaaGac
import Derived.Test.YtdjecenggngdjaaGaf
import Derived.Test.YtdjecenggngdjaaRows
import Derived.Deep.Cut
import Derived.Deep.LoopGhost
import Derived.OrdersHeld
import Derived.OpenShut
namespace Go.Proofs.Ytdjecenggngdjaa
set_option linter.unusedSimpArgs false
set_option linter.unusedVariables false
set_option maxHeartbeats 16000000
set_option maxRecDepth 20000
section
open Go Go.RowKit
theorem info_b32 : (Try.prog.info? 22).map (·.size) = some 32 := by kernel_rfl
theorem zero_b32 : (Try.prog.info? 22).map (·.zero) = some (some (.agg (ints .u8 (List.replicate 32 0)))) := by kernel_rfl
theorem sz_b32 {k : IntKind} {L : List Int} (h : L.length = 32) : (Try.prog.info? 22).map (·.size) = some (ints k L).size := by rw [ints_size, h]; exact info_b32
theorem info_elem : (Try.prog.info? 82).map (·.size) = some 5 := by kernel_rfl
theorem zero_elem : (Try.prog.info? 82).map (·.zero) = some (some (.agg (ints .u64 (List.replicate 5 0)))) := by kernel_rfl
theorem sz_elem {k : IntKind} {L : List Int} (h : L.length = 5) : (Try.prog.info? 82).map (·.size) = some (ints k L).size := by rw [ints_size, h]; exact info_elem
theorem info_l5 : (Try.prog.info? 80).map (·.size) = some 5 := by kernel_rfl
theorem zero_l5 : (Try.prog.info? 80).map (·.zero) = some (some (.agg (ints .u64 (List.replicate 5 0)))) := by kernel_rfl
theorem sz_l5 {k : IntKind} {L : List Int} (h : L.length = 5) : (Try.prog.info? 80).map (·.size) = some (ints k L).size := by rw [ints_size, h]; exact info_l5
theorem size_u8 : (Try.prog.info? 5).map (·.size) = some 1 := by kernel_rfl
theorem size_u64 : (Try.prog.info? 79).map (·.size) = some 1 := by kernel_rfl
def carriedL (l : List Int) : List Int := [
  IntKind.u64.wrap (bits .and .u64 (gi l 0) 2251799813685247 + IntKind.u64.wrap (19 * (gi l 4 / 2251799813685248))),
  IntKind.u64.wrap (bits .and .u64 (gi l 1) 2251799813685247 + gi l 0 / 2251799813685248),
  IntKind.u64.wrap (bits .and .u64 (gi l 2) 2251799813685247 + gi l 1 / 2251799813685248),
  IntKind.u64.wrap (bits .and .u64 (gi l 3) 2251799813685247 + gi l 2 / 2251799813685248),
  IntKind.u64.wrap (bits .and .u64 (gi l 4) 2251799813685247 + gi l 3 / 2251799813685248)]
theorem carriedL_length (l : List Int) : (carriedL l).length = 5 := rfl
theorem carried_any (L : List Int) (hL : L.length = 5) (w : World) :
    Calls Try.prog 64 #[.agg (ints .u64 L)] w fun e w' => e = .returned (.agg (ints .u64 (carriedL L))) ∧ Below w.heap.size w w' := by
  have hown := Own.start w
  go_enter Try.func64, Try.ntmps64
  go_wp2_with (first | (refine wpl_box hown rfl _ _ rfl _ rfl ?_; clear hown; intro _ _ hown; dsimp only [putL, setNth]) | (refine wpl_alloc hown rfl _ rfl _ zero_elem ?_; clear hown; intro _ _ hown; dsimp only [putL, setNth]) | (refine wpl_load_int hown rfl 79 _ rfl _ _ rfl _ Try.underlying79 1 _ _ rfl (by simp [hL]) ?_; dsimp only [putL, setNth]) | (refine wpl_store_row hown rfl 82 _ _ rfl _ rfl (ints .u64 (carriedL L)) rfl (ints_cell _ _) (sz_elem rfl) 0 _ _ rfl (rfl) ?_; clear hown; intro _ hown; dsimp only [putL]; simp only [List.set_cons_zero, List.set_cons_succ] at hown))
  refine bodyPost_ret (results_own hown rfl _ rfl 0 _ _ rfl _ Try.underlying82 rfl (sz_elem rfl)) rfl ⟨rfl, hown.below⟩
def fromN (L : List Int) : Nat → List Int
  | 0 => List.replicate 5 0
  | k + 1 => (fromN L k).set (k / 51) (bits .or .u64 (gi (fromN L k) (k / 51))
      (IntKind.u64.wrap (IntKind.u64.wrap (bits .and .u8 ((gi L (k / 8)).fdiv (2 ^ min ((k : Int).tmod 8).toNat 8)) 1) * 2 ^ min ((k : Int).tmod 51).toNat 64)))
theorem fromN_length (L : List Int) : ∀ k, (fromN L k).length = 5
  | 0 => rfl
  | k + 1 => by simp [fromN, fromN_length L k]
theorem from_any (L : List Int) (hL : L.length = 32) (w : World) :
    Calls Try.prog 44 #[.agg (ints .u8 L)] w fun e w' => e = .returned (.agg (ints .u64 (carriedL (fromN L 255)))) ∧ Below w.heap.size w w' := by
  have hown := Own.start w
  go_enter Try.func44, Try.ntmps44
  have tok_b1 : True := trivial
  have tok_b2 : True := trivial
  have tok_b3 : True := trivial
  go_wp2_with (first | (have _t := tok_b1; refine wpl_box hown rfl _ _ rfl _ rfl ?_; clear hown _t tok_b1; intro b1 _ hown; dsimp only [putL, setNth]) | (have _t := tok_b2; refine wpl_alloc hown rfl _ rfl _ zero_elem ?_; clear hown _t tok_b2; intro b2 _ hown; dsimp only [putL, setNth]) | (have _t := tok_b3; refine wpl_alloc hown rfl _ rfl _ zero_l5 ?_; clear hown _t tok_b3; intro b3 _ hown; dsimp only [putL, setNth]))
  go_loopw [5] (fun i wr => ∃ k : Nat, k ≤ 255 ∧ i = .int .i64 k ∧ Own w wr [(b3, ints .u64 (fromN L k), 80), (b2, ints .u64 (List.replicate 5 0), 82), (b1, ints .u8 L, 22)]) (fun i _ => 255 - (intOf i).toNat)
  case atStart => exact ⟨0, by omega, rfl, hown⟩
  case round =>
    clear hown
    obtain ⟨k, hk, rfl, hown⟩ := hrel
    by_cases hlt : k < 255
    · have f1 : IntKind.i64.wrap ((k : Int) / 51) = (k : Int) / 51 := IntWalk.i64_in _ (by omega)
      have f2 : IntKind.i64.wrap ((k : Int) / 8) = (k : Int) / 8 := IntWalk.i64_in _ (by omega)
      have f3 : ((k : Int) / 51).toNat = k / 51 := by omega
      have f4 : ((k : Int) / 8).toNat = k / 8 := by omega
      have f5 : (0 : Int) ≤ (k : Int) / 51 := by omega
      have f6 : (k : Int) / 51 < 5 := by omega
      have f7 : (0 : Int) ≤ (k : Int) / 8 := by omega
      have f8 : (k : Int) / 8 < 32 := by omega
      go_upto_region 5 with (fail)
      refine wp_region_grow 18 [0, 1, 2, 3, 4, 5, 6, 7, 8, 9, 10, 11, 12, 13, 14, 15, 16, 17] (by kernel_rfl) (by kernel_rfl) hown ?_; simp only [List.filterMap_cons, List.filterMap_nil, List.getElem?_cons_zero, List.getElem?_cons_succ, List.drop_succ_cons, List.drop_zero]
      repeat (first | (refine wpV_step rfl rfl _ (growAt_load_int 79 _ rfl _ _ rfl _ Try.underlying79 0 _ _ rfl (by rw [fromN_length]; omega)) ?_; dsimp only [putL, setNth]) | (refine wpV_step rfl rfl _ (growAt_load_int 5 _ rfl _ _ rfl _ Try.underlying5 2 _ _ rfl (by omega)) ?_; dsimp only [putL, setNth]) | (first | (refine wpV_step rfl rfl _ (growAt_move _ rfl _ rfl) ?_; dsimp only [putL, setNth, evL, nth]) | (refine wpV_step rfl rfl _ (growAt_assign _ rfl _ rfl) ?_; dsimp only [putL, setNth, evL, nth]) | (refine wpV_step rfl rfl _ (growAt_bits _ _ _ _ _ rfl (by decide) _ _ _ rfl rfl) ?_; dsimp only [putL, setNth]) | (refine wpV_step rfl rfl _ (growAt_bin _ _ _ _ _ rfl _ _ rfl rfl _ (by intro w; go_simp; try rfl)) ?_; dsimp only [putL, setNth]) | (refine wpV_step rfl rfl _ (growAt_un _ _ _ rfl _ rfl _ (by intro w; go_simp; try rfl)) ?_; dsimp only [putL, setNth]) | (refine wpV_step rfl rfl _ (growAt_conv _ _ _ rfl _ rfl _ (by intro w; go_simp; try rfl)) ?_; dsimp only [putL, setNth]) | (refine wpV_step rfl rfl _ (growAt_fld _ _ _ rfl _ rfl _ (by intro w; go_simp; try rfl)) ?_; dsimp only [putL, setNth]) | (refine wpV_step rfl rfl _ (growAt_idx _ _ _ rfl _ _ rfl rfl _ (by intro w; go_simp; try rfl)) ?_; dsimp only [putL, setNth]) | (refine wpV_step rfl rfl _ (growAt_extract _ _ rfl _ rfl _ rfl) ?_; dsimp only [putL, setNth]) | (refine wpV_step rfl rfl _ (growAt_pick _ _ _ rfl _ rfl _ _ rfl rfl) ?_; dsimp only [putL, setNth])) | (refine wpV_step rfl rfl _ (growAt_pure (by intro w; go_simp; try rfl)) ?_; dsimp only [putL, setNth]))
      refine wpV_nil ?_; clear hown; intro _ hown; simp only [List.nil_append, List.cons_append] at hown
      go_wp2_with (first | (refine wpl_store_int hown rfl 79 _ _ rfl _ _ rfl _ _ rfl size_u64 0 _ _ rfl (by rw [fromN_length]; omega) ?_; clear hown; intro _ hown; dsimp only [putL]; simp only [List.set_cons_zero, List.set_cons_succ] at hown))
      go_roundw
      case rel => exact ⟨k + 1, by omega, by go_num, hown⟩
      case measure => simp [intOf]; omega
    · go_wp2_with (first | (refine wpl_load_row hown rfl 80 _ rfl _ rfl 0 _ _ rfl _ Try.underlying80 rfl (sz_l5 (fromN_length L k)) ?_; dsimp only [putL, setNth]) | (go_at_call 64; refine (carried_any _ (fromN_length L k) _).mono ?_; rintro e w' ⟨rfl, hb⟩; replace hown := hown.grow hb; clear hb) | (refine wpl_store_row hown rfl 82 _ _ rfl _ rfl _ rfl (ints_cell _ _) (sz_elem (carriedL_length _)) 1 _ _ rfl (by simp [ints_size, carriedL_length]) ?_; clear hown; intro _ hown; dsimp only [putL]; simp only [List.set_cons_zero, List.set_cons_succ] at hown))
      obtain rfl : k = 255 := by omega
      refine bodyPost_ret (results_own hown rfl _ rfl 1 _ _ rfl _ Try.underlying82 rfl (sz_elem (carriedL_length _))) rfl ⟨rfl, hown.below⟩
theorem small_any (n : Int) (h0 : 0 ≤ n) (h1 : n < 4294967296) (w : World) :
    Calls Try.prog 45 #[.int .u32 n] w fun e w' => e = .returned (.agg (ints .u64 [n, 0, 0, 0, 0])) ∧ Below w.heap.size w w' := by
  have hown := Own.start w
  go_enter Try.func45, Try.ntmps45
  go_wp2_with (first | (refine wpl_alloc hown rfl _ rfl _ zero_elem ?_; clear hown; intro _ _ hown; dsimp only [putL, setNth]) | (refine wpl_store_row hown rfl 82 _ _ rfl _ rfl (ints .u64 [n, 0, 0, 0, 0]) rfl (ints_cell _ _) (sz_elem rfl) 0 _ _ rfl (rfl) ?_; clear hown; intro _ hown; dsimp only [putL]; simp only [List.set_cons_zero, List.set_cons_succ] at hown))
  refine bodyPost_ret (results_own hown rfl _ rfl 0 _ _ rfl _ Try.underlying82 rfl (sz_elem rfl)) rfl ⟨rfl, hown.below⟩
def addN (a b : List Int) : Nat → List Int
  | 0 => a
  | k + 1 => (addN a b k).set k (IntKind.u64.wrap (gi (addN a b k) k + gi b k))
theorem addN_length (a b : List Int) (ha : a.length = 5) : ∀ k, (addN a b k).length = 5
  | 0 => ha
  | k + 1 => by simp [addN, addN_length a b ha k]
theorem add_any (a b : List Int) (ha : a.length = 5) (hb : b.length = 5) (w : World) :
    Calls Try.prog 66 #[.agg (ints .u64 a), .agg (ints .u64 b)] w fun e w' => e = .returned (.agg (ints .u64 (carriedL (addN a b 5)))) ∧ Below w.heap.size w w' := by
  have hown := Own.start w
  go_enter Try.func66, Try.ntmps66
  have tok_b1 : True := trivial
  have tok_b2 : True := trivial
  have tok_b3 : True := trivial
  go_wp2_with (first | (have _t := tok_b1; refine wpl_box hown rfl _ _ rfl _ rfl ?_; clear hown _t tok_b1; intro b1 _ hown; dsimp only [putL, setNth]) | (have _t := tok_b2; refine wpl_box hown rfl _ _ rfl _ rfl ?_; clear hown _t tok_b2; intro b2 _ hown; dsimp only [putL, setNth]) | (have _t := tok_b3; refine wpl_alloc hown rfl _ rfl _ zero_elem ?_; clear hown _t tok_b3; intro b3 _ hown; dsimp only [putL, setNth]) | (refine wpl_load_row hown rfl 80 _ rfl _ rfl 1 _ _ rfl _ Try.underlying80 rfl (sz_l5 hb) ?_; dsimp only [putL, setNth]))
  go_loopw [9] (fun i wr => ∃ k : Nat, k ≤ 5 ∧ i = .int .i64 k ∧ Own w wr [(b3, ints .u64 (List.replicate 5 0), 82), (b2, ints .u64 b, 82), (b1, ints .u64 (addN a b k), 82)]) (fun i _ => 5 - (intOf i).toNat)
  case atStart => exact ⟨0, by omega, rfl, hown⟩
  case round =>
    clear hown
    obtain ⟨k, hk, rfl, hown⟩ := hrel
    by_cases hlt : k < 5
    · go_wp2_with (first | (refine wpl_index rfl 80 _ _ rfl _ _ rfl _ _ rfl _ _ _ Try.underlying80 Try.underlying79 size_u64 (hb) (by omega) (by omega) ?_; dsimp only [putL, setNth]) | (refine wpl_load_int hown rfl 79 _ rfl _ _ rfl _ Try.underlying79 2 _ _ rfl (by rw [addN_length a b ha]; omega) ?_; dsimp only [putL, setNth]) | (refine wpl_store_int hown rfl 79 _ _ rfl _ _ rfl _ _ rfl size_u64 2 _ _ rfl (by rw [addN_length a b ha]; omega) ?_; clear hown; intro _ hown; dsimp only [putL]; simp only [List.set_cons_zero, List.set_cons_succ] at hown))
      go_roundw
      case rel => exact ⟨k + 1, by omega, by go_num, hown⟩
      case measure => simp [intOf]; omega
    · have hl := addN_length a b ha k
      go_wp2_with (first | (refine wpl_load_row hown rfl 80 _ rfl _ rfl 2 _ _ rfl _ Try.underlying80 rfl (sz_l5 (by simp [addN_length a b ha])) ?_; dsimp only [putL, setNth]) | (refine wpl_load_int hown rfl 79 _ rfl _ _ rfl _ Try.underlying79 2 _ _ rfl (by simp [addN_length a b ha]) ?_; dsimp only [putL, setNth]) | (refine wpl_store_int hown rfl 79 _ _ rfl _ _ rfl _ _ rfl size_u64 2 _ _ rfl (by simp [addN_length a b ha]) ?_; clear hown; intro _ hown; dsimp only [putL]; simp only [List.set_cons_zero, List.set_cons_succ] at hown) | (go_at_call 64; refine (carried_any _ (by simp [addN_length a b ha]) _).mono ?_; rintro e w' ⟨rfl, hb⟩; replace hown := hown.grow hb; clear hb) | (refine wpl_store_row hown rfl 82 _ _ rfl _ rfl _ rfl (ints_cell _ _) (sz_elem (carriedL_length _)) 0 _ _ rfl (by simp [ints_size, carriedL_length]) ?_; clear hown; intro _ hown; dsimp only [putL]; simp only [List.set_cons_zero, List.set_cons_succ] at hown))
      obtain rfl : k = 5 := by omega
      refine bodyPost_ret (results_own hown rfl _ rfl 0 _ _ rfl _ Try.underlying82 rfl (sz_elem (carriedL_length _))) rfl ⟨rfl, hown.below⟩
def subN (a b : List Int) : Nat → List Int
  | 0 => a
  | k + 1 => (subN a b k).set k (IntKind.u64.wrap (gi (subN a b k) k + IntKind.u64.wrap (9007199254740988 - gi b k)))
theorem subN_length (a b : List Int) (ha : a.length = 5) : ∀ k, (subN a b k).length = 5
  | 0 => ha
  | k + 1 => by simp [subN, subN_length a b ha k]
theorem sub_any (a b : List Int) (ha : a.length = 5) (hb : b.length = 5) (w : World) :
    Calls Try.prog 67 #[.agg (ints .u64 a), .agg (ints .u64 b)] w fun e w' => e = .returned (.agg (ints .u64 (carriedL ((subN a b 5).set 0 (IntKind.u64.wrap (gi (subN a b 5) 0 - 72)))))) ∧ Below w.heap.size w w' := by
  have hown := Own.start w
  go_enter Try.func67, Try.ntmps67
  have tok_b1 : True := trivial
  have tok_b2 : True := trivial
  have tok_b3 : True := trivial
  go_wp2_with (first | (have _t := tok_b1; refine wpl_box hown rfl _ _ rfl _ rfl ?_; clear hown _t tok_b1; intro b1 _ hown; dsimp only [putL, setNth]) | (have _t := tok_b2; refine wpl_box hown rfl _ _ rfl _ rfl ?_; clear hown _t tok_b2; intro b2 _ hown; dsimp only [putL, setNth]) | (have _t := tok_b3; refine wpl_alloc hown rfl _ rfl _ zero_elem ?_; clear hown _t tok_b3; intro b3 _ hown; dsimp only [putL, setNth]) | (refine wpl_load_row hown rfl 80 _ rfl _ rfl 1 _ _ rfl _ Try.underlying80 rfl (sz_l5 hb) ?_; dsimp only [putL, setNth]))
  go_loopw [9] (fun i wr => ∃ k : Nat, k ≤ 5 ∧ i = .int .i64 k ∧ Own w wr [(b3, ints .u64 (List.replicate 5 0), 82), (b2, ints .u64 b, 82), (b1, ints .u64 (subN a b k), 82)]) (fun i _ => 5 - (intOf i).toNat)
  case atStart => exact ⟨0, by omega, rfl, hown⟩
  case round =>
    clear hown
    obtain ⟨k, hk, rfl, hown⟩ := hrel
    by_cases hlt : k < 5
    · go_wp2_with (first | (refine wpl_index rfl 80 _ _ rfl _ _ rfl _ _ rfl _ _ _ Try.underlying80 Try.underlying79 size_u64 (hb) (by omega) (by omega) ?_; dsimp only [putL, setNth]) | (refine wpl_load_int hown rfl 79 _ rfl _ _ rfl _ Try.underlying79 2 _ _ rfl (by rw [subN_length a b ha]; omega) ?_; dsimp only [putL, setNth]) | (refine wpl_store_int hown rfl 79 _ _ rfl _ _ rfl _ _ rfl size_u64 2 _ _ rfl (by rw [subN_length a b ha]; omega) ?_; clear hown; intro _ hown; dsimp only [putL]; simp only [List.set_cons_zero, List.set_cons_succ] at hown))
      go_roundw
      case rel => exact ⟨k + 1, by omega, by go_num, hown⟩
      case measure => simp [intOf]; omega
    · have hl := subN_length a b ha k
      go_wp2_with (first | (refine wpl_load_row hown rfl 80 _ rfl _ rfl 2 _ _ rfl _ Try.underlying80 rfl (sz_l5 (by simp [subN_length a b ha])) ?_; dsimp only [putL, setNth]) | (refine wpl_load_int hown rfl 79 _ rfl _ _ rfl _ Try.underlying79 2 _ _ rfl (by simp [subN_length a b ha]) ?_; dsimp only [putL, setNth]) | (refine wpl_store_int hown rfl 79 _ _ rfl _ _ rfl _ _ rfl size_u64 2 _ _ rfl (by simp [subN_length a b ha]) ?_; clear hown; intro _ hown; dsimp only [putL]; simp only [List.set_cons_zero, List.set_cons_succ] at hown) | (go_at_call 64; refine (carried_any _ (by simp [subN_length a b ha]) _).mono ?_; rintro e w' ⟨rfl, hb⟩; replace hown := hown.grow hb; clear hb) | (refine wpl_store_row hown rfl 82 _ _ rfl _ rfl _ rfl (ints_cell _ _) (sz_elem (carriedL_length _)) 0 _ _ rfl (by simp [ints_size, carriedL_length]) ?_; clear hown; intro _ hown; dsimp only [putL]; simp only [List.set_cons_zero, List.set_cons_succ] at hown))
      obtain rfl : k = 5 := by omega
      refine bodyPost_ret (results_own hown rfl _ rfl 0 _ _ rfl _ Try.underlying82 rfl (sz_elem (carriedL_length _))) rfl ⟨rfl, hown.below⟩
end
section
open Go Go.RowKit
def ret2B (ops : Array Oper) : Bool :=
  let l0 := Array.replicate ops.size false
  let l1 := l0.setIfInBounds 0 true
  let l2 := l1.setIfInBounds 1 true
  let l3 := l2.setIfInBounds 2 true
  let l4 := l3.setIfInBounds 3 true
  decide (ops.size = 4) && Region.noSelect ops && Region.free .any ops l0 0 && (Region.ready .any ops l0).contains 0 && Region.free .any ops l1 1 && (Region.ready .any ops l1).contains 1 &&
    decide (Region.ready .any ops l2 = [2]) && decide (Region.ready .any ops l3 = [3]) && decide (Region.ready .any ops l4 = [])
theorem yieldsIf_row {P : Program} {ops : Array Oper} {S : World → Prop} {o : Oper} {a : Act} (hg : o.guard = none) (ty : TypeId) (x : Operand) (ho : o.op = .load ty x) (b : Nat) (hx : a.eval x = .pointer (some ⟨b, 0, none⟩))
    (A : Array Value) (T : TypeId) (hS : ∀ w, S w → w.heap[b]? = some (.cells A T (0, 0)))
    (d : TypeDesc) (hu : P.underlying ty = some d) (hd : (match d with | .struct _ | .array _ _ => true | _ => false) = true) (hs : (P.info? ty).map (·.size) = some A.size) : YieldsIf P ops S o (.agg A) a := by
  refine .inl ⟨by simp [Region.wanted, hg], fun w hw => ?_⟩
  unfold execOp
  simp only [ho, hx, Instr.loadAt, Instr.sureAddr, Sem.run_bind, Sem.run_pure, Result.andThen_ok, run_loadVar_row w b T ty A (0, 0) d (hS w hw) hu hd hs]
theorem Own.ne {w0 W : World} {bs : List (Nat × Array Value × TypeId)} (h : Own w0 W bs) {i j : Nat} {p q : Nat × Array Value × TypeId} (hi : bs[i]? = some p) (hj : bs[j]? = some q) (hij : i ≠ j) : p.1 ≠ q.1 := by
  intro he
  have h1 : (bs.map (·.1))[i]? = some p.1 := by simp [hi]
  have h2 : (bs.map (·.1))[j]? = some q.1 := by simp [hj]
  have hi' : i < (bs.map (·.1)).length := (List.getElem?_eq_some_iff.1 h1).1
  exact hij (List.getElem?_inj hi' h.apart |>.1 (by rw [h1, h2, he]))
theorem wp_region_ret2 {P : Program} {w0 W : World} {bs : List (Nat × Array Value × TypeId)} {id : Nat} {Q : Exit → Act → World → Prop} {lf : List Value} {df : List Deferred} {o0 o1 o2 o3 : Oper} (hm : P.follows .mixedOrders = true) (hB : ret2B #[o0, o1, o2, o3] = true) (hown : Own w0 W bs)
    (hg : o0.guard = none ∧ o1.guard = none ∧ o2.guard = none ∧ o3.guard = none)
    (t0 t1 t2 t3 : TypeId) (x0 x1 x2 x3 y2 y3 : Operand) (ho0 : o0.op = .load t0 x0) (ho1 : o1.op = .load t1 x1) (ho2 : o2.op = .store t2 x2 y2) (ho3 : o3.op = .store t3 x3 y3)
    (b0 b1 b2 b3 : Nat) (i0 i1 i2 i3 : Nat) (hne : i2 ≠ i0 ∧ i2 ≠ i1 ∧ i3 ≠ i2 ∧ i3 ≠ i0 ∧ i3 ≠ i1) (A0 A1 A2 A3 : Array Value) (T0 T1 T2 T3 : TypeId)
    (hi0 : bs[i0]? = some (b0, A0, T0)) (hi1 : bs[i1]? = some (b1, A1, T1)) (hi2 : bs[i2]? = some (b2, A2, T2)) (hi3 : bs[i3]? = some (b3, A3, T3))
    (hx0 : evL lf x0 = .pointer (some ⟨b0, 0, none⟩)) (hx1 : evL (putL lf o0.dst (.agg A0)) x1 = .pointer (some ⟨b1, 0, none⟩))
    (hx2 : evL (putL (putL lf o0.dst (.agg A0)) o1.dst (.agg A1)) x2 = .pointer (some ⟨b2, 0, none⟩)) (hy2 : evL (putL (putL lf o0.dst (.agg A0)) o1.dst (.agg A1)) y2 = .agg A0)
    (hx3 : evL (putL (putL (putL lf o0.dst (.agg A0)) o1.dst (.agg A1)) o2.dst undef) x3 = .pointer (some ⟨b3, 0, none⟩)) (hy3 : evL (putL (putL (putL lf o0.dst (.agg A0)) o1.dst (.agg A1)) o2.dst undef) y3 = .agg A1)
    (d0 d1 : TypeDesc) (hu0 : P.underlying t0 = some d0) (hu1 : P.underlying t1 = some d1) (hd0 : (match d0 with | .struct _ | .array _ _ => true | _ => false) = true) (hd1 : (match d1 with | .struct _ | .array _ _ => true | _ => false) = true)
    (hs0 : (P.info? t0).map (·.size) = some A0.size) (hs1 : (P.info? t1).map (·.size) = some A1.size) (hs2 : (P.info? t2).map (·.size) = some A0.size) (hs3 : (P.info? t3).map (·.size) = some A1.size)
    (hz2 : A2.size = A0.size) (hz3 : A3.size = A1.size) (hc0 : A0.all (·.oneCell') = true) (hc1 : A1.all (·.oneCell') = true) (hQ0 : ∀ c (a : Act) w, Q (.panic c) (a.put o0.dst (.agg A0)) w → Q (.panic c) a w) (hQ1 : ∀ c (a : Act) w, Q (.panic c) (a.put o1.dst (.agg A1)) w → Q (.panic c) a w)
    (h : ∀ W', Own w0 W' ((bs.set i2 (b2, A0, T2)).set i3 (b3, A1, T3)) → Q .normal ⟨(putL (putL (putL (putL lf o0.dst (.agg A0)) o1.dst (.agg A1)) o2.dst undef) o3.dst undef).toArray, df⟩ W') :
    (Code.region id #[o0, o1, o2, o3] true).wp P Q ⟨lf.toArray, df⟩ W := by
  simp only [ret2B, Bool.and_eq_true, decide_eq_true_eq] at hB
  obtain ⟨⟨⟨⟨⟨⟨⟨⟨_, hsel⟩, hf0⟩, hr0⟩, hf1⟩, hr1⟩, hr2⟩, hr3⟩, hr4⟩ := hB
  have hown1 : Own w0 ({ W with drawn := W.drawn + 1 } : World) bs := ⟨⟨hown.below.os, hown.below.tape, hown.below.output, hown.below.size, hown.below.block⟩, hown.here, hown.apart⟩
  refine wp_region_held (S := fun w' => w'.heap[b0]? = some (.cells A0 T0 (0, 0)) ∧ w'.heap[b1]? = some (.cells A1 T1 (0, 0))) hm ?_
  have hS1 : (W.heap[b0]? = some (.cells A0 T0 (0, 0)) ∧ W.heap[b1]? = some (.cells A1 T1 (0, 0))) := ⟨hown.block i0 hi0, hown.block i1 hi1⟩
  refine wpAnyH_take (i := 0) (oi := o0) (v := .agg A0) rfl hsel hf0 hr0 hQ0 (yieldsIf_row hg.1 t0 x0 ho0 b0 (by rw [evL_eq]; exact hx0) A0 T0 (fun _ hw => hw.1) d0 hu0 hd0 hs0) hS1 ?_
  refine wpAnyH_take (i := 1) (oi := o1) (v := .agg A1) rfl hsel hf1 hr1 hQ1 (yieldsIf_row hg.2.1 t1 x1 ho1 b1 (by rw [putL_eq, evL_eq]; exact hx1) A1 T1 (fun _ hw => hw.2) d1 hu1 hd1 hs1) hS1 ?_
  rw [putL_eq, putL_eq]
  refine wpAnyH_all hr2 (by simp) ?_
  intro i hi
  obtain rfl : i = 2 := by simpa using hi
  refine wpOp_store_row hown1 rfl hg.2.2.1 t2 x2 y2 ho2 b2 hx2 A0 hy2 hc0 hs2 i2 A2 T2 hi2 hz2 ?_
  intro W2 hown2
  have hb0 : (bs.set i2 (b2, A0, T2))[i0]? = some (b0, A0, T0) := by rw [List.getElem?_set_ne hne.1]; exact hi0
  have hb1 : (bs.set i2 (b2, A0, T2))[i1]? = some (b1, A1, T1) := by rw [List.getElem?_set_ne hne.2.1]; exact hi1
  have hb3 : (bs.set i2 (b2, A0, T2))[i3]? = some (b3, A3, T3) := by rw [List.getElem?_set_ne hne.2.2.1.symm]; exact hi3
  refine ⟨⟨hown2.block i0 hb0, hown2.block i1 hb1⟩, ?_⟩
  refine wpAnyH_all hr3 (by simp) ?_
  intro i hi
  obtain rfl : i = 3 := by simpa using hi
  refine wpOp_store_row hown2 rfl hg.2.2.2 t3 x3 y3 ho3 b3 hx3 A1 hy3 hc1 hs3 i3 A3 T3 hb3 hz3 ?_
  intro W3 hown3
  refine ⟨⟨hown3.block i0 (by rw [List.getElem?_set_ne hne.2.2.2.1]; exact hb0), hown3.block i1 (by rw [List.getElem?_set_ne hne.2.2.2.2]; exact hb1)⟩, ?_⟩
  exact wpAnyH_done hr4 (h W3 hown3) _
end
section
open Go Go.RowKit
theorem results_own2 {P : Program} {w0 W : World} {bs : List (Nat × Array Value × TypeId)} (hown : Own w0 W bs) {fn : Func} {p p' : Tmp} {ty ty' : TypeId} (hr : fn.results = #[.cell p ty, .cell p' ty']) (tmps : Array Value)
    (b b' : Nat) (hp : tmps.getD p undef = .pointer (some ⟨b, 0, none⟩)) (hp' : tmps.getD p' undef = .pointer (some ⟨b', 0, none⟩))
    (i i' : Nat) (A A' : Array Value) (T T' : TypeId) (hi : bs[i]? = some (b, A, T)) (hi' : bs[i']? = some (b', A', T'))
    (d d' : TypeDesc) (hu : P.underlying ty = some d) (hu' : P.underlying ty' = some d') (hd : (match d with | .struct _ | .array _ _ => true | _ => false) = true) (hd' : (match d' with | .struct _ | .array _ _ => true | _ => false) = true)
    (hs : (P.info? ty).map (·.size) = some A.size) (hs' : (P.info? ty').map (·.size) = some A'.size) :
    (results fn tmps).run P W = .ok (.tuple #[.agg A, .agg A']) W := by
  have h1 := run_loadVar_row (P := P) W b T ty A (0, 0) d (hown.block i hi) hu hd hs
  have h2 := run_loadVar_row (P := P) W b' T' ty' A' (0, 0) d' (hown.block i' hi') hu' hd' hs'
  have e1 : tmps[p]?.getD undef = .pointer (some ⟨b, 0, none⟩) := by simpa using hp
  have e2 : tmps[p']?.getD undef = .pointer (some ⟨b', 0, none⟩) := by simpa using hp'
  simp [results, hr, e1, e2, asAddr, h1, h2]
def swapM (bit : Int) : Int := IntKind.u64.wrap (-(IntKind.u64.wrap (bits .and .i64 bit 1)))
def swapN (a b : List Int) (m : Int) : Nat → List Int × List Int
  | 0 => (a, b)
  | k + 1 =>
    let p := swapN a b m k
    let x := bits .and .u64 m (bits .xor .u64 (gi p.1 k) (gi p.2 k))
    (p.1.set k (bits .xor .u64 (gi p.1 k) x), p.2.set k (bits .xor .u64 (gi p.2 k) x))
theorem swapN_length (a b : List Int) (m : Int) (ha : a.length = 5) (hb : b.length = 5) : ∀ k, (swapN a b m k).1.length = 5 ∧ (swapN a b m k).2.length = 5
  | 0 => ⟨ha, hb⟩
  | k + 1 => by have := swapN_length a b m ha hb k; simp [swapN, this]
theorem swap_any (a b : List Int) (bit : Int) (ha : a.length = 5) (hb : b.length = 5) (w : World) :
    Calls Try.prog 65 #[.agg (ints .u64 a), .agg (ints .u64 b), .int .i64 bit] w fun e w' => e = .returned (.tuple #[.agg (ints .u64 (swapN a b (swapM bit) 5).1), .agg (ints .u64 (swapN a b (swapM bit) 5).2)]) ∧ Below w.heap.size w w' := by
  have hown := Own.start w
  have hsl := swapN_length a b (swapM bit) ha hb
  obtain ⟨sw, hsw⟩ : ∃ sw, sw = swapN a b (swapM bit) := ⟨_, rfl⟩
  go_enter Try.func65, Try.ntmps65
  have tok_b1 : True := trivial
  have tok_b2 : True := trivial
  have tok_b3 : True := trivial
  have tok_b4 : True := trivial
  go_wp2_with (first | (have _t := tok_b1; refine wpl_box hown rfl _ _ rfl _ rfl ?_; clear hown _t tok_b1; intro b1 _ hown; dsimp only [putL, setNth]) | (have _t := tok_b2; refine wpl_box hown rfl _ _ rfl _ rfl ?_; clear hown _t tok_b2; intro b2 _ hown; dsimp only [putL, setNth]) | (have _t := tok_b3; refine wpl_alloc hown rfl _ rfl _ zero_elem ?_; clear hown _t tok_b3; intro b3 _ hown; dsimp only [putL, setNth]) | (have _t := tok_b4; refine wpl_alloc hown rfl _ rfl _ zero_elem ?_; clear hown _t tok_b4; intro b4 _ hown; dsimp only [putL, setNth]))
  go_loopw [15] (fun i wr => ∃ k : Nat, k ≤ 5 ∧ i = .int .i64 k ∧ Own w wr [(b4, ints .u64 (List.replicate 5 0), 82), (b3, ints .u64 (List.replicate 5 0), 82), (b2, ints .u64 (swapN a b (swapM bit) k).2, 82), (b1, ints .u64 (swapN a b (swapM bit) k).1, 82)]) (fun i _ => 5 - (intOf i).toNat)
  case atStart => exact ⟨0, by omega, rfl, hown⟩
  case round =>
    clear hown
    obtain ⟨k, hk, rfl, hown⟩ := hrel
    have hl := hsl k
    by_cases hlt : k < 5
    · go_upto_region 5 with (fail)
      
      refine wp_region_grow 11 [0, 1, 2, 3, 4, 5, 6, 7, 8, 9, 10] (by kernel_rfl) (by kernel_rfl) hown ?_; simp only [List.filterMap_cons, List.filterMap_nil, List.getElem?_cons_zero, List.getElem?_cons_succ, List.drop_succ_cons, List.drop_zero]
      repeat (first | (first | (refine wpV_step rfl rfl _ (growAt_load_int 79 _ rfl _ _ rfl _ Try.underlying79 2 _ _ rfl (by omega)) ?_; dsimp only [putL, setNth]) | (refine wpV_step rfl rfl _ (growAt_load_int 79 _ rfl _ _ rfl _ Try.underlying79 3 _ _ rfl (by omega)) ?_; dsimp only [putL, setNth])) | (first | (refine wpV_step rfl rfl _ (growAt_move _ rfl _ rfl) ?_; dsimp only [putL, setNth, evL, nth]) | (refine wpV_step rfl rfl _ (growAt_assign _ rfl _ rfl) ?_; dsimp only [putL, setNth, evL, nth]) | (refine wpV_step rfl rfl _ (growAt_bits _ _ _ _ _ rfl (by decide) _ _ _ rfl rfl) ?_; dsimp only [putL, setNth]) | (refine wpV_step rfl rfl _ (growAt_bin _ _ _ _ _ rfl _ _ rfl rfl _ (by intro w; go_simp; try rfl)) ?_; dsimp only [putL, setNth]) | (refine wpV_step rfl rfl _ (growAt_un _ _ _ rfl _ rfl _ (by intro w; go_simp; try rfl)) ?_; dsimp only [putL, setNth]) | (refine wpV_step rfl rfl _ (growAt_conv _ _ _ rfl _ rfl _ (by intro w; go_simp; try rfl)) ?_; dsimp only [putL, setNth]) | (refine wpV_step rfl rfl _ (growAt_fld _ _ _ rfl _ rfl _ (by intro w; go_simp; try rfl)) ?_; dsimp only [putL, setNth]) | (refine wpV_step rfl rfl _ (growAt_idx _ _ _ rfl _ _ rfl rfl _ (by intro w; go_simp; try rfl)) ?_; dsimp only [putL, setNth]) | (refine wpV_step rfl rfl _ (growAt_extract _ _ rfl _ rfl _ rfl) ?_; dsimp only [putL, setNth]) | (refine wpV_step rfl rfl _ (growAt_pick _ _ _ rfl _ rfl _ _ rfl rfl) ?_; dsimp only [putL, setNth])) | (refine wpV_step rfl rfl _ (growAt_pure (by intro w; go_simp; try rfl)) ?_; dsimp only [putL, setNth]))
      refine wpV_nil ?_; clear hown; intro _ hown; simp only [List.nil_append, List.cons_append] at hown
      go_wp2_with (first | (first | (refine wpl_load_int hown rfl 79 _ rfl _ _ rfl _ Try.underlying79 2 _ _ rfl (by omega) ?_; dsimp only [putL, setNth]) | (refine wpl_load_int hown rfl 79 _ rfl _ _ rfl _ Try.underlying79 3 _ _ rfl (by omega) ?_; dsimp only [putL, setNth])) | (first | (refine wpl_store_int hown rfl 79 _ _ rfl _ _ rfl _ _ rfl size_u64 2 _ _ rfl (by omega) ?_; clear hown; intro _ hown; dsimp only [putL]; simp only [List.set_cons_zero, List.set_cons_succ] at hown) | (refine wpl_store_int hown rfl 79 _ _ rfl _ _ rfl _ _ rfl size_u64 3 _ _ rfl (by omega) ?_; clear hown; intro _ hown; dsimp only [putL]; simp only [List.set_cons_zero, List.set_cons_succ] at hown)))
      go_roundw
      case rel => exact ⟨k + 1, by omega, by go_num, hown⟩
      case measure => simp [intOf]; omega
    · obtain rfl : k = 5 := by omega
      go_upto_region 9 with (fail)
      refine wp_region_ret2 (by kernel_rfl) (by kernel_rfl) hown ⟨rfl, rfl, rfl, rfl⟩ _ _ _ _ _ _ _ _ _ _ rfl rfl rfl rfl _ _ _ _ 3 2 1 0 (by decide) _ _ _ _ _ _ _ _ rfl rfl rfl rfl rfl rfl rfl rfl rfl rfl _ _ Try.underlying82 Try.underlying82 rfl rfl (sz_elem (by omega)) (sz_elem (by omega)) (sz_elem (by omega)) (sz_elem (by omega)) (sz_eq (n := 5) (by simp) (by omega)) (sz_eq (n := 5) (by simp) (by omega)) (ints_cell _ _) (ints_cell _ _) (fun _ _ _ h => h) (fun _ _ _ h => h) ?_; clear hown; intro _ hown; dsimp only [putL]; simp only [List.set_cons_zero, List.set_cons_succ] at hown
      go_wp2_with (first | fail)
      exact bodyPost_ret (results_own2 hown rfl _ _ _ rfl rfl 1 0 _ _ _ _ rfl rfl _ _ Try.underlying82 Try.underlying82 rfl rfl (sz_elem (by omega)) (sz_elem (by omega))) rfl ⟨rfl, hown.below⟩
def quotN (l : List Int) : Nat → Int
  | 0 => 19
  | k + 1 => IntKind.u64.wrap (gi l k + quotN l k) / 2251799813685248
def cutN (l : List Int) (c : Int) : Nat → List Int × Int
  | 0 => (l, c)
  | k + 1 =>
    let p := cutN l c k
    let l1 := p.1.set k (IntKind.u64.wrap (gi p.1 k + p.2))
    (l1.set k (bits .and .u64 (gi l1 k) 2251799813685247), gi l1 k / 2251799813685248)
theorem cutN_length (l : List Int) (c : Int) (hl : l.length = 5) : ∀ k, (cutN l c k).1.length = 5
  | 0 => hl
  | k + 1 => by simp [cutN, cutN_length l c hl k]
def outN (l : List Int) : Nat → List Int
  | 0 => List.replicate 32 0
  | k + 1 => (outN l k).set (k / 8) (bits .or .u8 (gi (outN l k) (k / 8))
      (IntKind.u8.wrap (IntKind.u8.wrap (bits .and .u64 ((gi l (k / 51)).fdiv (2 ^ min ((k : Int).tmod 51).toNat 64)) 1) * 2 ^ min ((k : Int).tmod 8).toNat 8)))
theorem outN_length (l : List Int) : ∀ k, (outN l k).length = 32
  | 0 => rfl
  | k + 1 => by simp [outN, outN_length l k]
def bytesC (a : List Int) : List Int := carriedL (carriedL a)
def bytesL (a : List Int) : List Int := (cutN (bytesC a) (IntKind.u64.wrap (19 * quotN (bytesC a) 5)) 5).1
theorem bytesC_length (a : List Int) : (bytesC a).length = 5 := rfl
theorem bytesL_length (a : List Int) : (bytesL a).length = 5 := cutN_length _ _ (bytesC_length a) 5
def bytesR (a : List Int) : List Int := outN (bytesL a) 255
theorem bytes_any (a : List Int) (ha : a.length = 5) (w : World) :
    Calls Try.prog 50 #[.agg (ints .u64 a)] w fun e w' => e = .returned (.agg (ints .u8 (bytesR a))) ∧ Below w.heap.size w w' := by
  have hown := Own.start w
  go_enter Try.func50, Try.ntmps50
  have tok_b1 : True := trivial
  have tok_b2 : True := trivial
  have tok_b3 : True := trivial
  go_wp2_with (first | (have _t := tok_b1; refine wpl_box hown rfl _ _ rfl _ rfl ?_; clear hown _t tok_b1; intro b1 _ hown; dsimp only [putL, setNth]) | (have _t := tok_b2; refine wpl_alloc hown rfl _ rfl _ zero_b32 ?_; clear hown _t tok_b2; intro b2 _ hown; dsimp only [putL, setNth]) | (have _t := tok_b3; refine wpl_alloc hown rfl _ rfl _ zero_l5 ?_; clear hown _t tok_b3; intro b3 _ hown; dsimp only [putL, setNth]) | (first | (refine wpl_load_row hown rfl 80 _ rfl _ rfl 0 _ _ rfl _ Try.underlying80 rfl (sz_l5 rfl) ?_; dsimp only [putL, setNth]) | (refine wpl_load_row hown rfl 80 _ rfl _ rfl 1 _ _ rfl _ Try.underlying80 rfl (sz_l5 ha) ?_; dsimp only [putL, setNth])) | (refine wpl_field rfl 82 _ _ rfl _ _ rfl _ Try.underlying82 _ rfl _ Try.underlying80 rfl 5 info_l5 _ rfl ?_; dsimp only [putL, setNth]) | (go_at_call 64; refine (carried_any _ (by first | exact ha | rfl) _).mono ?_; rintro e w' ⟨rfl, hb⟩; replace hown := hown.grow hb; clear hb) | (refine wpl_store_row hown rfl 80 _ _ rfl _ rfl (ints .u64 (bytesC a)) rfl (ints_cell _ _) (sz_l5 rfl) 0 _ _ rfl (rfl) ?_; clear hown; intro _ hown; dsimp only [putL]; simp only [List.set_cons_zero, List.set_cons_succ] at hown))
  go_loopw [4, 17] (fun q i wr => ∃ k : Nat, k ≤ 5 ∧ i = .int .i64 k ∧ q = .int .u64 (quotN (bytesC a) k) ∧ Own w wr [(b3, ints .u64 (bytesC a), 80), (b2, ints .u8 (List.replicate 32 0), 22), (b1, ints .u64 a, 82)]) (fun _ i _ => 5 - (intOf i).toNat)
  case atStart => exact ⟨0, by omega, rfl, rfl, hown⟩
  case round =>
    clear hown
    obtain ⟨k, hk, rfl, rfl, hown⟩ := hrel
    by_cases hlt : k < 5
    · go_wp2_with (first | (refine wpl_index rfl 80 _ _ rfl _ _ rfl _ _ rfl _ _ _ Try.underlying80 Try.underlying79 size_u64 (rfl) (by omega) (by omega) ?_; dsimp only [putL, setNth]))
      go_roundw
      case rel => exact ⟨k + 1, by omega, by go_num, rfl, hown⟩
      case measure => simp [intOf]; omega
    · obtain rfl : k = 5 := by omega
      clear hk hlt
      go_wp2_with (first | fail)
      go_loopw [7, 27] (fun c i wr => ∃ k : Nat, k ≤ 5 ∧ i = .int .i64 k ∧ c = .int .u64 (cutN (bytesC a) (IntKind.u64.wrap (19 * quotN (bytesC a) 5)) k).2 ∧ Own w wr [(b3, ints .u64 (cutN (bytesC a) (IntKind.u64.wrap (19 * quotN (bytesC a) 5)) k).1, 80), (b2, ints .u8 (List.replicate 32 0), 22), (b1, ints .u64 a, 82)]) (fun _ i _ => 5 - (intOf i).toNat)
      case atStart => exact ⟨0, by omega, rfl, rfl, hown⟩
      case round =>
        clear hown
        obtain ⟨k, hk, rfl, rfl, hown⟩ := hrel
        have hl := cutN_length (bytesC a) (IntKind.u64.wrap (19 * quotN (bytesC a) 5)) rfl k
        by_cases hlt : k < 5
        · go_wp2_with (first | (refine wpl_load_int hown rfl 79 _ rfl _ _ rfl _ Try.underlying79 0 _ _ rfl (by simp [hl, hlt]) ?_; dsimp only [putL, setNth]) | (refine wpl_store_int hown rfl 79 _ _ rfl _ _ rfl _ _ rfl size_u64 0 _ _ rfl (by simp [hl, hlt]) ?_; clear hown; intro _ hown; dsimp only [putL]; simp only [List.set_cons_zero, List.set_cons_succ] at hown))
          go_roundw
          case rel => exact ⟨k + 1, by omega, by go_num, rfl, hown⟩
          case measure => simp [intOf]; omega
        · obtain rfl : k = 5 := by omega
          clear hk hlt hl
          go_wp2_with (first | fail)
          go_loopw [46] (fun i wr => ∃ k : Nat, k ≤ 255 ∧ i = .int .i64 k ∧ Own w wr [(b3, ints .u64 (bytesL a), 80), (b2, ints .u8 (outN (bytesL a) k), 22), (b1, ints .u64 a, 82)]) (fun i _ => 255 - (intOf i).toNat)
          case atStart => exact ⟨0, by omega, rfl, hown⟩
          case round =>
            clear hown
            obtain ⟨k, hk, rfl, hown⟩ := hrel
            by_cases hlt : k < 255
            · have f1 : IntKind.i64.wrap ((k : Int) / 51) = (k : Int) / 51 := IntWalk.i64_in _ (by omega)
              have f2 : IntKind.i64.wrap ((k : Int) / 8) = (k : Int) / 8 := IntWalk.i64_in _ (by omega)
              have f3 : ((k : Int) / 51).toNat = k / 51 := by omega
              have f4 : ((k : Int) / 8).toNat = k / 8 := by omega
              have f5 : (0 : Int) ≤ (k : Int) / 51 := by omega
              have f6 : (k : Int) / 51 < 5 := by omega
              have f7 : (0 : Int) ≤ (k : Int) / 8 := by omega
              have f8 : (k : Int) / 8 < 32 := by omega
              go_upto_region 19 with (fail)
              refine wp_region_grow 18 [0, 1, 2, 3, 4, 5, 6, 7, 8, 9, 10, 11, 12, 13, 14, 15, 16, 17] (by kernel_rfl) (by kernel_rfl) hown ?_; simp only [List.filterMap_cons, List.filterMap_nil, List.getElem?_cons_zero, List.getElem?_cons_succ, List.drop_succ_cons, List.drop_zero]
              repeat (first | (refine wpV_step rfl rfl _ (growAt_load_int 79 _ rfl _ _ rfl _ Try.underlying79 0 _ _ rfl (by rw [bytesL_length]; omega)) ?_; dsimp only [putL, setNth]) | (refine wpV_step rfl rfl _ (growAt_load_int 5 _ rfl _ _ rfl _ Try.underlying5 1 _ _ rfl (by rw [outN_length]; omega)) ?_; dsimp only [putL, setNth]) | (first | (refine wpV_step rfl rfl _ (growAt_move _ rfl _ rfl) ?_; dsimp only [putL, setNth, evL, nth]) | (refine wpV_step rfl rfl _ (growAt_assign _ rfl _ rfl) ?_; dsimp only [putL, setNth, evL, nth]) | (refine wpV_step rfl rfl _ (growAt_bits _ _ _ _ _ rfl (by decide) _ _ _ rfl rfl) ?_; dsimp only [putL, setNth]) | (refine wpV_step rfl rfl _ (growAt_bin _ _ _ _ _ rfl _ _ rfl rfl _ (by intro w; go_simp; try rfl)) ?_; dsimp only [putL, setNth]) | (refine wpV_step rfl rfl _ (growAt_un _ _ _ rfl _ rfl _ (by intro w; go_simp; try rfl)) ?_; dsimp only [putL, setNth]) | (refine wpV_step rfl rfl _ (growAt_conv _ _ _ rfl _ rfl _ (by intro w; go_simp; try rfl)) ?_; dsimp only [putL, setNth]) | (refine wpV_step rfl rfl _ (growAt_fld _ _ _ rfl _ rfl _ (by intro w; go_simp; try rfl)) ?_; dsimp only [putL, setNth]) | (refine wpV_step rfl rfl _ (growAt_idx _ _ _ rfl _ _ rfl rfl _ (by intro w; go_simp; try rfl)) ?_; dsimp only [putL, setNth]) | (refine wpV_step rfl rfl _ (growAt_extract _ _ rfl _ rfl _ rfl) ?_; dsimp only [putL, setNth]) | (refine wpV_step rfl rfl _ (growAt_pick _ _ _ rfl _ rfl _ _ rfl rfl) ?_; dsimp only [putL, setNth])) | (refine wpV_step rfl rfl _ (growAt_pure (by intro w; go_simp; try rfl)) ?_; dsimp only [putL, setNth]))
              refine wpV_nil ?_; clear hown; intro _ hown; simp only [List.nil_append, List.cons_append] at hown
              go_wp2_with (first | (refine wpl_store_int hown rfl 5 _ _ rfl _ _ rfl _ _ rfl size_u8 1 _ _ rfl (by rw [outN_length]; omega) ?_; clear hown; intro _ hown; dsimp only [putL]; simp only [List.set_cons_zero, List.set_cons_succ] at hown))
              go_roundw
              case rel => exact ⟨k + 1, by omega, by go_num, hown⟩
              case measure => simp [intOf]; omega
            · obtain rfl : k = 255 := by omega
              clear hk hlt
              go_wp2_with (first | (refine wpl_load_row hown rfl 22 _ rfl _ rfl 1 _ _ rfl _ Try.underlying22 rfl (sz_b32 (outN_length _ _)) ?_; dsimp only [putL, setNth]) | (refine wpl_store_row hown rfl 22 _ _ rfl _ rfl _ rfl (ints_cell _ _) (sz_b32 (outN_length _ _)) 1 _ _ rfl (rfl) ?_; clear hown; intro _ hown; dsimp only [putL]; simp only [List.set_cons_zero, List.set_cons_succ] at hown))
              refine bodyPost_ret (results_own hown rfl _ rfl 1 _ _ rfl _ Try.underlying22 rfl (sz_b32 (outN_length _ _))) rfl ⟨rfl, hown.below⟩
end
section
open Go Go.RowKit
theorem info_wide : (Try.prog.info? 110).map (·.size) = some 2 := by kernel_rfl
theorem zero_wide : (Try.prog.info? 110).map (·.zero) = some (some (.agg (ints .u64 (List.replicate 2 0)))) := by kernel_rfl
theorem sz_wide {k : IntKind} {L : List Int} (h : L.length = 2) : (Try.prog.info? 110).map (·.size) = some (ints k L).size := by rw [ints_size, h]; exact info_wide
theorem info_w5 : (Try.prog.info? 112).map (·.size) = some 10 := by kernel_rfl
theorem zero_w5 : (Try.prog.info? 112).map (·.zero) = some (some (.agg (ints .u64 (List.replicate 10 0)))) := by kernel_rfl
theorem sz_w5 {k : IntKind} {L : List Int} (h : L.length = 10) : (Try.prog.info? 112).map (·.size) = some (ints k L).size := by rw [ints_size, h]; exact info_w5
def plusHi (hi lo x y : Int) : Int := addLo (mulHi x y) hi (addHi (mulLo x y) lo 0)
def plusLo (hi lo x y : Int) : Int := addLo (mulLo x y) lo 0
theorem plus_any (hi lo x y : Int) (hh : W64 hi) (hl : W64 lo) (hx : W64 x) (hy : W64 y) (w : World) :
    Calls Try.prog 69 #[.agg (ints .u64 [hi, lo]), .int .u64 x, .int .u64 y] w fun e w' => e = .returned (.agg (ints .u64 [plusHi hi lo x y, plusLo hi lo x y])) ∧ Below w.heap.size w w' := by
  have hown := Own.start w
  go_enter Try.func69, Try.ntmps69
  go_wp2_with (first | ((with_reducible show wpList _ _ _ (⟨_, .box _ _, _, _, _, _⟩ :: _) _ _); refine wpl_box hown rfl _ _ rfl _ rfl ?_; clear hown; intro _ _ hown; dsimp only [putL, setNth]) | ((with_reducible show wpList _ _ _ (⟨_, .alloc _, _, _, _, _⟩ :: _) _ _); refine wpl_alloc hown rfl _ rfl _ zero_wide ?_; clear hown; intro _ _ hown; dsimp only [putL, setNth]) | ((with_reducible show wpList _ _ _ (⟨_, .load _ _, _, _, _, _⟩ :: _) _ _); refine wpl_load_int hown rfl 79 _ rfl _ _ rfl _ Try.underlying79 1 _ _ rfl (by simp) ?_; dsimp only [putL, setNth]) | (go_at_call 79; refine (mul64_any x y hx hy _).mono ?_; rintro e w' ⟨rfl, rfl⟩) | (refine wpl_add64 rfl _ _ _ _ rfl _ _ _ rfl rfl rfl (W64.lo _ _) (hl) (Bit.zero) ?_; dsimp only [putL, setNth]) | (refine wpl_add64 rfl _ _ _ _ rfl _ _ _ rfl rfl rfl (W64.hi hx hy) (hh) (Bit.addHi (W64.lo _ _) hl Bit.zero) ?_; dsimp only [putL, setNth]) | ((with_reducible show wpList _ _ _ (⟨_, .store _ _ _, _, _, _, _⟩ :: _) _ _); refine wpl_store_row hown rfl 110 _ _ rfl _ rfl (ints .u64 [plusHi hi lo x y, plusLo hi lo x y]) rfl (ints_cell _ _) (sz_wide rfl) 0 _ _ rfl (rfl) ?_; clear hown; intro _ hown; dsimp only [putL]; simp only [List.set_cons_zero, List.set_cons_succ] at hown))
  refine bodyPost_ret (results_own hown rfl _ rfl 0 _ _ rfl _ Try.underlying110 rfl (sz_wide rfl)) rfl ⟨rfl, hown.below⟩
def accR : List (Int × Int) → Int × Int
  | [] => (0, 0)
  | (x, y) :: l => (plusHi (accR l).1 (accR l).2 x y, plusLo (accR l).1 (accR l).2 x y)
def acc2 (l : List (Int × Int)) : List Int := [(accR l).1, (accR l).2]
def AllW (l : List (Int × Int)) : Prop := ∀ p ∈ l, W64 p.1 ∧ W64 p.2
theorem AllW.nil : AllW [] := by intro p hp; simp at hp
theorem AllW.cons {x y : Int} {l : List (Int × Int)} (hx : W64 x) (hy : W64 y) (h : AllW l) : AllW ((x, y) :: l) := by
  intro p hp
  rcases List.mem_cons.1 hp with rfl | hp
  · exact ⟨hx, hy⟩
  · exact h p hp
theorem W64.zero : W64 0 := by unfold W64 M64; omega
theorem accR_W : ∀ l : List (Int × Int), W64 (accR l).1 ∧ W64 (accR l).2
  | [] => ⟨W64.zero, W64.zero⟩
  | (x, y) :: l => ⟨W64.addLo _ _ _, W64.addLo _ _ _⟩
theorem plus_acc (l : List (Int × Int)) (x y : Int) (hx : W64 x) (hy : W64 y) (w : World) :
    Calls Try.prog 69 #[.agg (ints .u64 (acc2 l)), .int .u64 x, .int .u64 y] w fun e w' => e = .returned (.agg (ints .u64 (acc2 ((x, y) :: l)))) ∧ Below w.heap.size w w' :=
  plus_any _ _ x y (accR_W l).1 (accR_W l).2 hx hy w
theorem plus_acc0 (x y : Int) (hx : W64 x) (hy : W64 y) (w : World) :
    Calls Try.prog 69 #[.agg #[.int .u64 0, .int .u64 0], .int .u64 x, .int .u64 y] w fun e w' => e = .returned (.agg (ints .u64 (acc2 [(x, y)]))) ∧ Below w.heap.size w w' :=
  plus_acc [] x y hx hy w
theorem W64.wrap (x : Int) : W64 (IntKind.u64.wrap x) := by unfold W64 M64; rw [IntKind.wrap_u64]; omega
def z19 (b : List Int) (i : Nat) : Int := IntKind.u64.wrap (19 * gi b i)
theorem W64.z19 (b : List Int) (i : Nat) : W64 (z19 b i) := W64.wrap _
def mulW (a b : List Int) : List Int :=
  acc2 [(gi a 4, z19 b 1), (gi a 3, z19 b 2), (gi a 2, z19 b 3), (gi a 1, z19 b 4), (gi a 0, gi b 0)] ++
  (acc2 [(gi a 4, z19 b 2), (gi a 3, z19 b 3), (gi a 2, z19 b 4), (gi a 1, gi b 0), (gi a 0, gi b 1)] ++
  (acc2 [(gi a 4, z19 b 3), (gi a 3, z19 b 4), (gi a 2, gi b 0), (gi a 1, gi b 1), (gi a 0, gi b 2)] ++
  (acc2 [(gi a 4, z19 b 4), (gi a 3, gi b 0), (gi a 2, gi b 1), (gi a 1, gi b 2), (gi a 0, gi b 3)] ++
  acc2 [(gi a 4, gi b 0), (gi a 3, gi b 1), (gi a 2, gi b 2), (gi a 1, gi b 3), (gi a 0, gi b 4)])))
def AllG (a : List Int) : Prop := ∀ i, W64 (gi a i)
def mulS (a b : List Int) : Nat → List Int × List Int × Int
  | 0 => (mulW a b, List.replicate 5 0, 0)
  | k + 1 =>
    let s := mulS a b k
    let w1 := s.1.set (k * 2 + 1) (addLo (gi s.1 (k * 2 + 1)) s.2.2 0)
    let w2 := w1.set (k * 2) (IntKind.u64.wrap (gi w1 (k * 2) + addHi (gi s.1 (k * 2 + 1)) s.2.2 0))
    (w2, s.2.1.set k (bits .and .u64 (gi w2 (k * 2 + 1)) 2251799813685247), bits .or .u64 (IntKind.u64.wrap (gi w2 (k * 2) * 8192)) (gi w2 (k * 2 + 1) / 2251799813685248))
def mulR (a b : List Int) : List Int := carriedL ((mulS a b 5).2.1.set 0 (IntKind.u64.wrap (gi (mulS a b 5).2.1 0 + IntKind.u64.wrap (19 * (mulS a b 5).2.2))))
theorem shl13 (x : Int) : x * 2 ^ min (Int.toNat 13) IntKind.u64.bits = x * 8192 := rfl
theorem fdiv51 (x : Int) : x.fdiv (2 ^ min (Int.toNat 51) IntKind.u64.bits) = x / 2251799813685248 := by
  show x.fdiv 2251799813685248 = _
  exact Int.fdiv_eq_ediv_of_nonneg _ (by omega)
theorem W64.wf {x : Int} (h : (Lit.int .u64 x).wf = true) : W64 x := by have := bounds_u64 h; unfold W64 M64; omega
theorem gi_set (l : List Int) (i j : Nat) (v : Int) : gi (l.set i v) j = if i = j ∧ i < l.length then v else gi l j := by
  unfold gi
  by_cases h : i = j
  · subst h
    by_cases hl : i < l.length
    · simp [hl]
    · simp [hl, List.getElem?_eq_none (by omega : l.length ≤ i)]
  · simp [h, List.getElem?_set_ne h]
theorem AllG.set {l : List Int} {i : Nat} {v : Int} (h : AllG l) (hv : W64 v) : AllG (l.set i v) := by
  intro j
  rw [gi_set]
  split
  · exact hv
  · exact h j
theorem mulW_ok (a b : List Int) : AllG (mulW a b) := by
  intro i
  have h0 := fun l : List (Int × Int) => accR_W l
  unfold mulW acc2
  match i with
  | 0 | 1 | 2 | 3 | 4 | 5 | 6 | 7 | 8 | 9 => first | exact (h0 _).1 | exact (h0 _).2
  | n + 10 => exact W64.zero
theorem mulS_ok (a b : List Int) : ∀ k, (mulS a b k).1.length = 10 ∧ (mulS a b k).2.1.length = 5 ∧ AllG (mulS a b k).1 ∧ W64 (mulS a b k).2.2
  | 0 => ⟨rfl, rfl, mulW_ok a b, W64.zero⟩
  | k + 1 => by
    obtain ⟨h1, h2, h3, h4⟩ := mulS_ok a b k
    refine ⟨by simp [mulS, h1], by simp [mulS, h2], (h3.set (W64.addLo _ _ _)).set (W64.wrap _), W64.wf (wf_bits .or .u64 _ _)⟩
set_option maxRecDepth 100000 in
theorem mul_any (a b : List Int) (ha : a.length = 5) (hb : b.length = 5) (wa : AllG a) (wb : AllG b) (w : World) :
    Calls Try.prog 48 #[.agg (ints .u64 a), .agg (ints .u64 b)] w fun e w' => e = .returned (.agg (ints .u64 (mulR a b))) ∧ Below w.heap.size w w' := by
  have hown := Own.start w
  go_enter Try.func48, Try.ntmps48
  have tok_b1 : True := trivial
  have tok_b2 : True := trivial
  have tok_b3 : True := trivial
  have tok_b4 : True := trivial
  have tok_b5 : True := trivial
  go_upto_region 1 with (go_big_may; (first | ((with_reducible show wpList _ _ _ (⟨_, .box _ _, _, _, _, _⟩ :: _) _ _); have _t := tok_b1; refine wpl_box hown rfl _ _ rfl _ rfl ?_; clear hown _t tok_b1; intro b1 _ hown; dsimp only [putL, setNth]) | ((with_reducible show wpList _ _ _ (⟨_, .box _ _, _, _, _, _⟩ :: _) _ _); have _t := tok_b2; refine wpl_box hown rfl _ _ rfl _ rfl ?_; clear hown _t tok_b2; intro b2 _ hown; dsimp only [putL, setNth]) | ((with_reducible show wpList _ _ _ (⟨_, .alloc _, _, _, _, _⟩ :: _) _ _); have _t := tok_b3; refine wpl_alloc hown rfl _ rfl _ zero_elem ?_; clear hown _t tok_b3; intro b3 _ hown; dsimp only [putL, setNth])))
  refine wp_region_grow 19 [0, 1, 2, 3, 4, 5, 6, 7, 8, 9, 10, 11, 12, 13, 14, 15, 16, 17, 18] (by kernel_rfl) (by kernel_rfl) hown ?_; simp only [List.filterMap_cons, List.filterMap_nil, List.getElem?_cons_zero, List.getElem?_cons_succ, List.drop_succ_cons, List.drop_zero]
  repeat (first | (first | (refine wpV_step rfl rfl _ (growAt_load_int 79 _ rfl _ _ rfl _ Try.underlying79 1 _ _ rfl (by omega)) ?_; dsimp only [putL, setNth]) | (refine wpV_step rfl rfl _ (growAt_load_int 79 _ rfl _ _ rfl _ Try.underlying79 2 _ _ rfl (by omega)) ?_; dsimp only [putL, setNth])) | (refine wpV_step rfl rfl _ (growAt_idxA 80 _ _ rfl _ _ rfl _ _ rfl _ _ Try.underlying80 _ size_u64 (by omega) (by omega) _ (by go_simp; try rfl)) ?_; dsimp only [putL, setNth]) | (first | (refine wpV_step rfl rfl _ (growAt_move _ rfl _ rfl) ?_; dsimp only [putL, setNth, evL, nth]) | (refine wpV_step rfl rfl _ (growAt_assign _ rfl _ rfl) ?_; dsimp only [putL, setNth, evL, nth]) | (refine wpV_step rfl rfl _ (growAt_bits _ _ _ _ _ rfl (by decide) _ _ _ rfl rfl) ?_; dsimp only [putL, setNth]) | (refine wpV_step rfl rfl _ (growAt_bin _ _ _ _ _ rfl _ _ rfl rfl _ (by intro w; go_simp; try rfl)) ?_; dsimp only [putL, setNth]) | (refine wpV_step rfl rfl _ (growAt_un _ _ _ rfl _ rfl _ (by intro w; go_simp; try rfl)) ?_; dsimp only [putL, setNth]) | (refine wpV_step rfl rfl _ (growAt_conv _ _ _ rfl _ rfl _ (by intro w; go_simp; try rfl)) ?_; dsimp only [putL, setNth]) | (refine wpV_step rfl rfl _ (growAt_fld _ _ _ rfl _ rfl _ (by intro w; go_simp; try rfl)) ?_; dsimp only [putL, setNth]) | (refine wpV_step rfl rfl _ (growAt_idx _ _ _ rfl _ _ rfl rfl _ (by intro w; go_simp; try rfl)) ?_; dsimp only [putL, setNth]) | (refine wpV_step rfl rfl _ (growAt_extract _ _ rfl _ rfl _ rfl) ?_; dsimp only [putL, setNth]) | (refine wpV_step rfl rfl _ (growAt_pick _ _ _ rfl _ rfl _ _ rfl rfl) ?_; dsimp only [putL, setNth])) | (refine wpV_step rfl rfl _ (growAt_pure (by intro w; go_simp; try rfl)) ?_; dsimp only [putL, setNth]))
  refine wpV_nil ?_; clear hown; intro _ hown; simp only [List.nil_append, List.cons_append] at hown
  go_upto_region 2 with (fail)
  refine wp_region_grow 19 [0, 1, 2, 3, 4, 5, 6, 7, 8, 9, 10, 11, 12, 13, 14, 15, 16, 17, 18] (by kernel_rfl) (by kernel_rfl) hown ?_; simp only [List.filterMap_cons, List.filterMap_nil, List.getElem?_cons_zero, List.getElem?_cons_succ, List.drop_succ_cons, List.drop_zero]
  repeat (first | (first | (refine wpV_step rfl rfl _ (growAt_load_int 79 _ rfl _ _ rfl _ Try.underlying79 1 _ _ rfl (by omega)) ?_; dsimp only [putL, setNth]) | (refine wpV_step rfl rfl _ (growAt_load_int 79 _ rfl _ _ rfl _ Try.underlying79 2 _ _ rfl (by omega)) ?_; dsimp only [putL, setNth])) | (refine wpV_step rfl rfl _ (growAt_idxA 80 _ _ rfl _ _ rfl _ _ rfl _ _ Try.underlying80 _ size_u64 (by omega) (by omega) _ (by go_simp; try rfl)) ?_; dsimp only [putL, setNth]) | (first | (refine wpV_step rfl rfl _ (growAt_move _ rfl _ rfl) ?_; dsimp only [putL, setNth, evL, nth]) | (refine wpV_step rfl rfl _ (growAt_assign _ rfl _ rfl) ?_; dsimp only [putL, setNth, evL, nth]) | (refine wpV_step rfl rfl _ (growAt_bits _ _ _ _ _ rfl (by decide) _ _ _ rfl rfl) ?_; dsimp only [putL, setNth]) | (refine wpV_step rfl rfl _ (growAt_bin _ _ _ _ _ rfl _ _ rfl rfl _ (by intro w; go_simp; try rfl)) ?_; dsimp only [putL, setNth]) | (refine wpV_step rfl rfl _ (growAt_un _ _ _ rfl _ rfl _ (by intro w; go_simp; try rfl)) ?_; dsimp only [putL, setNth]) | (refine wpV_step rfl rfl _ (growAt_conv _ _ _ rfl _ rfl _ (by intro w; go_simp; try rfl)) ?_; dsimp only [putL, setNth]) | (refine wpV_step rfl rfl _ (growAt_fld _ _ _ rfl _ rfl _ (by intro w; go_simp; try rfl)) ?_; dsimp only [putL, setNth]) | (refine wpV_step rfl rfl _ (growAt_idx _ _ _ rfl _ _ rfl rfl _ (by intro w; go_simp; try rfl)) ?_; dsimp only [putL, setNth]) | (refine wpV_step rfl rfl _ (growAt_extract _ _ rfl _ rfl _ rfl) ?_; dsimp only [putL, setNth]) | (refine wpV_step rfl rfl _ (growAt_pick _ _ _ rfl _ rfl _ _ rfl rfl) ?_; dsimp only [putL, setNth])) | (refine wpV_step rfl rfl _ (growAt_pure (by intro w; go_simp; try rfl)) ?_; dsimp only [putL, setNth]))
  refine wpV_nil ?_; clear hown; intro _ hown; simp only [List.nil_append, List.cons_append] at hown
  go_upto_region 6 with (go_big_may; (first | (go_at_call 69; (first | with_reducible refine (plus_acc _ _ _ ?_ ?_ _).mono ?_ | refine (plus_acc0 _ _ ?_ ?_ _).mono ?_); (first | exact wa _ | exact wb _ | exact W64.wrap _); (first | exact wa _ | exact wb _ | exact W64.wrap _); rintro e w' ⟨rfl, hb⟩; replace hown := hown.grow hb; clear hb) | (refine wpl_build rfl 112 _ rfl _ rfl (ints .u64 (mulW a b)) (by kernel_rfl) ?_; dsimp only [putL, setNth]) | ((with_reducible show wpList _ _ _ (⟨_, .alloc _, _, _, _, _⟩ :: _) _ _); have _t := tok_b4; refine wpl_alloc hown rfl _ rfl _ zero_w5 ?_; clear hown _t tok_b4; intro b4 _ hown; dsimp only [putL, setNth]) | ((with_reducible show wpList _ _ _ (⟨_, .store _ _ _, _, _, _, _⟩ :: _) _ _); refine wpl_store_row hown rfl 112 _ _ rfl _ rfl _ rfl (ints_cell _ _) (sz_w5 rfl) 0 _ _ rfl (rfl) ?_; clear hown; intro _ hown; dsimp only [putL]; simp only [List.set_cons_zero, List.set_cons_succ] at hown) | ((with_reducible show wpList _ _ _ (⟨_, .alloc _, _, _, _, _⟩ :: _) _ _); have _t := tok_b5; refine wpl_alloc hown rfl _ rfl _ zero_l5 ?_; clear hown _t tok_b5; intro b5 _ hown; dsimp only [putL, setNth])))
  go_cut [21] from 24 (fun c wc => c = .int .u64 0 ∧ Own w wc [(b5, ints .u64 (List.replicate 5 0), 80), (b4, ints .u64 (mulW a b), 112), (b3, ints .u64 (List.replicate 5 0), 82), (b2, ints .u64 b, 82), (b1, ints .u64 a, 82)])
  case first =>
    go_wp2_with fail
    go_meet
    case rel => exact ⟨rfl, hown⟩
  case rest =>
    clear hown
    obtain ⟨rfl, hown⟩ := hcut
    go_wp2_with fail
    have hst := mulS_ok a b
    go_loopw [21, 143] (fun c i wr => ∃ k : Nat, k ≤ 5 ∧ i = .int .i64 k ∧ c = .int .u64 (mulS a b k).2.2 ∧ Own w wr [(b5, ints .u64 (mulS a b k).2.1, 80), (b4, ints .u64 (mulS a b k).1, 112), (b3, ints .u64 (List.replicate 5 0), 82), (b2, ints .u64 b, 82), (b1, ints .u64 a, 82)]) (fun _ i _ => 5 - (intOf i).toNat)
    case atStart => exact ⟨0, by omega, rfl, rfl, hown⟩
    case round =>
      clear hown
      obtain ⟨k, hk, rfl, rfl, hown⟩ := hrel
      obtain ⟨hs1, hs2, hs3, hs4⟩ := hst k
      clear hst
      by_cases hlt : k < 5
      · go_upto_region 14 with (go_big_may; (first | (first | ((with_reducible show wpList _ _ _ (⟨_, .load _ _, _, _, _, _⟩ :: _) _ _); refine wpl_load_int hown rfl 79 _ rfl _ _ rfl _ Try.underlying79 0 _ _ rfl (by simp [hs1, hs2]; omega) ?_; dsimp only [putL, setNth]) | ((with_reducible show wpList _ _ _ (⟨_, .load _ _, _, _, _, _⟩ :: _) _ _); refine wpl_load_int hown rfl 79 _ rfl _ _ rfl _ Try.underlying79 1 _ _ rfl (by simp [hs1, hs2]; omega) ?_; dsimp only [putL, setNth])) | (first | ((with_reducible show wpList _ _ _ (⟨_, .store _ _ _, _, _, _, _⟩ :: _) _ _); refine wpl_store_int hown rfl 79 _ _ rfl _ _ rfl _ _ rfl size_u64 0 _ _ rfl (by simp [hs1, hs2]; omega) ?_; clear hown; intro _ hown; dsimp only [putL]; simp only [List.set_cons_zero, List.set_cons_succ] at hown) | ((with_reducible show wpList _ _ _ (⟨_, .store _ _ _, _, _, _, _⟩ :: _) _ _); refine wpl_store_int hown rfl 79 _ _ rfl _ _ rfl _ _ rfl size_u64 1 _ _ rfl (by simp [hs1, hs2]; omega) ?_; clear hown; intro _ hown; dsimp only [putL]; simp only [List.set_cons_zero, List.set_cons_succ] at hown)) | (refine wpl_add64 rfl _ _ _ _ rfl _ _ _ rfl rfl rfl (hs3 _) (hs4) (Bit.zero) ?_; dsimp only [putL, setNth])))
        have f9 : ((k : Int)).toNat = k := by omega
        have f10 : (0 : Int) ≤ (k : Int) := by omega
        have f11 : (k : Int) < 5 := by omega
        refine wp_region_grow 11 [0, 1, 2, 3, 4, 5, 6, 7, 8, 9, 10] (by kernel_rfl) (by kernel_rfl) hown ?_; simp only [List.filterMap_cons, List.filterMap_nil, List.getElem?_cons_zero, List.getElem?_cons_succ, List.drop_succ_cons, List.drop_zero]
        repeat (first | (first | (refine wpV_step rfl rfl _ (growAt_load_int 79 _ rfl _ _ rfl _ Try.underlying79 0 _ _ rfl (by simp [hs1, hs2]; omega)) ?_; dsimp only [putL, setNth]) | (refine wpV_step rfl rfl _ (growAt_load_int 79 _ rfl _ _ rfl _ Try.underlying79 1 _ _ rfl (by simp [hs1, hs2]; omega)) ?_; dsimp only [putL, setNth])) | (refine wpV_step rfl rfl _ (growAt_idxA 112 _ _ rfl _ _ rfl _ _ rfl _ _ Try.underlying112 _ info_wide (by omega) (by omega) _ (by go_simp; try rfl)) ?_; dsimp only [putL, setNth]) | (first | (refine wpV_step rfl rfl _ (growAt_move _ rfl _ rfl) ?_; dsimp only [putL, setNth, evL, nth]) | (refine wpV_step rfl rfl _ (growAt_assign _ rfl _ rfl) ?_; dsimp only [putL, setNth, evL, nth]) | (refine wpV_step rfl rfl _ (growAt_bits _ _ _ _ _ rfl (by decide) _ _ _ rfl rfl) ?_; dsimp only [putL, setNth]) | (refine wpV_step rfl rfl _ (growAt_bin _ _ _ _ _ rfl _ _ rfl rfl _ (by intro w; go_simp; try rfl)) ?_; dsimp only [putL, setNth]) | (refine wpV_step rfl rfl _ (growAt_un _ _ _ rfl _ rfl _ (by intro w; go_simp; try rfl)) ?_; dsimp only [putL, setNth]) | (refine wpV_step rfl rfl _ (growAt_conv _ _ _ rfl _ rfl _ (by intro w; go_simp; try rfl)) ?_; dsimp only [putL, setNth]) | (refine wpV_step rfl rfl _ (growAt_fld _ _ _ rfl _ rfl _ (by intro w; go_simp; try rfl)) ?_; dsimp only [putL, setNth]) | (refine wpV_step rfl rfl _ (growAt_idx _ _ _ rfl _ _ rfl rfl _ (by intro w; go_simp; try rfl)) ?_; dsimp only [putL, setNth]) | (refine wpV_step rfl rfl _ (growAt_extract _ _ rfl _ rfl _ rfl) ?_; dsimp only [putL, setNth]) | (refine wpV_step rfl rfl _ (growAt_pick _ _ _ rfl _ rfl _ _ rfl rfl) ?_; dsimp only [putL, setNth])) | (refine wpV_step rfl rfl _ (growAt_pure (by intro w; go_simp; try rfl)) ?_; dsimp only [putL, setNth]))
        refine wpV_nil ?_; clear hown; intro _ hown; simp only [List.nil_append, List.cons_append] at hown
        go_wp2_with fail
        go_roundw
        case rel => exact ⟨k + 1, by omega, by go_num, by rw [shl13, fdiv51]; rfl, hown⟩
        case measure => simp [intOf]; omega
      · obtain rfl : k = 5 := by omega
        go_wp2_with (first | ((with_reducible show wpList _ _ _ (⟨_, .load _ _, _, _, _, _⟩ :: _) _ _); refine wpl_load_int hown rfl 79 _ rfl _ _ rfl _ Try.underlying79 0 _ _ rfl (by simp [hs1, hs2]) ?_; dsimp only [putL, setNth]) | ((with_reducible show wpList _ _ _ (⟨_, .store _ _ _, _, _, _, _⟩ :: _) _ _); refine wpl_store_int hown rfl 79 _ _ rfl _ _ rfl _ _ rfl size_u64 0 _ _ rfl (by simp [hs1, hs2]) ?_; clear hown; intro _ hown; dsimp only [putL]; simp only [List.set_cons_zero, List.set_cons_succ] at hown) | ((with_reducible show wpList _ _ _ (⟨_, .load _ _, _, _, _, _⟩ :: _) _ _); refine wpl_load_row hown rfl 80 _ rfl _ rfl 0 _ _ rfl _ Try.underlying80 rfl (sz_l5 (by simp [hs2])) ?_; dsimp only [putL, setNth]) | (go_at_call 64; refine (carried_any _ (by simp [hs2]) _).mono ?_; rintro e w' ⟨rfl, hb⟩; replace hown := hown.grow hb; clear hb) | ((with_reducible show wpList _ _ _ (⟨_, .store _ _ _, _, _, _, _⟩ :: _) _ _); refine wpl_store_row hown rfl 82 _ _ rfl _ rfl (ints .u64 (mulR a b)) rfl (ints_cell _ _) (sz_elem rfl) 2 _ _ rfl (rfl) ?_; clear hown; intro _ hown; dsimp only [putL]; simp only [List.set_cons_zero, List.set_cons_succ] at hown))
        refine bodyPost_ret (results_own hown rfl _ rfl 2 _ _ rfl _ Try.underlying82 rfl (sz_elem rfl)) rfl ⟨rfl, hown.below⟩
end
end Go.Proofs.Ytdjecenggngdjaa
