/-
  Joined texts: BlB, Clr, BlC. No conditions.
-/
import Derived.Test.YtdjecenggngdjaaGae
import Derived.Test.YtdjecenggngdjaaGap
import Derived.Test.YtdjecenggngdjaaGas
namespace Go.Proofs.Ytdjecenggngdjaa
set_option linter.unusedSimpArgs false
set_option linter.unusedVariables false
set_option maxHeartbeats 16000000
section
open Go Go.RowKit
namespace Sp
open F M
theorem ValO.notx {P : Program} {w0 : World} {mu : List Nat} {bs : Mem} {l : List Value} {dst : Option Tmp} {ty : TypeId} {pos : String} {af : Array Edge} {gd : Option (Nat × Bool)} {t : TypeId} {x : Operand} {n : Int} (hx : evL l x = .int .u32 n) :
    ValO P w0 mu bs l ⟨dst, .unOp .xor t x, ty, pos, af, gd⟩ (.int .u32 (bits .xor .u32 4294967295 n)) := by
  refine ⟨M.growAt_pure fun w => ?_⟩
  unfold execOp
  simp only [evL_eq, hx]
  rfl
theorem SL.al1 {P : Program} {w0 : World} {mu : List Nat} {bs : Mem} {l : List Value} {ops : Array Oper} {rest : List Oper} {Q : ExitP} {dst : Option Tmp} {ty : TypeId} {pos : String} {af : Array Edge} {T : TypeId} {k : IntKind} (hz : (P.info? T).map (·.zero) = some (some (.int k 0))) {l' : Nat → List Value} (h : ∀ b, SL P ops w0 mu rest Q (l' b) ((b, ints k [0], T) :: bs)) (hp : ∀ b, putL l dst (.pointer (some ⟨b, 0, none⟩)) = l' b := by intro _; exact bpp) :
    SL P ops w0 mu (⟨dst, .alloc T, ty, pos, af, none⟩ :: rest) Q l bs := SL.allocC hz rfl hp h
def mI' (B : List Int) : Nat → List Int
  | 0 => List.replicate 16 0
  | i + 1 => (mI' B i).set i (wrdN (B.drop (4 * i)) 4)
@[irreducible] def mI (B : List Int) (i : Nat) : List Int := mI' B i
theorem mI_0 (B : List Int) : mI B 0 = List.replicate 16 0 := by unfold mI; rfl
theorem mI_s (B : List Int) (i : Nat) : mI B (i + 1) = (mI B i).set i (wrdN (B.drop (4 * i)) 4) := by unfold mI; rfl
theorem mI_length (B : List Int) : ∀ i, (mI B i).length = 16
  | 0 => by rw [mI_0]; simp
  | i + 1 => by rw [mI_s]; simp [mI_length B i]
attribute [simp] mI_length
@[irreducible] def bv0 (H : List Int) (t : Int) : List Int := ((H ++ blS).set 12 (bits .xor .u32 (gi (H ++ blS) 12) (IntKind.u32.wrap t))).set 13 (bits .xor .u32 (gi ((H ++ blS).set 12 (bits .xor .u32 (gi (H ++ blS) 12) (IntKind.u32.wrap t))) 13) (IntKind.u32.wrap (t.fdiv (2 ^ (min 32 IntKind.u64.bits)))))
theorem bv0_length {H : List Int} (hH : H.length = 8) (t : Int) : (bv0 H t).length = 16 := by unfold bv0; simp [hH]
@[irreducible] def bv1 (V : List Int) (last : Bool) : List Int := if last then V.set 14 (bits .xor .u32 4294967295 (gi V 14)) else V
theorem bv1_length (V : List Int) (last : Bool) : (bv1 V last).length = V.length := by unfold bv1; split <;> simp
attribute [simp] bv1_length
def oS (o : Int) : Int := o.fdiv (2 ^ (min (Int.toNat 4) IntKind.u64.bits))
theorem oS_ok {o : Int} (h : 0 ≤ o ∧ o < 18446744073709551616) : 0 ≤ oS o ∧ oS o < 18446744073709551616 := by
  unfold oS
  rw [show (2 : Int) ^ (min (Int.toNat 4) IntKind.u64.bits) = 16 from rfl, Int.fdiv_eq_ediv_of_nonneg _ (by omega)]
  omega
def bri' (M V : List Int) (o : Int) : Nat → List Int × Int
  | 0 => (V, o)
  | i + 1 => (bm (bri' M V o i).1 (i % 4) (4 + (i + i / 4) % 4) (8 + (i + 2 * (i / 4)) % 4) (12 + (i + 3 * (i / 4)) % 4) (gi M ((bri' M V o i).2 % 16).toNat) (gi M (oS (bri' M V o i).2 % 16).toNat), oS (oS (bri' M V o i).2))
@[irreducible] def bri (M V : List Int) (o : Int) (i : Nat) : List Int × Int := bri' M V o i
theorem bri_0 (M V : List Int) (o : Int) : bri M V o 0 = (V, o) := by unfold bri; rfl
theorem bri_s (M V : List Int) (o : Int) (i : Nat) : bri M V o (i + 1) = (bm (bri M V o i).1 (i % 4) (4 + (i + i / 4) % 4) (8 + (i + 2 * (i / 4)) % 4) (12 + (i + 3 * (i / 4)) % 4) (gi M ((bri M V o i).2 % 16).toNat) (gi M (oS (bri M V o i).2 % 16).toNat), oS (oS (bri M V o i).2)) := by unfold bri; rfl
theorem bri_length (M V : List Int) (o : Int) : ∀ i, (bri M V o i).1.length = V.length
  | 0 => by rw [bri_0]
  | i + 1 => by rw [bri_s]; simp [bri_length M V o i]
attribute [simp] bri_length
theorem bri_ok (M V : List Int) {o : Int} (h : 0 ≤ o ∧ o < 18446744073709551616) : ∀ i, 0 ≤ (bri M V o i).2 ∧ (bri M V o i).2 < 18446744073709551616
  | 0 => by rw [bri_0]; exact h
  | i + 1 => by rw [bri_s]; exact oS_ok (oS_ok (bri_ok M V h i))
def bro' (M V : List Int) : Nat → List Int
  | 0 => V
  | r + 1 => (bri M (bro' M V r) (gi blO r) 8).1
@[irreducible] def bro (M V : List Int) (r : Nat) : List Int := bro' M V r
theorem bro_0 (M V : List Int) : bro M V 0 = V := by unfold bro; rfl
theorem bro_s (M V : List Int) (r : Nat) : bro M V (r + 1) = (bri M (bro M V r) (gi blO r) 8).1 := by unfold bro; rfl
theorem bro_length (M V : List Int) : ∀ r, (bro M V r).length = V.length
  | 0 => by rw [bro_0]
  | r + 1 => by rw [bro_s]; simp [bro_length M V r]
attribute [simp] bro_length
theorem blO_ok : ∀ r, r < 10 → 0 ≤ gi blO r ∧ gi blO r < 18446744073709551616 := by unfold blO; decide +kernel
def bhI' (H V : List Int) : Nat → List Int
  | 0 => H
  | i + 1 => (bhI' H V i).set i (bits .xor .u32 (gi (bhI' H V i) i) (bits .xor .u32 (gi V i) (gi V (i + 8))))
@[irreducible] def bhI (H V : List Int) (i : Nat) : List Int := bhI' H V i
theorem bhI_0 (H V : List Int) : bhI H V 0 = H := by unfold bhI; rfl
theorem bhI_s (H V : List Int) (i : Nat) : bhI H V (i + 1) = (bhI H V i).set i (bits .xor .u32 (gi (bhI H V i) i) (bits .xor .u32 (gi V i) (gi V (i + 8)))) := by unfold bhI; rfl
theorem bhI_length (H V : List Int) : ∀ i, (bhI H V i).length = H.length
  | 0 => by rw [bhI_0]
  | i + 1 => by rw [bhI_s]; simp [bhI_length H V i]
attribute [simp] bhI_length
@[irreducible] def blP (H B : List Int) (t : Int) (last : Bool) : List Int := bhI H (bro (mI B 16) (bv1 (bv0 H t) last) 10) 8
theorem blP_length (H B : List Int) (t : Int) (last : Bool) : (blP H B t last).length = H.length := by unfold blP; simp
attribute [simp] blP_length
theorem bx4' : ∀ i, i < 8 → IntKind.i64.wrap (Int.tdiv (i : Nat) 4) = ((i / 4 : Nat) : Int) := by decide
theorem bx4 (i : Nat) (h : i < 8) : some (Value.int .i64 (IntKind.i64.wrap (Int.tdiv (i : Nat) 4))) = some (Value.int .i64 ((i / 4 : Nat) : Int)) := by rw [bx4' i h]
theorem bxa' : ∀ i, i < 8 → Int.tmod (i : Nat) 4 = ((i % 4 : Nat) : Int) := by decide
theorem bxa (i : Nat) (h : i < 8) : some (Value.int .i64 (Int.tmod (i : Nat) 4)) = some (Value.int .i64 ((i % 4 : Nat) : Int)) := by rw [bxa' i h]
theorem bxb' : ∀ i, i < 8 → IntKind.i64.wrap (4 + Int.tmod (IntKind.i64.wrap (((i : Nat) : Int) + ((i / 4 : Nat) : Int))) 4) = ((4 + (i + i / 4) % 4 : Nat) : Int) := by decide
theorem bxb (i : Nat) (h : i < 8) : some (Value.int .i64 (IntKind.i64.wrap (4 + Int.tmod (IntKind.i64.wrap (((i : Nat) : Int) + ((i / 4 : Nat) : Int))) 4))) = some (Value.int .i64 ((4 + (i + i / 4) % 4 : Nat) : Int)) := by rw [bxb' i h]
theorem bxc' : ∀ i, i < 8 → IntKind.i64.wrap (8 + Int.tmod (IntKind.i64.wrap (((i : Nat) : Int) + IntKind.i64.wrap (2 * ((i / 4 : Nat) : Int)))) 4) = ((8 + (i + 2 * (i / 4)) % 4 : Nat) : Int) := by decide
theorem bxc (i : Nat) (h : i < 8) : some (Value.int .i64 (IntKind.i64.wrap (8 + Int.tmod (IntKind.i64.wrap (((i : Nat) : Int) + IntKind.i64.wrap (2 * ((i / 4 : Nat) : Int)))) 4))) = some (Value.int .i64 ((8 + (i + 2 * (i / 4)) % 4 : Nat) : Int)) := by rw [bxc' i h]
theorem bxd' : ∀ i, i < 8 → IntKind.i64.wrap (12 + Int.tmod (IntKind.i64.wrap (((i : Nat) : Int) + IntKind.i64.wrap (3 * ((i / 4 : Nat) : Int)))) 4) = ((12 + (i + 3 * (i / 4)) % 4 : Nat) : Int) := by decide
theorem bxd (i : Nat) (h : i < 8) : some (Value.int .i64 (IntKind.i64.wrap (12 + Int.tmod (IntKind.i64.wrap (((i : Nat) : Int) + IntKind.i64.wrap (3 * ((i / 4 : Nat) : Int)))) 4))) = some (Value.int .i64 ((12 + (i + 3 * (i / 4)) % 4 : Nat) : Int)) := by rw [bxd' i h]
theorem put_head {L M J : List Int} (h : L.length = M.length) : putAt (ints .u32 (L ++ J)) 0 (ints .u32 M).toList = ints .u32 (M ++ J) := by
  apply Array.ext_getElem?
  intro j
  rw [putAt_get _ _ _ _ (by simp [ints]; omega)]
  simp only [ints, List.length_map, List.getElem?_toArray, List.getElem?_map, List.map_append]
  by_cases h1 : j < M.length
  · rw [if_pos (by omega), List.getElem?_append_left (by simpa using h1)]; simp
  · rw [if_neg (by omega), List.getElem?_append_right (by simp; omega), List.getElem?_append_right (by simp; omega)]; simp [h]
theorem put_tail {L M J : List Int} (h : J.length = M.length) : putAt (ints .u32 (L ++ J)) L.length (ints .u32 M).toList = ints .u32 (L ++ M) := by
  apply Array.ext_getElem?
  intro j
  rw [putAt_get _ _ _ _ (by simp [ints]; omega)]
  simp only [ints, List.length_map, List.getElem?_toArray, List.getElem?_map, List.map_append]
  by_cases h1 : j < L.length
  · rw [if_neg (by omega), List.getElem?_append_left (by simpa using h1), List.getElem?_append_left (by simpa using h1)]
  · rw [List.getElem?_append_right (by simp; omega)]
    by_cases h2 : j < L.length + M.length
    · rw [if_pos (by omega), List.getElem?_append_right (by simp; omega)]; simp
    · rw [if_neg (by omega), List.getElem?_append_right (by simp; omega), List.getElem?_eq_none (by simp; omega), List.getElem?_eq_none (by simp; omega)]
theorem cp_h {sz : Int} {H B : List Int} {n t : Int} (hH : H.length = 8) : putAt (ints .u32 (List.replicate 16 0)) 0 ((hRow sz H B n t).extract 1 (1 + 8)).toList = ints .u32 (H ++ List.replicate 8 0) := by
  rw [hr_h hH, show List.replicate 16 (0 : Int) = List.replicate 8 0 ++ List.replicate 8 0 from rfl]
  exact put_head (by simp [hH])
theorem ext_blS : (ints .u32 blS).extract 0 (0 + 8) = ints .u32 blS := by rw [show 0 + 8 = (ints .u32 blS).size by simp [ints_size]]; exact Array.extract_size
theorem cp_i {H : List Int} (hH : H.length = 8) : putAt (ints .u32 (H ++ List.replicate 8 0)) 8 ((ints .u32 blS).extract 0 (0 + 8)).toList = ints .u32 (H ++ blS) := by
  have h := put_tail (L := H) (M := blS) (J := List.replicate 8 0) (by simp)
  rw [hH] at h
  rw [ext_blS]
  exact h
theorem bv0_eq (H : List Int) (t : Int) : ((H ++ blS).set 12 (bits .xor .u32 (gi (H ++ blS) 12) (IntKind.u32.wrap t))).set 13 (bits .xor .u32 (gi ((H ++ blS).set 12 (bits .xor .u32 (gi (H ++ blS) 12) (IntKind.u32.wrap t))) 13) (IntKind.u32.wrap (t.fdiv (2 ^ (min 32 IntKind.u64.bits))))) = bv0 H t := by unfold bv0; rfl
theorem bv1_f (V : List Int) : bv1 V false = V := by unfold bv1; rfl
theorem bv1_t (V : List Int) : bv1 V true = V.set 14 (bits .xor .u32 4294967295 (gi V 14)) := by unfold bv1; rfl
theorem bnextS (b c : Nat) (o : Int) (T : TypeId) (ho : 0 ≤ o ∧ o < 18446744073709551616) (M : List Int) (Tm : TypeId) (fz : Nat × Nat) (w : World) (hM : M.length = 16) (hne : b ≠ c) (hb : w.heap[b]? = some (.cells (ints .u64 [o]) T (0, 0))) (hc : w.heap[c]? = some (.cells (ints .u32 M) Tm fz)) :
    Calls Try.prog 82 #[.pointer (some ⟨b, 0, none⟩), .pointer (some ⟨c, 0, none⟩)] w fun e w' => e = .returned (.int .u32 (gi M (o % 16).toNat)) ∧ OwnM w [b] w' [(b, ints .u64 [oS o], T)] := by
  unfold oS
  exact bnext_any b c o T ho M Tm fz w hM hne hb hc
theorem gi_drop (B : List Int) (k j : Nat) : gi (B.drop k) j = gi B (k + j) := by unfold gi; rw [List.getD_eq_getElem?_getD, List.getD_eq_getElem?_getD, List.getElem?_drop]
set_option maxRecDepth 20000 in
theorem press_any (b : Nat) (sz : Int) (H B : List Int) (n t many : Int) (last : Bool) (hH : H.length = 8) (hB : B.length = 64) (w : World) (hb : w.heap[b]? = some (.cells (hRow sz H B n t) 120 (0, 0))) :
    Calls Try.prog 72 #[.pointer (some ⟨b, 0, none⟩), .int .i64 many, .bool last] w fun e w' => e = .returned (.tuple #[]) ∧ OwnM w [b] w' [(b, hRow sz (blP H B (IntKind.u64.wrap (t + IntKind.u64.wrap many)) last) B n (IntKind.u64.wrap (t + IntKind.u64.wrap many)), 120)] := by
  obtain ⟨t', ht'⟩ : ∃ t', t' = IntKind.u64.wrap (t + IntKind.u64.wrap many) := ⟨_, rfl⟩
  rw [← ht']
  unfold blP
  refine mutE Try.func72 Try.ntmps72 Try.results72 hb ?_
  repeat (first | (refine rgn 0 ?_; refine sEv ?_; refine SL.nc ?_; refine sEv ?_; refine SL.ldC tabOk ?_ (hv := hr_t hH hB); (iterate 3 refine sEv ?_); refine SL.nc ?_; refine sEv ?_; refine SL.stP tabOk ?_ (hsz := by rw [hr_size hH hB]; decide) (hA := hr_pt hH hB _); refine nlx ?_) | (refine rgn 1 ?_; refine SL.al zero_128 ?_; intro mb; refine nlx ?_) | (refine rgn 2 ?_; refine sEv ?_; refine nlx ?_) | (refine zsq ?_; intro _ _) | (with_reducible refine zkN ?_) | (refine useK (by assumption) ?_) | (with_reducible first | refine zsB ?_ | refine zkX ?_ | refine zkR ?_ | refine zbN ?_ | refine zbR ?_ | refine zbE ?_ | refine zbX ?_ | refine zsS ?_ | refine zsR ?_ | refine zsX ?_) | (refine cdT ?_) | (refine cdF ?_))
  rw [← ht']
  refine SP.loopN (fun k l bs => l = [.pointer (some ⟨b, 0, none⟩), .int .i64 many, .bool last, nth l 3, nth l 4, nth l 5, .pointer (some ⟨mb, 0, none⟩), nth l 7, nth l 8, nth l 9, nth l 10, nth l 11, nth l 12, nth l 13, nth l 14, nth l 15, nth l 16, nth l 17, nth l 18, nth l 19, nth l 20, nth l 21, nth l 22, nth l 23, nth l 24, nth l 25, nth l 26, nth l 27, nth l 28, nth l 29, nth l 30, .int .i64 ((k : Nat)), nth l 32, nth l 33, nth l 34, nth l 35, nth l 36, nth l 37, nth l 38, nth l 39, nth l 40, nth l 41, nth l 42, nth l 43, nth l 44, nth l 45, nth l 46, nth l 47, nth l 48, nth l 49, nth l 50, nth l 51, nth l 52, nth l 53, nth l 54, nth l 55, nth l 56, nth l 57, nth l 58, nth l 59, nth l 60, nth l 61, nth l 62, nth l 63, nth l 64, nth l 65, nth l 66, nth l 67, nth l 68, nth l 69, nth l 70, nth l 71, nth l 72, nth l 73, nth l 74, nth l 75, nth l 76, nth l 77, nth l 78, nth l 79, nth l 80, nth l 81, nth l 82, nth l 83, nth l 84, nth l 85, nth l 86, nth l 87, nth l 88, nth l 89, nth l 90, nth l 91, nth l 92, nth l 93, nth l 94, nth l 95, nth l 96, nth l 97, nth l 98, nth l 99, nth l 100, nth l 101, nth l 102, nth l 103, nth l 104, nth l 105, nth l 106, nth l 107, nth l 108, nth l 109, nth l 110, nth l 111, nth l 112, nth l 113, nth l 114, nth l 115, nth l 116, nth l 117, nth l 118, nth l 119, nth l 120, nth l 121, nth l 122, nth l 123, nth l 124, nth l 125, nth l 126, nth l 127, nth l 128, nth l 129, nth l 130, nth l 131, nth l 132, nth l 133, nth l 134, nth l 135, nth l 136, nth l 137, nth l 138, nth l 139, nth l 140, nth l 141, nth l 142, nth l 143, nth l 144, nth l 145] ∧ bs = [(mb, ints .u32 (mI B k), 128), (b, hRow sz (H) B n t', 120)]) 16 ⟨rfl, by rw [mI_0]⟩ ?_
  rintro k lfk _ hkk ⟨hlk, rfl⟩
  refine SP.cast hlk ?_
  clear hlk
  by_cases hltk : k < 16
  · have hk1 : IntKind.i64.wrap ((k : Int) + 1) = ((k + 1 : Nat) : Int) := by rw [IntWalk.i64_in _ (by omega)]; omega
    have h4 : some (Value.int .i64 (IntKind.i64.wrap (4 * (k : Int)))) = some (Value.int .i64 ((4 * k : Nat) : Int)) := by rw [IntWalk.i64_in _ (by omega)]; congr 2 <;> omega
    repeat (first | (refine rgn 3 ?_; refine sEv ?_; refine nlx ?_) | (refine rgn 4 ?_; refine sEv ?_; refine sEv ?_; refine nlx ?_) | (refine rgn 5 ?_; refine sEv ?_; refine sEv ?_; refine SL.nc ?_; refine sEv ?_; refine sEv ?_; refine SL.v (v := .int .i64 ((4 * k : Nat) : Int)) (ValO.ev tabOk h4) ?_; refine SL.ctA tabOk (4 * k) 64 ?_; refine SL.v (ValO.call ent_80 _ rfl _ (fun w1 hw1 => bword_any b (9 + 4 * k) (64 - 4 * k) (64 - 4 * k) _ _ _ (B.drop (4 * k)) w1 (hw1.block (List.mem_of_getElem? (show _ = some (b, _, _) from g1))) (fun j hj => by rw [Nat.add_assoc, hr_b hH hB (by omega), gi_drop]) (by omega) (Nat.le_refl _))) ?_; refine SL.ixA tabOk ?_; refine SL.stI tabOk ?_; refine nlx ?_) | (refine rgn 6 ?_; refine sEv ?_; refine sEv ?_; refine nlx ?_) | (refine zsq ?_; intro _ _) | (with_reducible refine zkN ?_) | (refine useK (by assumption) ?_) | (with_reducible first | refine zsB ?_ | refine zkX ?_ | refine zkR ?_ | refine zbN ?_ | refine zbR ?_ | refine zbE ?_ | refine zbX ?_ | refine zsS ?_ | refine zsR ?_ | refine zsX ?_) | (refine cdT ?_) | (refine cdF ?_))
    simp only [hk1]
    exact ⟨hltk, rfl, by rw [mI_s]⟩
  · have hendk : k = 16 := by omega
    replace hendk := Lib.hid hendk
    repeat (first | (refine rgn 3 ?_; refine sEv ?_; refine nlx ?_) | (refine zsq ?_; intro _ _) | (with_reducible refine zkN ?_) | (refine useK (by assumption) ?_) | (with_reducible first | refine zsB ?_ | refine zkX ?_ | refine zkR ?_ | refine zbN ?_ | refine zbR ?_ | refine zbE ?_ | refine zbX ?_ | refine zsS ?_ | refine zsR ?_ | refine zsX ?_) | (refine cdT ?_) | (refine cdF ?_))
    have hq := hendk.out; clear hendk; subst hq
    repeat (first | (refine rgn 7 ?_; refine SL.al zero_128 ?_; intro vb; refine nlx ?_) | (refine rgn 8 ?_; refine SL.v (ValO.call ent_71 _ rfl _ (fun w1 _ => blS_any w1)) ?_; refine SL.al zero_116 ?_; intro ib; refine SL.stR tabOk ?_; refine nlx ?_) | ((with_reducible show SP _ _ _ (Code.region _ _ true) _ _ _); first | (refine SPa (id := 9) [5] [] ([]) [0, 1, 2, 3, 4, 5] follows ?_; refine SF.ctA tabOk 0 _ ?_; refine fPv ?_; refine SF.nc ?_; refine SF.e tabOk ?_; refine SF.ctA tabOk 0 _ ?_; refine SF.cp tabOk 8 (cp_h hH) ?_ (hn := by simp) (hA := by simp [ints_size]) (hB := by rw [hr_size hH hB]; decide) (h1 := by rw [hr_h hH]; exact ints_mem); refine SF.done ?_) | (refine SPa (id := 10) [2] [] ([]) [0, 1, 2] follows ?_; refine SF.ctA tabOk _ _ ?_; refine SF.ctA tabOk 0 _ ?_; refine SF.cp tabOk 8 (cp_i hH) ?_ (hn := by simp) (hA := by simp [ints_size, hH]) (hB := by simp [ints_size]) (h1 := by rw [ext_blS]; exact ints_mem); refine SF.done ?_) | (refine SPa (id := 11) [9] [] ([]) [0, 1, 2, 3, 4, 5, 6, 7, 8, 9] follows ?_; refine SF.e tabOk ?_; refine SF.ldI tabOk ?_; refine fPv ?_; refine SF.nc ?_; refine SF.e tabOk ?_; refine SF.ldC tabOk ?_ (hv := hr_t hH hB); refine SF.e tabOk ?_; refine SF.e tabOk ?_; refine SF.e tabOk ?_; refine SF.stI tabOk ?_; refine SF.done ?_) | (refine SPa (id := 12) [10] [] ([]) [0, 1, 2, 3, 4, 5, 6, 7, 8, 9, 10] follows ?_; refine SF.e tabOk ?_; refine SF.ldI tabOk ?_; refine fPv ?_; refine SF.nc ?_; refine SF.e tabOk ?_; refine SF.ldC tabOk ?_ (hv := hr_t hH hB); refine SF.e tabOk ?_; refine SF.e tabOk ?_; refine SF.e tabOk ?_; refine SF.e tabOk ?_; refine SF.stI tabOk ?_; refine SF.done ?_)) | (refine zsq ?_; intro _ _) | (with_reducible refine zkN ?_) | (refine useK (by assumption) ?_) | (with_reducible first | refine zsB ?_ | refine zkX ?_ | refine zkR ?_ | refine zbN ?_ | refine zbR ?_ | refine zbE ?_ | refine zbX ?_ | refine zsS ?_ | refine zsR ?_ | refine zsX ?_) | (refine cdT ?_) | (refine cdF ?_))
    rw [bv0_eq]
    obtain ⟨V1, hV1⟩ : ∃ V1, V1 = bv1 (bv0 H t') last := ⟨_, rfl⟩
    have hl1 : V1.length = 16 := by rw [hV1]; simp [bv0_length hH]
    have hl0 := bv0_length hH t'
    rw [← hV1]
    cases last
    · repeat (first | (refine rgn 13 ?_; refine sEv ?_; refine nlx ?_) | (refine zsq ?_; intro _ _) | (with_reducible refine zkN ?_) | (refine useK (by assumption) ?_) | (with_reducible first | refine zsB ?_ | refine zkX ?_ | refine zkR ?_ | refine zbN ?_ | refine zbR ?_ | refine zbE ?_ | refine zbX ?_ | refine zsS ?_ | refine zsR ?_ | refine zsX ?_) | (refine cdT ?_) | (refine cdF ?_))
      rw [show bv0 H t' = V1 by rw [hV1, bv1_f]]
      clear hl0
      repeat (first | (refine rgn 15 ?_; refine SL.v (ValO.call ent_81 _ rfl _ (fun w1 _ => blO_any w1)) ?_; refine sEv ?_; refine nlx ?_) | (refine zsq ?_; intro _ _) | (with_reducible refine zkN ?_) | (refine useK (by assumption) ?_) | (with_reducible first | refine zsB ?_ | refine zkX ?_ | refine zkR ?_ | refine zbN ?_ | refine zbR ?_ | refine zbE ?_ | refine zbX ?_ | refine zsS ?_ | refine zsR ?_ | refine zsX ?_) | (refine cdT ?_) | (refine cdF ?_))
      refine SP.loopN (fun r l bs => l = [.pointer (some ⟨b, 0, none⟩), nth l 1, nth l 2, nth l 3, nth l 4, nth l 5, .pointer (some ⟨mb, 0, none⟩), nth l 7, .pointer (some ⟨vb, 0, none⟩), nth l 9, nth l 10, nth l 11, nth l 12, nth l 13, nth l 14, nth l 15, nth l 16, nth l 17, nth l 18, nth l 19, nth l 20, nth l 21, nth l 22, nth l 23, nth l 24, nth l 25, nth l 26, nth l 27, nth l 28, nth l 29, nth l 30, nth l 31, nth l 32, nth l 33, nth l 34, nth l 35, nth l 36, nth l 37, nth l 38, nth l 39, nth l 40, nth l 41, nth l 42, nth l 43, nth l 44, nth l 45, nth l 46, nth l 47, nth l 48, nth l 49, nth l 50, nth l 51, nth l 52, nth l 53, nth l 54, nth l 55, nth l 56, nth l 57, nth l 58, nth l 59, nth l 60, nth l 61, nth l 62, nth l 63, nth l 64, nth l 65, nth l 66, nth l 67, nth l 68, nth l 69, nth l 70, nth l 71, nth l 72, nth l 73, nth l 74, nth l 75, nth l 76, nth l 77, .agg (ints .u64 blO), .int .i64 ((r : Nat)), nth l 80, nth l 81, nth l 82, nth l 83, nth l 84, nth l 85, nth l 86, nth l 87, nth l 88, nth l 89, nth l 90, nth l 91, nth l 92, nth l 93, nth l 94, nth l 95, nth l 96, nth l 97, nth l 98, nth l 99, nth l 100, nth l 101, nth l 102, nth l 103, nth l 104, nth l 105, nth l 106, nth l 107, nth l 108, nth l 109, nth l 110, nth l 111, nth l 112, nth l 113, nth l 114, nth l 115, nth l 116, nth l 117, nth l 118, nth l 119, nth l 120, nth l 121, nth l 122, nth l 123, nth l 124, nth l 125, nth l 126, nth l 127, nth l 128, nth l 129, nth l 130, nth l 131, nth l 132, nth l 133, nth l 134, nth l 135, nth l 136, nth l 137, nth l 138, nth l 139, nth l 140, nth l 141, nth l 142, nth l 143, nth l 144, nth l 145] ∧ bs = [(ib, ints .u32 blS, 116), (vb, ints .u32 (bro (mI B 16) V1 r), 128), (mb, ints .u32 (mI B 16), 128), (b, hRow sz (H) B n t', 120)]) 10 ⟨rfl, by rw [bro_0]⟩ ?_
      rintro r lfr _ hkr ⟨hlr, rfl⟩
      refine SP.cast hlr ?_
      clear hlr
      by_cases hltr : r < 10
      · have hr1 : IntKind.i64.wrap ((r : Int) + 1) = ((r + 1 : Nat) : Int) := by rw [IntWalk.i64_in _ (by omega)]; omega
        repeat (first | (refine rgn 16 ?_; refine sEv ?_; refine nlx ?_) | (refine rgn 17 ?_; refine SL.ix tabOk ?_; refine SL.al1 (k := .u64) (by kernel_rfl) ?_; intro ob; refine SL.stI tabOk ?_; refine nlx ?_) | (refine rgn 18 ?_; refine SL.v (ValO.mkf [] [.pointer (some ⟨ob, 0, none⟩), .pointer (some ⟨mb, 0, none⟩)]) ?_; refine sEv ?_; refine nlx ?_) | (refine rgn 19 ?_; refine sEv ?_; refine nlx ?_) | (refine zsq ?_; intro _ _) | (with_reducible refine zkN ?_) | (refine useK (by assumption) ?_) | (with_reducible first | refine zsB ?_ | refine zkX ?_ | refine zkR ?_ | refine zbN ?_ | refine zbR ?_ | refine zbE ?_ | refine zbX ?_ | refine zsS ?_ | refine zsR ?_ | refine zsX ?_) | (refine cdT ?_) | (refine cdF ?_))
        refine SP.loopN (fun i l bs => l = [.pointer (some ⟨b, 0, none⟩), nth l 1, nth l 2, nth l 3, nth l 4, nth l 5, .pointer (some ⟨mb, 0, none⟩), nth l 7, .pointer (some ⟨vb, 0, none⟩), nth l 9, nth l 10, .pointer (some ⟨ob, 0, none⟩), .func (.func 82) #[] #[.pointer (some ⟨ob, 0, none⟩), .pointer (some ⟨mb, 0, none⟩)], nth l 13, nth l 14, nth l 15, nth l 16, nth l 17, nth l 18, nth l 19, nth l 20, nth l 21, nth l 22, nth l 23, nth l 24, nth l 25, nth l 26, nth l 27, nth l 28, nth l 29, nth l 30, nth l 31, nth l 32, nth l 33, nth l 34, nth l 35, nth l 36, nth l 37, nth l 38, nth l 39, nth l 40, nth l 41, nth l 42, nth l 43, nth l 44, nth l 45, nth l 46, nth l 47, nth l 48, nth l 49, nth l 50, nth l 51, nth l 52, nth l 53, nth l 54, nth l 55, nth l 56, nth l 57, nth l 58, nth l 59, nth l 60, nth l 61, nth l 62, nth l 63, nth l 64, nth l 65, nth l 66, nth l 67, nth l 68, nth l 69, nth l 70, nth l 71, nth l 72, nth l 73, nth l 74, nth l 75, nth l 76, nth l 77, .agg (ints .u64 blO), .int .i64 ((r : Nat)), nth l 80, nth l 81, nth l 82, .int .i64 ((i : Nat)), nth l 84, nth l 85, nth l 86, nth l 87, nth l 88, nth l 89, nth l 90, nth l 91, nth l 92, nth l 93, nth l 94, nth l 95, nth l 96, nth l 97, nth l 98, nth l 99, nth l 100, nth l 101, nth l 102, nth l 103, nth l 104, nth l 105, nth l 106, nth l 107, nth l 108, nth l 109, nth l 110, nth l 111, nth l 112, nth l 113, nth l 114, nth l 115, nth l 116, nth l 117, nth l 118, nth l 119, nth l 120, nth l 121, nth l 122, nth l 123, nth l 124, nth l 125, nth l 126, nth l 127, nth l 128, nth l 129, nth l 130, nth l 131, nth l 132, nth l 133, nth l 134, nth l 135, nth l 136, nth l 137, nth l 138, nth l 139, nth l 140, nth l 141, nth l 142, nth l 143, nth l 144, nth l 145] ∧ bs = [(ob, ints .u64 [(bri (mI B 16) (bro (mI B 16) V1 r) (gi blO r) i).2], 79), (ib, ints .u32 blS, 116), (vb, ints .u32 ((bri (mI B 16) (bro (mI B 16) V1 r) (gi blO r) i).1), 128), (mb, ints .u32 (mI B 16), 128), (b, hRow sz (H) B n t', 120)]) 8 ⟨rfl, by rw [bri_0]⟩ ?_
        rintro i lfi _ hki ⟨hli, rfl⟩
        refine SP.cast hli ?_
        clear hli
        by_cases hlti : i < 8
        · have hi1 : IntKind.i64.wrap ((i : Int) + 1) = ((i + 1 : Nat) : Int) := by rw [IntWalk.i64_in _ (by omega)]; omega
          repeat (first | (refine rgn 20 ?_; refine sEv ?_; refine nlx ?_) | (refine rgn 21 ?_; refine sEv ?_; refine sEv ?_; refine nlx ?_) | (refine rgn 22 ?_; refine sEv ?_; refine SL.v (v := .int .i64 ((i / 4 : Nat) : Int)) (ValO.ev tabOk (bx4 i hlti)) ?_; refine sEv ?_; refine nlx ?_) | (refine rgn 23 ?_; refine sEv ?_; refine SL.v (v := .int .i64 ((i % 4 : Nat) : Int)) (ValO.ev tabOk (bxa i hlti)) ?_; (iterate 4 refine sEv ?_); refine SL.v (v := .int .i64 ((4 + (i + i / 4) % 4 : Nat) : Int)) (ValO.ev tabOk (bxb i hlti)) ?_; (iterate 5 refine sEv ?_); refine SL.v (v := .int .i64 ((8 + (i + 2 * (i / 4)) % 4 : Nat) : Int)) (ValO.ev tabOk (bxc i hlti)) ?_; (iterate 5 refine sEv ?_); refine SL.v (v := .int .i64 ((12 + (i + 3 * (i / 4)) % 4 : Nat) : Int)) (ValO.ev tabOk (bxd i hlti)) ?_; (iterate 4 refine sEv ?_); refine nlx ?_) | (refine rgn 24 ?_; refine sEv ?_; refine SL.fv1 (i := 0) (b := ob) ent_82 rfl rfl g0 (fun w1 hw1 => bnextS ob mb (bri (mI B 16) (bro (mI B 16) V1 r) (gi blO r) i).2 _ (bri_ok _ _ (blO_ok r hltr) i) (mI B 16) _ _ w1 (mI_length B 16) (hw1.ne g0 g3 (by decide)) (hw1.block (List.mem_of_getElem? (show _ = some (ob, _, _) from g0))) (hw1.block (List.mem_of_getElem? (show _ = some (mb, _, _) from g3)))) stt bpp ?_; refine sEv ?_; refine nlx ?_) | (refine rgn 25 ?_; refine sEv ?_; refine SL.fv1 (i := 0) (b := ob) ent_82 rfl rfl g0 (fun w1 hw1 => bnextS ob mb (oS (bri (mI B 16) (bro (mI B 16) V1 r) (gi blO r) i).2) _ (oS_ok (bri_ok _ _ (blO_ok r hltr) i)) (mI B 16) _ _ w1 (mI_length B 16) (hw1.ne g0 g3 (by decide)) (hw1.block (List.mem_of_getElem? (show _ = some (ob, _, _) from g0))) (hw1.block (List.mem_of_getElem? (show _ = some (mb, _, _) from g3)))) stt bpp ?_; refine sEv ?_; refine nlx ?_) | (refine rgn 27 ?_; refine sEv ?_; refine sEv ?_; refine nlx ?_) | ((with_reducible show SP _ _ _ (Code.region _ _ true) _ _ _); first | (refine SPa (id := 26) [10] [] ([]) [0, 1, 2, 3, 4, 5, 6, 7, 8, 9, 10] follows ?_; refine fPv ?_; refine SF.ixA tabOk ?_; refine fPv ?_; refine SF.ixA tabOk ?_; refine fPv ?_; refine SF.ixA tabOk ?_; refine fPv ?_; refine SF.ixA tabOk ?_; refine fPv ?_; refine fPv ?_; refine SF.call1 rfl (b := vb) ent_83 rfl g2 (fun w1 hw1 => bmix_any vb _ _ _ _ _ _ _ _ w1 (by simp [hl1]) (by omega) (by omega) (by omega) (by omega) (hw1.block (List.mem_of_getElem? (show _ = some (vb, _, _) from g2)))) stt (by first | exact Kept.nil | (simp [Kept]; done)) bpp ?_; refine SF.done ?_)) | (refine zsq ?_; intro _ _) | (with_reducible refine zkN ?_) | (refine useK (by assumption) ?_) | (with_reducible first | refine zsB ?_ | refine zkX ?_ | refine zkR ?_ | refine zbN ?_ | refine zbR ?_ | refine zbE ?_ | refine zbX ?_ | refine zsS ?_ | refine zsR ?_ | refine zsX ?_) | (refine cdT ?_) | (refine cdF ?_))
          simp only [hi1]
          exact ⟨hlti, rfl, by rw [bri_s]⟩
        · have hendi : i = 8 := by omega
          replace hendi := Lib.hid hendi
          repeat (first | (refine rgn 20 ?_; refine sEv ?_; refine nlx ?_) | (refine zsq ?_; intro _ _) | (with_reducible refine zkN ?_) | (refine useK (by assumption) ?_) | (with_reducible first | refine zsB ?_ | refine zkX ?_ | refine zkR ?_ | refine zbN ?_ | refine zbR ?_ | refine zbE ?_ | refine zbX ?_ | refine zsS ?_ | refine zsR ?_ | refine zsX ?_) | (refine cdT ?_) | (refine cdF ?_))
          have hq := hendi.out; clear hendi; subst hq
          refine SP.forget [_] ?_
          repeat (first | (refine rgn 28 ?_; refine sEv ?_; refine sEv ?_; refine nlx ?_) | (refine zsq ?_; intro _ _) | (with_reducible refine zkN ?_) | (refine useK (by assumption) ?_) | (with_reducible first | refine zsB ?_ | refine zkX ?_ | refine zkR ?_ | refine zbN ?_ | refine zbR ?_ | refine zbE ?_ | refine zbX ?_ | refine zsS ?_ | refine zsR ?_ | refine zsX ?_) | (refine cdT ?_) | (refine cdF ?_))
          simp only [hr1]
          exact ⟨hltr, rfl, by rw [bro_s]⟩
      · have hendr : r = 10 := by omega
        replace hendr := Lib.hid hendr
        repeat (first | (refine rgn 16 ?_; refine sEv ?_; refine nlx ?_) | (refine zsq ?_; intro _ _) | (with_reducible refine zkN ?_) | (refine useK (by assumption) ?_) | (with_reducible first | refine zsB ?_ | refine zkX ?_ | refine zkR ?_ | refine zbN ?_ | refine zbR ?_ | refine zbE ?_ | refine zbX ?_ | refine zsS ?_ | refine zsR ?_ | refine zsX ?_) | (refine cdT ?_) | (refine cdF ?_))
        have hq := hendr.out; clear hendr; subst hq
        repeat (first | (refine rgn 29 ?_; refine sEv ?_; refine nlx ?_) | (refine zsq ?_; intro _ _) | (with_reducible refine zkN ?_) | (refine useK (by assumption) ?_) | (with_reducible first | refine zsB ?_ | refine zkX ?_ | refine zkR ?_ | refine zbN ?_ | refine zbR ?_ | refine zbE ?_ | refine zbX ?_ | refine zsS ?_ | refine zsR ?_ | refine zsX ?_) | (refine cdT ?_) | (refine cdF ?_))
        have hbl : ∀ i, (bhI H (bro (mI B 16) V1 10) i).length = 8 := fun i => by simp [hH]
        refine SP.loopN (fun i l bs => l = [.pointer (some ⟨b, 0, none⟩), nth l 1, nth l 2, nth l 3, nth l 4, nth l 5, nth l 6, nth l 7, .pointer (some ⟨vb, 0, none⟩), nth l 9, nth l 10, nth l 11, nth l 12, nth l 13, nth l 14, nth l 15, nth l 16, nth l 17, nth l 18, nth l 19, nth l 20, nth l 21, nth l 22, nth l 23, nth l 24, nth l 25, nth l 26, nth l 27, nth l 28, nth l 29, nth l 30, nth l 31, nth l 32, nth l 33, nth l 34, nth l 35, nth l 36, nth l 37, nth l 38, nth l 39, nth l 40, nth l 41, nth l 42, nth l 43, nth l 44, nth l 45, nth l 46, nth l 47, nth l 48, nth l 49, nth l 50, nth l 51, nth l 52, nth l 53, nth l 54, nth l 55, nth l 56, nth l 57, nth l 58, nth l 59, nth l 60, nth l 61, nth l 62, nth l 63, nth l 64, nth l 65, nth l 66, nth l 67, nth l 68, nth l 69, nth l 70, nth l 71, nth l 72, nth l 73, nth l 74, nth l 75, nth l 76, nth l 77, nth l 78, nth l 79, nth l 80, nth l 81, nth l 82, nth l 83, nth l 84, nth l 85, nth l 86, nth l 87, nth l 88, nth l 89, nth l 90, nth l 91, nth l 92, nth l 93, nth l 94, nth l 95, nth l 96, nth l 97, nth l 98, nth l 99, nth l 100, nth l 101, nth l 102, nth l 103, nth l 104, nth l 105, nth l 106, nth l 107, nth l 108, nth l 109, nth l 110, nth l 111, nth l 112, nth l 113, nth l 114, nth l 115, nth l 116, nth l 117, nth l 118, nth l 119, nth l 120, nth l 121, nth l 122, nth l 123, .int .i64 ((i : Nat)), nth l 125, nth l 126, nth l 127, nth l 128, nth l 129, nth l 130, nth l 131, nth l 132, nth l 133, nth l 134, nth l 135, nth l 136, nth l 137, nth l 138, nth l 139, nth l 140, nth l 141, nth l 142, nth l 143, nth l 144, nth l 145] ∧ bs = [(ib, ints .u32 blS, 116), (vb, ints .u32 (bro (mI B 16) V1 10), 128), (mb, ints .u32 (mI B 16), 128), (b, hRow sz (bhI H (bro (mI B 16) V1 10) i) B n t', 120)]) 8 ⟨rfl, by rw [bhI_0]⟩ ?_
        rintro i lfi _ hki ⟨hli, rfl⟩
        refine SP.cast hli ?_
        clear hli
        by_cases hlti : i < 8
        · have hi1 : IntKind.i64.wrap ((i : Int) + 1) = ((i + 1 : Nat) : Int) := by rw [IntWalk.i64_in _ (by omega)]; omega
          have h8 : some (Value.int .i64 (IntKind.i64.wrap ((i : Int) + 8))) = some (Value.int .i64 ((i + 8 : Nat) : Int)) := by rw [IntWalk.i64_in _ (by omega)]; congr 2 <;> omega
          repeat (first | (refine rgn 30 ?_; refine sEv ?_; refine nlx ?_) | (refine rgn 31 ?_; refine sEv ?_; refine sEv ?_; refine nlx ?_) | (refine rgn 33 ?_; refine sEv ?_; refine sEv ?_; refine nlx ?_) | ((with_reducible show SP _ _ _ (Code.region _ _ true) _ _ _); first | (refine SPa (id := 32) [18] [] ([]) [0, 1, 2, 3, 4, 5, 6, 7, 8, 9, 10, 11, 12, 13, 14, 15, 16, 17, 18] follows ?_; refine fPv ?_; refine fPv ?_; refine SF.nc ?_; refine SF.e tabOk ?_; refine SF.ixA tabOk ?_; refine SF.ldC tabOk ?_ (hv := hr_hj (hbl i) hlti); refine fPv ?_; refine SF.ixA tabOk ?_; refine SF.ldI tabOk ?_; refine fPv ?_; refine SF.v (v := .int .i64 ((i + 8 : Nat) : Int)) (ValO.ev tabOk h8) ?_; refine SF.ixA tabOk ?_; refine SF.ldI tabOk ?_; refine SF.e tabOk ?_; refine SF.e tabOk ?_; refine SF.nc ?_; refine SF.e tabOk ?_; refine SF.ixA tabOk ?_; refine SF.stP tabOk ?_ (hsz := by rw [hr_size (hbl i) hB]; omega) (hA := hr_ph (hbl i) hlti _); refine SF.done ?_)) | (refine zsq ?_; intro _ _) | (with_reducible refine zkN ?_) | (refine useK (by assumption) ?_) | (with_reducible first | refine zsB ?_ | refine zkX ?_ | refine zkR ?_ | refine zbN ?_ | refine zbR ?_ | refine zbE ?_ | refine zbX ?_ | refine zsS ?_ | refine zsR ?_ | refine zsX ?_) | (refine cdT ?_) | (refine cdF ?_))
          simp only [hi1]
          exact ⟨hlti, rfl, by rw [bhI_s]⟩
        · have hendi : i = 8 := by omega
          replace hendi := Lib.hid hendi
          repeat (first | (refine rgn 30 ?_; refine sEv ?_; refine nlx ?_) | (refine zsq ?_; intro _ _) | (with_reducible refine zkN ?_) | (refine useK (by assumption) ?_) | (with_reducible first | refine zsB ?_ | refine zkX ?_ | refine zkR ?_ | refine zbN ?_ | refine zbR ?_ | refine zbE ?_ | refine zbX ?_ | refine zsS ?_ | refine zsR ?_ | refine zsX ?_) | (refine cdT ?_) | (refine cdF ?_))
          have hq := hendi.out; clear hendi; subst hq
          exact doneK.mk rfl ResO.nil ⟨rfl, by rw [← hV1]; repeat (first | exact List.Sublist.refl _ | apply List.Sublist.cons)⟩
    · repeat (first | (refine rgn 13 ?_; refine sEv ?_; refine nlx ?_) | (refine rgn 14 ?_; refine sEv ?_; refine SL.ldI tabOk ?_; refine SL.v (ValO.notx rfl) ?_; refine sEv ?_; refine SL.stI tabOk ?_; refine nlx ?_) | (refine zsq ?_; intro _ _) | (with_reducible refine zkN ?_) | (refine useK (by assumption) ?_) | (with_reducible first | refine zsB ?_ | refine zkX ?_ | refine zkR ?_ | refine zbN ?_ | refine zbR ?_ | refine zbE ?_ | refine zbX ?_ | refine zsS ?_ | refine zsR ?_ | refine zsX ?_) | (refine cdT ?_) | (refine cdF ?_))
      rw [show (bv0 H t').set 14 (bits .xor .u32 4294967295 (gi (bv0 H t') 14)) = V1 by rw [hV1, bv1_t]]
      clear hl0
      repeat (first | (refine rgn 15 ?_; refine SL.v (ValO.call ent_81 _ rfl _ (fun w1 _ => blO_any w1)) ?_; refine sEv ?_; refine nlx ?_) | (refine zsq ?_; intro _ _) | (with_reducible refine zkN ?_) | (refine useK (by assumption) ?_) | (with_reducible first | refine zsB ?_ | refine zkX ?_ | refine zkR ?_ | refine zbN ?_ | refine zbR ?_ | refine zbE ?_ | refine zbX ?_ | refine zsS ?_ | refine zsR ?_ | refine zsX ?_) | (refine cdT ?_) | (refine cdF ?_))
      refine SP.loopN (fun r l bs => l = [.pointer (some ⟨b, 0, none⟩), nth l 1, nth l 2, nth l 3, nth l 4, nth l 5, .pointer (some ⟨mb, 0, none⟩), nth l 7, .pointer (some ⟨vb, 0, none⟩), nth l 9, nth l 10, nth l 11, nth l 12, nth l 13, nth l 14, nth l 15, nth l 16, nth l 17, nth l 18, nth l 19, nth l 20, nth l 21, nth l 22, nth l 23, nth l 24, nth l 25, nth l 26, nth l 27, nth l 28, nth l 29, nth l 30, nth l 31, nth l 32, nth l 33, nth l 34, nth l 35, nth l 36, nth l 37, nth l 38, nth l 39, nth l 40, nth l 41, nth l 42, nth l 43, nth l 44, nth l 45, nth l 46, nth l 47, nth l 48, nth l 49, nth l 50, nth l 51, nth l 52, nth l 53, nth l 54, nth l 55, nth l 56, nth l 57, nth l 58, nth l 59, nth l 60, nth l 61, nth l 62, nth l 63, nth l 64, nth l 65, nth l 66, nth l 67, nth l 68, nth l 69, nth l 70, nth l 71, nth l 72, nth l 73, nth l 74, nth l 75, nth l 76, nth l 77, .agg (ints .u64 blO), .int .i64 ((r : Nat)), nth l 80, nth l 81, nth l 82, nth l 83, nth l 84, nth l 85, nth l 86, nth l 87, nth l 88, nth l 89, nth l 90, nth l 91, nth l 92, nth l 93, nth l 94, nth l 95, nth l 96, nth l 97, nth l 98, nth l 99, nth l 100, nth l 101, nth l 102, nth l 103, nth l 104, nth l 105, nth l 106, nth l 107, nth l 108, nth l 109, nth l 110, nth l 111, nth l 112, nth l 113, nth l 114, nth l 115, nth l 116, nth l 117, nth l 118, nth l 119, nth l 120, nth l 121, nth l 122, nth l 123, nth l 124, nth l 125, nth l 126, nth l 127, nth l 128, nth l 129, nth l 130, nth l 131, nth l 132, nth l 133, nth l 134, nth l 135, nth l 136, nth l 137, nth l 138, nth l 139, nth l 140, nth l 141, nth l 142, nth l 143, nth l 144, nth l 145] ∧ bs = [(ib, ints .u32 blS, 116), (vb, ints .u32 (bro (mI B 16) V1 r), 128), (mb, ints .u32 (mI B 16), 128), (b, hRow sz (H) B n t', 120)]) 10 ⟨rfl, by rw [bro_0]⟩ ?_
      rintro r lfr _ hkr ⟨hlr, rfl⟩
      refine SP.cast hlr ?_
      clear hlr
      by_cases hltr : r < 10
      · have hr1 : IntKind.i64.wrap ((r : Int) + 1) = ((r + 1 : Nat) : Int) := by rw [IntWalk.i64_in _ (by omega)]; omega
        repeat (first | (refine rgn 16 ?_; refine sEv ?_; refine nlx ?_) | (refine rgn 17 ?_; refine SL.ix tabOk ?_; refine SL.al1 (k := .u64) (by kernel_rfl) ?_; intro ob; refine SL.stI tabOk ?_; refine nlx ?_) | (refine rgn 18 ?_; refine SL.v (ValO.mkf [] [.pointer (some ⟨ob, 0, none⟩), .pointer (some ⟨mb, 0, none⟩)]) ?_; refine sEv ?_; refine nlx ?_) | (refine rgn 19 ?_; refine sEv ?_; refine nlx ?_) | (refine zsq ?_; intro _ _) | (with_reducible refine zkN ?_) | (refine useK (by assumption) ?_) | (with_reducible first | refine zsB ?_ | refine zkX ?_ | refine zkR ?_ | refine zbN ?_ | refine zbR ?_ | refine zbE ?_ | refine zbX ?_ | refine zsS ?_ | refine zsR ?_ | refine zsX ?_) | (refine cdT ?_) | (refine cdF ?_))
        refine SP.loopN (fun i l bs => l = [.pointer (some ⟨b, 0, none⟩), nth l 1, nth l 2, nth l 3, nth l 4, nth l 5, .pointer (some ⟨mb, 0, none⟩), nth l 7, .pointer (some ⟨vb, 0, none⟩), nth l 9, nth l 10, .pointer (some ⟨ob, 0, none⟩), .func (.func 82) #[] #[.pointer (some ⟨ob, 0, none⟩), .pointer (some ⟨mb, 0, none⟩)], nth l 13, nth l 14, nth l 15, nth l 16, nth l 17, nth l 18, nth l 19, nth l 20, nth l 21, nth l 22, nth l 23, nth l 24, nth l 25, nth l 26, nth l 27, nth l 28, nth l 29, nth l 30, nth l 31, nth l 32, nth l 33, nth l 34, nth l 35, nth l 36, nth l 37, nth l 38, nth l 39, nth l 40, nth l 41, nth l 42, nth l 43, nth l 44, nth l 45, nth l 46, nth l 47, nth l 48, nth l 49, nth l 50, nth l 51, nth l 52, nth l 53, nth l 54, nth l 55, nth l 56, nth l 57, nth l 58, nth l 59, nth l 60, nth l 61, nth l 62, nth l 63, nth l 64, nth l 65, nth l 66, nth l 67, nth l 68, nth l 69, nth l 70, nth l 71, nth l 72, nth l 73, nth l 74, nth l 75, nth l 76, nth l 77, .agg (ints .u64 blO), .int .i64 ((r : Nat)), nth l 80, nth l 81, nth l 82, .int .i64 ((i : Nat)), nth l 84, nth l 85, nth l 86, nth l 87, nth l 88, nth l 89, nth l 90, nth l 91, nth l 92, nth l 93, nth l 94, nth l 95, nth l 96, nth l 97, nth l 98, nth l 99, nth l 100, nth l 101, nth l 102, nth l 103, nth l 104, nth l 105, nth l 106, nth l 107, nth l 108, nth l 109, nth l 110, nth l 111, nth l 112, nth l 113, nth l 114, nth l 115, nth l 116, nth l 117, nth l 118, nth l 119, nth l 120, nth l 121, nth l 122, nth l 123, nth l 124, nth l 125, nth l 126, nth l 127, nth l 128, nth l 129, nth l 130, nth l 131, nth l 132, nth l 133, nth l 134, nth l 135, nth l 136, nth l 137, nth l 138, nth l 139, nth l 140, nth l 141, nth l 142, nth l 143, nth l 144, nth l 145] ∧ bs = [(ob, ints .u64 [(bri (mI B 16) (bro (mI B 16) V1 r) (gi blO r) i).2], 79), (ib, ints .u32 blS, 116), (vb, ints .u32 ((bri (mI B 16) (bro (mI B 16) V1 r) (gi blO r) i).1), 128), (mb, ints .u32 (mI B 16), 128), (b, hRow sz (H) B n t', 120)]) 8 ⟨rfl, by rw [bri_0]⟩ ?_
        rintro i lfi _ hki ⟨hli, rfl⟩
        refine SP.cast hli ?_
        clear hli
        by_cases hlti : i < 8
        · have hi1 : IntKind.i64.wrap ((i : Int) + 1) = ((i + 1 : Nat) : Int) := by rw [IntWalk.i64_in _ (by omega)]; omega
          repeat (first | (refine rgn 20 ?_; refine sEv ?_; refine nlx ?_) | (refine rgn 21 ?_; refine sEv ?_; refine sEv ?_; refine nlx ?_) | (refine rgn 22 ?_; refine sEv ?_; refine SL.v (v := .int .i64 ((i / 4 : Nat) : Int)) (ValO.ev tabOk (bx4 i hlti)) ?_; refine sEv ?_; refine nlx ?_) | (refine rgn 23 ?_; refine sEv ?_; refine SL.v (v := .int .i64 ((i % 4 : Nat) : Int)) (ValO.ev tabOk (bxa i hlti)) ?_; (iterate 4 refine sEv ?_); refine SL.v (v := .int .i64 ((4 + (i + i / 4) % 4 : Nat) : Int)) (ValO.ev tabOk (bxb i hlti)) ?_; (iterate 5 refine sEv ?_); refine SL.v (v := .int .i64 ((8 + (i + 2 * (i / 4)) % 4 : Nat) : Int)) (ValO.ev tabOk (bxc i hlti)) ?_; (iterate 5 refine sEv ?_); refine SL.v (v := .int .i64 ((12 + (i + 3 * (i / 4)) % 4 : Nat) : Int)) (ValO.ev tabOk (bxd i hlti)) ?_; (iterate 4 refine sEv ?_); refine nlx ?_) | (refine rgn 24 ?_; refine sEv ?_; refine SL.fv1 (i := 0) (b := ob) ent_82 rfl rfl g0 (fun w1 hw1 => bnextS ob mb (bri (mI B 16) (bro (mI B 16) V1 r) (gi blO r) i).2 _ (bri_ok _ _ (blO_ok r hltr) i) (mI B 16) _ _ w1 (mI_length B 16) (hw1.ne g0 g3 (by decide)) (hw1.block (List.mem_of_getElem? (show _ = some (ob, _, _) from g0))) (hw1.block (List.mem_of_getElem? (show _ = some (mb, _, _) from g3)))) stt bpp ?_; refine sEv ?_; refine nlx ?_) | (refine rgn 25 ?_; refine sEv ?_; refine SL.fv1 (i := 0) (b := ob) ent_82 rfl rfl g0 (fun w1 hw1 => bnextS ob mb (oS (bri (mI B 16) (bro (mI B 16) V1 r) (gi blO r) i).2) _ (oS_ok (bri_ok _ _ (blO_ok r hltr) i)) (mI B 16) _ _ w1 (mI_length B 16) (hw1.ne g0 g3 (by decide)) (hw1.block (List.mem_of_getElem? (show _ = some (ob, _, _) from g0))) (hw1.block (List.mem_of_getElem? (show _ = some (mb, _, _) from g3)))) stt bpp ?_; refine sEv ?_; refine nlx ?_) | (refine rgn 27 ?_; refine sEv ?_; refine sEv ?_; refine nlx ?_) | ((with_reducible show SP _ _ _ (Code.region _ _ true) _ _ _); first | (refine SPa (id := 26) [10] [] ([]) [0, 1, 2, 3, 4, 5, 6, 7, 8, 9, 10] follows ?_; refine fPv ?_; refine SF.ixA tabOk ?_; refine fPv ?_; refine SF.ixA tabOk ?_; refine fPv ?_; refine SF.ixA tabOk ?_; refine fPv ?_; refine SF.ixA tabOk ?_; refine fPv ?_; refine fPv ?_; refine SF.call1 rfl (b := vb) ent_83 rfl g2 (fun w1 hw1 => bmix_any vb _ _ _ _ _ _ _ _ w1 (by simp [hl1]) (by omega) (by omega) (by omega) (by omega) (hw1.block (List.mem_of_getElem? (show _ = some (vb, _, _) from g2)))) stt (by first | exact Kept.nil | (simp [Kept]; done)) bpp ?_; refine SF.done ?_)) | (refine zsq ?_; intro _ _) | (with_reducible refine zkN ?_) | (refine useK (by assumption) ?_) | (with_reducible first | refine zsB ?_ | refine zkX ?_ | refine zkR ?_ | refine zbN ?_ | refine zbR ?_ | refine zbE ?_ | refine zbX ?_ | refine zsS ?_ | refine zsR ?_ | refine zsX ?_) | (refine cdT ?_) | (refine cdF ?_))
          simp only [hi1]
          exact ⟨hlti, rfl, by rw [bri_s]⟩
        · have hendi : i = 8 := by omega
          replace hendi := Lib.hid hendi
          repeat (first | (refine rgn 20 ?_; refine sEv ?_; refine nlx ?_) | (refine zsq ?_; intro _ _) | (with_reducible refine zkN ?_) | (refine useK (by assumption) ?_) | (with_reducible first | refine zsB ?_ | refine zkX ?_ | refine zkR ?_ | refine zbN ?_ | refine zbR ?_ | refine zbE ?_ | refine zbX ?_ | refine zsS ?_ | refine zsR ?_ | refine zsX ?_) | (refine cdT ?_) | (refine cdF ?_))
          have hq := hendi.out; clear hendi; subst hq
          refine SP.forget [_] ?_
          repeat (first | (refine rgn 28 ?_; refine sEv ?_; refine sEv ?_; refine nlx ?_) | (refine zsq ?_; intro _ _) | (with_reducible refine zkN ?_) | (refine useK (by assumption) ?_) | (with_reducible first | refine zsB ?_ | refine zkX ?_ | refine zkR ?_ | refine zbN ?_ | refine zbR ?_ | refine zbE ?_ | refine zbX ?_ | refine zsS ?_ | refine zsR ?_ | refine zsX ?_) | (refine cdT ?_) | (refine cdF ?_))
          simp only [hr1]
          exact ⟨hltr, rfl, by rw [bro_s]⟩
      · have hendr : r = 10 := by omega
        replace hendr := Lib.hid hendr
        repeat (first | (refine rgn 16 ?_; refine sEv ?_; refine nlx ?_) | (refine zsq ?_; intro _ _) | (with_reducible refine zkN ?_) | (refine useK (by assumption) ?_) | (with_reducible first | refine zsB ?_ | refine zkX ?_ | refine zkR ?_ | refine zbN ?_ | refine zbR ?_ | refine zbE ?_ | refine zbX ?_ | refine zsS ?_ | refine zsR ?_ | refine zsX ?_) | (refine cdT ?_) | (refine cdF ?_))
        have hq := hendr.out; clear hendr; subst hq
        repeat (first | (refine rgn 29 ?_; refine sEv ?_; refine nlx ?_) | (refine zsq ?_; intro _ _) | (with_reducible refine zkN ?_) | (refine useK (by assumption) ?_) | (with_reducible first | refine zsB ?_ | refine zkX ?_ | refine zkR ?_ | refine zbN ?_ | refine zbR ?_ | refine zbE ?_ | refine zbX ?_ | refine zsS ?_ | refine zsR ?_ | refine zsX ?_) | (refine cdT ?_) | (refine cdF ?_))
        have hbl : ∀ i, (bhI H (bro (mI B 16) V1 10) i).length = 8 := fun i => by simp [hH]
        refine SP.loopN (fun i l bs => l = [.pointer (some ⟨b, 0, none⟩), nth l 1, nth l 2, nth l 3, nth l 4, nth l 5, nth l 6, nth l 7, .pointer (some ⟨vb, 0, none⟩), nth l 9, nth l 10, nth l 11, nth l 12, nth l 13, nth l 14, nth l 15, nth l 16, nth l 17, nth l 18, nth l 19, nth l 20, nth l 21, nth l 22, nth l 23, nth l 24, nth l 25, nth l 26, nth l 27, nth l 28, nth l 29, nth l 30, nth l 31, nth l 32, nth l 33, nth l 34, nth l 35, nth l 36, nth l 37, nth l 38, nth l 39, nth l 40, nth l 41, nth l 42, nth l 43, nth l 44, nth l 45, nth l 46, nth l 47, nth l 48, nth l 49, nth l 50, nth l 51, nth l 52, nth l 53, nth l 54, nth l 55, nth l 56, nth l 57, nth l 58, nth l 59, nth l 60, nth l 61, nth l 62, nth l 63, nth l 64, nth l 65, nth l 66, nth l 67, nth l 68, nth l 69, nth l 70, nth l 71, nth l 72, nth l 73, nth l 74, nth l 75, nth l 76, nth l 77, nth l 78, nth l 79, nth l 80, nth l 81, nth l 82, nth l 83, nth l 84, nth l 85, nth l 86, nth l 87, nth l 88, nth l 89, nth l 90, nth l 91, nth l 92, nth l 93, nth l 94, nth l 95, nth l 96, nth l 97, nth l 98, nth l 99, nth l 100, nth l 101, nth l 102, nth l 103, nth l 104, nth l 105, nth l 106, nth l 107, nth l 108, nth l 109, nth l 110, nth l 111, nth l 112, nth l 113, nth l 114, nth l 115, nth l 116, nth l 117, nth l 118, nth l 119, nth l 120, nth l 121, nth l 122, nth l 123, .int .i64 ((i : Nat)), nth l 125, nth l 126, nth l 127, nth l 128, nth l 129, nth l 130, nth l 131, nth l 132, nth l 133, nth l 134, nth l 135, nth l 136, nth l 137, nth l 138, nth l 139, nth l 140, nth l 141, nth l 142, nth l 143, nth l 144, nth l 145] ∧ bs = [(ib, ints .u32 blS, 116), (vb, ints .u32 (bro (mI B 16) V1 10), 128), (mb, ints .u32 (mI B 16), 128), (b, hRow sz (bhI H (bro (mI B 16) V1 10) i) B n t', 120)]) 8 ⟨rfl, by rw [bhI_0]⟩ ?_
        rintro i lfi _ hki ⟨hli, rfl⟩
        refine SP.cast hli ?_
        clear hli
        by_cases hlti : i < 8
        · have hi1 : IntKind.i64.wrap ((i : Int) + 1) = ((i + 1 : Nat) : Int) := by rw [IntWalk.i64_in _ (by omega)]; omega
          have h8 : some (Value.int .i64 (IntKind.i64.wrap ((i : Int) + 8))) = some (Value.int .i64 ((i + 8 : Nat) : Int)) := by rw [IntWalk.i64_in _ (by omega)]; congr 2 <;> omega
          repeat (first | (refine rgn 30 ?_; refine sEv ?_; refine nlx ?_) | (refine rgn 31 ?_; refine sEv ?_; refine sEv ?_; refine nlx ?_) | (refine rgn 33 ?_; refine sEv ?_; refine sEv ?_; refine nlx ?_) | ((with_reducible show SP _ _ _ (Code.region _ _ true) _ _ _); first | (refine SPa (id := 32) [18] [] ([]) [0, 1, 2, 3, 4, 5, 6, 7, 8, 9, 10, 11, 12, 13, 14, 15, 16, 17, 18] follows ?_; refine fPv ?_; refine fPv ?_; refine SF.nc ?_; refine SF.e tabOk ?_; refine SF.ixA tabOk ?_; refine SF.ldC tabOk ?_ (hv := hr_hj (hbl i) hlti); refine fPv ?_; refine SF.ixA tabOk ?_; refine SF.ldI tabOk ?_; refine fPv ?_; refine SF.v (v := .int .i64 ((i + 8 : Nat) : Int)) (ValO.ev tabOk h8) ?_; refine SF.ixA tabOk ?_; refine SF.ldI tabOk ?_; refine SF.e tabOk ?_; refine SF.e tabOk ?_; refine SF.nc ?_; refine SF.e tabOk ?_; refine SF.ixA tabOk ?_; refine SF.stP tabOk ?_ (hsz := by rw [hr_size (hbl i) hB]; omega) (hA := hr_ph (hbl i) hlti _); refine SF.done ?_)) | (refine zsq ?_; intro _ _) | (with_reducible refine zkN ?_) | (refine useK (by assumption) ?_) | (with_reducible first | refine zsB ?_ | refine zkX ?_ | refine zkR ?_ | refine zbN ?_ | refine zbR ?_ | refine zbE ?_ | refine zbX ?_ | refine zsS ?_ | refine zsR ?_ | refine zsX ?_) | (refine cdT ?_) | (refine cdF ?_))
          simp only [hi1]
          exact ⟨hlti, rfl, by rw [bhI_s]⟩
        · have hendi : i = 8 := by omega
          replace hendi := Lib.hid hendi
          repeat (first | (refine rgn 30 ?_; refine sEv ?_; refine nlx ?_) | (refine zsq ?_; intro _ _) | (with_reducible refine zkN ?_) | (refine useK (by assumption) ?_) | (with_reducible first | refine zsB ?_ | refine zkX ?_ | refine zkR ?_ | refine zbN ?_ | refine zbR ?_ | refine zbE ?_ | refine zbX ?_ | refine zsS ?_ | refine zsR ?_ | refine zsX ?_) | (refine cdT ?_) | (refine cdF ?_))
          have hq := hendi.out; clear hendi; subst hq
          exact doneK.mk rfl ResO.nil ⟨rfl, by rw [← hV1]; repeat (first | exact List.Sublist.refl _ | apply List.Sublist.cons)⟩
end Sp
end
section
open Go Go.RowKit
namespace Sp
open F M
variable {P : Program} {tab : Tab} {w0 : World} {mu : List Nat} {bs : Mem} {l : List Value} {ops : Array Oper} {rest : List Oper} {Q : ExitP} {dst : Option Tmp} {ty : TypeId} {pos : String} {af : Array Edge}
theorem SL.clr (ht : TabOk P tab) {d : Operand} {dT : TypeId} {b off dl dc e by_ sz : Nat} {i : Nat} {A A' : Array Value} {T : TypeId} {bs' : Mem} (hA' : putAt A off (ints .u8 (List.replicate dl 0)).toList = A') (hz : (P.info? e).map (·.zero) = some (some (.int .u8 0))) (h : SL P ops w0 mu rest Q (putL l dst (.tuple #[])) bs') (hA : off + dl ≤ A.size)
    (hd : evL l d = .slice (some ⟨b, off, none⟩) dl dc := by rfl) (hl : look tab dT = some (.sl e 1 by_, sz) := by rfl) (hi : bs[i]? = some (b, A, T) := by exact gbk _) (hbs : bs.set i (b, A', T) = bs' := by exact stt) :
    SL P ops w0 mu (⟨dst, .call { callee := .builtin .clear, args := #[d], argTypes := #[dT] }, ty, pos, af, none⟩ :: rest) Q l bs := by
  subst hbs hA'
  refine ⟨fun W Q' hw hQ => ?_⟩
  refine wpList_plain rfl fun K hK => ?_
  obtain ⟨hu, hsz, _⟩ := td_sl (look_ok ht hl)
  have hb := hw.block (List.mem_of_getElem? hi)
  unfold Oper.wp execOp
  simp only [resolve, Sem.run_bind, Sem.run_pure, Result.andThen_ok, invoke, builtin]
  have ha : (#[d].map (⟨l.toArray, []⟩ : Act).eval) = #[.slice (some ⟨b, off, none⟩) dl dc] := by simp [evL_eq, hd]
  rw [ha]
  cases hq : P.info? e with
  | none => simp [hq] at hz
  | some inf =>
    have hz' : inf.zero = some (.int .u8 0) := by simpa [hq] using hz
    by_cases h0 : dl = 0
    · subst h0
      have hrun : (Builtin.clear_ #[dT] ty #[.slice (some ⟨b, off, none⟩) 0 dc]).run P W = .ok (.tuple #[]) W := by
        simp [Builtin.clear_, run_underlying hu]
      rw [hrun]
      have e1 : putAt A off (ints .u8 (List.replicate 0 0)).toList = A := by
        apply Array.ext_getElem?
        intro j
        rw [putAt_get _ _ _ _ (by simpa [ints] using hA), if_neg (by simp [ints])]
      have e2 : bs.set i (b, A, T) = bs := by
        apply List.ext_getElem?
        intro j
        rw [List.getElem?_set]
        split
        · rename_i hij
          subst hij
          rw [hi, if_pos (List.getElem?_eq_some_iff.1 hi).1]
        · rfl
      rw [e1, e2] at h
      exact hK _ _ (by rw [putL_eq]; exact h.run _ _ hw hQ)
    · have hst := run_storeCells_row (P := P) (ints .u8 (List.replicate dl 0)).toList (fun u hu => ints_mem u hu) 0 W b off A T hb (by simpa [ints] using hA)
      have hzc : (Builtin.zeroCells (Value.int .u8 0).cells dl).toList = (ints .u8 (List.replicate dl 0)).toList := by
        unfold Builtin.zeroCells ints
        apply List.ext_getElem?
        intro j
        simp [Value.cells, List.getElem?_replicate]
        by_cases hj : j < dl
        · rw [List.getElem?_range hj, if_pos hj]; simp [Nat.mod_one]
        · rw [List.getElem?_eq_none (by simp; omega), if_neg hj]; rfl
      have hrun : (Builtin.clear_ #[dT] ty #[.slice (some ⟨b, off, none⟩) dl dc]).run P W = .ok (.tuple #[]) (W.setRow b (putAt A off (ints .u8 (List.replicate dl 0)).toList)) := by
        simp only [Nat.add_zero] at hst
        have hh : ∀ n, dl = n + 1 → (Builtin.clear_ #[dT] ty #[.slice (some ⟨b, off, none⟩) dl dc]).run P W = .ok (.tuple #[]) (W.setRow b (putAt A off (ints .u8 (List.replicate dl 0)).toList)) := by
          intro n hn
          subst hn
          simp [Builtin.clear_, run_underlying hu, zeroValue, typeInfo, hq, hz', hzc, hst]
        exact hh (dl - 1) (by omega)
      rw [hrun]
      exact hK _ _ (by rw [putL_eq]; exact h.run _ _ (hw.setRow hi _) hQ)
theorem SL.cutD (ht : TabOk P tab) {t : TypeId} {x lo : Operand} {k : IntKind} {q : Option Addr} {n c m e by_ sz b : Nat} {B : List Int} (hS : Sl w0 q n c B) (ha : ApartB b q n) (hm : m ≤ n) (h0 : 0 < n) {l' : Option Addr → Nat → List Value} (h : ∀ q' c', Sl w0 q' (n - m) c' (B.drop m) → ApartB b q' (n - m) → SL P ops w0 mu rest Q (l' q' c') bs)
    (hx : evL l x = .slice q n c := by rfl) (hlo : evL l lo = .int k (m : Int) := by rfl) (hl : look tab t = some (.sl e 1 by_, sz) := by rfl) (hp : ∀ q' c', putL l dst (.slice q' (n - m) c') = l' q' c' := by intro _ _; exact bpp) :
    SL P ops w0 mu (⟨dst, .slice t x (some lo) none none, ty, pos, af, none⟩ :: rest) Q l bs := by
  have hc := hS.cap
  obtain ⟨sb, off, A, T, fz, rfl, hh, hL⟩ := hS.at_ h0
  by_cases hcm : c = m
  · refine SL.v (ValO.cutS ht (a := m) (z := n) hx hl (by simp [bnd, hlo]) (by simp [bnd]) hm hc off (n - m) (c - m) (by rw [if_pos hcm]) rfl rfl) ?_ (hp := hp (some ⟨sb, off, none⟩) (c - m))
    exact h _ _ ⟨by rw [List.length_drop, hS.len], by omega, fun h1 => absurd h1 (by omega)⟩ (fun h1 => absurd h1 (by omega))
  · refine SL.v (ValO.cutS ht (a := m) (z := n) hx hl (by simp [bnd, hlo]) (by simp [bnd]) hm hc (off + m * 1) (n - m) (c - m) (by rw [if_neg hcm]) rfl rfl) ?_ (hp := hp (some ⟨sb, off + m * 1, none⟩) (c - m))
    rw [Nat.mul_one]
    exact h _ _ (hS.drop hm) (fun h1 sb' off' hq => by
      simp only [Option.some.injEq, Addr.mk.injEq, and_true] at hq
      exact hq.1 ▸ ha h0 sb off rfl)
end Sp
end
section
open Go Go.RowKit
namespace Sp
open F M
@[irreducible] def bH0 : List Int := blS.set 0 (bits .xor .u32 (gi blS 0) (bits .xor .u32 (bits .xor .u32 16842752 (IntKind.u32.wrap (IntKind.u32.wrap ((0 : Nat) : Int) * 2 ^ (min (Int.toNat 8) IntKind.u32.bits)))) (IntKind.u32.wrap 32)))
theorem bH0_length : bH0.length = 8 := by unfold bH0; simp
attribute [simp] bH0_length
theorem hr_built : Try.prog.built 120 [(0, .int .i64 32), (1, .agg (ints .u32 blS))] = some (hRow 32 blS (List.replicate 64 0) 0 0) := by unfold hRow blS; kernel_rfl
def bwS' (B : List Int) : Nat → List Int × List Int
  | 0 => (bH0, List.replicate 64 0)
  | j + 1 => (if j = 0 then (bwS' B j).1 else blP (bwS' B j).1 (bwS' B j).2 (64 * (j : Int)) false, ov (bwS' B j).2 0 ((B.drop (64 * j)).take 64))
@[irreducible] def bwS (B : List Int) (j : Nat) : List Int × List Int := bwS' B j
theorem bwS_0 (B : List Int) : bwS B 0 = (bH0, List.replicate 64 0) := by unfold bwS; rfl
theorem bwS_s (B : List Int) (j : Nat) : bwS B (j + 1) = (if j = 0 then (bwS B j).1 else blP (bwS B j).1 (bwS B j).2 (64 * (j : Int)) false, ov (bwS B j).2 0 ((B.drop (64 * j)).take 64)) := by unfold bwS; rfl
theorem bwS_len (B : List Int) : ∀ j, (bwS B j).1.length = 8 ∧ (bwS B j).2.length = 64
  | 0 => by rw [bwS_0]; simp
  | j + 1 => by
    have h := bwS_len B j
    rw [bwS_s]
    refine ⟨?_, ?_⟩
    · show (if j = 0 then _ else _ : List Int).length = 8
      split
      · exact h.1
      · rw [blP_length]; exact h.1
    · show (ov _ _ _).length = 64
      rw [ov_length (by rw [h.2]; simp; omega)]
      exact h.2
def bnW (n : Nat) : Nat → Nat
  | 0 => 0
  | j + 1 => min 64 (n - 64 * j)
theorem wr_cp {sz : Int} {H B : List Int} {n t : Int} (hH : H.length = 8) (hB : B.length = 64) {A : Array Value} {off : Nat} {R : List Int} (hL : Lies A off R) {m : Nat} (hm : m ≤ R.length) (hm64 : m ≤ 64) : putAt (hRow sz H B n t) 9 (A.extract off (off + m)).toList = hRow sz H (ov B 0 (R.take m)) n t := by
  rw [hL.extract hm]
  exact hr_pb (k := 0) hH hB (by simp; omega)
set_option maxRecDepth 20000 in
theorem bnew_any (w : World) : Calls Try.prog 51 #[.int .i64 32, .slice none 0 0] w fun e w' => ∃ hb, e = .returned (.tuple #[.pointer (some ⟨hb, 0, none⟩), .int .i64 0]) ∧ OwnM w [] w' [(hb, hRow 32 bH0 (List.replicate 64 0) 0 0, 120)] := by
  unfold bH0
  have tok_hb : True := trivial
  refine (callE (mu := []) Try.func51 Try.ntmps51 Try.results51 (OwnM.start w) (fun v bs => ∃ hb, v = .tuple #[.pointer (some ⟨hb, 0, none⟩), .int .i64 0] ∧ [(hb, hRow 32 (blS.set 0 (bits .xor .u32 (gi blS 0) (bits .xor .u32 (bits .xor .u32 16842752 (IntKind.u32.wrap (IntKind.u32.wrap ((0 : Nat) : Int) * 2 ^ (min (Int.toNat 8) IntKind.u32.bits)))) (IntKind.u32.wrap 32)))) (List.replicate 64 0) 0 0, 120)].Sublist bs) ?_).mono ?_
  · repeat (first | (refine rgn 0 ?_; refine sEv ?_; refine sEv ?_; refine nlx ?_) | (refine rgn 1 ?_; refine sEv ?_; (first | (refine SL.c true tabOk ?_) | (refine SL.c false tabOk ?_) | (refine sEv ?_)); refine sEv ?_; (first | (refine SL.gT ?_; refine sEv ?_) | refine SL.gF ?_); (first | (refine SL.gT ?_; (first | (refine SL.c true tabOk ?_) | (refine SL.c false tabOk ?_) | (refine sEv ?_))) | refine SL.gF ?_); refine sEv ?_; refine sEv ?_; (first | (refine SL.gT ?_; refine sEv ?_) | refine SL.gF ?_); (first | (refine SL.gT ?_; refine SL.v (ValO.len tabOk (by rfl)) ?_) | refine SL.gF ?_); (first | (refine SL.gT ?_; (first | (refine SL.c true tabOk ?_) | (refine SL.c false tabOk ?_) | (refine sEv ?_))) | refine SL.gF ?_); refine sEv ?_; refine nlx ?_) | (refine rgn 3 ?_; refine sEv ?_; refine SL.v (ValO.call ent_71 _ rfl _ (fun w1 _ => blS_any w1)) ?_; refine SL.val (ValO.build (by first | (dsimp only [List.map, evL, nth]; done) | (dsimp only [List.map, evL, nth]; rfl)) (hr_built)) bpp ?_; refine SL.bx ?_; (first | (have _t := tok_hb; clear _t tok_hb; intro hb) | intro _); refine sEv ?_; refine nlx ?_) | (refine rgn 5 ?_; refine sEv ?_; refine SL.v (ValO.len tabOk (by rfl)) ?_; refine sEv ?_; refine nlx ?_) | (refine rgn 8 ?_; (iterate 3 refine sEv ?_); refine nlx ?_) | ((with_reducible show SP _ _ _ (Code.region _ _ true) _ _ _); first | (refine SPa (id := 4) [17] [] ([]) [0, 1, 2, 3, 4, 5, 6, 7, 8, 9, 10, 11, 12, 13, 14, 15, 16, 17] follows ?_; refine fPv ?_; refine SF.nc ?_; refine SF.e tabOk ?_; refine SF.e tabOk ?_; refine SF.ldC tabOk ?_ (hv := hr_hj (j := 0) blS_length (by decide)); refine fPv ?_; refine SF.v (ValO.len tabOk (by rfl)) ?_; refine SF.e tabOk ?_; refine SF.e tabOk ?_; refine SF.e tabOk ?_; refine fPv ?_; refine SF.e tabOk ?_; refine SF.e tabOk ?_; refine SF.e tabOk ?_; refine SF.nc ?_; refine SF.e tabOk ?_; refine SF.e tabOk ?_; refine SF.stP tabOk ?_ (hsz := by rw [hr_size blS_length (by simp)]; decide) (hA := hr_ph (i := 0) blS_length (by decide) _); refine SF.done ?_)) | (refine zsq ?_; intro _ _) | (with_reducible refine zkN ?_) | (refine useK (by assumption) ?_) | (with_reducible first | refine zsB ?_ | refine zkX ?_ | refine zkR ?_ | refine zbN ?_ | refine zbR ?_ | refine zbE ?_ | refine zbX ?_ | refine zsS ?_ | refine zsR ?_ | refine zsX ?_) | (refine cdT ?_) | (refine cdF ?_))
    exact doneK.mk rfl (ResO.tmp2 rfl rfl) ⟨_, rfl, List.Sublist.refl _⟩
  · rintro e w' ⟨v, bs, rfl, ⟨hb, rfl, hs⟩, hw'⟩
    exact ⟨hb, rfl, hw'.sub hs⟩
set_option maxRecDepth 20000 in
theorem bwrite_any (b : Nat) (p : Option Addr) (n c : Nat) (B : List Int) (w : World) (hS : Sl w p n c B) (ha : ApartB b p n) (hmax : n ≤ 140737488355328) (hb : w.heap[b]? = some (.cells (hRow 32 bH0 (List.replicate 64 0) 0 0) 120 (0, 0))) :
    Calls Try.prog 52 #[.pointer (some ⟨b, 0, none⟩), .slice p n c] w fun e w' => e = .returned (.tuple #[]) ∧ OwnM w [b] w' [(b, hRow 32 ((bwS B ((n + 63) / 64)).1) ((bwS B ((n + 63) / 64)).2) ((bnW n ((n + 63) / 64) : Nat)) (64 * (((n + 63) / 64 - 1 : Nat) : Int)), 120)] := by
  refine mutE Try.func52 Try.ntmps52 Try.results52 hb ?_
  repeat (first | (refine rgn 0 ?_; refine sEv ?_; (first | (refine SL.v (ValO.ptrNil tabOk rfl rfl rfl) ?_) | (refine SL.v (ValO.ptrNilT tabOk rfl rfl rfl) ?_)); refine sEv ?_; (first | (refine SL.gT ?_; refine sEv ?_) | refine SL.gF ?_); (first | (refine SL.gT ?_; refine SL.nc ?_) | refine SL.gF ?_); (first | (refine SL.gT ?_; refine sEv ?_) | refine SL.gF ?_); (first | (refine SL.gT ?_; refine SL.ldC tabOk ?_ (hv := hr_s)) | refine SL.gF ?_); (first | (refine SL.gT ?_; (first | (refine SL.c true tabOk ?_) | (refine SL.c false tabOk ?_) | (refine sEv ?_))) | refine SL.gF ?_); refine sEv ?_; refine nlx ?_) | (refine zsq ?_; intro _ _) | (with_reducible refine zkN ?_) | (refine useK (by assumption) ?_) | (with_reducible first | refine zsB ?_ | refine zkX ?_ | refine zkR ?_ | refine zbN ?_ | refine zbR ?_ | refine zbE ?_ | refine zbX ?_ | refine zsS ?_ | refine zsR ?_ | refine zsX ?_) | (refine cdT ?_) | (refine cdF ?_))
  refine SP.loopN (fun k l bs => ∃ q c', l = [.pointer (some ⟨b, 0, none⟩), .slice q (n - 64 * k) c', nth l 2, nth l 3, nth l 4, nth l 5, nth l 6, nth l 7, nth l 8, nth l 9, nth l 10, nth l 11, nth l 12, nth l 13, nth l 14, nth l 15, nth l 16, nth l 17, nth l 18, nth l 19, nth l 20, nth l 21, nth l 22, nth l 23, nth l 24, nth l 25, nth l 26, nth l 27, nth l 28, nth l 29, nth l 30, nth l 31, nth l 32, nth l 33, nth l 34, nth l 35, nth l 36, nth l 37, nth l 38, nth l 39, nth l 40, nth l 41, nth l 42, nth l 43, nth l 44, nth l 45, nth l 46, nth l 47] ∧ bs = [(b, hRow 32 ((bwS B k).1) ((bwS B k).2) ((bnW n k : Nat)) (64 * ((k - 1 : Nat) : Int)), 120)] ∧ Sl w q (n - 64 * k) c' (B.drop (64 * k)) ∧ ApartB b q (n - 64 * k)) ((n + 63) / 64) ⟨p, c, rfl, by rw [bwS_0]; rfl, hS, ha⟩ ?_
  have hBl := hS.len
  clear hS ha
  rintro k lfk _ hkk ⟨q, c', hlk, rfl, hS, ha⟩
  refine SP.cast hlk ?_
  clear hlk
  by_cases hltk : k < (n + 63) / 64
  · obtain ⟨sb, off, A, T2, fz, rfl, hh, hL⟩ := hS.at_ (by omega)
    have hne : sb ∉ [b] := by simp; exact ha (by omega) sb off rfl
    have hRl := hS.len
    obtain ⟨m, hm⟩ : ∃ m, m = min 64 (n - 64 * k) := ⟨_, rfl⟩
    have htk : (B.drop (64 * k)).take 64 = (B.drop (64 * k)).take m := by rw [hm]; rw [List.take_eq_take_iff]; rw [hRl]; omega
    have hbn : bnW n (k + 1) = m := by rw [hm]; rfl
    have hw1 : IntKind.i64.wrap ((0 : Int) + (m : Int)) = ((bnW n (k + 1) : Nat) : Int) := by rw [hbn, IntWalk.i64_in _ (by omega)]; omega
    have hw0 : IntKind.i64.wrap (((0 : Nat) : Int) + (m : Int)) = ((bnW n (k + 1) : Nat) : Int) := hw1
    have hm2 : n - 64 * k - m = n - 64 * (k + 1) := by omega
    have hd2 : (B.drop (64 * k)).drop m = B.drop (64 * (k + 1)) := by
      rw [List.drop_drop]
      by_cases h64 : 64 ≤ n - 64 * k
      · congr 1; omega
      · rw [List.drop_eq_nil_of_le (by omega), List.drop_eq_nil_of_le (by omega)]
    have e2 : (bwS B (k + 1)).2 = ov (bwS B k).2 0 ((B.drop (64 * k)).take m) := by rw [bwS_s, ← htk]
    have hov8 : (ov (bwS B k).2 0 ((B.drop (64 * k)).take m)).length = 64 := by rw [ov_length (by rw [(bwS_len B k).2]; simp; omega)]; exact (bwS_len B k).2
    have hP8 : (blP (bwS B k).1 (bwS B k).2 (64 * (k : Int)) false).length = 8 := by rw [blP_length]; exact (bwS_len B k).1
    by_cases h0 : k = 0
    · rw [show bnW n k = 0 by rw [h0]; rfl]
      repeat (first | (refine rgn 1 ?_; refine sEv ?_; refine SL.v (ValO.len tabOk (by rfl)) ?_; refine sEv ?_; refine nlx ?_) | (refine rgn 2 ?_; refine sEv ?_; refine SL.nc ?_; refine sEv ?_; refine SL.ldC tabOk ?_ (hv := hr_n (bwS_len B k).1 (bwS_len B k).2); refine sEv ?_; refine nlx ?_) | (refine rgn 6 ?_; refine sEv ?_; refine SL.nc ?_; refine sEv ?_; refine SL.ldC tabOk ?_ (hv := hr_n (bwS_len B k).1 hov8); refine sEv ?_; refine sEv ?_; refine SL.nc ?_; refine sEv ?_; refine SL.stP tabOk ?_ (hsz := by rw [hr_size (bwS_len B k).1 hov8]; decide) (hA := hr_pn (bwS_len B k).1 hov8 _); refine nlx ?_) | (refine rgn 7 ?_; refine sEv ?_; refine sEv ?_; refine SL.cutD (m := m) tabOk hS ha (by omega) (by omega) (fun q' c' hS' ha' => ?_); refine sEv ?_; refine nlx ?_) | ((with_reducible show SP _ _ _ (Code.region _ _ true) _ _ _); first | (refine SPa (id := 5) [9] [] ([]) [0, 1, 2, 3, 4, 5, 6, 7, 8, 9, 10] follows ?_; refine fPv ?_; refine SF.nc ?_; refine SF.e tabOk ?_; refine fPv ?_; refine SF.nc ?_; refine SF.e tabOk ?_; refine SF.ldC tabOk ?_ (hv := hr_n (bwS_len B k).1 (bwS_len B k).2); refine SF.ctA tabOk 0 64 ?_; refine fPv ?_; refine SF.cp tabOk m (wr_cp (bwS_len B k).1 (bwS_len B k).2 hL (by omega) (by omega)) ?_ (hr := RdA.old hh hne) (hn := by omega) (hA := by rw [hr_size (bwS_len B k).1 (bwS_len B k).2]; omega) (hB := hL.size (by omega) (by omega)) (h1 := by rw [hL.extract (by omega)]; exact ints_mem); refine fPv ?_; refine SF.done ?_)) | (refine zsq ?_; intro _ _) | (with_reducible refine zkN ?_) | (refine useK (by assumption) ?_) | (with_reducible first | refine zsB ?_ | refine zkX ?_ | refine zkR ?_ | refine zbN ?_ | refine zbR ?_ | refine zbE ?_ | refine zbX ?_ | refine zsS ?_ | refine zsR ?_ | refine zsX ?_) | (refine cdT ?_) | (refine cdF ?_))
      rw [hm2]
      rw [hm2, hd2] at hS'
      rw [hm2] at ha'
      have e1 : (bwS B (k + 1)).1 = (bwS B k).1 := by rw [bwS_s]; exact if_pos h0
      exact ⟨hltk, q', c', rfl, by rw [e1, e2, hw0, show 64 * ((k - 1 : Nat) : Int) = 64 * ((k + 1 - 1 : Nat) : Int) by omega], hS', ha'⟩
    · have hn64 : bnW n k = 64 := by obtain ⟨j, rfl⟩ : ∃ j, k = j + 1 := ⟨k - 1, by omega⟩; have hj : bnW n (j + 1) = min 64 (n - 64 * j) := rfl; omega
      have ht : IntKind.u64.wrap (64 * ((k - 1 : Nat) : Int) + IntKind.u64.wrap 64) = 64 * (k : Int) := by rw [show IntKind.u64.wrap 64 = 64 from rfl, IntKind.wrap_u64]; omega
      rw [hn64]
      repeat (first | (refine rgn 1 ?_; refine sEv ?_; refine SL.v (ValO.len tabOk (by rfl)) ?_; refine sEv ?_; refine nlx ?_) | (refine rgn 2 ?_; refine sEv ?_; refine SL.nc ?_; refine sEv ?_; refine SL.ldC tabOk ?_ (hv := hr_n (bwS_len B k).1 (bwS_len B k).2); refine sEv ?_; refine nlx ?_) | (refine rgn 3 ?_; refine sEv ?_; refine SL.call1 (b := b) ent_72 rfl g0 (fun w1 hw1 => press_any b 32 _ _ _ _ 64 false (bwS_len B k).1 (bwS_len B k).2 w1 (hw1.block (List.mem_of_getElem? (show _ = some (b, _, _) from g0)))) stt bpp ?_; rw [ht]; refine nlx ?_) | (refine rgn 4 ?_; refine sEv ?_; refine SL.nc ?_; refine sEv ?_; refine SL.stP tabOk ?_ (hsz := by rw [hr_size hP8 (bwS_len B k).2]; decide) (hA := hr_pn hP8 (bwS_len B k).2 _); refine nlx ?_) | (refine rgn 6 ?_; refine sEv ?_; refine SL.nc ?_; refine sEv ?_; refine SL.ldC tabOk ?_ (hv := hr_n hP8 hov8); refine sEv ?_; refine sEv ?_; refine SL.nc ?_; refine sEv ?_; refine SL.stP tabOk ?_ (hsz := by rw [hr_size hP8 hov8]; decide) (hA := hr_pn hP8 hov8 _); refine nlx ?_) | (refine rgn 7 ?_; refine sEv ?_; refine sEv ?_; refine SL.cutD (m := m) tabOk hS ha (by omega) (by omega) (fun q' c' hS' ha' => ?_); refine sEv ?_; refine nlx ?_) | ((with_reducible show SP _ _ _ (Code.region _ _ true) _ _ _); first | (refine SPa (id := 5) [9] [] ([]) [0, 1, 2, 3, 4, 5, 6, 7, 8, 9, 10] follows ?_; refine fPv ?_; refine SF.nc ?_; refine SF.e tabOk ?_; refine fPv ?_; refine SF.nc ?_; refine SF.e tabOk ?_; refine SF.ldC tabOk ?_ (hv := hr_n hP8 (bwS_len B k).2); refine SF.ctA tabOk 0 64 ?_; refine fPv ?_; refine SF.cp tabOk m (wr_cp hP8 (bwS_len B k).2 hL (by omega) (by omega)) ?_ (hr := RdA.old hh hne) (hn := by omega) (hA := by rw [hr_size hP8 (bwS_len B k).2]; omega) (hB := hL.size (by omega) (by omega)) (h1 := by rw [hL.extract (by omega)]; exact ints_mem); refine fPv ?_; refine SF.done ?_)) | (refine zsq ?_; intro _ _) | (with_reducible refine zkN ?_) | (refine useK (by assumption) ?_) | (with_reducible first | refine zsB ?_ | refine zkX ?_ | refine zkR ?_ | refine zbN ?_ | refine zbR ?_ | refine zbE ?_ | refine zbX ?_ | refine zsS ?_ | refine zsR ?_ | refine zsX ?_) | (refine cdT ?_) | (refine cdF ?_))
      rw [hm2]
      rw [hm2, hd2] at hS'
      rw [hm2] at ha'
      have e1 : (bwS B (k + 1)).1 = blP (bwS B k).1 (bwS B k).2 (64 * (k : Int)) false := by rw [bwS_s]; exact if_neg h0
      exact ⟨hltk, q', c', rfl, by rw [e1, e2, hw1, show 64 * (k : Int) = 64 * ((k + 1 - 1 : Nat) : Int) by omega], hS', ha'⟩
  · have hendk : k = (n + 63) / 64 := by omega
    have hz : n - 64 * k = 0 := by omega
    rw [hz]
    replace hendk := Lib.hid hendk
    repeat (first | (refine rgn 1 ?_; refine sEv ?_; refine SL.v (ValO.len tabOk (by rfl)) ?_; refine sEv ?_; refine nlx ?_) | (refine zsq ?_; intro _ _) | (with_reducible refine zkN ?_) | (refine useK (by assumption) ?_) | (with_reducible first | refine zsB ?_ | refine zkX ?_ | refine zkR ?_ | refine zbN ?_ | refine zbR ?_ | refine zbE ?_ | refine zbX ?_ | refine zsS ?_ | refine zsR ?_ | refine zsX ?_) | (refine cdT ?_) | (refine cdF ?_))
    have hq := hendk.out; subst hq
    exact doneK.mk rfl ResO.nil ⟨rfl, List.Sublist.refl _⟩
end Sp
end
end Go.Proofs.Ytdjecenggngdjaa
