/-
  PolyEqual: Same answers as the chapter says when the slices share a row. No conditions.
-/
import Derived.Test.YtngbfamlhlhbmaaPolyS
import Derived.Test.YtngbfamlhlhbmaaLawS
import Derived.Test.YtngbfamlhlhbmaaSlA
namespace Go.Proofs.Ytngbfamlhlhbmaa
set_option linter.unusedSimpArgs false
set_option linter.unusedVariables false
open Go Go.RowKit

open Go.ChangeShapes Go.WideShapes Go.ChangeAt Sp F M
theorem or_zero {x y : Int} (hx : 0 ≤ x ∧ x < 256) (hy : 0 ≤ y ∧ y < 256) : (bits .or .u8 x y = 0 ↔ x = 0 ∧ y = 0) ∧ 0 ≤ bits .or .u8 x y ∧ bits .or .u8 x y < 256 := by
  obtain ⟨a, rfl⟩ := Int.eq_ofNat_of_zero_le hx.1
  obtain ⟨b, rfl⟩ := Int.eq_ofNat_of_zero_le hy.1
  rw [u8_or_nat a b (by omega) (by omega)]
  have h := Nat.or_lt_two_pow (n := 8) (x := a) (y := b) (by omega) (by omega)
  have h0 : a ||| b = 0 ↔ a = 0 ∧ b = 0 := Nat.or_eq_zero_iff
  omega
theorem xor_zero {x y : Int} (hx : 0 ≤ x ∧ x < 256) (hy : 0 ≤ y ∧ y < 256) : (bits .xor .u8 x y = 0 ↔ x = y) ∧ 0 ≤ bits .xor .u8 x y ∧ bits .xor .u8 x y < 256 := by
  obtain ⟨a, rfl⟩ := Int.eq_ofNat_of_zero_le hx.1
  obtain ⟨b, rfl⟩ := Int.eq_ofNat_of_zero_le hy.1
  rw [u8_xor_nat a b (by omega) (by omega)]
  have h := Nat.xor_lt_two_pow (n := 8) (x := a) (y := b) (by omega) (by omega)
  have h0 : a ^^^ b = 0 ↔ a = b := by
    constructor
    · intro h
      have h2 : a ^^^ b ^^^ b = 0 ^^^ b := by rw [h]
      rw [Nat.xor_assoc, Nat.xor_self, Nat.xor_zero, Nat.zero_xor] at h2
      exact h2
    · intro h
      rw [h, Nat.xor_self]
  omega
theorem smI_val {A B : List Int} (hA : Byts A) (hB : Byts B) : ∀ k, (smI A B k = 0 ↔ ∀ j, j < k → gi A j = gi B j) ∧ 0 ≤ smI A B k ∧ smI A B k < 256
  | 0 => by rw [smI_0]; exact ⟨⟨fun _ j hj => absurd hj (Nat.not_lt_zero j), fun _ => rfl⟩, by omega, by omega⟩
  | k + 1 => by
    obtain ⟨h1, h2⟩ := smI_val hA hB k
    obtain ⟨x1, x2⟩ := xor_zero (hA k) (hB k)
    obtain ⟨o1, o2⟩ := or_zero h2 x2
    rw [smI_s]
    refine ⟨?_, o2⟩
    rw [o1, h1, x1]
    constructor
    · rintro ⟨ha, hb⟩ j hj
      rcases Nat.lt_or_ge j k with h | h
      · exact ha j h
      · rw [show j = k by omega]; exact hb
    · intro h
      exact ⟨fun j hj => h j (by omega), h k (by omega)⟩
theorem same_val {A B : List Int} {n m : Nat} (hA : Byts A) (hB : Byts B) (lA : A.length = n) (lB : B.length = m) : (decide (n = m) && (smI A B n == 0)) = decide (A = B) := by
  by_cases h : A = B
  · subst h
    rw [decide_eq_true rfl, decide_eq_true (by omega), ((smI_val hA hA n).1).2 (fun _ _ => rfl)]
    rfl
  · rw [decide_eq_false h]
    by_cases hnm : n = m
    · rw [decide_eq_true hnm, Bool.true_and, beq_eq_false_iff_ne]
      intro hz
      exact h (rsame_any_ext (by omega) (fun j hj => ((smI_val hA hB n).1).1 hz j (by omega)))
    · rw [decide_eq_false hnm, Bool.false_and]
theorem psame_h (p q : Option Addr) (n m c d : Nat) (A B : List Int) (bA : Byts A) (bB : Byts B) (w : World) (hA : Sl w p n c A) (hB : Sl w q m d B) (hmax : n ≤ 140737488355328) : Calls Try.prog 24 #[.slice p n c, .slice q m d] w fun e w' => e = .returned (.bool (decide (A = B))) ∧ Below w.heap.size w w' := by
  rw [← same_val bA bB hA.len hB.len]
  exact psame_any p q n m c d A B w hA hB hmax
theorem psame_t (p q : Option Addr) (n c d : Nat) (A : List Int) (bA : Byts A) (w : World) (hA : Sl w p n c A) (hB : Sl w q n d A) (hmax : n ≤ 140737488355328) : Calls Try.prog 24 #[.slice p n c, .slice q n d] w fun e w' => e = .returned (.bool true) ∧ Below w.heap.size w w' := by
  have := psame_h p q n n c d A A bA bA w hA hB hmax
  rwa [decide_eq_true rfl] at this
theorem psame_f (p q : Option Addr) (n m c d : Nat) (A B : List Int) (w : World) (hA : Sl w p n c A) (hB : Sl w q m d B) (hne : n ≠ m) (hmax : n ≤ 140737488355328) : Calls Try.prog 24 #[.slice p n c, .slice q m d] w fun e w' => e = .returned (.bool false) ∧ Below w.heap.size w w' := by
  have := psame_any p q n m c d A B w hA hB hmax
  rwa [decide_eq_false hne, Bool.false_and] at this
theorem set_same {A : List Int} {k : Nat} {y : Int} (hA : Byts A) (hk : k < A.length) (hy : 0 ≤ y ∧ y < 256) : (decide (A = A.set k (bits .xor .u8 (gi A k) y)) == (y == (0 : Int))) = true := by
  rw [beq_iff_eq]
  refine decide_eq_decide.2 ?_
  have hx := xor_zero (hA k) hy
  obtain ⟨a, ha⟩ := Int.eq_ofNat_of_zero_le (hA k).1
  obtain ⟨b, hb⟩ := Int.eq_ofNat_of_zero_le hy.1
  have ha2 := (hA k).2
  rw [ha] at ha2
  have hb2 := hy.2
  rw [hb] at hb2
  have key : bits .xor .u8 (gi A k) y = gi A k ↔ y = 0 := by
    rw [ha, hb, u8_xor_nat a b (by omega) (by omega)]
    constructor
    · intro h
      have h1 : a ^^^ b = a := by exact_mod_cast h
      have h2 : a ^^^ (a ^^^ b) = a ^^^ a := by rw [h1]
      rw [← Nat.xor_assoc, Nat.xor_self, Nat.zero_xor] at h2
      omega
    · intro h
      have h1 : b = 0 := by omega
      rw [h1, Nat.xor_zero]
  constructor
  · intro h
    refine key.1 ?_
    have h1 := congrArg (fun L => gi L k) h
    simp only [gi_same _ _ _ hk] at h1
    exact h1.symm
  · intro h
    rw [key.2 h]
    unfold gi
    apply List.ext_getElem?
    intro j
    rw [List.getElem?_set]
    split
    · next h2 => subst h2; simp [hk]
    · rfl
theorem byts_set' {A : List Int} {k : Nat} {y : Int} (hA : Byts A) (hk : k < A.length) (hy : 0 ≤ y ∧ y < 256) : Byts (A.set k (bits .xor .u8 (gi A k) y)) := by
  intro j
  by_cases h : j = k
  · subst h; rw [gi_same _ _ _ hk]; exact (xor_zero (hA j) hy).2
  · rw [gi_upd _ _ _ _ h]; exact hA j
theorem Lies.front (B M J : List Int) : Lies (ints .u8 (B ++ M ++ J)) 0 B := by rw [List.append_assoc]; exact Lies.row _ _
theorem gi_app_l {B J : List Int} {k : Nat} (h : k < B.length) : gi (B ++ J) k = gi B k := by unfold gi; rw [List.getD_eq_getElem?_getD, List.getD_eq_getElem?_getD, List.getElem?_append_left h]
theorem app_set {B J : List Int} {k : Nat} {y : Int} (h : k < B.length) : ([] ++ B ++ J).set k (bits .xor .u8 (gi ([] ++ B ++ J) k) y) = B.set k (bits .xor .u8 (gi B k) y) ++ J := by
  rw [List.nil_append, List.set_append_left _ _ h, gi_app_l h]
set_option maxRecDepth 20000 in
set_option maxHeartbeats 2000000 in
theorem polyEqual_nil (p : Option Addr) (c : Nat) (a y : Int) {w : World}  :
    Calls Try.prog 12 #[.slice p 0 c, .int .i64 a, .int .u8 y] w fun e w' => e = .returned (.bool true) ∧ Below w.heap.size w w' := by
  refine pure_of_SP Try.func12 rfl [.slice p 0 c, .int .i64 a, .int .u8 y, undef, undef, undef, undef, undef, undef, undef, undef, undef, undef, undef, undef, undef, undef, undef, undef, undef, undef, undef, undef, undef, undef, undef, undef, undef, undef, undef, undef, undef, undef, undef, undef, undef, undef, undef, undef, undef, undef, undef, undef, undef, undef, undef, undef, undef, undef, undef, undef, undef, undef, undef, undef, undef, undef, undef, undef, undef, undef] (by simp only [Try.ntmps12, List.size_toArray, List.length_cons, List.length_nil, Nat.reduceAdd, Nat.reduceSub, Array.replicate_succ, Array.replicate_zero, List.push_toArray, List.append_toArray, List.nil_append, List.cons_append]) _ Try.results12 _ ?_
  by_cases hneg : a < 0
  all_goals
    repeat (first | ((with_reducible refine SP.region (id := 0) ?_); refine SL.e tabOk ?_; (with_reducible refine SL.nil ?_)) | ((with_reducible refine SP.region (id := 1) ?_); refine SL.v (ValO.call ent_18 _ rfl _ (fun w1 hw1 => works_any w1)) ?_; refine SL.e tabOk ?_; (with_reducible refine SL.nil ?_)) | ((with_reducible refine SP.region (id := 3) ?_); refine SL.e tabOk ?_; (with_reducible refine SL.nil ?_)) | ((with_reducible refine SP.region (id := 4) ?_); refine SL.e tabOk ?_; refine SL.e tabOk ?_; refine SL.app00 tabOk ?_; refine SL.e tabOk ?_; (with_reducible refine SL.nil ?_)) | ((with_reducible refine SP.region (id := 5) ?_); refine SL.e tabOk ?_; refine SL.build1 tabOk zero_u8 (fun ob => ?_); refine SL.app0 tabOk (Lies.whole [0]) (by decide) (by decide) (fun nb cap hcap => ?_) zero_u8 (n := 1) rfl; refine SL.e tabOk ?_; (with_reducible refine SL.nil ?_)) | ((with_reducible refine SP.region (id := 6) ?_); refine SL.e tabOk ?_; refine SL.e tabOk ?_; refine SL.e tabOk ?_; refine SL.v (ValO.len tabOk (by rfl)) ?_; refine SL.ctS tabOk 0 _ ?_; refine SL.v (ValO.call ent_24 _ rfl _ (fun w1 hw1 => psame_t p _ 0 c _ [] byts_nil w1 (Sl.nil w1 p c) (Sl.nil w1 _ _) (by omega))) ?_; refine SL.e tabOk ?_; refine SL.e tabOk ?_; (first | (refine SL.gT ?_; refine SL.e tabOk ?_) | refine SL.gF ?_); (first | (refine SL.gT ?_; refine SL.e tabOk ?_) | refine SL.gF ?_); (first | (refine SL.gT ?_; refine SL.v (ValO.call ent_24 _ rfl _ (fun w1 hw1 => psame_f p _ 0 1 c _ [] [0] w1 (Sl.nil w1 p c) (Sl.of hw1 (RdA.own g0) (Lies.row [0] _) rfl hcap) (by omega) (by omega))) ?_) | refine SL.gF ?_); refine SL.e tabOk ?_; refine SL.e tabOk ?_; (first | (refine SL.gT ?_; refine SL.e tabOk ?_) | refine SL.gF ?_); (first | (refine SL.gT ?_; refine SL.e tabOk ?_) | refine SL.gF ?_); (first | (refine SL.gT ?_; refine SL.v (ValO.call ent_24 _ rfl _ (fun w1 hw1 => psame_f _ p 1 0 _ c [0] [] w1 (Sl.of hw1 (RdA.own g0) (Lies.row [0] _) rfl hcap) (Sl.nil w1 p c) (by omega) (by omega))) ?_) | refine SL.gF ?_); refine SL.e tabOk ?_; (with_reducible refine SL.nil ?_)) | ((with_reducible refine SP.region (id := 8) ?_); refine SL.e tabOk ?_; (first | (refine SL.c true tabOk ?_) | (refine SL.c false tabOk ?_) | (refine SL.e tabOk ?_)); refine SL.e tabOk ?_; (first | (refine SL.gT ?_; refine SL.e tabOk ?_) | refine SL.gF ?_); (first | (refine SL.gT ?_; refine SL.e tabOk ?_) | refine SL.gF ?_); (first | (refine SL.gT ?_; refine SL.v (ValO.len tabOk (by rfl)) ?_) | refine SL.gF ?_); (first | (refine SL.gT ?_; (first | (refine SL.c true tabOk ?_) | (refine SL.c false tabOk ?_) | (refine SL.e tabOk ?_))) | refine SL.gF ?_); refine SL.e tabOk ?_; (with_reducible refine SL.nil ?_)) | ((with_reducible refine SP.region (id := 9) ?_); refine SL.e tabOk ?_; (with_reducible refine SL.nil ?_)) | ((with_reducible refine SP.seqK ?_); intro _ _) | (with_reducible refine thenK_normal ?_) | (refine useK (by assumption) ?_) | (with_reducible refine SP.block ?_) | (with_reducible refine thenK_exit ?_) | (with_reducible refine thenK_ret ?_) | (with_reducible refine blockK_normal ?_) | (with_reducible refine blockK_ret ?_) | (with_reducible refine blockK_eq ?_) | (with_reducible refine blockK_ne rfl ?_) | (with_reducible refine SP.skip ?_) | (with_reducible refine SP.ret ?_) | (with_reducible refine SP.exit ?_) | ((with_reducible show SP _ _ _ (Code.cond _ _ _) _ _ _); first | (refine SP.condT rfl (by first | rfl | (simp only [decide_eq_true_eq, beq_iff_eq, bne_iff_ne]; first | done | omega)) ?_) | (refine SP.condF rfl (by first | rfl | (simp only [decide_eq_false_iff_not, beq_eq_false_iff_ne, bne_eq_false_iff_eq]; first | done | omega)) ?_)))
    exact doneK.mk rfl (ResO.tmp rfl) rfl
set_option maxRecDepth 20000 in
set_option maxHeartbeats 2000000 in
theorem polyEqual_out (sb so n c : Nat) (B : List Int) (a y : Int) {w : World} (hS : Sl w (some ⟨sb, so, none⟩) n c B) (hB : Byts B) (hn : n ≤ 140737488351232) (h0 : 0 < n) (ha : a < 0 ∨ (n : Int) ≤ a) :
    Calls Try.prog 12 #[.slice (some ⟨sb, so, none⟩) n c, .int .i64 a, .int .u8 y] w fun e w' => e = .returned (.bool true) ∧ Below w.heap.size w w' := by
  have hlen := hS.len
  have hcp := hS.cap
  obtain ⟨s2, o2, A2, T2, z2, hpp, hs2, hLB⟩ := hS.at_ h0
  simp only [Option.some.injEq, Addr.mk.injEq, and_true] at hpp
  obtain ⟨rfl, rfl⟩ := hpp
  refine pure_of_SP Try.func12 rfl [.slice (some ⟨sb, so, none⟩) n c, .int .i64 a, .int .u8 y, undef, undef, undef, undef, undef, undef, undef, undef, undef, undef, undef, undef, undef, undef, undef, undef, undef, undef, undef, undef, undef, undef, undef, undef, undef, undef, undef, undef, undef, undef, undef, undef, undef, undef, undef, undef, undef, undef, undef, undef, undef, undef, undef, undef, undef, undef, undef, undef, undef, undef, undef, undef, undef, undef, undef, undef, undef, undef] (by simp only [Try.ntmps12, List.size_toArray, List.length_cons, List.length_nil, Nat.reduceAdd, Nat.reduceSub, Array.replicate_succ, Array.replicate_zero, List.push_toArray, List.append_toArray, List.nil_append, List.cons_append]) _ Try.results12 _ ?_
  by_cases hneg : a < 0
  all_goals
    repeat (first | ((with_reducible refine SP.region (id := 0) ?_); refine SL.e tabOk ?_; (with_reducible refine SL.nil ?_)) | ((with_reducible refine SP.region (id := 1) ?_); refine SL.v (ValO.call ent_18 _ rfl _ (fun w1 hw1 => works_any w1)) ?_; refine SL.e tabOk ?_; (with_reducible refine SL.nil ?_)) | ((with_reducible refine SP.region (id := 3) ?_); refine SL.e tabOk ?_; (with_reducible refine SL.nil ?_)) | ((with_reducible refine SP.region (id := 4) ?_); refine SL.e tabOk ?_; refine SL.e tabOk ?_; refine SL.app0 tabOk hLB (by omega) (by omega) (fun nb0 cap0 hcap0 => ?_) zero_u8 hlen; refine SL.e tabOk ?_; (with_reducible refine SL.nil ?_)) | ((with_reducible refine SP.region (id := 5) ?_); refine SL.e tabOk ?_; refine SL.build1 tabOk zero_u8 (fun ob => ?_); refine SL.appOwn tabOk (i := 1) (n := n) (cap := cap0) (m := 1) (B := B) (J := List.replicate (cap0 - B.length) 0) (M := [0]) (xv := .slice (some ⟨ob, 0, none⟩) 1 1) (nm := n + 1) rfl hlen (by simp; omega) rfl (by omega) (fun w1 hw1 => src_of Try.underlying24 hw1 (RdA.own g0) (Lies.whole [0])) (fun nb cap J T hcap => ?_) zero_u8; refine SL.e tabOk ?_; (with_reducible refine SL.nil ?_)) | ((with_reducible refine SP.region (id := 6) ?_); refine SL.e tabOk ?_; refine SL.e tabOk ?_; refine SL.e tabOk ?_; refine SL.v (ValO.len tabOk (by rfl)) ?_; refine SL.ctS tabOk 0 _ ?_; refine SL.v (ValO.call ent_24 _ rfl _ (fun w1 hw1 => psame_t _ _ n c _ B hB w1 (hS.old hw1.below) (Sl.of hw1 (RdA.own g0) (Lies.front B [0] J) hlen (by omega)) (by omega))) ?_; refine SL.e tabOk ?_; refine SL.e tabOk ?_; (first | (refine SL.gT ?_; refine SL.e tabOk ?_) | refine SL.gF ?_); (first | (refine SL.gT ?_; refine SL.e tabOk ?_) | refine SL.gF ?_); (first | (refine SL.gT ?_; refine SL.v (ValO.call ent_24 _ rfl _ (fun w1 hw1 => psame_f _ _ n (n + 1) c _ B (B ++ [0]) w1 (hS.old hw1.below) (Sl.of hw1 (RdA.own g0) (Lies.row (B ++ [0]) J) (by simp [hlen]) (by omega)) (by omega) (by omega))) ?_) | refine SL.gF ?_); refine SL.e tabOk ?_; refine SL.e tabOk ?_; (first | (refine SL.gT ?_; refine SL.e tabOk ?_) | refine SL.gF ?_); (first | (refine SL.gT ?_; refine SL.e tabOk ?_) | refine SL.gF ?_); (first | (refine SL.gT ?_; refine SL.v (ValO.call ent_24 _ rfl _ (fun w1 hw1 => psame_f _ _ (n + 1) n _ c (B ++ [0]) B w1 (Sl.of hw1 (RdA.own g0) (Lies.row (B ++ [0]) J) (by simp [hlen]) (by omega)) (hS.old hw1.below) (by omega) (by omega))) ?_) | refine SL.gF ?_); refine SL.e tabOk ?_; (with_reducible refine SL.nil ?_)) | ((with_reducible refine SP.region (id := 8) ?_); refine SL.e tabOk ?_; (first | (refine SL.c true tabOk ?_) | (refine SL.c false tabOk ?_) | (refine SL.e tabOk ?_)); refine SL.e tabOk ?_; (first | (refine SL.gT ?_; refine SL.e tabOk ?_) | refine SL.gF ?_); (first | (refine SL.gT ?_; refine SL.e tabOk ?_) | refine SL.gF ?_); (first | (refine SL.gT ?_; refine SL.v (ValO.len tabOk (by rfl)) ?_) | refine SL.gF ?_); (first | (refine SL.gT ?_; (first | (refine SL.c true tabOk ?_) | (refine SL.c false tabOk ?_) | (refine SL.e tabOk ?_))) | refine SL.gF ?_); refine SL.e tabOk ?_; (with_reducible refine SL.nil ?_)) | ((with_reducible refine SP.region (id := 9) ?_); refine SL.e tabOk ?_; (with_reducible refine SL.nil ?_)) | ((with_reducible refine SP.seqK ?_); intro _ _) | (with_reducible refine thenK_normal ?_) | (refine useK (by assumption) ?_) | (with_reducible refine SP.block ?_) | (with_reducible refine thenK_exit ?_) | (with_reducible refine thenK_ret ?_) | (with_reducible refine blockK_normal ?_) | (with_reducible refine blockK_ret ?_) | (with_reducible refine blockK_eq ?_) | (with_reducible refine blockK_ne rfl ?_) | (with_reducible refine SP.skip ?_) | (with_reducible refine SP.ret ?_) | (with_reducible refine SP.exit ?_) | ((with_reducible show SP _ _ _ (Code.cond _ _ _) _ _ _); first | (refine SP.condT rfl (by first | rfl | (simp only [decide_eq_true_eq, beq_iff_eq, bne_iff_ne]; first | done | omega)) ?_) | (refine SP.condF rfl (by first | rfl | (simp only [decide_eq_false_iff_not, beq_eq_false_iff_ne, bne_eq_false_iff_eq]; first | done | omega)) ?_)))
    exact doneK.mk rfl (ResO.tmp rfl) rfl
set_option maxRecDepth 20000 in
set_option maxHeartbeats 2000000 in
theorem polyEqual_in (sb so n c k : Nat) (B : List Int) (y : Int) {w : World} (hS : Sl w (some ⟨sb, so, none⟩) n c B) (hB : Byts B) (hn : n ≤ 140737488351232) (h0 : 0 < n) (hk : k < n) (hy : 0 ≤ y ∧ y < 256) :
    Calls Try.prog 12 #[.slice (some ⟨sb, so, none⟩) n c, .int .i64 (k : Nat), .int .u8 y] w fun e w' => e = .returned (.bool true) ∧ Below w.heap.size w w' := by
  have hlen := hS.len
  have hcp := hS.cap
  obtain ⟨s2, o2, A2, T2, z2, hpp, hs2, hLB⟩ := hS.at_ h0
  simp only [Option.some.injEq, Addr.mk.injEq, and_true] at hpp
  obtain ⟨rfl, rfl⟩ := hpp
  refine pure_of_SP Try.func12 rfl [.slice (some ⟨sb, so, none⟩) n c, .int .i64 (k : Nat), .int .u8 y, undef, undef, undef, undef, undef, undef, undef, undef, undef, undef, undef, undef, undef, undef, undef, undef, undef, undef, undef, undef, undef, undef, undef, undef, undef, undef, undef, undef, undef, undef, undef, undef, undef, undef, undef, undef, undef, undef, undef, undef, undef, undef, undef, undef, undef, undef, undef, undef, undef, undef, undef, undef, undef, undef, undef, undef, undef, undef] (by simp only [Try.ntmps12, List.size_toArray, List.length_cons, List.length_nil, Nat.reduceAdd, Nat.reduceSub, Array.replicate_succ, Array.replicate_zero, List.push_toArray, List.append_toArray, List.nil_append, List.cons_append]) _ Try.results12 _ ?_
  repeat (first | ((with_reducible refine SP.region (id := 0) ?_); refine SL.e tabOk ?_; (with_reducible refine SL.nil ?_)) | ((with_reducible refine SP.region (id := 1) ?_); refine SL.v (ValO.call ent_18 _ rfl _ (fun w1 hw1 => works_any w1)) ?_; refine SL.e tabOk ?_; (with_reducible refine SL.nil ?_)) | ((with_reducible refine SP.region (id := 3) ?_); refine SL.e tabOk ?_; (with_reducible refine SL.nil ?_)) | ((with_reducible refine SP.region (id := 4) ?_); refine SL.e tabOk ?_; refine SL.e tabOk ?_; refine SL.app0 tabOk hLB (by omega) (by omega) (fun nb0 cap0 hcap0 => ?_) zero_u8 hlen; refine SL.e tabOk ?_; (with_reducible refine SL.nil ?_)) | ((with_reducible refine SP.region (id := 5) ?_); refine SL.e tabOk ?_; refine SL.build1 tabOk zero_u8 (fun ob => ?_); refine SL.appOwn tabOk (i := 1) (n := n) (cap := cap0) (m := 1) (B := B) (J := List.replicate (cap0 - B.length) 0) (M := [0]) (xv := .slice (some ⟨ob, 0, none⟩) 1 1) (nm := n + 1) rfl hlen (by simp; omega) rfl (by omega) (fun w1 hw1 => src_of Try.underlying24 hw1 (RdA.own g0) (Lies.whole [0])) (fun nb cap J T hcap => ?_) zero_u8; refine SL.e tabOk ?_; (with_reducible refine SL.nil ?_)) | ((with_reducible refine SP.region (id := 6) ?_); refine SL.e tabOk ?_; refine SL.e tabOk ?_; refine SL.e tabOk ?_; refine SL.v (ValO.len tabOk (by rfl)) ?_; refine SL.ctS tabOk 0 _ ?_; refine SL.v (ValO.call ent_24 _ rfl _ (fun w1 hw1 => psame_t _ _ n c _ B hB w1 (hS.old hw1.below) (Sl.of hw1 (RdA.own g0) (Lies.front B [0] J) hlen (by omega)) (by omega))) ?_; refine SL.e tabOk ?_; refine SL.e tabOk ?_; (first | (refine SL.gT ?_; refine SL.e tabOk ?_) | refine SL.gF ?_); (first | (refine SL.gT ?_; refine SL.e tabOk ?_) | refine SL.gF ?_); (first | (refine SL.gT ?_; refine SL.v (ValO.call ent_24 _ rfl _ (fun w1 hw1 => psame_f _ _ n (n + 1) c _ B (B ++ [0]) w1 (hS.old hw1.below) (Sl.of hw1 (RdA.own g0) (Lies.row (B ++ [0]) J) (by simp [hlen]) (by omega)) (by omega) (by omega))) ?_) | refine SL.gF ?_); refine SL.e tabOk ?_; refine SL.e tabOk ?_; (first | (refine SL.gT ?_; refine SL.e tabOk ?_) | refine SL.gF ?_); (first | (refine SL.gT ?_; refine SL.e tabOk ?_) | refine SL.gF ?_); (first | (refine SL.gT ?_; refine SL.v (ValO.call ent_24 _ rfl _ (fun w1 hw1 => psame_f _ _ (n + 1) n _ c (B ++ [0]) B w1 (Sl.of hw1 (RdA.own g0) (Lies.row (B ++ [0]) J) (by simp [hlen]) (by omega)) (hS.old hw1.below) (by omega) (by omega))) ?_) | refine SL.gF ?_); refine SL.e tabOk ?_; (with_reducible refine SL.nil ?_)) | ((with_reducible refine SP.region (id := 8) ?_); refine SL.e tabOk ?_; (first | (refine SL.c true tabOk ?_) | (refine SL.c false tabOk ?_) | (refine SL.e tabOk ?_)); refine SL.e tabOk ?_; (first | (refine SL.gT ?_; refine SL.e tabOk ?_) | refine SL.gF ?_); (first | (refine SL.gT ?_; refine SL.e tabOk ?_) | refine SL.gF ?_); (first | (refine SL.gT ?_; refine SL.v (ValO.len tabOk (by rfl)) ?_) | refine SL.gF ?_); (first | (refine SL.gT ?_; (first | (refine SL.c true tabOk ?_) | (refine SL.c false tabOk ?_) | (refine SL.e tabOk ?_))) | refine SL.gF ?_); refine SL.e tabOk ?_; (with_reducible refine SL.nil ?_)) | ((with_reducible refine SP.seqK ?_); intro _ _) | (with_reducible refine thenK_normal ?_) | (refine useK (by assumption) ?_) | (with_reducible refine SP.block ?_) | (with_reducible refine thenK_exit ?_) | (with_reducible refine thenK_ret ?_) | (with_reducible refine blockK_normal ?_) | (with_reducible refine blockK_ret ?_) | (with_reducible refine blockK_eq ?_) | (with_reducible refine blockK_ne rfl ?_) | (with_reducible refine SP.skip ?_) | (with_reducible refine SP.ret ?_) | (with_reducible refine SP.exit ?_) | ((with_reducible show SP _ _ _ (Code.cond _ _ _) _ _ _); first | (refine SP.condT rfl (by first | rfl | (simp only [decide_eq_true_eq, beq_iff_eq, bne_iff_ne]; first | done | omega)) ?_) | (refine SP.condF rfl (by first | rfl | (simp only [decide_eq_false_iff_not, beq_eq_false_iff_ne, bne_eq_false_iff_eq]; first | done | omega)) ?_)))
  repeat (first | ((with_reducible refine SP.region (id := 10) ?_); refine SL.build0 tabOk (fun eb => ?_); refine SL.e tabOk ?_; refine SL.appOwn tabOk (i := 0) (n := 0) (cap := 0) (m := n) (B := []) (J := []) (M := B) (xv := .slice (some ⟨sb, so, none⟩) n c) (nm := n) rfl rfl rfl hlen (by omega) (fun w1 hw1 => by have := src_of (c := c) Try.underlying24 hw1 (RdA.old (by assumption) (by simp)) hLB; rwa [hlen] at this) (fun nb2 cap2 J2 T2 hcap2 => ?_) zero_u8; refine SL.e tabOk ?_; (with_reducible refine SL.nil ?_)) | ((with_reducible refine SP.region (id := 11) ?_); refine SL.e tabOk ?_; refine SL.e tabOk ?_; refine SL.e tabOk ?_; refine SL.e tabOk ?_; refine SL.ixS tabOk ?_; refine SL.ldI tabOk ?_; refine SL.e tabOk ?_; refine SL.e tabOk ?_; refine SL.ixS tabOk ?_; refine SL.stI tabOk ?_; rw [app_set (by omega)]; (with_reducible refine SL.nil ?_)) | ((with_reducible refine SP.region (id := 12) ?_); refine SL.e tabOk ?_; refine SL.e tabOk ?_; refine SL.v (ValO.call ent_24 _ rfl _ (fun w1 hw1 => psame_h _ _ n n c _ B (B.set k (bits .xor .u8 (gi B k) y)) hB (byts_set' hB (by omega) hy) w1 (hS.old hw1.below) (Sl.of hw1 (RdA.own g0) (Lies.row (B.set k (bits .xor .u8 (gi B k) y)) J2) (by simp [hlen]) (by omega)) (by omega))) ?_; refine SL.e tabOk ?_; refine SL.e tabOk ?_; refine SL.v (ValO.eqB (r := true) tabOk rfl rfl rfl (set_same hB (by omega) hy)) ?_; refine SL.e tabOk ?_; (with_reducible refine SL.nil ?_)) | ((with_reducible refine SP.seqK ?_); intro _ _) | (with_reducible refine thenK_normal ?_) | (refine useK (by assumption) ?_) | (with_reducible refine SP.block ?_) | (with_reducible refine thenK_exit ?_) | (with_reducible refine thenK_ret ?_) | (with_reducible refine blockK_normal ?_) | (with_reducible refine blockK_ret ?_) | (with_reducible refine blockK_eq ?_) | (with_reducible refine blockK_ne rfl ?_) | (with_reducible refine SP.skip ?_) | (with_reducible refine SP.ret ?_) | (with_reducible refine SP.exit ?_) | ((with_reducible show SP _ _ _ (Code.cond _ _ _) _ _ _); first | (refine SP.condT rfl (by first | rfl | (simp only [decide_eq_true_eq, beq_iff_eq, bne_iff_ne]; first | done | omega)) ?_) | (refine SP.condF rfl (by first | rfl | (simp only [decide_eq_false_iff_not, beq_eq_false_iff_ne, bne_eq_false_iff_eq]; first | done | omega)) ?_)))
  exact doneK.mk rfl (ResO.tmp rfl) rfl

set_option maxRecDepth 20000 in
set_option maxHeartbeats 2000000 in
theorem polyEqual_walk (p : Option Addr) (n c : Nat) (B : List Int) {w : World} (hS : Sl w p n c B) (hB : Byts B) (hn : n ≤ 140737488351232) (a : Int) (wa : (Lit.int .i64 a).wf = true) (y : Int) (wy : (Lit.int .u8 y).wf = true) :
    Calls Try.prog 12 #[.slice p n c, .int .i64 a, .int .u8 y] w fun e w' => e = .returned (.bool true) ∧ Below w.heap.size w w' := by
  have hy : 0 ≤ y ∧ y < 256 := by simp [Lit.wf] at wy; rw [show IntKind.u8.min = 0 from rfl, show IntKind.u8.max = 255 from rfl] at wy; omega
  by_cases h0 : n = 0
  · subst h0
    exact polyEqual_nil p c a y
  · obtain ⟨sb, so, A2, T2, z2, rfl, _, _⟩ := hS.at_ (by omega)
    by_cases ha : a < 0 ∨ (n : Int) ≤ a
    · exact polyEqual_out sb so n c B a y hS hB hn (by omega) ha
    · obtain ⟨k, rfl⟩ := Int.eq_ofNat_of_zero_le (a := a) (by omega)
      exact polyEqual_in sb so n c k B y hS hB hn (by omega) (by omega) hy

set_option maxRecDepth 100000 in
theorem PolyEqual_lifted (os : Os) (started : os.Started) (H : Type) (enc : TypeId × Value → H) :
    ReturnsInHanded {} Try.checked os 12 .any (Rows.polyEqualSpec.pre6 enc Try.prog Try.f12 Rows.polyEqualRow.domain false) (Rows.polyEqualSpec.post enc Try.prog Try.f12 false true false false) := by
  refine returnsInHanded_of_change_sized (C := Try.checked) (by kernel_rfl) started (by kernel_rfl) Try.func12
    (ChangeSpec.witness6 (enc := enc) (C := Try.checked) false ⟨#[], #[.slice none 0 0, .int .i64 0, .int .u8 0], []⟩ 8 (by kernel_rfl) (by kernel_rfl) (by kernel_rfl) (by kernel_rfl)) ?_
  intro W base args ds gs before hval0 hW hcnd hz0 _
  have hval : ∀ (j : Nat) t v, Try.f12.params[j]? = some t → args[j]? = some v → Value.okWide Try.prog W .any base t v := hval0
  have hW' := hW
  obtain ⟨p, q, hA0, hV, rfl, hfz, hnd⟩ := hW
  have hA : DataW.TrodAll enc Try.prog W 0 (fun _ => true) true Try.f12.params.toList args.toList ds p := hA0
  have hz : (DataW.weightsEach Try.prog (Try.f12.params.toList ++ []) (ds ++ gs)).all (· ≤ reachBytes) = true := hz0
  rw [Try.params12] at hA hval hz
  obtain ⟨v0, vs0, d0, ds0, p0, q0, hargs, rfl, rfl, h0, r0⟩ := trodAll_cons hA
  obtain ⟨v1, vs1, d1, ds1, p1, q1, rfl, rfl, rfl, h1, r1⟩ := trodAll_cons r0
  obtain ⟨v2, vs2, d2, ds2, p2, q2, rfl, rfl, rfl, h2, r2⟩ := trodAll_cons r1
  obtain ⟨rfl, rfl, rfl⟩ := trodAll_nil r2
  obtain rfl : args = #[v0, v1, v2] := by cases args; simp_all
  obtain ⟨rfl, rfl⟩ := trodVars_none hV
  have k0 := h0
  have k1 := h1
  have k2 := h2
  obtain ⟨s0, n0, c0, B0, rfl, S0, b0, m0, o0⟩ := open_bytes Try.underlying24 Try.underlying5 (by kernel_rfl) (hval 0 24 v0 rfl rfl) h0 (fun es sp he => sized_slice hz (j := 0) (by rfl) (by rw [he]; rfl) Try.underlying24)
  obtain ⟨a1, rfl, _, hp1, w1⟩ := open_int Try.underlying3 (hval 1 3 v1 rfl rfl) h1
  obtain ⟨a2, rfl, _, hp2, w2⟩ := open_int Try.underlying5 (hval 2 5 v2 rfl rfl) h2
  clear hA0 hval0 hz0 hz
  refine (polyEqual_walk s0 n0 c0 B0 S0 b0 m0 a1 w1 a2 w2).mono fun e W' ⟨he, hg⟩ => ?_
  subst he
  exact ⟨_, rfl, _, _, _, _, _, _, hW', (trodAll_cons_mk (shut_bool Try.underlying4 _) trodAll_mk0), (trodAll_cons_mk (Below.trod Try.laidOut (by kernel_rfl) (of_decide_eq_true (by kernel_rfl)) k0 hg (trod_lt' k0)) (trodAll_cons_mk (Below.trod Try.laidOut (by kernel_rfl) (of_decide_eq_true (by kernel_rfl)) k1 hg (trod_lt' k1)) (trodAll_cons_mk (Below.trod Try.laidOut (by kernel_rfl) (of_decide_eq_true (by kernel_rfl)) k2 hg (trod_lt' k2)) trodAll_mk0))), rfl_vars, hg.frame _, fun h => by cases h⟩

theorem PolyEqual_holds : Rows.PolyEqualSaid :=
  OpenClaim.holds_of_wide 12 Try.f12 rfl rfl rfl rfl rfl rfl rfl ⟨rfl, rfl, rfl, rfl, rfl⟩ rfl rfl rfl rfl rfl (by kernel_rfl) Try.func12 (by kernel_rfl)
    (of_decide_eq_true (by kernel_rfl)) (by unfold Func.isWrapper; first | (rw [if_pos (by decide +kernel)]; kernel_rfl) | (rw [if_neg (by decide +kernel)]; exact ⟨rfl, rfl⟩))
    (fun os started H enc _ => PolyEqual_lifted os started H enc)
#print axioms PolyEqual_holds

end Go.Proofs.Ytngbfamlhlhbmaa
