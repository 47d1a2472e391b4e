/-
  Seal and Open: what the code computes.
-/
import Derived.Test.YtpighhoehhilkaaAeT
import Derived.Test.YtpighhoehhilkaaSlM
namespace Go.Proofs.Ytpighhoehhilkaa
set_option linter.unusedSimpArgs false
set_option linter.unusedVariables false
open Go Go.RowKit

namespace Sp
open F M
theorem or_zero {x y : Int} (hx : 0 ≤ x ∧ x < 256) (hy : 0 ≤ y ∧ y < 256) : (bits .or .u8 x y = 0 ↔ x = 0 ∧ y = 0) ∧ 0 ≤ bits .or .u8 x y ∧ bits .or .u8 x y < 256 := by
  obtain ⟨a, rfl⟩ := Int.eq_ofNat_of_zero_le hx.1
  obtain ⟨b, rfl⟩ := Int.eq_ofNat_of_zero_le hy.1
  rw [u8_or_nat a b (by omega) (by omega)]
  have h := Nat.or_lt_two_pow (n := 8) (x := a) (y := b) (by omega) (by omega)
  have h0 : a ||| b = 0 ↔ a = 0 ∧ b = 0 := Nat.or_eq_zero_iff
  omega
theorem xor_zero {x y : Int} (hx : 0 ≤ x ∧ x < 256) (hy : 0 ≤ y ∧ y < 256) : (bits .xor .u8 x y = 0 ↔ x = y) ∧ 0 ≤ bits .xor .u8 x y ∧ bits .xor .u8 x y < 256 := by
  obtain ⟨a, rfl⟩ := Int.eq_ofNat_of_zero_le hx.1
  obtain ⟨b, rfl⟩ := Int.eq_ofNat_of_zero_le hy.1
  rw [u8_xor_nat a b (by omega) (by omega)]
  have h := Nat.xor_lt_two_pow (n := 8) (x := a) (y := b) (by omega) (by omega)
  have h0 : a ^^^ b = 0 ↔ a = b := by
    constructor
    · intro h
      have h2 : a ^^^ b ^^^ b = 0 ^^^ b := by rw [h]
      rw [Nat.xor_assoc, Nat.xor_self, Nat.xor_zero, Nat.zero_xor] at h2
      exact h2
    · intro h
      rw [h, Nat.xor_self]
  omega
theorem smI_val {A B : List Int} (hA : Byts A) (hB : Byts B) : ∀ k, (smI A B k = 0 ↔ ∀ j, j < k → gi A j = gi B j) ∧ 0 ≤ smI A B k ∧ smI A B k < 256
  | 0 => by rw [smI_0]; exact ⟨⟨fun _ j hj => absurd hj (Nat.not_lt_zero j), fun _ => rfl⟩, by omega, by omega⟩
  | k + 1 => by
    obtain ⟨h1, h2⟩ := smI_val hA hB k
    obtain ⟨x1, x2⟩ := xor_zero (hA k) (hB k)
    obtain ⟨o1, o2⟩ := or_zero h2 x2
    rw [smI_s]
    refine ⟨?_, o2⟩
    rw [o1, h1, x1]
    constructor
    · rintro ⟨ha, hb⟩ j hj
      rcases Nat.lt_or_ge j k with h | h
      · exact ha j h
      · rw [show j = k by omega]; exact hb
    · intro h
      exact ⟨fun j hj => h j (by omega), h k (by omega)⟩
theorem same_val {A B : List Int} {n m : Nat} (hA : Byts A) (hB : Byts B) (lA : A.length = n) (lB : B.length = m) : (decide (n = m) && (smI A B n == 0)) = decide (A = B) := by
  by_cases h : A = B
  · subst h
    rw [decide_eq_true rfl, decide_eq_true (by omega), ((smI_val hA hA n).1).2 (fun _ _ => rfl)]
    rfl
  · rw [decide_eq_false h]
    by_cases hnm : n = m
    · rw [decide_eq_true hnm, Bool.true_and, beq_eq_false_iff_ne]
      intro hz
      exact h (rsame_any_ext (by omega) (fun j hj => ((smI_val hA hB n).1).1 hz j (by omega)))
    · rw [decide_eq_false hnm, Bool.false_and]
theorem psame_h (p q : Option Addr) (n m c d : Nat) (A B : List Int) (bA : Byts A) (bB : Byts B) (w : World) (hA : Sl w p n c A) (hB : Sl w q m d B) (hmax : n ≤ 140737488355328) : Calls Try.prog 36 #[.slice p n c, .slice q m d] w fun e w' => e = .returned (.bool (decide (A = B))) ∧ Below w.heap.size w w' := by
  rw [← same_val bA bB hA.len hB.len]
  exact psame_any p q n m c d A B w hA hB hmax
theorem psame_t (p q : Option Addr) (n c d : Nat) (A : List Int) (bA : Byts A) (w : World) (hA : Sl w p n c A) (hB : Sl w q n d A) (hmax : n ≤ 140737488355328) : Calls Try.prog 36 #[.slice p n c, .slice q n d] w fun e w' => e = .returned (.bool true) ∧ Below w.heap.size w w' := by
  have := psame_h p q n n c d A A bA bA w hA hB hmax
  rwa [decide_eq_true rfl] at this

theorem xo_byts (K : List Int) (ct : Int) (N : List Int) {B : List Int} (hB : Byts B) : Byts (xo K ct N B) := by
  refine byts_mem fun x hx => ?_
  obtain ⟨j, hj⟩ := List.mem_iff_getElem?.1 hx
  have hlt : j < B.length := by
    have := (List.getElem?_eq_some_iff.1 hj).1
    simpa using this
  rw [xo_get _ _ _ _ _ hlt] at hj
  obtain rfl := Option.some.inj hj
  have h1 := hB j
  have h2 : 0 ≤ strm K ct N j ∧ strm K ct N j < 256 := by unfold strm; exact chB_byts _ _ _ _
  exact (xor_zero h1 h2).2
theorem tg_byts (K B : List Int) : Byts (tg K B) := fun j => by
  unfold tg
  by_cases h : j < 16
  · rw [digN_gi _ h]; omega
  · rw [gi_over _ _ (by simp; omega)]; omega
theorem aeT_byts (K N A B : List Int) : Byts (aeT K N A B) := by unfold aeT; exact tg_byts _ _
/-- A box. -/
@[irreducible] def sealV (K N A B : List Int) : List Int := xo K 1 N B ++ aeT K N A (xo K 1 N B)
theorem sealV_length (K N A B : List Int) : (sealV K N A B).length = B.length + 16 := by unfold sealV; simp
attribute [simp] sealV_length
theorem sealV_byts (K N A : List Int) {B : List Int} (hB : Byts B) : Byts (sealV K N A B) := by unfold sealV; exact (xo_byts K 1 N hB).app2 (aeT_byts _ _ _ _)
theorem sealV_take (K N A B : List Int) : (sealV K N A B).take B.length = xo K 1 N B := by unfold sealV; rw [List.take_left' (by simp)]
theorem sealV_drop (K N A B : List Int) : (sealV K N A B).drop B.length = aeT K N A (xo K 1 N B) := by unfold sealV; rw [List.drop_left' (by simp)]
/-- The tag of a box is right. -/
def boxOk (K N A X : List Int) (m : Nat) : Prop := aeT K N A (X.take (m - 16)) = X.drop (m - 16)

set_option maxRecDepth 20000 in
set_option maxHeartbeats 2000000 in
theorem seal_ok (K N : List Int) (hK : K.length = 32) (hN : N.length = 12) (p q : Option Addr) (n c m d : Nat) (A B : List Int) (w : World) (hSA : Sl w p n c A) (hSB : Sl w q m d B) (bA : Byts A) (bB : Byts B) (hn : n ≤ 4096) (hm : m ≤ 4096) :
    Calls Try.prog 13 #[.agg (ints .u8 K), .agg (ints .u8 N), .slice p n c, .slice q m d] w fun e w' => ∃ q c abs, e = .returned (.tuple #[.slice q (m + 16) c, .int .i64 0]) ∧ AO q (m + 16) c (sealV K N A B) abs ∧ OwnM w [] w' abs := by
  have tok_kb : True := trivial
  have tok_nb : True := trivial
  have tok_tb : True := trivial
  have hlA := hSA.len
  have hlB := hSB.len
  refine (calls_of_SP (mu := []) Try.func13 rfl (OwnM.start w) [.agg (ints .u8 K), .agg (ints .u8 N), .slice p n c, .slice q m d, undef, undef, undef, undef, undef, undef, undef, undef, undef, undef, undef, undef, undef, undef, undef, undef, undef, undef, undef, undef, undef, undef, undef, undef, undef, undef, undef, undef, undef, undef, undef, undef, undef, undef, undef] (by simp only [Try.ntmps13, List.size_toArray, List.length_cons, List.length_nil, Nat.reduceAdd, Nat.reduceSub, Array.replicate_succ, Array.replicate_zero, List.push_toArray, List.append_toArray, List.nil_append, List.cons_append]) _ Try.results13 (fun v bs => ∃ q c abs, v = .tuple #[.slice q (m + 16) c, .int .i64 0] ∧ AO q (m + 16) c (sealV K N A B) abs ∧ abs.Sublist bs) ?_).mono ?_
  · repeat (first | ((with_reducible refine SP.region (id := 0) ?_); refine SL.bx ?_; (first | (have _t := tok_kb; clear _t tok_kb; intro kb) | (have _t := tok_nb; clear _t tok_nb; intro nb) | (have _t := tok_tb; clear _t tok_tb; intro tb) | intro _); refine SL.bx ?_; (first | (have _t := tok_kb; clear _t tok_kb; intro kb) | (have _t := tok_nb; clear _t tok_nb; intro nb) | (have _t := tok_tb; clear _t tok_tb; intro tb) | intro _); refine SL.e tabOk ?_; refine SL.e tabOk ?_; (with_reducible refine SL.nil ?_)) | ((with_reducible refine SP.region (id := 1) ?_); refine SL.e tabOk ?_; refine SL.v (ValO.len tabOk (by rfl)) ?_; (first | (refine SL.c true tabOk ?_) | (refine SL.c false tabOk ?_) | (refine SL.e tabOk ?_)); refine SL.e tabOk ?_; (first | (refine SL.gT ?_; refine SL.e tabOk ?_) | refine SL.gF ?_); (first | (refine SL.gT ?_; refine SL.v (ValO.len tabOk (by rfl)) ?_) | refine SL.gF ?_); (first | (refine SL.gT ?_; (first | (refine SL.c true tabOk ?_) | (refine SL.c false tabOk ?_) | (refine SL.e tabOk ?_))) | refine SL.gF ?_); refine SL.e tabOk ?_; (with_reducible refine SL.nil ?_)) | ((with_reducible refine SP.region (id := 3) ?_); refine SL.ldR tabOk ?_; refine SL.ldR tabOk ?_; refine SL.e tabOk ?_; refine SL.clN ent_17 rfl (fun w1 hw1 => xor_any K 1 N hK hN _ m _ _ (by decide) (by omega) w1 (hSB.old hw1.below)) (fun xb => ?_); refine SL.e tabOk ?_; refine SL.e tabOk ?_; refine SL.e tabOk ?_; refine SL.e tabOk ?_; refine SL.e tabOk ?_; (with_reducible refine SL.nil ?_)) | ((with_reducible refine SP.region (id := 4) ?_); refine SL.e tabOk ?_; refine SL.e tabOk ?_; (with_reducible refine SL.nil ?_)) | ((with_reducible refine SP.region (id := 6) ?_); refine SL.ldR tabOk ?_; refine SL.ldR tabOk ?_; refine SL.e tabOk ?_; refine SL.e tabOk ?_; refine SL.v (ValO.call ent_27 _ rfl _ (fun w1 hw1 => aetag_any K N hK hN p _ n c m m A (xo K 1 N B) bA (xo_byts K 1 N bB) (by omega) (by omega) w1 (hSA.old hw1.below) (Sl.of hw1 (RdA.own g0) (Lies.whole _) (by simp [hlB]) (Nat.le_refl _)))) ?_; refine SL.al zero_43 ?_; (first | (have _t := tok_kb; clear _t tok_kb; intro kb) | (have _t := tok_nb; clear _t tok_nb; intro nb) | (have _t := tok_tb; clear _t tok_tb; intro tb) | intro _); refine SL.stR tabOk ?_; (with_reducible refine SL.nil ?_)) | ((with_reducible refine SP.region (id := 7) ?_); refine SL.e tabOk ?_; refine SL.ctA tabOk 0 16 ?_; refine SL.appGz (n := m) (m := 16) (c := 16) (nm := m + 16) tabOk (by decide) (by omega) (fun w1 hw1 => Sl.of hw1 (RdA.own g1) (Lies.whole _) (by simp [hlB]) (Nat.le_refl _)) (fun w1 hw1 => Sl.of hw1 (RdA.own g0) (Lies.whole _) (by simp) (Nat.le_refl _)) (fun rb cap hcap => ?_) zero_u8; refine SL.e tabOk ?_; refine SL.e tabOk ?_; (with_reducible refine SL.nil ?_)) | ((with_reducible refine SP.seqK ?_); intro _ _) | (with_reducible refine thenK_normal ?_) | (refine useK (by assumption) ?_) | (with_reducible refine SP.block ?_) | (with_reducible refine thenK_exit ?_) | (with_reducible refine thenK_ret ?_) | (with_reducible refine blockK_normal ?_) | (with_reducible refine blockK_ret ?_) | (with_reducible refine blockK_eq ?_) | (with_reducible refine blockK_ne rfl ?_) | (with_reducible refine SP.skip ?_) | (with_reducible refine SP.ret ?_) | (with_reducible refine SP.exit ?_) | ((with_reducible show SP _ _ _ (Code.cond _ _ _) _ _ _); first | (refine SP.condT rfl (by first | rfl | (simp only [decide_eq_true_eq, beq_iff_eq, bne_iff_ne]; first | done | omega)) ?_) | (refine SP.condF rfl (by first | rfl | (simp only [decide_eq_false_iff_not, beq_eq_false_iff_ne, bne_eq_false_iff_eq]; first | done | omega)) ?_)))
    refine doneK.mk rfl (ResO.tmp2 rfl rfl) ⟨_, _, _, rfl, AO.row (by simp [hlB]) hcap, by unfold sealV; exact sub1⟩
  · rintro e w' ⟨v, bs', rfl, ⟨q, c, abs, rfl, ha, hs⟩, hw'⟩
    exact ⟨q, c, abs, rfl, ha, hw'.sub hs⟩

set_option maxRecDepth 20000 in
set_option maxHeartbeats 2000000 in
theorem seal_long0 (K N : List Int) (hK : K.length = 32) (hN : N.length = 12) (p q : Option Addr) (n c m d : Nat) (A B : List Int) (w : World) (hSA : Sl w p n c A) (hSB : Sl w q m d B) (hn : 4096 < n) (hmax : n ≤ 140737488355328) (hmax2 : m ≤ 140737488355328) :
    Calls Try.prog 13 #[.agg (ints .u8 K), .agg (ints .u8 N), .slice p n c, .slice q m d] w fun e w' => e = .returned (.tuple #[.slice none 0 0, .int .i64 5]) ∧ Below w.heap.size w w' := by
  have tok_kb : True := trivial
  have tok_nb : True := trivial
  have hlA := hSA.len
  have hlB := hSB.len
  refine pure_of_SP Try.func13 rfl [.agg (ints .u8 K), .agg (ints .u8 N), .slice p n c, .slice q m d, undef, undef, undef, undef, undef, undef, undef, undef, undef, undef, undef, undef, undef, undef, undef, undef, undef, undef, undef, undef, undef, undef, undef, undef, undef, undef, undef, undef, undef, undef, undef, undef, undef, undef, undef] (by simp only [Try.ntmps13, List.size_toArray, List.length_cons, List.length_nil, Nat.reduceAdd, Nat.reduceSub, Array.replicate_succ, Array.replicate_zero, List.push_toArray, List.append_toArray, List.nil_append, List.cons_append]) _ Try.results13 _ ?_
  repeat (first | ((with_reducible refine SP.region (id := 0) ?_); refine SL.bx ?_; (first | (have _t := tok_kb; clear _t tok_kb; intro kb) | (have _t := tok_nb; clear _t tok_nb; intro nb) | (have _t := tok_tb; clear _t tok_tb; intro tb) | intro _); refine SL.bx ?_; (first | (have _t := tok_kb; clear _t tok_kb; intro kb) | (have _t := tok_nb; clear _t tok_nb; intro nb) | (have _t := tok_tb; clear _t tok_tb; intro tb) | intro _); refine SL.e tabOk ?_; refine SL.e tabOk ?_; (with_reducible refine SL.nil ?_)) | ((with_reducible refine SP.region (id := 1) ?_); refine SL.e tabOk ?_; refine SL.v (ValO.len tabOk (by rfl)) ?_; (first | (refine SL.c true tabOk ?_) | (refine SL.c false tabOk ?_) | (refine SL.e tabOk ?_)); refine SL.e tabOk ?_; (first | (refine SL.gT ?_; refine SL.e tabOk ?_) | refine SL.gF ?_); (first | (refine SL.gT ?_; refine SL.v (ValO.len tabOk (by rfl)) ?_) | refine SL.gF ?_); (first | (refine SL.gT ?_; (first | (refine SL.c true tabOk ?_) | (refine SL.c false tabOk ?_) | (refine SL.e tabOk ?_))) | refine SL.gF ?_); refine SL.e tabOk ?_; (with_reducible refine SL.nil ?_)) | ((with_reducible refine SP.region (id := 2) ?_); refine SL.e tabOk ?_; refine SL.e tabOk ?_; (with_reducible refine SL.nil ?_)) | ((with_reducible refine SP.seqK ?_); intro _ _) | (with_reducible refine thenK_normal ?_) | (refine useK (by assumption) ?_) | (with_reducible refine SP.block ?_) | (with_reducible refine thenK_exit ?_) | (with_reducible refine thenK_ret ?_) | (with_reducible refine blockK_normal ?_) | (with_reducible refine blockK_ret ?_) | (with_reducible refine blockK_eq ?_) | (with_reducible refine blockK_ne rfl ?_) | (with_reducible refine SP.skip ?_) | (with_reducible refine SP.ret ?_) | (with_reducible refine SP.exit ?_) | ((with_reducible show SP _ _ _ (Code.cond _ _ _) _ _ _); first | (refine SP.condT rfl (by first | rfl | (simp only [decide_eq_true_eq, beq_iff_eq, bne_iff_ne]; first | done | omega)) ?_) | (refine SP.condF rfl (by first | rfl | (simp only [decide_eq_false_iff_not, beq_eq_false_iff_ne, bne_eq_false_iff_eq]; first | done | omega)) ?_)))
  exact doneK.mk rfl (ResO.tmp2 rfl rfl) rfl

set_option maxRecDepth 20000 in
set_option maxHeartbeats 2000000 in
theorem seal_long1 (K N : List Int) (hK : K.length = 32) (hN : N.length = 12) (p q : Option Addr) (n c m d : Nat) (A B : List Int) (w : World) (hSA : Sl w p n c A) (hSB : Sl w q m d B) (hn : n ≤ 4096) (hm : 4096 < m) (hmax : n ≤ 140737488355328) (hmax2 : m ≤ 140737488355328) :
    Calls Try.prog 13 #[.agg (ints .u8 K), .agg (ints .u8 N), .slice p n c, .slice q m d] w fun e w' => e = .returned (.tuple #[.slice none 0 0, .int .i64 5]) ∧ Below w.heap.size w w' := by
  have tok_kb : True := trivial
  have tok_nb : True := trivial
  have hlA := hSA.len
  have hlB := hSB.len
  refine pure_of_SP Try.func13 rfl [.agg (ints .u8 K), .agg (ints .u8 N), .slice p n c, .slice q m d, undef, undef, undef, undef, undef, undef, undef, undef, undef, undef, undef, undef, undef, undef, undef, undef, undef, undef, undef, undef, undef, undef, undef, undef, undef, undef, undef, undef, undef, undef, undef, undef, undef, undef, undef] (by simp only [Try.ntmps13, List.size_toArray, List.length_cons, List.length_nil, Nat.reduceAdd, Nat.reduceSub, Array.replicate_succ, Array.replicate_zero, List.push_toArray, List.append_toArray, List.nil_append, List.cons_append]) _ Try.results13 _ ?_
  repeat (first | ((with_reducible refine SP.region (id := 0) ?_); refine SL.bx ?_; (first | (have _t := tok_kb; clear _t tok_kb; intro kb) | (have _t := tok_nb; clear _t tok_nb; intro nb) | (have _t := tok_tb; clear _t tok_tb; intro tb) | intro _); refine SL.bx ?_; (first | (have _t := tok_kb; clear _t tok_kb; intro kb) | (have _t := tok_nb; clear _t tok_nb; intro nb) | (have _t := tok_tb; clear _t tok_tb; intro tb) | intro _); refine SL.e tabOk ?_; refine SL.e tabOk ?_; (with_reducible refine SL.nil ?_)) | ((with_reducible refine SP.region (id := 1) ?_); refine SL.e tabOk ?_; refine SL.v (ValO.len tabOk (by rfl)) ?_; (first | (refine SL.c true tabOk ?_) | (refine SL.c false tabOk ?_) | (refine SL.e tabOk ?_)); refine SL.e tabOk ?_; (first | (refine SL.gT ?_; refine SL.e tabOk ?_) | refine SL.gF ?_); (first | (refine SL.gT ?_; refine SL.v (ValO.len tabOk (by rfl)) ?_) | refine SL.gF ?_); (first | (refine SL.gT ?_; (first | (refine SL.c true tabOk ?_) | (refine SL.c false tabOk ?_) | (refine SL.e tabOk ?_))) | refine SL.gF ?_); refine SL.e tabOk ?_; (with_reducible refine SL.nil ?_)) | ((with_reducible refine SP.region (id := 2) ?_); refine SL.e tabOk ?_; refine SL.e tabOk ?_; (with_reducible refine SL.nil ?_)) | ((with_reducible refine SP.seqK ?_); intro _ _) | (with_reducible refine thenK_normal ?_) | (refine useK (by assumption) ?_) | (with_reducible refine SP.block ?_) | (with_reducible refine thenK_exit ?_) | (with_reducible refine thenK_ret ?_) | (with_reducible refine blockK_normal ?_) | (with_reducible refine blockK_ret ?_) | (with_reducible refine blockK_eq ?_) | (with_reducible refine blockK_ne rfl ?_) | (with_reducible refine SP.skip ?_) | (with_reducible refine SP.ret ?_) | (with_reducible refine SP.exit ?_) | ((with_reducible show SP _ _ _ (Code.cond _ _ _) _ _ _); first | (refine SP.condT rfl (by first | rfl | (simp only [decide_eq_true_eq, beq_iff_eq, bne_iff_ne]; first | done | omega)) ?_) | (refine SP.condF rfl (by first | rfl | (simp only [decide_eq_false_iff_not, beq_eq_false_iff_ne, bne_eq_false_iff_eq]; first | done | omega)) ?_)))
  exact doneK.mk rfl (ResO.tmp2 rfl rfl) rfl

theorem seal_long (K N : List Int) (hK : K.length = 32) (hN : N.length = 12) (p q : Option Addr) (n c m d : Nat) (A B : List Int) (w : World) (hSA : Sl w p n c A) (hSB : Sl w q m d B) (hl : 4096 < n ∨ 4096 < m) (hmax : n ≤ 140737488355328) (hmax2 : m ≤ 140737488355328) : Calls Try.prog 13 #[.agg (ints .u8 K), .agg (ints .u8 N), .slice p n c, .slice q m d] w fun e w' => e = .returned (.tuple #[.slice none 0 0, .int .i64 5]) ∧ Below w.heap.size w w' := by
  by_cases h : 4096 < n
  · exact seal_long0 K N hK hN p q n c m d A B w hSA hSB h hmax hmax2
  · exact seal_long1 K N hK hN p q n c m d A B w hSA hSB (by omega) (by omega) hmax hmax2

set_option maxRecDepth 20000 in
set_option maxHeartbeats 2000000 in
theorem open_long0 (K N : List Int) (hK : K.length = 32) (hN : N.length = 12) (p q : Option Addr) (n c m d : Nat) (A B : List Int) (w : World) (hSA : Sl w p n c A) (hSB : Sl w q m d B) (hn : 4096 < n) (hmax : n ≤ 140737488355328) (hmax2 : m ≤ 140737488355328) :
    Calls Try.prog 23 #[.agg (ints .u8 K), .agg (ints .u8 N), .slice p n c, .slice q m d] w fun e w' => e = .returned (.tuple #[.slice none 0 0, .int .i64 5]) ∧ Below w.heap.size w w' := by
  have tok_kb : True := trivial
  have tok_nb : True := trivial
  have hlA := hSA.len
  have hlB := hSB.len
  have f16 : IntKind.i64.wrap ((m : Int) - 16) = (m : Int) - 16 := IntWalk.i64_in _ (by omega)
  refine pure_of_SP Try.func23 rfl [.agg (ints .u8 K), .agg (ints .u8 N), .slice p n c, .slice q m d, undef, undef, undef, undef, undef, undef, undef, undef, undef, undef, undef, undef, undef, undef, undef, undef, undef, undef, undef, undef, undef, undef, undef, undef, undef, undef, undef, undef, undef, undef, undef, undef, undef, undef, undef, undef, undef, undef, undef, undef, undef, undef, undef] (by simp only [Try.ntmps23, List.size_toArray, List.length_cons, List.length_nil, Nat.reduceAdd, Nat.reduceSub, Array.replicate_succ, Array.replicate_zero, List.push_toArray, List.append_toArray, List.nil_append, List.cons_append]) _ Try.results23 _ ?_
  repeat (first | ((with_reducible refine SP.region (id := 0) ?_); refine SL.bx ?_; (first | (have _t := tok_kb; clear _t tok_kb; intro kb) | (have _t := tok_nb; clear _t tok_nb; intro nb) | (have _t := tok_tb; clear _t tok_tb; intro tb) | intro _); refine SL.bx ?_; (first | (have _t := tok_kb; clear _t tok_kb; intro kb) | (have _t := tok_nb; clear _t tok_nb; intro nb) | (have _t := tok_tb; clear _t tok_tb; intro tb) | intro _); refine SL.e tabOk ?_; refine SL.e tabOk ?_; (with_reducible refine SL.nil ?_)) | ((with_reducible refine SP.region (id := 1) ?_); refine SL.e tabOk ?_; refine SL.v (ValO.len tabOk (by rfl)) ?_; refine SL.e tabOk ?_; refine SL.e tabOk ?_; (with_reducible refine SL.nil ?_)) | ((with_reducible refine SP.region (id := 2) ?_); refine SL.e tabOk ?_; refine SL.v (ValO.len tabOk (by rfl)) ?_; (first | (refine SL.c true tabOk ?_) | (refine SL.c false tabOk ?_) | (refine SL.e tabOk ?_)); refine SL.e tabOk ?_; (first | (refine SL.gT ?_; refine SL.e tabOk ?_) | refine SL.gF ?_); (first | (refine SL.gT ?_; (first | (refine SL.c true tabOk ?_) | (refine SL.c false tabOk ?_) | (refine SL.e tabOk ?_))) | refine SL.gF ?_); refine SL.e tabOk ?_; refine SL.e tabOk ?_; (with_reducible refine SL.nil ?_)) | ((with_reducible refine SP.region (id := 3) ?_); refine SL.e tabOk ?_; refine SL.e tabOk ?_; (with_reducible refine SL.nil ?_)) | ((with_reducible refine SP.seqK ?_); intro _ _) | (with_reducible refine thenK_normal ?_) | (refine useK (by assumption) ?_) | (with_reducible refine SP.block ?_) | (with_reducible refine thenK_exit ?_) | (with_reducible refine thenK_ret ?_) | (with_reducible refine blockK_normal ?_) | (with_reducible refine blockK_ret ?_) | (with_reducible refine blockK_eq ?_) | (with_reducible refine blockK_ne rfl ?_) | (with_reducible refine SP.skip ?_) | (with_reducible refine SP.ret ?_) | (with_reducible refine SP.exit ?_) | ((with_reducible show SP _ _ _ (Code.cond _ _ _) _ _ _); first | (refine SP.condT rfl (by first | rfl | (simp only [decide_eq_true_eq, beq_iff_eq, bne_iff_ne]; first | done | omega)) ?_) | (refine SP.condF rfl (by first | rfl | (simp only [decide_eq_false_iff_not, beq_eq_false_iff_ne, bne_eq_false_iff_eq]; first | done | omega)) ?_)))
  exact doneK.mk rfl (ResO.tmp2 rfl rfl) rfl

set_option maxRecDepth 20000 in
set_option maxHeartbeats 2000000 in
theorem open_long1 (K N : List Int) (hK : K.length = 32) (hN : N.length = 12) (p q : Option Addr) (n c m d : Nat) (A B : List Int) (w : World) (hSA : Sl w p n c A) (hSB : Sl w q m d B) (hn : n ≤ 4096) (hm : 4112 < m) (hmax : n ≤ 140737488355328) (hmax2 : m ≤ 140737488355328) :
    Calls Try.prog 23 #[.agg (ints .u8 K), .agg (ints .u8 N), .slice p n c, .slice q m d] w fun e w' => e = .returned (.tuple #[.slice none 0 0, .int .i64 5]) ∧ Below w.heap.size w w' := by
  have tok_kb : True := trivial
  have tok_nb : True := trivial
  have hlA := hSA.len
  have hlB := hSB.len
  have f16 : IntKind.i64.wrap ((m : Int) - 16) = (m : Int) - 16 := IntWalk.i64_in _ (by omega)
  refine pure_of_SP Try.func23 rfl [.agg (ints .u8 K), .agg (ints .u8 N), .slice p n c, .slice q m d, undef, undef, undef, undef, undef, undef, undef, undef, undef, undef, undef, undef, undef, undef, undef, undef, undef, undef, undef, undef, undef, undef, undef, undef, undef, undef, undef, undef, undef, undef, undef, undef, undef, undef, undef, undef, undef, undef, undef, undef, undef, undef, undef] (by simp only [Try.ntmps23, List.size_toArray, List.length_cons, List.length_nil, Nat.reduceAdd, Nat.reduceSub, Array.replicate_succ, Array.replicate_zero, List.push_toArray, List.append_toArray, List.nil_append, List.cons_append]) _ Try.results23 _ ?_
  repeat (first | ((with_reducible refine SP.region (id := 0) ?_); refine SL.bx ?_; (first | (have _t := tok_kb; clear _t tok_kb; intro kb) | (have _t := tok_nb; clear _t tok_nb; intro nb) | (have _t := tok_tb; clear _t tok_tb; intro tb) | intro _); refine SL.bx ?_; (first | (have _t := tok_kb; clear _t tok_kb; intro kb) | (have _t := tok_nb; clear _t tok_nb; intro nb) | (have _t := tok_tb; clear _t tok_tb; intro tb) | intro _); refine SL.e tabOk ?_; refine SL.e tabOk ?_; (with_reducible refine SL.nil ?_)) | ((with_reducible refine SP.region (id := 1) ?_); refine SL.e tabOk ?_; refine SL.v (ValO.len tabOk (by rfl)) ?_; refine SL.e tabOk ?_; refine SL.e tabOk ?_; (with_reducible refine SL.nil ?_)) | ((with_reducible refine SP.region (id := 2) ?_); refine SL.e tabOk ?_; refine SL.v (ValO.len tabOk (by rfl)) ?_; (first | (refine SL.c true tabOk ?_) | (refine SL.c false tabOk ?_) | (refine SL.e tabOk ?_)); refine SL.e tabOk ?_; (first | (refine SL.gT ?_; refine SL.e tabOk ?_) | refine SL.gF ?_); (first | (refine SL.gT ?_; (first | (refine SL.c true tabOk ?_) | (refine SL.c false tabOk ?_) | (refine SL.e tabOk ?_))) | refine SL.gF ?_); refine SL.e tabOk ?_; refine SL.e tabOk ?_; (with_reducible refine SL.nil ?_)) | ((with_reducible refine SP.region (id := 3) ?_); refine SL.e tabOk ?_; refine SL.e tabOk ?_; (with_reducible refine SL.nil ?_)) | ((with_reducible refine SP.seqK ?_); intro _ _) | (with_reducible refine thenK_normal ?_) | (refine useK (by assumption) ?_) | (with_reducible refine SP.block ?_) | (with_reducible refine thenK_exit ?_) | (with_reducible refine thenK_ret ?_) | (with_reducible refine blockK_normal ?_) | (with_reducible refine blockK_ret ?_) | (with_reducible refine blockK_eq ?_) | (with_reducible refine blockK_ne rfl ?_) | (with_reducible refine SP.skip ?_) | (with_reducible refine SP.ret ?_) | (with_reducible refine SP.exit ?_) | ((with_reducible show SP _ _ _ (Code.cond _ _ _) _ _ _); first | (refine SP.condT rfl (by first | rfl | (simp only [decide_eq_true_eq, beq_iff_eq, bne_iff_ne]; first | done | omega)) ?_) | (refine SP.condF rfl (by first | rfl | (simp only [decide_eq_false_iff_not, beq_eq_false_iff_ne, bne_eq_false_iff_eq]; first | done | omega)) ?_)))
  exact doneK.mk rfl (ResO.tmp2 rfl rfl) rfl

theorem open_long (K N : List Int) (hK : K.length = 32) (hN : N.length = 12) (p q : Option Addr) (n c m d : Nat) (A B : List Int) (w : World) (hSA : Sl w p n c A) (hSB : Sl w q m d B) (hl : 4096 < n ∨ 4112 < m) (hmax : n ≤ 140737488355328) (hmax2 : m ≤ 140737488355328) : Calls Try.prog 23 #[.agg (ints .u8 K), .agg (ints .u8 N), .slice p n c, .slice q m d] w fun e w' => e = .returned (.tuple #[.slice none 0 0, .int .i64 5]) ∧ Below w.heap.size w w' := by
  by_cases h : 4096 < n
  · exact open_long0 K N hK hN p q n c m d A B w hSA hSB h hmax hmax2
  · exact open_long1 K N hK hN p q n c m d A B w hSA hSB (by omega) (by omega) hmax hmax2

set_option maxRecDepth 20000 in
set_option maxHeartbeats 2000000 in
theorem open_short (K N : List Int) (hK : K.length = 32) (hN : N.length = 12) (p q : Option Addr) (n c m d : Nat) (A B : List Int) (w : World) (hSA : Sl w p n c A) (hSB : Sl w q m d B) (hn : n ≤ 4096) (hm : m < 16) :
    Calls Try.prog 23 #[.agg (ints .u8 K), .agg (ints .u8 N), .slice p n c, .slice q m d] w fun e w' => e = .returned (.tuple #[.slice none 0 0, .int .i64 3]) ∧ Below w.heap.size w w' := by
  have tok_kb : True := trivial
  have tok_nb : True := trivial
  have hlA := hSA.len
  have hlB := hSB.len
  have f16 : IntKind.i64.wrap ((m : Int) - 16) = (m : Int) - 16 := IntWalk.i64_in _ (by omega)
  refine pure_of_SP Try.func23 rfl [.agg (ints .u8 K), .agg (ints .u8 N), .slice p n c, .slice q m d, undef, undef, undef, undef, undef, undef, undef, undef, undef, undef, undef, undef, undef, undef, undef, undef, undef, undef, undef, undef, undef, undef, undef, undef, undef, undef, undef, undef, undef, undef, undef, undef, undef, undef, undef, undef, undef, undef, undef, undef, undef, undef, undef] (by simp only [Try.ntmps23, List.size_toArray, List.length_cons, List.length_nil, Nat.reduceAdd, Nat.reduceSub, Array.replicate_succ, Array.replicate_zero, List.push_toArray, List.append_toArray, List.nil_append, List.cons_append]) _ Try.results23 _ ?_
  repeat (first | ((with_reducible refine SP.region (id := 0) ?_); refine SL.bx ?_; (first | (have _t := tok_kb; clear _t tok_kb; intro kb) | (have _t := tok_nb; clear _t tok_nb; intro nb) | (have _t := tok_tb; clear _t tok_tb; intro tb) | intro _); refine SL.bx ?_; (first | (have _t := tok_kb; clear _t tok_kb; intro kb) | (have _t := tok_nb; clear _t tok_nb; intro nb) | (have _t := tok_tb; clear _t tok_tb; intro tb) | intro _); refine SL.e tabOk ?_; refine SL.e tabOk ?_; (with_reducible refine SL.nil ?_)) | ((with_reducible refine SP.region (id := 1) ?_); refine SL.e tabOk ?_; refine SL.v (ValO.len tabOk (by rfl)) ?_; refine SL.e tabOk ?_; refine SL.e tabOk ?_; (with_reducible refine SL.nil ?_)) | ((with_reducible refine SP.region (id := 2) ?_); refine SL.e tabOk ?_; refine SL.v (ValO.len tabOk (by rfl)) ?_; (first | (refine SL.c true tabOk ?_) | (refine SL.c false tabOk ?_) | (refine SL.e tabOk ?_)); refine SL.e tabOk ?_; (first | (refine SL.gT ?_; refine SL.e tabOk ?_) | refine SL.gF ?_); (first | (refine SL.gT ?_; (first | (refine SL.c true tabOk ?_) | (refine SL.c false tabOk ?_) | (refine SL.e tabOk ?_))) | refine SL.gF ?_); refine SL.e tabOk ?_; refine SL.e tabOk ?_; (with_reducible refine SL.nil ?_)) | ((with_reducible refine SP.region (id := 4) ?_); refine SL.e tabOk ?_; refine SL.e tabOk ?_; refine SL.e tabOk ?_; (with_reducible refine SL.nil ?_)) | ((with_reducible refine SP.region (id := 5) ?_); refine SL.e tabOk ?_; refine SL.e tabOk ?_; (with_reducible refine SL.nil ?_)) | ((with_reducible refine SP.seqK ?_); intro _ _) | (with_reducible refine thenK_normal ?_) | (refine useK (by assumption) ?_) | (with_reducible refine SP.block ?_) | (with_reducible refine thenK_exit ?_) | (with_reducible refine thenK_ret ?_) | (with_reducible refine blockK_normal ?_) | (with_reducible refine blockK_ret ?_) | (with_reducible refine blockK_eq ?_) | (with_reducible refine blockK_ne rfl ?_) | (with_reducible refine SP.skip ?_) | (with_reducible refine SP.ret ?_) | (with_reducible refine SP.exit ?_) | ((with_reducible show SP _ _ _ (Code.cond _ _ _) _ _ _); first | (refine SP.condT rfl (by first | rfl | (simp only [decide_eq_true_eq, beq_iff_eq, bne_iff_ne]; first | done | omega)) ?_) | (refine SP.condF rfl (by first | rfl | (simp only [decide_eq_false_iff_not, beq_eq_false_iff_ne, bne_eq_false_iff_eq]; first | done | omega)) ?_)))
  exact doneK.mk rfl (ResO.tmp2 rfl rfl) rfl

theorem same_yes (p q : Option Addr) (n m c d : Nat) (A B : List Int) (bA : Byts A) (bB : Byts B) (w : World) (hA : Sl w p n c A) (hB : Sl w q m d B) (hmax : n ≤ 140737488355328) (h : A = B) : Calls Try.prog 36 #[.slice p n c, .slice q m d] w fun e w' => e = .returned (.bool true) ∧ Below w.heap.size w w' := by
  have := psame_h p q n m c d A B bA bB w hA hB hmax
  rwa [decide_eq_true h] at this
theorem same_no (p q : Option Addr) (n m c d : Nat) (A B : List Int) (bA : Byts A) (bB : Byts B) (w : World) (hA : Sl w p n c A) (hB : Sl w q m d B) (hmax : n ≤ 140737488355328) (h : A ≠ B) : Calls Try.prog 36 #[.slice p n c, .slice q m d] w fun e w' => e = .returned (.bool false) ∧ Below w.heap.size w w' := by
  have := psame_h p q n m c d A B bA bB w hA hB hmax
  rwa [decide_eq_false h] at this

set_option maxRecDepth 20000 in
set_option maxHeartbeats 2000000 in
theorem open_bad (K N : List Int) (hK : K.length = 32) (hN : N.length = 12) (p q : Option Addr) (n c m d : Nat) (A B : List Int) (w : World) (hSA : Sl w p n c A) (hSB : Sl w q m d B) (bA : Byts A) (bB : Byts B) (hn : n ≤ 4096) (hm : 16 ≤ m) (hm2 : m ≤ 4112) (hok : ¬ boxOk K N A B m) :
    Calls Try.prog 23 #[.agg (ints .u8 K), .agg (ints .u8 N), .slice p n c, .slice q m d] w fun e w' => e = .returned (.tuple #[.slice none 0 0, .int .i64 60]) ∧ Below w.heap.size w w' := by
  have tok_kb : True := trivial
  have tok_nb : True := trivial
  have tok_tb : True := trivial
  have hlA := hSA.len
  have hlB := hSB.len
  unfold boxOk at hok
  have f16 : IntKind.i64.wrap ((m : Int) - 16) = ((m - 16 : Nat) : Int) := by rw [IntWalk.i64_in _ (by omega)]; omega
  obtain ⟨b0, o0, A0, T0, z0, rfl, hb0, hA0⟩ := hSB.at_ (by omega)
  have hcd := hSB.cap
  refine pure_of_SP Try.func23 rfl [.agg (ints .u8 K), .agg (ints .u8 N), .slice p n c, .slice (some ⟨b0, o0, none⟩) m d, undef, undef, undef, undef, undef, undef, undef, undef, undef, undef, undef, undef, undef, undef, undef, undef, undef, undef, undef, undef, undef, undef, undef, undef, undef, undef, undef, undef, undef, undef, undef, undef, undef, undef, undef, undef, undef, undef, undef, undef, undef, undef, undef] (by simp only [Try.ntmps23, List.size_toArray, List.length_cons, List.length_nil, Nat.reduceAdd, Nat.reduceSub, Array.replicate_succ, Array.replicate_zero, List.push_toArray, List.append_toArray, List.nil_append, List.cons_append]) _ Try.results23 _ ?_
  repeat (first | ((with_reducible refine SP.region (id := 0) ?_); refine SL.bx ?_; (first | (have _t := tok_kb; clear _t tok_kb; intro kb) | (have _t := tok_nb; clear _t tok_nb; intro nb) | (have _t := tok_tb; clear _t tok_tb; intro tb) | intro _); refine SL.bx ?_; (first | (have _t := tok_kb; clear _t tok_kb; intro kb) | (have _t := tok_nb; clear _t tok_nb; intro nb) | (have _t := tok_tb; clear _t tok_tb; intro tb) | intro _); refine SL.e tabOk ?_; refine SL.e tabOk ?_; (with_reducible refine SL.nil ?_)) | ((with_reducible refine SP.region (id := 1) ?_); refine SL.e tabOk ?_; refine SL.v (ValO.len tabOk (by rfl)) ?_; refine SL.e tabOk ?_; refine SL.e tabOk ?_; (with_reducible refine SL.nil ?_)) | ((with_reducible refine SP.region (id := 2) ?_); refine SL.e tabOk ?_; refine SL.v (ValO.len tabOk (by rfl)) ?_; (first | (refine SL.c true tabOk ?_) | (refine SL.c false tabOk ?_) | (refine SL.e tabOk ?_)); refine SL.e tabOk ?_; (first | (refine SL.gT ?_; refine SL.e tabOk ?_) | refine SL.gF ?_); (first | (refine SL.gT ?_; (first | (refine SL.c true tabOk ?_) | (refine SL.c false tabOk ?_) | (refine SL.e tabOk ?_))) | refine SL.gF ?_); refine SL.e tabOk ?_; refine SL.e tabOk ?_; (with_reducible refine SL.nil ?_)) | ((with_reducible refine SP.region (id := 4) ?_); refine SL.e tabOk ?_; refine SL.e tabOk ?_; refine SL.e tabOk ?_; (with_reducible refine SL.nil ?_)) | ((with_reducible refine SP.region (id := 8) ?_); refine SL.e tabOk ?_; refine SL.e tabOk ?_; (with_reducible refine SL.nil ?_)) | ((with_reducible show SP _ _ _ (Code.region _ _ true) _ _ _); first | (refine SP_any (id := 6) [8] [] ([]) [0, 1, 2, 3, 4, 5, 6, 7, 8] follows (by kernel_rfl) (by first | (simp only [List.filterMap_cons, List.filterMap_nil, List.getElem?_cons_zero, List.getElem?_cons_succ, Option.map_some]; done) | (simp only [List.filterMap_cons, List.filterMap_nil, List.getElem?_cons_zero, List.getElem?_cons_succ, Option.map_some]; rfl)) (by first | exact Kept.nil | (simp [Kept]; done)) ?_; refine SF.ldR tabOk ?_; refine SF.ldR tabOk ?_; refine SF.p tabOk ?_; refine SF.p tabOk ?_; refine SF.p tabOk ?_; refine SF.ctS tabOk 0 (m - 16) ?_ (hhi := by exact f16); refine SF.v (ValO.call ent_27 _ rfl _ (fun w1 hw1 => aetag_any K N hK hN p _ n c (m - 16) d A (B.take (m - 16)) bA (bB.take2 _) (by omega) (by omega) w1 (hSA.old hw1.below) ((hSB.take (k := m - 16) (by omega)).old hw1.below))) ?_; refine SF.al zero_43 ?_; (first | (have _t := tok_kb; clear _t tok_kb; intro kb) | (have _t := tok_nb; clear _t tok_nb; intro nb) | (have _t := tok_tb; clear _t tok_tb; intro tb) | intro _); refine SF.stR tabOk ?_; refine SF.done ?_) | (refine SP_any (id := 7) [] [] ([]) [0, 1, 2, 3, 4, 5] follows (by kernel_rfl) (by first | (simp only [List.filterMap_cons, List.filterMap_nil, List.getElem?_cons_zero, List.getElem?_cons_succ, Option.map_some]; done) | (simp only [List.filterMap_cons, List.filterMap_nil, List.getElem?_cons_zero, List.getElem?_cons_succ, Option.map_some]; rfl)) (by first | exact Kept.nil | (simp [Kept]; done)) ?_; refine SF.ctA tabOk 0 16 ?_; refine SF.p tabOk ?_; refine SF.p tabOk ?_; refine SF.ctS tabOk (m - 16) m ?_ (hlo := by exact f16); refine SF.v (ValO.call ent_36 _ rfl _ (fun w1 hw1 => same_no _ _ _ _ _ _ (aeT K N A (B.take (m - 16))) (B.drop (m - 16)) (aeT_byts _ _ _ _) (bB.drop2 _) w1 (Sl.of hw1 (RdA.own g0) (Lies.whole _) (by simp) (Nat.le_refl _)) ((hSB.drop (k := m - 16) (by omega)).old hw1.below) (by decide) hok)) ?_; refine SF.e tabOk ?_; refine SF.done ?_)) | ((with_reducible refine SP.seqK ?_); intro _ _) | (with_reducible refine thenK_normal ?_) | (refine useK (by assumption) ?_) | (with_reducible refine SP.block ?_) | (with_reducible refine thenK_exit ?_) | (with_reducible refine thenK_ret ?_) | (with_reducible refine blockK_normal ?_) | (with_reducible refine blockK_ret ?_) | (with_reducible refine blockK_eq ?_) | (with_reducible refine blockK_ne rfl ?_) | (with_reducible refine SP.skip ?_) | (with_reducible refine SP.ret ?_) | (with_reducible refine SP.exit ?_) | ((with_reducible show SP _ _ _ (Code.cond _ _ _) _ _ _); first | (refine SP.condT rfl (by first | rfl | (simp only [decide_eq_true_eq, beq_iff_eq, bne_iff_ne]; first | done | omega)) ?_) | (refine SP.condF rfl (by first | rfl | (simp only [decide_eq_false_iff_not, beq_eq_false_iff_ne, bne_eq_false_iff_eq]; first | done | omega)) ?_)))
  exact doneK.mk rfl (ResO.tmp2 rfl rfl) rfl

set_option maxRecDepth 20000 in
set_option maxHeartbeats 2000000 in
theorem open_ok (K N : List Int) (hK : K.length = 32) (hN : N.length = 12) (p q : Option Addr) (n c m d : Nat) (A B : List Int) (w : World) (hSA : Sl w p n c A) (hSB : Sl w q m d B) (bA : Byts A) (bB : Byts B) (hn : n ≤ 4096) (hm : 16 ≤ m) (hm2 : m ≤ 4112) (hok : boxOk K N A B m) :
    Calls Try.prog 23 #[.agg (ints .u8 K), .agg (ints .u8 N), .slice p n c, .slice q m d] w fun e w' => ∃ q c abs, e = .returned (.tuple #[.slice q (m - 16) c, .int .i64 0]) ∧ AO q (m - 16) c (xo K 1 N (B.take (m - 16))) abs ∧ OwnM w [] w' abs := by
  have tok_kb : True := trivial
  have tok_nb : True := trivial
  have tok_tb : True := trivial
  have hlA := hSA.len
  have hlB := hSB.len
  unfold boxOk at hok
  have f16 : IntKind.i64.wrap ((m : Int) - 16) = ((m - 16 : Nat) : Int) := by rw [IntWalk.i64_in _ (by omega)]; omega
  obtain ⟨b0, o0, A0, T0, z0, rfl, hb0, hA0⟩ := hSB.at_ (by omega)
  have hcd := hSB.cap
  refine (calls_of_SP (mu := []) Try.func23 rfl (OwnM.start w) [.agg (ints .u8 K), .agg (ints .u8 N), .slice p n c, .slice (some ⟨b0, o0, none⟩) m d, undef, undef, undef, undef, undef, undef, undef, undef, undef, undef, undef, undef, undef, undef, undef, undef, undef, undef, undef, undef, undef, undef, undef, undef, undef, undef, undef, undef, undef, undef, undef, undef, undef, undef, undef, undef, undef, undef, undef, undef, undef, undef, undef] (by simp only [Try.ntmps23, List.size_toArray, List.length_cons, List.length_nil, Nat.reduceAdd, Nat.reduceSub, Array.replicate_succ, Array.replicate_zero, List.push_toArray, List.append_toArray, List.nil_append, List.cons_append]) _ Try.results23 (fun v bs => ∃ q c abs, v = .tuple #[.slice q (m - 16) c, .int .i64 0] ∧ AO q (m - 16) c (xo K 1 N (B.take (m - 16))) abs ∧ abs.Sublist bs) ?_).mono ?_
  · repeat (first | ((with_reducible refine SP.region (id := 0) ?_); refine SL.bx ?_; (first | (have _t := tok_kb; clear _t tok_kb; intro kb) | (have _t := tok_nb; clear _t tok_nb; intro nb) | (have _t := tok_tb; clear _t tok_tb; intro tb) | intro _); refine SL.bx ?_; (first | (have _t := tok_kb; clear _t tok_kb; intro kb) | (have _t := tok_nb; clear _t tok_nb; intro nb) | (have _t := tok_tb; clear _t tok_tb; intro tb) | intro _); refine SL.e tabOk ?_; refine SL.e tabOk ?_; (with_reducible refine SL.nil ?_)) | ((with_reducible refine SP.region (id := 1) ?_); refine SL.e tabOk ?_; refine SL.v (ValO.len tabOk (by rfl)) ?_; refine SL.e tabOk ?_; refine SL.e tabOk ?_; (with_reducible refine SL.nil ?_)) | ((with_reducible refine SP.region (id := 2) ?_); refine SL.e tabOk ?_; refine SL.v (ValO.len tabOk (by rfl)) ?_; (first | (refine SL.c true tabOk ?_) | (refine SL.c false tabOk ?_) | (refine SL.e tabOk ?_)); refine SL.e tabOk ?_; (first | (refine SL.gT ?_; refine SL.e tabOk ?_) | refine SL.gF ?_); (first | (refine SL.gT ?_; (first | (refine SL.c true tabOk ?_) | (refine SL.c false tabOk ?_) | (refine SL.e tabOk ?_))) | refine SL.gF ?_); refine SL.e tabOk ?_; refine SL.e tabOk ?_; (with_reducible refine SL.nil ?_)) | ((with_reducible refine SP.region (id := 4) ?_); refine SL.e tabOk ?_; refine SL.e tabOk ?_; refine SL.e tabOk ?_; (with_reducible refine SL.nil ?_)) | ((with_reducible show SP _ _ _ (Code.region _ _ true) _ _ _); first | (refine SP_any (id := 6) [8] [] ([]) [0, 1, 2, 3, 4, 5, 6, 7, 8] follows (by kernel_rfl) (by first | (simp only [List.filterMap_cons, List.filterMap_nil, List.getElem?_cons_zero, List.getElem?_cons_succ, Option.map_some]; done) | (simp only [List.filterMap_cons, List.filterMap_nil, List.getElem?_cons_zero, List.getElem?_cons_succ, Option.map_some]; rfl)) (by first | exact Kept.nil | (simp [Kept]; done)) ?_; refine SF.ldR tabOk ?_; refine SF.ldR tabOk ?_; refine SF.p tabOk ?_; refine SF.p tabOk ?_; refine SF.p tabOk ?_; refine SF.ctS tabOk 0 (m - 16) ?_ (hhi := by exact f16); refine SF.v (ValO.call ent_27 _ rfl _ (fun w1 hw1 => aetag_any K N hK hN p _ n c (m - 16) d A (B.take (m - 16)) bA (bB.take2 _) (by omega) (by omega) w1 (hSA.old hw1.below) ((hSB.take (k := m - 16) (by omega)).old hw1.below))) ?_; refine SF.al zero_43 ?_; (first | (have _t := tok_kb; clear _t tok_kb; intro kb) | (have _t := tok_nb; clear _t tok_nb; intro nb) | (have _t := tok_tb; clear _t tok_tb; intro tb) | intro _); refine SF.stR tabOk ?_; refine SF.done ?_) | (refine SP_any (id := 7) [] [] ([]) [0, 1, 2, 3, 4, 5] follows (by kernel_rfl) (by first | (simp only [List.filterMap_cons, List.filterMap_nil, List.getElem?_cons_zero, List.getElem?_cons_succ, Option.map_some]; done) | (simp only [List.filterMap_cons, List.filterMap_nil, List.getElem?_cons_zero, List.getElem?_cons_succ, Option.map_some]; rfl)) (by first | exact Kept.nil | (simp [Kept]; done)) ?_; refine SF.ctA tabOk 0 16 ?_; refine SF.p tabOk ?_; refine SF.p tabOk ?_; refine SF.ctS tabOk (m - 16) m ?_ (hlo := by exact f16); refine SF.v (ValO.call ent_36 _ rfl _ (fun w1 hw1 => same_yes _ _ _ _ _ _ (aeT K N A (B.take (m - 16))) (B.drop (m - 16)) (aeT_byts _ _ _ _) (bB.drop2 _) w1 (Sl.of hw1 (RdA.own g0) (Lies.whole _) (by simp) (Nat.le_refl _)) ((hSB.drop (k := m - 16) (by omega)).old hw1.below) (by decide) hok)) ?_; refine SF.e tabOk ?_; refine SF.done ?_) | (refine SP_any (id := 9) [5] [] ([]) [0, 1, 2, 3, 4, 5, 6, 7, 8, 9] follows (by kernel_rfl) (by first | (simp only [List.filterMap_cons, List.filterMap_nil, List.getElem?_cons_zero, List.getElem?_cons_succ, Option.map_some]; done) | (simp only [List.filterMap_cons, List.filterMap_nil, List.getElem?_cons_zero, List.getElem?_cons_succ, Option.map_some]; rfl)) (by first | exact Kept.nil | (simp [Kept]; done)) ?_; refine SF.ldR tabOk ?_; refine SF.ldR tabOk ?_; refine SF.p tabOk ?_; refine SF.p tabOk ?_; refine SF.ctS tabOk 0 (m - 16) ?_ (hhi := by exact f16); refine SF.clN ent_17 rfl (fun w1 hw1 => xor_any K 1 N hK hN _ (m - 16) _ _ (by decide) (by omega) w1 (((hSB.take (k := m - 16) (by omega)).old hw1.below))) (fun xb => ?_); refine SF.p tabOk ?_; refine SF.p tabOk ?_; refine SF.p tabOk ?_; refine SF.p tabOk ?_; refine SF.done ?_)) | ((with_reducible refine SP.seqK ?_); intro _ _) | (with_reducible refine thenK_normal ?_) | (refine useK (by assumption) ?_) | (with_reducible refine SP.block ?_) | (with_reducible refine thenK_exit ?_) | (with_reducible refine thenK_ret ?_) | (with_reducible refine blockK_normal ?_) | (with_reducible refine blockK_ret ?_) | (with_reducible refine blockK_eq ?_) | (with_reducible refine blockK_ne rfl ?_) | (with_reducible refine SP.skip ?_) | (with_reducible refine SP.ret ?_) | (with_reducible refine SP.exit ?_) | ((with_reducible show SP _ _ _ (Code.cond _ _ _) _ _ _); first | (refine SP.condT rfl (by first | rfl | (simp only [decide_eq_true_eq, beq_iff_eq, bne_iff_ne]; first | done | omega)) ?_) | (refine SP.condF rfl (by first | rfl | (simp only [decide_eq_false_iff_not, beq_eq_false_iff_ne, bne_eq_false_iff_eq]; first | done | omega)) ?_)))
    refine doneK.mk rfl (ResO.tmp2 rfl rfl) ⟨_, _, _, rfl, AO.row (J := []) (by simp; omega) (Nat.le_refl _), by rw [List.append_nil]; exact sub1⟩
  · rintro e w' ⟨v, bs', rfl, ⟨q, c, abs, rfl, ha, hs⟩, hw'⟩
    exact ⟨q, c, abs, rfl, ha, hw'.sub hs⟩

end Sp

end Go.Proofs.Ytpighhoehhilkaa
