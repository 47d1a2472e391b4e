/-
  PolySame: same answers as the chapter says, of all bytes. No conditions.
-/
import Derived.Test.YtngbfamlhlhbmaaPolyS
import Derived.Test.YtngbfamlhlhbmaaLawS
namespace Go.Proofs.Ytngbfamlhlhbmaa
set_option linter.unusedSimpArgs false
set_option linter.unusedVariables false
open Go Go.RowKit

open Go.ChangeShapes Go.WideShapes Go.ChangeAt Sp F M
theorem or_zero {x y : Int} (hx : 0 ≤ x ∧ x < 256) (hy : 0 ≤ y ∧ y < 256) : (bits .or .u8 x y = 0 ↔ x = 0 ∧ y = 0) ∧ 0 ≤ bits .or .u8 x y ∧ bits .or .u8 x y < 256 := by
  obtain ⟨a, rfl⟩ := Int.eq_ofNat_of_zero_le hx.1
  obtain ⟨b, rfl⟩ := Int.eq_ofNat_of_zero_le hy.1
  rw [u8_or_nat a b (by omega) (by omega)]
  have h := Nat.or_lt_two_pow (n := 8) (x := a) (y := b) (by omega) (by omega)
  have h0 : a ||| b = 0 ↔ a = 0 ∧ b = 0 := Nat.or_eq_zero_iff
  omega
theorem xor_zero {x y : Int} (hx : 0 ≤ x ∧ x < 256) (hy : 0 ≤ y ∧ y < 256) : (bits .xor .u8 x y = 0 ↔ x = y) ∧ 0 ≤ bits .xor .u8 x y ∧ bits .xor .u8 x y < 256 := by
  obtain ⟨a, rfl⟩ := Int.eq_ofNat_of_zero_le hx.1
  obtain ⟨b, rfl⟩ := Int.eq_ofNat_of_zero_le hy.1
  rw [u8_xor_nat a b (by omega) (by omega)]
  have h := Nat.xor_lt_two_pow (n := 8) (x := a) (y := b) (by omega) (by omega)
  have h0 : a ^^^ b = 0 ↔ a = b := by
    constructor
    · intro h
      have h2 : a ^^^ b ^^^ b = 0 ^^^ b := by rw [h]
      rw [Nat.xor_assoc, Nat.xor_self, Nat.xor_zero, Nat.zero_xor] at h2
      exact h2
    · intro h
      rw [h, Nat.xor_self]
  omega
theorem smI_val {A B : List Int} (hA : Byts A) (hB : Byts B) : ∀ k, (smI A B k = 0 ↔ ∀ j, j < k → gi A j = gi B j) ∧ 0 ≤ smI A B k ∧ smI A B k < 256
  | 0 => by rw [smI_0]; exact ⟨⟨fun _ j hj => absurd hj (Nat.not_lt_zero j), fun _ => rfl⟩, by omega, by omega⟩
  | k + 1 => by
    obtain ⟨h1, h2⟩ := smI_val hA hB k
    obtain ⟨x1, x2⟩ := xor_zero (hA k) (hB k)
    obtain ⟨o1, o2⟩ := or_zero h2 x2
    rw [smI_s]
    refine ⟨?_, o2⟩
    rw [o1, h1, x1]
    constructor
    · rintro ⟨ha, hb⟩ j hj
      rcases Nat.lt_or_ge j k with h | h
      · exact ha j h
      · rw [show j = k by omega]; exact hb
    · intro h
      exact ⟨fun j hj => h j (by omega), h k (by omega)⟩
theorem same_val {A B : List Int} {n m : Nat} (hA : Byts A) (hB : Byts B) (lA : A.length = n) (lB : B.length = m) : (decide (n = m) && (smI A B n == 0)) = decide (A = B) := by
  by_cases h : A = B
  · subst h
    rw [decide_eq_true rfl, decide_eq_true (by omega), ((smI_val hA hA n).1).2 (fun _ _ => rfl)]
    rfl
  · rw [decide_eq_false h]
    by_cases hnm : n = m
    · rw [decide_eq_true hnm, Bool.true_and, beq_eq_false_iff_ne]
      intro hz
      exact h (rsame_any_ext (by omega) (fun j hj => ((smI_val hA hB n).1).1 hz j (by omega)))
    · rw [decide_eq_false hnm, Bool.false_and]
theorem psame_h (p q : Option Addr) (n m c d : Nat) (A B : List Int) (bA : Byts A) (bB : Byts B) (w : World) (hA : Sl w p n c A) (hB : Sl w q m d B) (hmax : n ≤ 140737488355328) : Calls Try.prog 24 #[.slice p n c, .slice q m d] w fun e w' => e = .returned (.bool (decide (A = B))) ∧ Below w.heap.size w w' := by
  rw [← same_val bA bB hA.len hB.len]
  exact psame_any p q n m c d A B w hA hB hmax
theorem psame_t (p q : Option Addr) (n c d : Nat) (A : List Int) (bA : Byts A) (w : World) (hA : Sl w p n c A) (hB : Sl w q n d A) (hmax : n ≤ 140737488355328) : Calls Try.prog 24 #[.slice p n c, .slice q n d] w fun e w' => e = .returned (.bool true) ∧ Below w.heap.size w w' := by
  have := psame_h p q n n c d A A bA bA w hA hB hmax
  rwa [decide_eq_true rfl] at this

set_option maxRecDepth 20000 in
set_option maxHeartbeats 2000000 in
theorem polySame_walk (p : Option Addr) (n c : Nat) (A : List Int) {w : World} (hA : Sl w p n c A) (bA : Byts A) (mA : n ≤ 140737488351232) (q : Option Addr) (m d : Nat) (B : List Int) (hB : Sl w q m d B) (bB : Byts B) (mB : m ≤ 140737488351232) :
    Calls Try.prog 11 #[.slice p n c, .slice q m d] w fun e w' => e = .returned (.bool true) ∧ Below w.heap.size w w' := by
  by_cases h0 : n = 0
  · subst h0
    obtain rfl : A = [] := List.eq_nil_of_length_eq_zero hA.len
    refine pure_of_SP Try.func11 rfl [.slice p 0 c, .slice q m d, undef, undef, undef, undef, undef, undef, undef, undef, undef, undef, undef, undef, undef, undef, undef, undef, undef, undef, undef, undef, undef, undef, undef, undef, undef, undef, undef, undef] (by simp only [Try.ntmps11, List.size_toArray, List.length_cons, List.length_nil, Nat.reduceAdd, Nat.reduceSub, Array.replicate_succ, Array.replicate_zero, List.push_toArray, List.append_toArray, List.nil_append, List.cons_append]) _ Try.results11 _ ?_
    repeat (first | ((with_reducible refine SP.region (id := 0) ?_); refine SL.e tabOk ?_; (with_reducible refine SL.nil ?_)) | ((with_reducible refine SP.region (id := 1) ?_); refine SL.e tabOk ?_; refine SL.e tabOk ?_; refine SL.v (ValO.call ent_24 _ rfl _ (fun w1 hw1 => psame_h p q 0 m c d [] B bA bB w1 (hA.old hw1.below) (hB.old hw1.below) (by omega))) ?_; refine SL.e tabOk ?_; refine SL.e tabOk ?_; refine SL.v (ValO.call ent_25 _ rfl _ (fun w1 hw1 => rsame_any p q 0 m c d [] B w1 (hA.old hw1.below) (hB.old hw1.below) (by omega))) ?_; refine SL.v (ValO.eqB (r := true) tabOk rfl rfl rfl (by simp)) ?_; refine SL.e tabOk ?_; (first | (refine SL.gT ?_; refine SL.e tabOk ?_) | refine SL.gF ?_); (first | (refine SL.gT ?_; refine SL.e tabOk ?_) | refine SL.gF ?_); (first | (refine SL.gT ?_; refine SL.v (ValO.call ent_24 _ rfl _ (fun w1 hw1 => psame_h q p m 0 d c B [] bB bA w1 (hB.old hw1.below) (hA.old hw1.below) (by omega))) ?_) | refine SL.gF ?_); (first | (refine SL.gT ?_; refine SL.e tabOk ?_) | refine SL.gF ?_); (first | (refine SL.gT ?_; refine SL.e tabOk ?_) | refine SL.gF ?_); (first | (refine SL.gT ?_; refine SL.v (ValO.call ent_25 _ rfl _ (fun w1 hw1 => rsame_any p q 0 m c d [] B w1 (hA.old hw1.below) (hB.old hw1.below) (by omega))) ?_) | refine SL.gF ?_); (first | (refine SL.gT ?_; refine SL.v (ValO.eqB (r := true) tabOk rfl rfl rfl (by rw [beq_iff_eq]; exact decide_eq_decide.2 ⟨Eq.symm, Eq.symm⟩)) ?_) | refine SL.gF ?_); refine SL.e tabOk ?_; refine SL.e tabOk ?_; (first | (refine SL.gT ?_; refine SL.e tabOk ?_) | refine SL.gF ?_); (first | (refine SL.gT ?_; refine SL.e tabOk ?_) | refine SL.gF ?_); (first | (refine SL.gT ?_; refine SL.v (ValO.call ent_14 _ rfl _ (fun w1 hw1 => copy_any_nil p c w1)) ?_) | refine SL.gF ?_); (first | (refine SL.gT ?_; refine SL.v (ValO.call ent_24 _ rfl _ (fun w1 hw1 => psame_t p none 0 c 0 [] bA w1 (hA.old hw1.below) (Sl.nil w1 none 0) (by decide))) ?_) | refine SL.gF ?_); refine SL.e tabOk ?_; refine SL.e tabOk ?_; (first | (refine SL.gT ?_; refine SL.v (ValO.call ent_18 _ rfl _ (fun w1 hw1 => works_any w1)) ?_) | refine SL.gF ?_); refine SL.e tabOk ?_; refine SL.e tabOk ?_; (with_reducible refine SL.nil ?_)) | ((with_reducible refine SP.seqK ?_); intro _ _) | (with_reducible refine thenK_normal ?_) | (refine useK (by assumption) ?_) | (with_reducible refine SP.block ?_) | (with_reducible refine thenK_exit ?_) | (with_reducible refine thenK_ret ?_) | (with_reducible refine blockK_normal ?_) | (with_reducible refine blockK_ret ?_) | (with_reducible refine blockK_eq ?_) | (with_reducible refine blockK_ne rfl ?_) | (with_reducible refine SP.skip ?_) | (with_reducible refine SP.ret ?_) | (with_reducible refine SP.exit ?_) | ((with_reducible show SP _ _ _ (Code.cond _ _ _) _ _ _); first | (refine SP.condT rfl (by first | rfl | (simp only [decide_eq_true_eq, beq_iff_eq, bne_iff_ne]; first | done | omega)) ?_) | (refine SP.condF rfl (by first | rfl | (simp only [decide_eq_false_iff_not, beq_eq_false_iff_ne, bne_eq_false_iff_eq]; first | done | omega)) ?_)))
    exact doneK.mk rfl (ResO.tmp rfl) rfl
  · refine pure_of_SP Try.func11 rfl [.slice p n c, .slice q m d, undef, undef, undef, undef, undef, undef, undef, undef, undef, undef, undef, undef, undef, undef, undef, undef, undef, undef, undef, undef, undef, undef, undef, undef, undef, undef, undef, undef] (by simp only [Try.ntmps11, List.size_toArray, List.length_cons, List.length_nil, Nat.reduceAdd, Nat.reduceSub, Array.replicate_succ, Array.replicate_zero, List.push_toArray, List.append_toArray, List.nil_append, List.cons_append]) _ Try.results11 _ ?_
    repeat (first | ((with_reducible refine SP.region (id := 0) ?_); refine SL.e tabOk ?_; (with_reducible refine SL.nil ?_)) | ((with_reducible refine SP.region (id := 1) ?_); refine SL.e tabOk ?_; refine SL.e tabOk ?_; refine SL.v (ValO.call ent_24 _ rfl _ (fun w1 hw1 => psame_h p q n m c d A B bA bB w1 (hA.old hw1.below) (hB.old hw1.below) (by omega))) ?_; refine SL.e tabOk ?_; refine SL.e tabOk ?_; refine SL.v (ValO.call ent_25 _ rfl _ (fun w1 hw1 => rsame_any p q n m c d A B w1 (hA.old hw1.below) (hB.old hw1.below) (by omega))) ?_; refine SL.v (ValO.eqB (r := true) tabOk rfl rfl rfl (by simp)) ?_; refine SL.e tabOk ?_; (first | (refine SL.gT ?_; refine SL.e tabOk ?_) | refine SL.gF ?_); (first | (refine SL.gT ?_; refine SL.e tabOk ?_) | refine SL.gF ?_); (first | (refine SL.gT ?_; refine SL.v (ValO.call ent_24 _ rfl _ (fun w1 hw1 => psame_h q p m n d c B A bB bA w1 (hB.old hw1.below) (hA.old hw1.below) (by omega))) ?_) | refine SL.gF ?_); (first | (refine SL.gT ?_; refine SL.e tabOk ?_) | refine SL.gF ?_); (first | (refine SL.gT ?_; refine SL.e tabOk ?_) | refine SL.gF ?_); (first | (refine SL.gT ?_; refine SL.v (ValO.call ent_25 _ rfl _ (fun w1 hw1 => rsame_any p q n m c d A B w1 (hA.old hw1.below) (hB.old hw1.below) (by omega))) ?_) | refine SL.gF ?_); (first | (refine SL.gT ?_; refine SL.v (ValO.eqB (r := true) tabOk rfl rfl rfl (by rw [beq_iff_eq]; exact decide_eq_decide.2 ⟨Eq.symm, Eq.symm⟩)) ?_) | refine SL.gF ?_); refine SL.e tabOk ?_; refine SL.e tabOk ?_; (first | (refine SL.gT ?_; refine SL.e tabOk ?_) | refine SL.gF ?_); (first | (refine SL.gT ?_; refine SL.e tabOk ?_) | refine SL.gF ?_); (first | (refine SL.gT ?_; refine SL.clN2 ent_14 rfl (fun w1 hw1 => copy_any p n c A w1 (hA.old hw1.below) (by omega) (by omega)) (fun nb cap hcap => ?_)) | refine SL.gF ?_); (first | (refine SL.gT ?_; refine SL.v (ValO.call ent_24 _ rfl _ (fun w1 hw1 => psame_t p _ n c _ A bA w1 (hA.old hw1.below) (Sl.of hw1 (RdA.own g0) (Lies.row A _) hA.len hcap) (by omega))) ?_) | refine SL.gF ?_); refine SL.e tabOk ?_; refine SL.e tabOk ?_; (first | (refine SL.gT ?_; refine SL.v (ValO.call ent_18 _ rfl _ (fun w1 hw1 => works_any w1)) ?_) | refine SL.gF ?_); refine SL.e tabOk ?_; refine SL.e tabOk ?_; (with_reducible refine SL.nil ?_)) | ((with_reducible refine SP.seqK ?_); intro _ _) | (with_reducible refine thenK_normal ?_) | (refine useK (by assumption) ?_) | (with_reducible refine SP.block ?_) | (with_reducible refine thenK_exit ?_) | (with_reducible refine thenK_ret ?_) | (with_reducible refine blockK_normal ?_) | (with_reducible refine blockK_ret ?_) | (with_reducible refine blockK_eq ?_) | (with_reducible refine blockK_ne rfl ?_) | (with_reducible refine SP.skip ?_) | (with_reducible refine SP.ret ?_) | (with_reducible refine SP.exit ?_) | ((with_reducible show SP _ _ _ (Code.cond _ _ _) _ _ _); first | (refine SP.condT rfl (by first | rfl | (simp only [decide_eq_true_eq, beq_iff_eq, bne_iff_ne]; first | done | omega)) ?_) | (refine SP.condF rfl (by first | rfl | (simp only [decide_eq_false_iff_not, beq_eq_false_iff_ne, bne_eq_false_iff_eq]; first | done | omega)) ?_)))
    exact doneK.mk rfl (ResO.tmp rfl) rfl

set_option maxRecDepth 100000 in
theorem PolySame_lifted (os : Os) (started : os.Started) (H : Type) (enc : TypeId × Value → H) :
    ReturnsInHanded {} Try.checked os 11 .any (Rows.polySameSpec.pre6 enc Try.prog Try.f11 Rows.polySameRow.domain false) (Rows.polySameSpec.post enc Try.prog Try.f11 false true false false) := by
  refine returnsInHanded_of_change_sized (C := Try.checked) (by kernel_rfl) started (by kernel_rfl) Try.func11
    (ChangeSpec.witness6 (enc := enc) (C := Try.checked) false ⟨#[], #[.slice none 0 0, .slice none 0 0], []⟩ 8 (by kernel_rfl) (by kernel_rfl) (by kernel_rfl) (by kernel_rfl)) ?_
  intro W base args ds gs before hval0 hW hcnd hz0 _
  have hval : ∀ (j : Nat) t v, Try.f11.params[j]? = some t → args[j]? = some v → Value.okWide Try.prog W .any base t v := hval0
  have hW' := hW
  obtain ⟨p, q, hA0, hV, rfl, hfz, hnd⟩ := hW
  have hA : DataW.TrodAll enc Try.prog W 0 (fun _ => true) true Try.f11.params.toList args.toList ds p := hA0
  have hz : (DataW.weightsEach Try.prog (Try.f11.params.toList ++ []) (ds ++ gs)).all (· ≤ reachBytes) = true := hz0
  rw [Try.params11] at hA hval hz
  obtain ⟨v0, vs0, d0, ds0, p0, q0, hargs, rfl, rfl, h0, r0⟩ := trodAll_cons hA
  obtain ⟨v1, vs1, d1, ds1, p1, q1, rfl, rfl, rfl, h1, r1⟩ := trodAll_cons r0
  obtain ⟨rfl, rfl, rfl⟩ := trodAll_nil r1
  obtain rfl : args = #[v0, v1] := by cases args; simp_all
  obtain ⟨rfl, rfl⟩ := trodVars_none hV
  have k0 := h0
  have k1 := h1
  obtain ⟨s0, n0, c0, B0, rfl, S0, b0, m0, o0⟩ := open_bytes Try.underlying24 Try.underlying5 (by kernel_rfl) (hval 0 24 v0 rfl rfl) h0 (fun es sp he => sized_slice hz (j := 0) (by rfl) (by rw [he]; rfl) Try.underlying24)
  obtain ⟨s1, n1, c1, B1, rfl, S1, b1, m1, o1⟩ := open_bytes Try.underlying24 Try.underlying5 (by kernel_rfl) (hval 1 24 v1 rfl rfl) h1 (fun es sp he => sized_slice hz (j := 1) (by rfl) (by rw [he]; rfl) Try.underlying24)
  clear hA0 hval0 hz0 hz
  refine (polySame_walk s0 n0 c0 B0 S0 b0 m0 s1 n1 c1 B1 S1 b1 m1).mono fun e W' ⟨he, hg⟩ => ?_
  subst he
  exact ⟨_, rfl, _, _, _, _, _, _, hW', (trodAll_cons_mk (shut_bool Try.underlying4 _) trodAll_mk0), (trodAll_cons_mk (Below.trod Try.laidOut (by kernel_rfl) (of_decide_eq_true (by kernel_rfl)) k0 hg (trod_lt' k0)) (trodAll_cons_mk (Below.trod Try.laidOut (by kernel_rfl) (of_decide_eq_true (by kernel_rfl)) k1 hg (trod_lt' k1)) trodAll_mk0)), rfl_vars, hg.frame _, fun h => by cases h⟩

theorem PolySame_holds : Rows.PolySameSaid :=
  OpenClaim.holds_of_wide 11 Try.f11 rfl rfl rfl rfl rfl rfl rfl ⟨rfl, rfl, rfl, rfl, rfl⟩ rfl rfl rfl rfl rfl (by kernel_rfl) Try.func11 (by kernel_rfl)
    (of_decide_eq_true (by kernel_rfl)) (by unfold Func.isWrapper; first | (rw [if_pos (by decide +kernel)]; kernel_rfl) | (rw [if_neg (by decide +kernel)]; exact ⟨rfl, rfl⟩))
    (fun os started H enc _ => PolySame_lifted os started H enc)
#print axioms PolySame_holds

end Go.Proofs.Ytngbfamlhlhbmaa
