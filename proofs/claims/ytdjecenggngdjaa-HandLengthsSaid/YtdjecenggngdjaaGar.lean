/-
  Joined texts: CiB, CiC, CiD, CiW. No conditions.
-/
import Derived.Test.YtdjecenggngdjaaGae
import Derived.Test.YtdjecenggngdjaaGap
import Derived.Test.YtdjecenggngdjaaGaq
namespace Go.Proofs.Ytdjecenggngdjaa
set_option linter.unusedSimpArgs false
set_option linter.unusedVariables false
set_option maxHeartbeats 16000000
set_option maxRecDepth 20000
section
open Go Go.RowKit
namespace Sp
open F M
@[irreducible] def kE (n e : Int) : Int := if 9007199254740991 ≤ n then 90 else e
@[irreducible] def kX (n : Int) (X : List Int) : List Int := if 9007199254740991 ≤ n then [] else X
@[irreducible] def kN (n e : Int) : Int := if e = 0 then n + 1 else n
@[irreducible] def pE (n m : Int) : Int := if m < n ∨ 9007199254740991 < m then 9 else 0
@[irreducible] def pN (n m : Int) : Int := if m < n ∨ 9007199254740991 < m then n else m
theorem kE_end {n : Int} (h : 9007199254740991 ≤ n) (e : Int) : kE n e = 90 := by unfold kE; rw [if_pos h]
theorem kE_in {n : Int} (h : n < 9007199254740991) (e : Int) : kE n e = e := by unfold kE; rw [if_neg (by omega)]
theorem kX_end {n : Int} (h : 9007199254740991 ≤ n) (X : List Int) : kX n X = [] := by unfold kX; rw [if_pos h]
theorem kX_in {n : Int} (h : n < 9007199254740991) (X : List Int) : kX n X = X := by unfold kX; rw [if_neg (by omega)]
theorem kN_0 (n : Int) : kN n 0 = n + 1 := by unfold kN; rw [if_pos rfl]
theorem kN_ne (n : Int) {e : Int} (h : e ≠ 0) : kN n e = n := by unfold kN; rw [if_neg h]
theorem pE_out {n m : Int} (h : m < n ∨ 9007199254740991 < m) : pE n m = 9 := by unfold pE; rw [if_pos h]
theorem pE_in {n m : Int} (h : n ≤ m) (h2 : m ≤ 9007199254740991) : pE n m = 0 := by unfold pE; rw [if_neg (by omega)]
theorem pN_out {n m : Int} (h : m < n ∨ 9007199254740991 < m) : pN n m = n := by unfold pN; rw [if_pos h]
theorem pN_in {n m : Int} (h : n ≤ m) (h2 : m ≤ 9007199254740991) : pN n m = m := by unfold pN; rw [if_neg (by omega)]
theorem list16a {x : List Int} (h : x.length = 16) : ∃ a0 a1 a2 a3 a4 a5 a6 a7 a8 a9 a10 a11 a12 a13 a14 a15, x = [a0, a1, a2, a3, a4, a5, a6, a7, a8, a9, a10, a11, a12, a13, a14, a15] := by
  match x, h with
  | [a0, a1, a2, a3, a4, a5, a6, a7, a8, a9, a10, a11, a12, a13, a14, a15], _ => exact ⟨_, _, _, _, _, _, _, _, _, _, _, _, _, _, _, _, rfl⟩
theorem list32 {x : List Int} (h : x.length = 32) : ∃ a0 a1 a2 a3 a4 a5 a6 a7 a8 a9 a10 a11 a12 a13 a14 a15 a16 a17 a18 a19 a20 a21 a22 a23 a24 a25 a26 a27 a28 a29 a30 a31, x = [a0, a1, a2, a3, a4, a5, a6, a7, a8, a9, a10, a11, a12, a13, a14, a15, a16, a17, a18, a19, a20, a21, a22, a23, a24, a25, a26, a27, a28, a29, a30, a31] := by
  obtain ⟨a0, a1, a2, a3, a4, a5, a6, a7, a8, a9, a10, a11, a12, a13, a14, a15, hx⟩ := list16a (x := x.take 16) (by simp [h])
  obtain ⟨a16, a17, a18, a19, a20, a21, a22, a23, a24, a25, a26, a27, a28, a29, a30, a31, hy⟩ := list16a (x := x.drop 16) (by simp [h])
  refine ⟨a0, a1, a2, a3, a4, a5, a6, a7, a8, a9, a10, a11, a12, a13, a14, a15, a16, a17, a18, a19, a20, a21, a22, a23, a24, a25, a26, a27, a28, a29, a30, a31, ?_⟩
  rw [← List.take_append_drop 16 x, hx, hy]
  rfl
theorem st_built (K : List Int) (hK : K.length = 32) : Try.prog.built 78 [(0, .bool true), (1, .agg (ints .u8 K))] = some (stRow true K 0) := by
  obtain ⟨_, _, _, _, _, _, _, _, _, _, _, _, _, _, _, _, _, _, _, _, _, _, _, _, _, _, _, _, _, _, _, _, rfl⟩ := list32 hK
  unfold stRow
  kernel_rfl
theorem new_any (K : List Int) (hK : K.length = 32) (w : World) :
    Calls Try.prog 30 #[.agg (ints .u8 K)] w fun e w' => ∃ nb, e = .returned (.pointer (some ⟨nb, 0, none⟩)) ∧ OwnM w [] w' [(nb, stRow true K 0, 78)] := by
  have tok_kb : True := trivial
  have tok_sb : True := trivial
  refine newE Try.func30 Try.ntmps30 Try.results30 ?_
  repeat (first | (refine rgn 0 ?_; refine SL.bx ?_; (first | (have _t := tok_kb; clear _t tok_kb; intro kb) | (have _t := tok_sb; clear _t tok_sb; intro sb) | intro _); refine sEv ?_; refine nlx ?_) | (refine rgn 1 ?_; refine SL.ldR tabOk ?_; refine SL.v (ValO.build (by first | (dsimp only [List.map, evL, nth]; done) | (dsimp only [List.map, evL, nth]; rfl)) (st_built K hK)) ?_; refine SL.bx ?_; (first | (have _t := tok_kb; clear _t tok_kb; intro kb) | (have _t := tok_sb; clear _t tok_sb; intro sb) | intro _); refine sEv ?_; refine nlx ?_) | (refine zsq ?_; intro _ _) | (with_reducible refine zkN ?_) | (refine useK (by assumption) ?_) | (with_reducible refine zsR ?_))
  exact doneK.mk rfl (ResO.tmp rfl) ⟨_, rfl, (by first | exact sub1 | exact subc sub1)⟩
theorem none_no (K : List Int) (hK : K.length = 32) (n : Int) (b : Nat) (w : World) {fz : Nat × Nat} {TT : TypeId} (hb : w.heap[b]? = some (.cells (stRow true K n) TT fz)) :
    Calls Try.prog 84 #[.pointer (some ⟨b, 0, none⟩)] w fun e w' => e = .returned (.bool false) ∧ Below w.heap.size w w' := by
  refine pureE Try.func84 Try.ntmps84 Try.results84 ?_
  repeat (first | (refine rgn 0 ?_; refine sEv ?_; refine nlx ?_) | (refine rgn 1 ?_; refine sEv ?_; (first | (refine SL.v (ValO.ptrNil tabOk rfl rfl rfl) ?_) | (refine SL.v (ValO.ptrNilT tabOk rfl rfl rfl) ?_)); refine sEv ?_; (first | (refine SL.gT ?_; refine sEv ?_) | refine SL.gF ?_); (first | (refine SL.gT ?_; refine SL.nc ?_) | refine SL.gF ?_); (first | (refine SL.gT ?_; refine sEv ?_) | refine SL.gF ?_); (first | (refine SL.gT ?_; refine SL.ldC tabOk ?_ (hv := st_g)) | refine SL.gF ?_); (first | (refine SL.gT ?_; refine sEv ?_) | refine SL.gF ?_); refine sEv ?_; refine sEv ?_; refine nlx ?_) | (refine zsq ?_; intro _ _) | (with_reducible refine zkN ?_) | (refine useK (by assumption) ?_) | (with_reducible refine zsR ?_))
  exact doneK.mk rfl (ResO.tmp rfl) rfl
theorem skip_any (K : List Int) (hK : K.length = 32) (n m : Int) (b : Nat) (w : World) (hb : w.heap[b]? = some (.cells (stRow true K n) 78 (0, 0))) :
    Calls Try.prog 74 #[.pointer (some ⟨b, 0, none⟩), .int .i64 m] w fun e w' => e = .returned (.int .i64 (pE n m)) ∧ OwnM w [b] w' [(b, stRow true K (pN n m), 78)] := by
  by_cases h1 : m < n
  · rw [pE_out (.inl h1), pN_out (.inl h1)]
    refine mutE Try.func74 Try.ntmps74 Try.results74 hb ?_
    repeat (first | (refine rgn 0 ?_; refine sEv ?_; refine nlx ?_) | (refine rgn 1 ?_; refine sEv ?_; refine SL.v (ValO.call ent_84 _ rfl _ (fun w1 hw1 => none_no K hK n b w1 (hbk hw1 b))) ?_; refine sEv ?_; refine nlx ?_) | (refine rgn 3 ?_; refine sEv ?_; refine sEv ?_; refine SL.nc ?_; refine sEv ?_; refine SL.ldC tabOk ?_ (hv := st_n hK); (first | (refine SL.c true tabOk ?_) | (refine SL.c false tabOk ?_) | (refine sEv ?_)); refine sEv ?_; (first | (refine SL.gT ?_; refine sEv ?_) | refine SL.gF ?_); (first | (refine SL.gT ?_; (first | (refine SL.c true tabOk ?_) | (refine SL.c false tabOk ?_) | (refine sEv ?_))) | refine SL.gF ?_); refine sEv ?_; refine sEv ?_; refine nlx ?_) | (refine rgn 4 ?_; refine sEv ?_; refine nlx ?_) | (refine zsq ?_; intro _ _) | (with_reducible refine zkN ?_) | (refine useK (by assumption) ?_) | (with_reducible first | refine zsB ?_ | refine zkR ?_ | refine zbR ?_ | refine zsR ?_) | (refine cdT ?_) | (refine cdF ?_))
    exact doneK.mk rfl (ResO.tmp rfl) ⟨rfl, sub1⟩
  · by_cases h2 : 9007199254740991 < m
    · rw [pE_out (.inr h2), pN_out (.inr h2)]
      refine mutE Try.func74 Try.ntmps74 Try.results74 hb ?_
      repeat (first | (refine rgn 0 ?_; refine sEv ?_; refine nlx ?_) | (refine rgn 1 ?_; refine sEv ?_; refine SL.v (ValO.call ent_84 _ rfl _ (fun w1 hw1 => none_no K hK n b w1 (hbk hw1 b))) ?_; refine sEv ?_; refine nlx ?_) | (refine rgn 3 ?_; refine sEv ?_; refine sEv ?_; refine SL.nc ?_; refine sEv ?_; refine SL.ldC tabOk ?_ (hv := st_n hK); (first | (refine SL.c true tabOk ?_) | (refine SL.c false tabOk ?_) | (refine sEv ?_)); refine sEv ?_; (first | (refine SL.gT ?_; refine sEv ?_) | refine SL.gF ?_); (first | (refine SL.gT ?_; (first | (refine SL.c true tabOk ?_) | (refine SL.c false tabOk ?_) | (refine sEv ?_))) | refine SL.gF ?_); refine sEv ?_; refine sEv ?_; refine nlx ?_) | (refine rgn 4 ?_; refine sEv ?_; refine nlx ?_) | (refine zsq ?_; intro _ _) | (with_reducible refine zkN ?_) | (refine useK (by assumption) ?_) | (with_reducible first | refine zsB ?_ | refine zkR ?_ | refine zbR ?_ | refine zsR ?_) | (refine cdT ?_) | (refine cdF ?_))
      exact doneK.mk rfl (ResO.tmp rfl) ⟨rfl, sub1⟩
    · rw [pE_in (by omega) (by omega), pN_in (by omega) (by omega)]
      refine mutE Try.func74 Try.ntmps74 Try.results74 hb ?_
      repeat (first | (refine rgn 0 ?_; refine sEv ?_; refine nlx ?_) | (refine rgn 1 ?_; refine sEv ?_; refine SL.v (ValO.call ent_84 _ rfl _ (fun w1 hw1 => none_no K hK n b w1 (hbk hw1 b))) ?_; refine sEv ?_; refine nlx ?_) | (refine rgn 3 ?_; refine sEv ?_; refine sEv ?_; refine SL.nc ?_; refine sEv ?_; refine SL.ldC tabOk ?_ (hv := st_n hK); (first | (refine SL.c true tabOk ?_) | (refine SL.c false tabOk ?_) | (refine sEv ?_)); refine sEv ?_; (first | (refine SL.gT ?_; refine sEv ?_) | refine SL.gF ?_); (first | (refine SL.gT ?_; (first | (refine SL.c true tabOk ?_) | (refine SL.c false tabOk ?_) | (refine sEv ?_))) | refine SL.gF ?_); refine sEv ?_; refine sEv ?_; refine nlx ?_) | (refine rgn 5 ?_; refine sEv ?_; refine sEv ?_; refine SL.nc ?_; refine sEv ?_; refine SL.stP tabOk ?_ (hsz := by rw [st_size hK]; omega) (hA := st_pn hK _); refine nlx ?_) | (refine rgn 6 ?_; refine sEv ?_; refine nlx ?_) | (refine zsq ?_; intro _ _) | (with_reducible refine zkN ?_) | (refine useK (by assumption) ?_) | (with_reducible first | refine zsB ?_ | refine zsS ?_ | refine zsR ?_) | ((with_reducible show SP _ _ _ (Code.cond _ _ _) _ _ _); first | (refine cdF ?_)))
      exact doneK.mk rfl (ResO.tmp rfl) ⟨rfl, sub1⟩
theorem at_seal (K : List Int) (hK : K.length = 32) (n : Int) (hn0 : 0 ≤ n) (hn1 : n < 9007199254740991) (b : Nat) (w : World) (p q : Option Addr) (c d : Nat) (A B : List Int) (bA : Byts A) (bB : Byts B) (hSA : Sl w p A.length c A) (hSB : Sl w q B.length d B) (hmA : A.length ≤ 140737488355328) (hmB : B.length ≤ 140737488355328) {k : Int} {fz : Nat × Nat} {TT : TypeId} (hb : w.heap[b]? = some (.cells (stRow true K k) TT fz)) :
    Calls Try.prog 85 #[.pointer (some ⟨b, 0, none⟩), .int .i64 n, .func (.func 76) #[] #[], .slice p A.length c, .slice q B.length d] w (BoxPost w (sX K (nonV n) A B) (sE A B)) := by
  have tok_nb : True := trivial
  refine (callE (mu := []) Try.func85 Try.ntmps85 Try.results85 (OwnM.start w) (fun v bs => ∃ q c abs, v = .tuple #[.slice q (sX K (nonV n) A B).length c, .int .i64 (sE A B)] ∧ AO q (sX K (nonV n) A B).length c (sX K (nonV n) A B) abs ∧ abs.Sublist bs) ?_).mono ?_
  · repeat (first | (refine rgn 0 ?_; refine sEv ?_; refine sEv ?_; refine nlx ?_) | (refine rgn 1 ?_; refine sEv ?_; refine SL.v (ValO.call ent_91 _ rfl _ (fun w1 hw1 => nonce_n hn0 hn1 w1)) ?_; (iterate 3 refine sEv ?_); refine SL.al zero_138 ?_; (first | (have _t := tok_nb; clear _t tok_nb; intro nb) | intro _); refine SL.stR tabOk ?_; refine sEv ?_; refine nlx ?_) | (refine rgn 2 ?_; refine sEv ?_; refine sEv ?_; refine nlx ?_) | ((with_reducible show SP _ _ _ (Code.region _ _ true) _ _ _); first | (refine SPa (id := 4) [8] [] ([]) [0, 1, 2, 3, 4, 5, 6, 7, 8, 9, 10, 11, 12] follows ?_; refine fPv ?_; refine fPv ?_; refine SF.nc ?_; refine SF.e tabOk ?_; refine SF.ldP tabOk ?_ (hn := by rw [st_size hK]; decide) (hB := st_k hK); refine SF.ldR tabOk ?_; refine fPv ?_; refine fPv ?_; refine SF.clB (f := 76) ent_76 rfl (X := sX K (nonV n) A B) (n := sE A B) (fun w1 hw1 => seal_u K (nonV n) hK (nonV_length n) p q c d A B bA bB w1 (hSA.old hw1.below) (hSB.old hw1.below) hmA hmB) (fun q' c' abs ha => ?_); (iterate 4 refine fPv ?_); refine SF.done ?_)) | (refine zsq ?_; intro _ _) | (with_reducible refine zkN ?_) | (refine useK (by assumption) ?_) | (with_reducible first | refine zsS ?_ | refine zsR ?_) | ((with_reducible show SP _ _ _ (Code.cond _ _ _) _ _ _); first | (refine cdF ?_)))
    exact doneK.mk rfl (ResO.tmp2 rfl rfl) ⟨_, _, _, rfl, ha, (by repeat (first | exact List.Sublist.refl _ | refine List.Sublist.cons _ ?_))⟩
  · rintro e w' ⟨v, bs', rfl, ⟨q', c', abs, rfl, ha, hs⟩, hw'⟩
    exact ⟨_, _, _, rfl, ha, hw'.sub hs⟩
theorem at_open (K : List Int) (hK : K.length = 32) (n : Int) (hn0 : 0 ≤ n) (hn1 : n < 9007199254740991) (b : Nat) (w : World) (p q : Option Addr) (c d : Nat) (A B : List Int) (bA : Byts A) (bB : Byts B) (hSA : Sl w p A.length c A) (hSB : Sl w q B.length d B) (hmA : A.length ≤ 140737488355328) (hmB : B.length ≤ 140737488355328) {k : Int} {fz : Nat × Nat} {TT : TypeId} (hb : w.heap[b]? = some (.cells (stRow true K k) TT fz)) :
    Calls Try.prog 85 #[.pointer (some ⟨b, 0, none⟩), .int .i64 n, .func (.func 78) #[] #[], .slice p A.length c, .slice q B.length d] w (BoxPost w (oX K (nonV n) A B) (oE K (nonV n) A B)) := by
  have tok_nb : True := trivial
  refine (callE (mu := []) Try.func85 Try.ntmps85 Try.results85 (OwnM.start w) (fun v bs => ∃ q c abs, v = .tuple #[.slice q (oX K (nonV n) A B).length c, .int .i64 (oE K (nonV n) A B)] ∧ AO q (oX K (nonV n) A B).length c (oX K (nonV n) A B) abs ∧ abs.Sublist bs) ?_).mono ?_
  · repeat (first | (refine rgn 0 ?_; refine sEv ?_; refine sEv ?_; refine nlx ?_) | (refine rgn 1 ?_; refine sEv ?_; refine SL.v (ValO.call ent_91 _ rfl _ (fun w1 hw1 => nonce_n hn0 hn1 w1)) ?_; (iterate 3 refine sEv ?_); refine SL.al zero_138 ?_; (first | (have _t := tok_nb; clear _t tok_nb; intro nb) | intro _); refine SL.stR tabOk ?_; refine sEv ?_; refine nlx ?_) | (refine rgn 2 ?_; refine sEv ?_; refine sEv ?_; refine nlx ?_) | ((with_reducible show SP _ _ _ (Code.region _ _ true) _ _ _); first | (refine SPa (id := 4) [8] [] ([]) [0, 1, 2, 3, 4, 5, 6, 7, 8, 9, 10, 11, 12] follows ?_; refine fPv ?_; refine fPv ?_; refine SF.nc ?_; refine SF.e tabOk ?_; refine SF.ldP tabOk ?_ (hn := by rw [st_size hK]; decide) (hB := st_k hK); refine SF.ldR tabOk ?_; refine fPv ?_; refine fPv ?_; refine SF.clB (f := 78) ent_78 rfl (X := oX K (nonV n) A B) (n := oE K (nonV n) A B) (fun w1 hw1 => open_u K (nonV n) hK (nonV_length n) p q c d A B bA bB w1 (hSA.old hw1.below) (hSB.old hw1.below) hmA hmB) (fun q' c' abs ha => ?_); (iterate 4 refine fPv ?_); refine SF.done ?_)) | (refine zsq ?_; intro _ _) | (with_reducible refine zkN ?_) | (refine useK (by assumption) ?_) | (with_reducible first | refine zsS ?_ | refine zsR ?_) | ((with_reducible show SP _ _ _ (Code.cond _ _ _) _ _ _); first | (refine cdF ?_)))
    exact doneK.mk rfl (ResO.tmp2 rfl rfl) ⟨_, _, _, rfl, ha, (by repeat (first | exact List.Sublist.refl _ | refine List.Sublist.cons _ ?_))⟩
  · rintro e w' ⟨v, bs', rfl, ⟨q', c', abs, rfl, ha, hs⟩, hw'⟩
    exact ⟨_, _, _, rfl, ha, hw'.sub hs⟩
theorem once_seal (K : List Int) (hK : K.length = 32) (n : Int) (hn0 : 0 ≤ n) (b : Nat) (w : World) (p q : Option Addr) (c d : Nat) (A B : List Int) (bA : Byts A) (bB : Byts B) (hSA : Sl w p A.length c A) (hSB : Sl w q B.length d B) (hmA : A.length ≤ 140737488355328) (hmB : B.length ≤ 140737488355328) (hb : w.heap[b]? = some (.cells (stRow true K n) 78 (0, 0))) (hpA : ApartB b p A.length) (hpB : ApartB b q B.length) :
    Calls Try.prog 75 #[.pointer (some ⟨b, 0, none⟩), .func (.func 76) #[] #[], .slice p A.length c, .slice q B.length d] w (StPost w b 78 (stRow true K (kN n (kE n (sE A B)))) (kX n (sX K (nonV n) A B)) (kE n (sE A B))) := by
  by_cases h9 : 9007199254740991 ≤ n
  · rw [kX_end h9, kE_end h9, kN_ne n (by decide)]
    refine (callE (mu := [b]) Try.func75 Try.ntmps75 Try.results75 (OwnM.start1 w hb) (fun v bs => v = .tuple #[.slice none 0 0, .int .i64 90] ∧ [(b, stRow true K n, 78)].Sublist bs) ?_).mono ?_
    · repeat (first | (refine rgn 0 ?_; refine sEv ?_; refine sEv ?_; refine nlx ?_) | (refine rgn 1 ?_; refine sEv ?_; refine SL.v (ValO.call ent_84 _ rfl _ (fun w1 hw1 => none_no K hK n b w1 (hbk hw1 b))) ?_; refine sEv ?_; refine nlx ?_) | (refine rgn 3 ?_; refine sEv ?_; refine SL.nc ?_; refine sEv ?_; refine SL.ldC tabOk ?_ (hv := st_n hK); refine sEv ?_; refine sEv ?_; refine nlx ?_) | (refine rgn 4 ?_; refine sEv ?_; refine sEv ?_; refine nlx ?_) | (refine zsq ?_; intro _ _) | (with_reducible refine zkN ?_) | (refine useK (by assumption) ?_) | (with_reducible first | refine zsB ?_ | refine zkR ?_ | refine zbR ?_ | refine zsR ?_) | (refine cdT ?_) | (refine cdF ?_))
      exact doneK.mk rfl (ResO.tmp2 rfl rfl) ⟨rfl, (by simp)⟩
    · rintro e w' ⟨v, bs', rfl, ⟨rfl, hs⟩, hw'⟩
      exact ⟨none, 0, [], rfl, AO.nil, hw'.sub hs⟩
  · have hlt : n < 9007199254740991 := by omega
    rw [kX_in hlt, kE_in hlt]
    have hadd : IntKind.i64.wrap (n + 1) = n + 1 := IntWalk.i64_in _ (by omega)
    refine (callE (mu := [b]) Try.func75 Try.ntmps75 Try.results75 (OwnM.start1 w hb) (fun v bs => ∃ q c abs, v = .tuple #[.slice q (sX K (nonV n) A B).length c, .int .i64 (sE A B)] ∧ AO q (sX K (nonV n) A B).length c (sX K (nonV n) A B) abs ∧ ((b, stRow true K (kN n (sE A B)), 78) :: abs).Sublist bs) ?_).mono ?_
    · by_cases hE : (sE A B) = 0
      · repeat (first | (refine rgn 0 ?_; refine sEv ?_; refine sEv ?_; refine nlx ?_) | (refine rgn 1 ?_; refine sEv ?_; refine SL.v (ValO.call ent_84 _ rfl _ (fun w1 hw1 => none_no K hK n b w1 (hbk hw1 b))) ?_; refine sEv ?_; refine nlx ?_) | (refine rgn 3 ?_; refine sEv ?_; refine SL.nc ?_; refine sEv ?_; refine SL.ldC tabOk ?_ (hv := st_n hK); refine sEv ?_; refine sEv ?_; refine nlx ?_) | (refine rgn 5 ?_; refine sEv ?_; refine sEv ?_; refine SL.nc ?_; refine sEv ?_; refine SL.ldC tabOk ?_ (hv := st_n hK); (iterate 3 refine sEv ?_); refine SL.clB ent_85 rfl (X := sX K (nonV n) A B) (n := sE A B) (fun w1 hw1 => at_seal K hK n hn0 hlt b w1 p q c d A B bA bB (hSA.oldM hw1 hpA) (hSB.oldM hw1 hpB) hmA hmB (hbk hw1 b)) (fun q' c' abs ha => ?_); (iterate 5 refine sEv ?_); refine nlx ?_) | (refine rgn 6 ?_; refine sEv ?_; refine sEv ?_; refine nlx ?_) | (refine rgn 7 ?_; refine sEv ?_; refine SL.nc ?_; refine sEv ?_; refine SL.ldC tabOk ?_ (hv := st_n hK); refine sEv ?_; refine SL.nc ?_; refine sEv ?_; refine SL.stP tabOk ?_ (hsz := by rw [st_size hK]; omega) (hA := st_pn hK _); refine nlx ?_) | (refine rgn 8 ?_; (iterate 4 refine sEv ?_); refine nlx ?_) | (refine zsq ?_; intro _ _) | (with_reducible refine zkN ?_) | (refine useK (by assumption) ?_) | (with_reducible first | refine zsB ?_ | refine zsS ?_ | refine zsR ?_) | (refine cdT ?_) | (refine cdF ?_))
        (try simp only [hadd])
        exact doneK.mk rfl (ResO.tmp2 rfl rfl) ⟨_, _, _, rfl, ha, by rw [hE, kN_0]; first | exact List.Sublist.refl _ | simp⟩
      · repeat (first | (refine rgn 0 ?_; refine sEv ?_; refine sEv ?_; refine nlx ?_) | (refine rgn 1 ?_; refine sEv ?_; refine SL.v (ValO.call ent_84 _ rfl _ (fun w1 hw1 => none_no K hK n b w1 (hbk hw1 b))) ?_; refine sEv ?_; refine nlx ?_) | (refine rgn 3 ?_; refine sEv ?_; refine SL.nc ?_; refine sEv ?_; refine SL.ldC tabOk ?_ (hv := st_n hK); refine sEv ?_; refine sEv ?_; refine nlx ?_) | (refine rgn 5 ?_; refine sEv ?_; refine sEv ?_; refine SL.nc ?_; refine sEv ?_; refine SL.ldC tabOk ?_ (hv := st_n hK); (iterate 3 refine sEv ?_); refine SL.clB ent_85 rfl (X := sX K (nonV n) A B) (n := sE A B) (fun w1 hw1 => at_seal K hK n hn0 hlt b w1 p q c d A B bA bB (hSA.oldM hw1 hpA) (hSB.oldM hw1 hpB) hmA hmB (hbk hw1 b)) (fun q' c' abs ha => ?_); (iterate 5 refine sEv ?_); refine nlx ?_) | (refine rgn 6 ?_; refine sEv ?_; refine sEv ?_; refine nlx ?_) | (refine rgn 8 ?_; (iterate 4 refine sEv ?_); refine nlx ?_) | (refine zsq ?_; intro _ _) | (with_reducible refine zkN ?_) | (refine useK (by assumption) ?_) | (with_reducible first | refine zsB ?_ | refine zsS ?_ | refine zsR ?_) | ((with_reducible show SP _ _ _ (Code.cond _ _ _) _ _ _); first | (refine cdF ?_)))
        exact doneK.mk rfl (ResO.tmp2 rfl rfl) ⟨_, _, _, rfl, ha, by rw [kN_ne n hE]; first | exact List.Sublist.refl _ | simp⟩
    · rintro e w' ⟨v, bs', rfl, ⟨q', c', abs, rfl, ha, hs⟩, hw'⟩
      exact ⟨_, _, _, rfl, ha, hw'.sub hs⟩
theorem once_open (K : List Int) (hK : K.length = 32) (n : Int) (hn0 : 0 ≤ n) (b : Nat) (w : World) (p q : Option Addr) (c d : Nat) (A B : List Int) (bA : Byts A) (bB : Byts B) (hSA : Sl w p A.length c A) (hSB : Sl w q B.length d B) (hmA : A.length ≤ 140737488355328) (hmB : B.length ≤ 140737488355328) (hb : w.heap[b]? = some (.cells (stRow true K n) 78 (0, 0))) (hpA : ApartB b p A.length) (hpB : ApartB b q B.length) :
    Calls Try.prog 75 #[.pointer (some ⟨b, 0, none⟩), .func (.func 78) #[] #[], .slice p A.length c, .slice q B.length d] w (StPost w b 78 (stRow true K (kN n (kE n (oE K (nonV n) A B)))) (kX n (oX K (nonV n) A B)) (kE n (oE K (nonV n) A B))) := by
  by_cases h9 : 9007199254740991 ≤ n
  · rw [kX_end h9, kE_end h9, kN_ne n (by decide)]
    refine (callE (mu := [b]) Try.func75 Try.ntmps75 Try.results75 (OwnM.start1 w hb) (fun v bs => v = .tuple #[.slice none 0 0, .int .i64 90] ∧ [(b, stRow true K n, 78)].Sublist bs) ?_).mono ?_
    · repeat (first | (refine rgn 0 ?_; refine sEv ?_; refine sEv ?_; refine nlx ?_) | (refine rgn 1 ?_; refine sEv ?_; refine SL.v (ValO.call ent_84 _ rfl _ (fun w1 hw1 => none_no K hK n b w1 (hbk hw1 b))) ?_; refine sEv ?_; refine nlx ?_) | (refine rgn 3 ?_; refine sEv ?_; refine SL.nc ?_; refine sEv ?_; refine SL.ldC tabOk ?_ (hv := st_n hK); refine sEv ?_; refine sEv ?_; refine nlx ?_) | (refine rgn 4 ?_; refine sEv ?_; refine sEv ?_; refine nlx ?_) | (refine zsq ?_; intro _ _) | (with_reducible refine zkN ?_) | (refine useK (by assumption) ?_) | (with_reducible first | refine zsB ?_ | refine zkR ?_ | refine zbR ?_ | refine zsR ?_) | (refine cdT ?_) | (refine cdF ?_))
      exact doneK.mk rfl (ResO.tmp2 rfl rfl) ⟨rfl, (by simp)⟩
    · rintro e w' ⟨v, bs', rfl, ⟨rfl, hs⟩, hw'⟩
      exact ⟨none, 0, [], rfl, AO.nil, hw'.sub hs⟩
  · have hlt : n < 9007199254740991 := by omega
    rw [kX_in hlt, kE_in hlt]
    have hadd : IntKind.i64.wrap (n + 1) = n + 1 := IntWalk.i64_in _ (by omega)
    refine (callE (mu := [b]) Try.func75 Try.ntmps75 Try.results75 (OwnM.start1 w hb) (fun v bs => ∃ q c abs, v = .tuple #[.slice q (oX K (nonV n) A B).length c, .int .i64 (oE K (nonV n) A B)] ∧ AO q (oX K (nonV n) A B).length c (oX K (nonV n) A B) abs ∧ ((b, stRow true K (kN n (oE K (nonV n) A B)), 78) :: abs).Sublist bs) ?_).mono ?_
    · by_cases hE : (oE K (nonV n) A B) = 0
      · repeat (first | (refine rgn 0 ?_; refine sEv ?_; refine sEv ?_; refine nlx ?_) | (refine rgn 1 ?_; refine sEv ?_; refine SL.v (ValO.call ent_84 _ rfl _ (fun w1 hw1 => none_no K hK n b w1 (hbk hw1 b))) ?_; refine sEv ?_; refine nlx ?_) | (refine rgn 3 ?_; refine sEv ?_; refine SL.nc ?_; refine sEv ?_; refine SL.ldC tabOk ?_ (hv := st_n hK); refine sEv ?_; refine sEv ?_; refine nlx ?_) | (refine rgn 5 ?_; refine sEv ?_; refine sEv ?_; refine SL.nc ?_; refine sEv ?_; refine SL.ldC tabOk ?_ (hv := st_n hK); (iterate 3 refine sEv ?_); refine SL.clB ent_85 rfl (X := oX K (nonV n) A B) (n := oE K (nonV n) A B) (fun w1 hw1 => at_open K hK n hn0 hlt b w1 p q c d A B bA bB (hSA.oldM hw1 hpA) (hSB.oldM hw1 hpB) hmA hmB (hbk hw1 b)) (fun q' c' abs ha => ?_); (iterate 5 refine sEv ?_); refine nlx ?_) | (refine rgn 6 ?_; refine sEv ?_; refine sEv ?_; refine nlx ?_) | (refine rgn 7 ?_; refine sEv ?_; refine SL.nc ?_; refine sEv ?_; refine SL.ldC tabOk ?_ (hv := st_n hK); refine sEv ?_; refine SL.nc ?_; refine sEv ?_; refine SL.stP tabOk ?_ (hsz := by rw [st_size hK]; omega) (hA := st_pn hK _); refine nlx ?_) | (refine rgn 8 ?_; (iterate 4 refine sEv ?_); refine nlx ?_) | (refine zsq ?_; intro _ _) | (with_reducible refine zkN ?_) | (refine useK (by assumption) ?_) | (with_reducible first | refine zsB ?_ | refine zsS ?_ | refine zsR ?_) | (refine cdT ?_) | (refine cdF ?_))
        (try simp only [hadd])
        exact doneK.mk rfl (ResO.tmp2 rfl rfl) ⟨_, _, _, rfl, ha, by rw [hE, kN_0]; first | exact List.Sublist.refl _ | simp⟩
      · repeat (first | (refine rgn 0 ?_; refine sEv ?_; refine sEv ?_; refine nlx ?_) | (refine rgn 1 ?_; refine sEv ?_; refine SL.v (ValO.call ent_84 _ rfl _ (fun w1 hw1 => none_no K hK n b w1 (hbk hw1 b))) ?_; refine sEv ?_; refine nlx ?_) | (refine rgn 3 ?_; refine sEv ?_; refine SL.nc ?_; refine sEv ?_; refine SL.ldC tabOk ?_ (hv := st_n hK); refine sEv ?_; refine sEv ?_; refine nlx ?_) | (refine rgn 5 ?_; refine sEv ?_; refine sEv ?_; refine SL.nc ?_; refine sEv ?_; refine SL.ldC tabOk ?_ (hv := st_n hK); (iterate 3 refine sEv ?_); refine SL.clB ent_85 rfl (X := oX K (nonV n) A B) (n := oE K (nonV n) A B) (fun w1 hw1 => at_open K hK n hn0 hlt b w1 p q c d A B bA bB (hSA.oldM hw1 hpA) (hSB.oldM hw1 hpB) hmA hmB (hbk hw1 b)) (fun q' c' abs ha => ?_); (iterate 5 refine sEv ?_); refine nlx ?_) | (refine rgn 6 ?_; refine sEv ?_; refine sEv ?_; refine nlx ?_) | (refine rgn 8 ?_; (iterate 4 refine sEv ?_); refine nlx ?_) | (refine zsq ?_; intro _ _) | (with_reducible refine zkN ?_) | (refine useK (by assumption) ?_) | (with_reducible first | refine zsB ?_ | refine zsS ?_ | refine zsR ?_) | ((with_reducible show SP _ _ _ (Code.cond _ _ _) _ _ _); first | (refine cdF ?_)))
        exact doneK.mk rfl (ResO.tmp2 rfl rfl) ⟨_, _, _, rfl, ha, by rw [kN_ne n hE]; first | exact List.Sublist.refl _ | simp⟩
    · rintro e w' ⟨v, bs', rfl, ⟨q', c', abs, rfl, ha, hs⟩, hw'⟩
      exact ⟨_, _, _, rfl, ha, hw'.sub hs⟩
end Sp
end
section
open Go Go.RowKit
namespace Sp
open F M
theorem seal_st (K : List Int) (hK : K.length = 32) (n : Int) (hn0 : 0 ≤ n) (b : Nat) (w : World) (p q : Option Addr) (c d : Nat) (A B : List Int) (bA : Byts A) (bB : Byts B) (hSA : Sl w p A.length c A) (hSB : Sl w q B.length d B) (hmA : A.length ≤ 140737488355328) (hmB : B.length ≤ 140737488355328) (hb : w.heap[b]? = some (.cells (stRow true K n) 78 (0, 0))) (hpA : ApartB b p A.length) (hpB : ApartB b q B.length) :
    Calls Try.prog 59 #[.pointer (some ⟨b, 0, none⟩), .slice p A.length c, .slice q B.length d] w (StPost w b 78 (stRow true K (kN n (kE n (sE A B)))) (kX n (sX K (nonV n) A B)) (kE n (sE A B))) := by
  refine (callE (mu := [b]) Try.func59 Try.ntmps59 Try.results59 (OwnM.start1 w hb) (fun v bs => ∃ q c abs, v = .tuple #[.slice q (kX n (sX K (nonV n) A B)).length c, .int .i64 (kE n (sE A B))] ∧ AO q (kX n (sX K (nonV n) A B)).length c (kX n (sX K (nonV n) A B)) abs ∧ ((b, stRow true K (kN n (kE n (sE A B))), 78) :: abs).Sublist bs) ?_).mono ?_
  · repeat (first | (refine rgn 0 ?_; refine sEv ?_; refine sEv ?_; refine nlx ?_) | (refine rgn 1 ?_; (iterate 3 refine sEv ?_); refine SL.clS (i := 0) ent_75 rfl rfl (fun w1 hw1 => once_seal K hK n hn0 b w1 p q c d A B bA bB (hSA.oldM hw1 hpA) (hSB.oldM hw1 hpB) hmA hmB (hbk hw1 b) hpA hpB) (fun q' c' abs ha => ?_); (iterate 4 refine sEv ?_); refine nlx ?_) | (refine zsq ?_; intro _ _) | (with_reducible refine zkN ?_) | (refine useK (by assumption) ?_) | (with_reducible refine zsR ?_))
    exact doneK.mk rfl (ResO.tmp2 rfl rfl) ⟨_, _, _, rfl, ha, List.Sublist.refl _⟩
  · rintro e w' ⟨v, bs', rfl, ⟨q', c', abs, rfl, ha, hs⟩, hw'⟩
    exact ⟨_, _, _, rfl, ha, hw'.sub hs⟩
theorem open_st (K : List Int) (hK : K.length = 32) (n : Int) (hn0 : 0 ≤ n) (b : Nat) (w : World) (p q : Option Addr) (c d : Nat) (A B : List Int) (bA : Byts A) (bB : Byts B) (hSA : Sl w p A.length c A) (hSB : Sl w q B.length d B) (hmA : A.length ≤ 140737488355328) (hmB : B.length ≤ 140737488355328) (hb : w.heap[b]? = some (.cells (stRow true K n) 78 (0, 0))) (hpA : ApartB b p A.length) (hpB : ApartB b q B.length) :
    Calls Try.prog 63 #[.pointer (some ⟨b, 0, none⟩), .slice p A.length c, .slice q B.length d] w (StPost w b 78 (stRow true K (kN n (kE n (oE K (nonV n) A B)))) (kX n (oX K (nonV n) A B)) (kE n (oE K (nonV n) A B))) := by
  refine (callE (mu := [b]) Try.func63 Try.ntmps63 Try.results63 (OwnM.start1 w hb) (fun v bs => ∃ q c abs, v = .tuple #[.slice q (kX n (oX K (nonV n) A B)).length c, .int .i64 (kE n (oE K (nonV n) A B))] ∧ AO q (kX n (oX K (nonV n) A B)).length c (kX n (oX K (nonV n) A B)) abs ∧ ((b, stRow true K (kN n (kE n (oE K (nonV n) A B))), 78) :: abs).Sublist bs) ?_).mono ?_
  · repeat (first | (refine rgn 0 ?_; refine sEv ?_; refine sEv ?_; refine nlx ?_) | (refine rgn 1 ?_; (iterate 3 refine sEv ?_); refine SL.clS (i := 0) ent_75 rfl rfl (fun w1 hw1 => once_open K hK n hn0 b w1 p q c d A B bA bB (hSA.oldM hw1 hpA) (hSB.oldM hw1 hpB) hmA hmB (hbk hw1 b) hpA hpB) (fun q' c' abs ha => ?_); (iterate 4 refine sEv ?_); refine nlx ?_) | (refine zsq ?_; intro _ _) | (with_reducible refine zkN ?_) | (refine useK (by assumption) ?_) | (with_reducible refine zsR ?_))
    exact doneK.mk rfl (ResO.tmp2 rfl rfl) ⟨_, _, _, rfl, ha, List.Sublist.refl _⟩
  · rintro e w' ⟨v, bs', rfl, ⟨q', c', abs, rfl, ha, hs⟩, hw'⟩
    exact ⟨_, _, _, rfl, ha, hw'.sub hs⟩
end Sp
end
section
open Go Go.RowKit
namespace Sp
open F M
end Sp
end
section
open Go Go.RowKit
namespace Sp
open F M
theorem xor_xor {x y : Int} (hx : 0 ≤ x ∧ x < 256) (hy : 0 ≤ y ∧ y < 256) : bits .xor .u8 (bits .xor .u8 x y) y = x := by
  obtain ⟨a, rfl⟩ := Int.eq_ofNat_of_zero_le hx.1
  obtain ⟨b, rfl⟩ := Int.eq_ofNat_of_zero_le hy.1
  have ha := hx.2
  have hb := hy.2
  rw [u8_xor_nat a b (by omega) (by omega)]
  have h1 : a ^^^ b < 2 ^ 8 := Nat.xor_lt_two_pow (by omega) (by omega)
  rw [u8_xor_nat (a ^^^ b) b (by omega) (by omega), Nat.xor_assoc, Nat.xor_self, Nat.xor_zero]
theorem strm_b (K : List Int) (ct : Int) (N : List Int) (j : Nat) : 0 ≤ strm K ct N j ∧ strm K ct N j < 256 := by unfold strm; exact chB_byts _ _ _ _
theorem xo_xo (K : List Int) (ct : Int) (N : List Int) {B : List Int} (hB : Byts B) : xo K ct N (xo K ct N B) = B := by
  apply List.ext_getElem?
  intro j
  by_cases hj : j < B.length
  · rw [xo_get _ _ _ _ _ (by simpa using hj), gi_xo _ _ _ _ _ hj, xor_xor (hB j) (strm_b _ _ _ _), List.getElem?_eq_getElem hj]
    simp [gi, hj]
  · rw [List.getElem?_eq_none (by simp; omega), List.getElem?_eq_none (by omega)]
theorem box_ok (K N A B : List Int) (m : Nat) (hm : B.length = m) : boxOk K N A (sealV K N A B) (m + 16) := by
  unfold boxOk
  rw [Nat.add_sub_cancel, ← hm, sealV_take, sealV_drop]
theorem oE_back (K N : List Int) {A B : List Int} (h1 : A.length ≤ 4096) (h2 : B.length ≤ 4096) : oE K N A (sealV K N A B) = 0 := by
  refine oE_ok h1 (by simp) (by simp; omega) ?_
  rw [sealV_length]
  exact box_ok K N A B _ rfl
theorem oX_back (K N : List Int) {A B : List Int} (h1 : A.length ≤ 4096) (h2 : B.length ≤ 4096) (bB : Byts B) : oX K N A (sealV K N A B) = B := by
  rw [oX_ok (oE_back K N h1 h2), sealV_length, Nat.add_sub_cancel, sealV_take, xo_xo K 1 N bB]
end Sp
end
section
open Go Go.RowKit
namespace Sp
open F M
end Sp
end
section
open Go Go.RowKit
namespace Sp
open F M
end Sp
end
end Go.Proofs.Ytdjecenggngdjaa
