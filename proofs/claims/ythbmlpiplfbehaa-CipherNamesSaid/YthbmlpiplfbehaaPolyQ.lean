/-
  The program's poly holds the sum of the blocks of all bytes that came; its tag is the document's. Plain maths, no conditions.
-/
import Derived.Test.YthbmlpiplfbehaaPolyO
namespace Go.Proofs.Ythbmlpiplfbehaa
set_option linter.unusedSimpArgs false
set_option linter.unusedVariables false
open Go Go.RowKit
namespace Sp

theorem rV_lt {K : List Int} (hK : Byts K) : 0 ≤ rV K ∧ rV K < 2 ^ 124 := by
  have hd : Dig 256 (fun i => clB (gi K i) i) 15 := fun i _ => clB_b (hK i) i
  have hb := sumN_bound (by decide) hd
  have h15 := hK 15
  unfold rV
  simp only [sumN.eq_2 256 (fun i => clB (gi K i) i) 15]
  have e : clB (gi K 15) 15 = gi K 15 % 16 := by unfold clB; simp
  rw [e]
  have e15 : (256 : Int) ^ 15 = 1329227995784915872903807060280344576 := by decide
  have e124 : (2 : Int) ^ 124 = 21267647932558653966460912964485513216 := by decide
  rw [e15] at hb ⊢
  rw [e124]
  omega
theorem hm_pre (K B D : List Int) : ∀ j, 16 * j ≤ B.length → Hm K (B ++ D) j = Hm K B j
  | 0, _ => rfl
  | j + 1, h => by
    have e : blk (B ++ D) j = blk B j := by
      unfold blk
      rw [List.drop_append_of_le_length (by omega), List.take_append_of_le_length (by simp; omega)]
    unfold Hm
    rw [hm_pre K B D j (by omega), e]
theorem gi_app (L M : List Int) (j : Nat) : gi (L ++ M) j = if j < L.length then gi L j else gi M (j - L.length) := by
  unfold gi
  rw [List.getD_eq_getElem?_getD, List.getElem?_append]
  split <;> rw [List.getD_eq_getElem?_getD]
/-- A block as the program lays it: so many bytes, 1 behind them. -/
theorem tkB_eq {bl : List Int} {m : Nat} (hb : bl.length = 16) (hm : m ≤ 16) : tkB bl m = bl.take m ++ (1 :: List.replicate (16 - m) 0) := by
  unfold tkB spl
  refine ext_gi (by simp; omega) fun i hi => ?_
  simp at hi
  have ht : (bl.take m).length = m := by simp; omega
  by_cases him : i = m
  · subst him
    rw [gi_same _ _ _ (by simp; omega), gi_app, if_neg (by omega), ht, Nat.sub_self]
    rfl
  · rw [gi_upd _ _ _ _ him]
    simp only [List.take_zero, List.nil_append, Nat.zero_add]
    rw [gi_app, gi_app, ht]
    by_cases h2 : i < m
    · rw [if_pos h2, if_pos h2]
    · rw [if_neg h2, if_neg h2]
      obtain ⟨d, hd⟩ : ∃ d, i - m = d + 1 := ⟨i - m - 1, by omega⟩
      rw [hd]
      show gi ((List.replicate 17 0).drop m) (d + 1) = gi (List.replicate (16 - m) 0) d
      rw [gi_rep, List.drop_replicate, gi_rep]
theorem byts_app {L M : List Int} (hL : Byts L) (hM : Byts M) : Byts (L ++ M) := fun j => by rw [gi_app]; split; exact hL j; exact hM _
theorem byts_take {L : List Int} (hL : Byts L) (n : Nat) : Byts (L.take n) := fun j => by
  unfold gi
  rw [List.getD_eq_getElem?_getD, List.getElem?_take]
  split
  · have := hL j; unfold gi at this; rwa [List.getD_eq_getElem?_getD] at this
  · simp
theorem byts_drop {L : List Int} (hL : Byts L) (n : Nat) : Byts (L.drop n) := fun j => by
  unfold gi
  rw [List.getD_eq_getElem?_getD, List.getElem?_drop]
  have := hL (n + j); unfold gi at this; rwa [List.getD_eq_getElem?_getD] at this
theorem byts_rep (n : Nat) : Byts (List.replicate n 0) := fun j => by rw [gi_rep]; omega
theorem byts_cons {x : Int} {L : List Int} (hx : 0 ≤ x ∧ x < 256) (hL : Byts L) : Byts (x :: L) := fun j => by
  cases j with
  | zero => exact hx
  | succ j => exact hL j
theorem byts_nil : Byts [] := fun j => by unfold gi; simp
theorem tkB_val {bl : List Int} {m : Nat} (hb : bl.length = 16) (hm : m ≤ 16) : sumN 256 (gi (tkB bl m)) 17 = blkV (bl.take m) := by
  have ht : (bl.take m).length = m := by simp; omega
  have hl := tkB_length hb hm
  rw [tkB_eq hb hm]
  unfold blkV
  rw [ht]
  have e := sumN_cut (B := 256) (gi (bl.take m ++ (1 :: List.replicate (16 - m) 0))) (m + 1) (16 - m)
  rw [show m + 1 + (16 - m) = 17 by omega] at e
  rw [← sumN_congr (f := fun i => if i < m + 1 then gi (bl.take m ++ (1 :: List.replicate (16 - m) 0)) i else 0) (fun i hi => by
    split
    · rfl
    · rw [gi_app, if_neg (by omega), ht]
      obtain ⟨d, hd⟩ : ∃ d, i - m = d + 1 := ⟨i - m - 1, by omega⟩
      rw [hd]
      show 0 = gi (List.replicate (16 - m) 0) d
      rw [gi_rep]), e]
  show sumN 256 (gi (bl.take m ++ (1 :: List.replicate (16 - m) 0))) m + gi (bl.take m ++ (1 :: List.replicate (16 - m) 0)) m * 256 ^ m = _
  rw [sumN_congr (g := gi (bl.take m)) (fun i hi => by rw [gi_app, if_pos (by omega)]), gi_app, if_neg (by omega), ht, Nat.sub_self]
  show _ + 1 * 256 ^ m = _
  omega
theorem blkV_lt {L : List Int} (hL : Byts L) (hl : L.length ≤ 16) : 0 ≤ blkV L ∧ blkV L < 2 ^ 129 := by
  have hb := sumN_bound (by decide) (fun i _ => hL i : Dig 256 (gi L) L.length)
  have hp : (256 : Int) ^ L.length ≤ 256 ^ 16 := by rw [pw256, pw256]; exact Int.ofNat_le.2 (Nat.pow_le_pow_right (by decide) (by omega))
  have hp0 : (0 : Int) < 256 ^ L.length := Int.pow_pos (by decide)
  have e16 : (256 : Int) ^ 16 = 340282366920938463463374607431768211456 := by decide
  have e129 : (2 : Int) ^ 129 = 680564733841876926926749214863536422912 := by decide
  unfold blkV
  rw [e16] at hp
  rw [e129]
  omega
/-- A block is taken in. -/
theorem takeH_val {K bl : List Int} {h0 h1 h2 : Int} {m : Nat} (hK : Byts K) (w0 : W64 h0) (w1 : W64 h1) (w2' : 0 ≤ h2 ∧ h2 < 8) (hb : bl.length = 16) (hB : Byts bl) (hm : m ≤ 16) :
    v3 (takeH (keyR0 K) (keyR1 K) h0 h1 h2 (tkB bl m)) = fold ((v3 (h0, h1, h2) + blkV (bl.take m)) * rV K) ∧ 0 ≤ (takeH (keyR0 K) (keyR1 K) h0 h1 h2 (tkB bl m)).2.2 ∧ (takeH (keyR0 K) (keyR1 K) h0 h1 h2 (tkB bl m)).2.2 < 8 := by
  have hd : ∀ o j, gi ((tkB bl m).drop o) j = gi (tkB bl m) (o + j) := fun o j => by simp [gi, List.getD_eq_getElem?_getD, List.getElem?_drop]
  have hT : Byts (tkB bl m) := by
    rw [tkB_eq hb hm]
    exact byts_app (byts_take hB m) (byts_cons (by omega) (byts_rep _))
  have hTo : ∀ o, Byts ((tkB bl m).drop o) := fun o => byts_drop hT o
  have n0 := numN_sum (hTo 0) 8 (Nat.le_refl _)
  have n1 := numN_sum (hTo 8) 8 (Nat.le_refl _)
  have t16 := hT 16
  have e8 : (256 : Int) ^ 8 = 18446744073709551616 := by decide
  rw [e8] at n0 n1
  have x0 : W64 (numN ((tkB bl m).drop 0) 8) := by unfold W64 M64; exact n0.2
  have x1 : W64 (numN ((tkB bl m).drop 8) 8) := by unfold W64 M64; exact n1.2
  have ew : IntKind.u64.wrap (gi (tkB bl m) 16) = gi (tkB bl m) 16 := by rw [IntKind.wrap_u64]; omega
  have hblk : numN ((tkB bl m).drop 0) 8 + M64 * numN ((tkB bl m).drop 8) 8 + M64 * M64 * gi (tkB bl m) 16 = blkV (bl.take m) := by
    rw [← tkB_val hb hm, n0.1, n1.1]
    unfold M64
    simp only [sumN, hd, Nat.zero_add, Nat.reduceAdd]
    grind
  have ka := add3 (a := h0) (b := h1) (c := h2) (x := numN ((tkB bl m).drop 0) 8) (y := numN ((tkB bl m).drop 8) 8) (u := gi (tkB bl m) 16) w0 w1 x0 x1 (by omega) (by omega)
  rw [hblk] at ka
  have hbl := blkV_lt (byts_take hB m) (show (bl.take m).length ≤ 16 by simp; omega)
  have hAdd : addB h0 h1 h2 (tkB bl m) = (addLo h0 (numN ((tkB bl m).drop 0) 8) 0, addLo h1 (numN ((tkB bl m).drop 8) 8) (addHi h0 (numN ((tkB bl m).drop 0) 8) 0), IntKind.u64.wrap (h2 + IntKind.u64.wrap (gi (tkB bl m) 16 + addHi h1 (numN ((tkB bl m).drop 8) 8) (addHi h0 (numN ((tkB bl m).drop 0) 8) 0)))) := by
    unfold addB
    rw [ew]
  rw [← hAdd] at ka
  generalize hA : addB h0 h1 h2 (tkB bl m) = A at *
  have hA0 : W64 A.1 := by rw [hAdd]; exact W64.addLo _ _ _
  have hA1 : W64 A.2.1 := by rw [hAdd]; exact W64.addLo _ _ _
  have hA2 : W64 A.2.2 := by rw [hAdd]; exact W64.wrap _
  have hH := AllW.mk3 hA0 hA1 hA2
  obtain ⟨c, hc, e⟩ := prO_val hH (keyR_w K) 3 (Nat.le_refl _)
  have er : sumN M64 (gi [keyR0 K, keyR1 K]) 2 = rV K := by
    rw [← (keyR_val hK).1]
    show 0 + keyR0 K * M64 ^ 0 + keyR1 K * M64 ^ 1 = keyR0 K + M64 * keyR1 K
    grind
  have eh : sumN M64 (gi [A.1, A.2.1, A.2.2]) 3 = v3 A := by
    show 0 + A.1 * M64 ^ 0 + A.2.1 * M64 ^ 1 + A.2.2 * M64 ^ 2 = A.1 + M64 * A.2.1 + M64 * M64 * A.2.2
    grind
  rw [er, eh, ka.1] at e
  have hr := rV_lt hK
  have hv : 0 ≤ v3 (h0, h1, h2) + blkV (bl.take m) ∧ v3 (h0, h1, h2) + blkV (bl.take m) < 2 ^ 132 := by
    unfold v3
    unfold W64 at w0 w1
    have e129 : (2 : Int) ^ 129 = 680564733841876926926749214863536422912 := by decide
    have e132 : (2 : Int) ^ 132 = 5444517870735015415413993718908291383296 := by decide
    rw [e129] at hbl
    rw [e132]
    unfold M64 at *
    simp only
    omega
  have hx : (v3 (h0, h1, h2) + blkV (bl.take m)) * rV K < 4 * 2 ^ 254 ∧ 0 ≤ (v3 (h0, h1, h2) + blkV (bl.take m)) * rV K := by
    constructor
    · have h3 : (v3 (h0, h1, h2) + blkV (bl.take m)) * rV K ≤ 2 ^ 132 * rV K := Int.mul_le_mul_of_nonneg_right (by omega) hr.1
      have h4 : (2 : Int) ^ 132 * rV K < 2 ^ 132 * 2 ^ 124 := Int.mul_lt_mul_of_pos_left hr.2 (by decide)
      have e5 : (2 : Int) ^ 132 * 2 ^ 124 = 4 * 2 ^ 254 := by decide
      omega
    · exact Int.mul_nonneg hv.1 hr.1
  have hpos := sumN_bound (by decide) (fun i _ => prO_ok hH (keyR_w K) 3 i : Dig M64 (gi (prO [A.1, A.2.1, A.2.2] [keyR0 K, keyR1 K] 3)) 4)
  have hc0 : c = 0 := by
    have e4 : M64 ^ 4 = 4 * 2 ^ 254 := by decide
    rw [e4] at e
    rcases Int.lt_or_eq_of_le hc with h | h
    · have : 1 * (4 * 2 ^ 254 : Int) ≤ c * (4 * 2 ^ 254) := Int.mul_le_mul_of_nonneg_right (by omega) (by decide)
      omega
    · exact h.symm
  rw [hc0, Int.zero_mul, Int.add_zero] at e
  have hr2 := redP_val (p := prO [A.1, A.2.1, A.2.2] [keyR0 K, keyR1 K] 3) (prO_ok hH (keyR_w K) 3) (by rw [e]; exact hx.1)
  rw [e] at hr2
  unfold takeH
  rw [hA]
  exact hr2

/-! ### The poly's state -/
/-- The state holds these bytes: the sum of the whole blocks, and the bytes that wait. -/
structure Holds (K C : List Int) (s : PS) : Prop where
  ok : s.Ok
  h2 : 0 ≤ s.h2 ∧ s.h2 < 8
  v : v3 (s.h0, s.h1, s.h2) % QP = Hm K C (C.length / 16) % QP
  n : s.n = C.length % 16
  bl : s.bl.take s.n = C.drop (16 * (C.length / 16))
  byt : Byts s.bl
theorem holds_nil (K : List Int) (B : List Int) : Holds K [] ⟨0, 0, 0, List.replicate 16 0, 0, B⟩ :=
  ⟨ps0_ok B, by show (0 : Int) ≤ 0 ∧ (0 : Int) < 8; omega, rfl, rfl, rfl, byts_rep 16⟩
theorem take_app_take {L M : List Int} {n m : Nat} (hn : n ≤ L.length) : (L.take n ++ (M.take m ++ L.drop (n + (M.take m).length))).take (n + (M.take m).length) = L.take n ++ M.take m := by
  rw [← List.append_assoc, List.take_append_of_le_length (by simp; omega), List.take_of_length_le (by simp; omega)]
/-- One round of Write. -/
theorem holds_step {K C : List Int} {s : PS} (hK : Byts K) (hC : Byts C) (hr : Byts s.rest) (h : Holds K C s) :
    Holds K (C ++ s.rest.take (min s.rest.length (16 - s.n))) (wS (keyR0 K) (keyR1 K) s) := by
  have hn := h.ok.n
  have hbl := h.ok.bl
  obtain ⟨m, hm⟩ : ∃ m, m = min s.rest.length (16 - s.n) := ⟨_, rfl⟩
  rw [← hm]
  have htl : (s.rest.take m).length = m := by simp; omega
  have hok := h.ok.step (r0 := keyR0 K) (r1 := keyR1 K)
  have hsl : (spl s.bl s.n (s.rest.take m)).length = 16 := by rw [spl_length _ _ _ (by omega), hbl]
  have hsb : Byts (spl s.bl s.n (s.rest.take m)) := by unfold spl; exact byts_app (byts_take h.byt _) (byts_app (byts_take hr _) (byts_drop h.byt _))
  have htake : (spl s.bl s.n (s.rest.take m)).take (s.n + m) = s.bl.take s.n ++ s.rest.take m := by
    have := take_app_take (L := s.bl) (M := s.rest) (n := s.n) (m := m) (by omega)
    rw [htl] at this
    unfold spl
    rw [htl]
    exact this
  have hcl : C.length = 16 * (C.length / 16) + s.n := by have := h.n; omega
  have hdrop : (C ++ s.rest.take m).drop (16 * (C.length / 16)) = s.bl.take s.n ++ s.rest.take m := by
    rw [List.drop_append_of_le_length (by omega), h.bl]
  unfold wS
  rw [← hm]
  by_cases h16 : s.n + m = 16
  · rw [if_pos h16]
    dsimp only
    have hdiv : (C ++ s.rest.take m).length / 16 = C.length / 16 + 1 := by rw [List.length_append, htl]; omega
    have hmod : (C ++ s.rest.take m).length % 16 = 0 := by rw [List.length_append, htl]; omega
    obtain ⟨t1, t2, t3⟩ := takeH_val (m := 16) hK h.ok.w0 h.ok.w1 h.h2 hsl hsb (Nat.le_refl _)
    have hb16 : (spl s.bl s.n (s.rest.take m)).take 16 = blk (C ++ s.rest.take m) (C.length / 16) := by
      unfold blk
      rw [hdrop, ← htake, h16, List.take_take, Nat.min_self]
    refine ⟨?_, ⟨t2, t3⟩, ?_, ?_, ?_, hsb⟩
    · unfold wS at hok
      rw [← hm, if_pos h16] at hok
      exact hok
    · show v3 (takeH (keyR0 K) (keyR1 K) s.h0 s.h1 s.h2 (tkB (spl s.bl s.n (s.rest.take m)) 16)) % QP = _
      rw [t1, fold_mod, hdiv, hb16]
      show _ = ((Hm K (C ++ s.rest.take m) (C.length / 16) + blkV (blk (C ++ s.rest.take m) (C.length / 16))) * rV K) % QP % QP
      rw [Int.emod_emod_of_dvd _ (Int.dvd_refl _), hm_pre K C _ _ (by omega), Int.mul_emod, Int.add_emod, h.v, ← Int.add_emod, ← Int.mul_emod]
    · rw [hmod]
    · rw [hdiv]
      show [] = _
      rw [List.drop_eq_nil_of_le (by rw [List.length_append, htl]; omega)]
  · rw [if_neg h16]
    have hdiv : (C ++ s.rest.take m).length / 16 = C.length / 16 := by rw [List.length_append, htl]; omega
    refine ⟨?_, h.h2, ?_, ?_, ?_, hsb⟩
    · unfold wS at hok
      rw [← hm, if_neg h16] at hok
      exact hok
    · rw [hdiv, hm_pre K C _ _ (by omega)]
      exact h.v
    · rw [List.length_append, htl]
      show s.n + m = _
      omega
    · rw [hdiv, hdrop]
      exact htake
theorem wI_holds {K : List Int} (hK : Byts K) {s : PS} : ∀ (k : Nat) {C : List Int}, Byts C → Byts s.rest → Holds K C s → Holds K (C ++ s.rest.take (s.rest.length - (wI (keyR0 K) (keyR1 K) s k).rest.length)) (wI (keyR0 K) (keyR1 K) s k) ∧ (wI (keyR0 K) (keyR1 K) s k).rest = s.rest.drop (s.rest.length - (wI (keyR0 K) (keyR1 K) s k).rest.length)
  | 0, C, hC, hr, h => by rw [wI_0]; simp; exact h
  | k + 1, C, hC, hr, h => by
    obtain ⟨h1, h2⟩ := wI_holds hK k hC hr h
    rw [wI_s]
    generalize hT : wI (keyR0 K) (keyR1 K) s k = T at *
    have hl : T.rest.length ≤ s.rest.length := by rw [h2]; simp
    have hTr : Byts T.rest := by rw [h2]; exact byts_drop hr _
    have h3 := holds_step hK (byts_app hC (byts_take hr _)) hTr h1
    have hrest := wS_rest (keyR0 K) (keyR1 K) T
    generalize hm : min T.rest.length (16 - T.n) = m at *
    have hlen : (wS (keyR0 K) (keyR1 K) T).rest.length = T.rest.length - m := by rw [hrest, List.length_drop]
    have e : s.rest.length - (T.rest.length - m) = (s.rest.length - T.rest.length) + m := by omega
    rw [hlen, e]
    refine ⟨?_, ?_⟩
    · rw [List.take_add, ← h2, ← List.append_assoc]
      exact h3
    · rw [hrest]
      conv => lhs; rw [h2]
      rw [List.drop_drop]
/-- Bytes are written: they are held behind those that were. -/
theorem wAll_holds {K C : List Int} (hK : Byts K) {s : PS} (hC : Byts C) (hr : Byts s.rest) (h : Holds K C s) : Holds K (C ++ s.rest) (wAll (keyR0 K) (keyR1 K) s) := by
  have hn := wAll_rest (r0 := keyR0 K) (r1 := keyR1 K) h.ok
  have h1 := (wI_holds hK s.rest.length hC hr h).1
  unfold wAll at hn ⊢
  rw [hn] at h1
  simpa using h1
/-! ### The end -/
theorem fin_val {h : Int × Int × Int} (hh : HOk h) (h2 : 0 ≤ h.2.2 ∧ h.2.2 < 8) : v3 (fin h) = (if v3 h < QP then v3 h else v3 h - QP) ∧ 0 ≤ (fin h).2.2 ∧ (fin h).2.2 < 8 := by
  have e1 := lohi h.1 5 0
  have b1 : Bit (addHi h.1 5 0) := Bit.addHi hh.w0 w64_5 Bit.zero
  have e2 := lohi h.2.1 0 (addHi h.1 5 0)
  have b2 : Bit (addHi h.2.1 0 (addHi h.1 5 0)) := Bit.addHi hh.w1 w64_0 b1
  have w0 := hh.w0
  have w1 := hh.w1
  have l0 := W64.addLo h.1 5 0
  have l1 := W64.addLo h.2.1 0 (addHi h.1 5 0)
  have ew : IntKind.u64.wrap (h.2.2 + addHi h.2.1 0 (addHi h.1 5 0)) = h.2.2 + addHi h.2.1 0 (addHi h.1 5 0) := by unfold Bit at b2; rw [IntKind.wrap_u64]; omega
  unfold Sp.fin
  rw [ew]
  have hM : M64 = 18446744073709551616 := rfl
  have hQ : QP = 1361129467683753853853498429727072845819 := rfl
  generalize addHi h.2.1 0 (addHi h.1 5 0) = c2 at *
  generalize addLo h.2.1 0 (addHi h.1 5 0) = y1 at *
  generalize addHi h.1 5 0 = c1 at *
  generalize addLo h.1 5 0 = y0 at *
  unfold Bit at b1 b2
  unfold W64 at w0 w1 l0 l1
  by_cases hc : h.2.2 + c2 ≥ 4
  · rw [if_pos hc, IntKind.wrap_u64, show (h.2.2 + c2 - 4) % 18446744073709551616 = h.2.2 + c2 - 4 by omega]
    have hv : ¬ v3 h < QP := by unfold v3; rw [hM, hQ] at *; omega
    rw [if_neg hv]
    refine ⟨?_, by show 0 ≤ h.2.2 + c2 - 4; omega, by show h.2.2 + c2 - 4 < 8; omega⟩
    unfold v3
    simp only
    rw [hM, hQ] at *
    omega
  · rw [if_neg hc]
    have hv : v3 h < QP := by unfold v3; rw [hM, hQ] at *; omega
    rw [if_pos hv]
    exact ⟨rfl, h2⟩
theorem finI_val {h : Int × Int × Int} (hh : HOk h) (h2 : 0 ≤ h.2.2 ∧ h.2.2 < 8) (hv : v3 h < 2 * QP + 10) : v3 (finI h 2) = v3 h % QP := by
  have f1 := fin_val hh h2
  have f2 := fin_val hh.fin f1.2
  have e : finI h 2 = fin (fin h) := by rw [show (2 : Nat) = 1 + 1 from rfl, finI_s, show (1 : Nat) = 0 + 1 from rfl, finI_s, finI_0]
  have h0 : 0 ≤ v3 h := by unfold v3; have := hh.w0; have := hh.w1; unfold W64 M64 at *; omega
  have hQ : QP = 1361129467683753853853498429727072845819 := rfl
  rw [e, f2.1]
  by_cases hlt : v3 h < QP
  · rw [if_pos hlt] at f1
    rw [f1.1, if_pos hlt, Int.emod_eq_of_lt h0 hlt]
  · rw [if_neg hlt] at f1
    rw [f1.1]
    by_cases h3 : v3 h - QP < QP
    · rw [if_pos h3]
      conv => rhs; rw [show v3 h = (v3 h - QP) + QP * 1 by omega]
      rw [Int.add_mul_emod_self_left, Int.emod_eq_of_lt (by omega) h3]
    · rw [if_neg h3]
      conv => rhs; rw [show v3 h = (v3 h - QP - QP) + QP * 2 by omega]
      rw [Int.add_mul_emod_self_left, Int.emod_eq_of_lt (by omega) (Int.lt_of_lt_of_le (show v3 h - QP - QP < 10 by omega) (show (10 : Int) ≤ QP by decide))]
theorem fdiv8 {lo : Int} (i : Nat) (hi : i < 8) : lo.fdiv (2 ^ min (IntKind.i64.wrap (8 * (i : Int))).toNat IntKind.u64.bits) = lo / 256 ^ i := by
  rw [wrap_in (by omega) (by omega), show (8 * (i : Int)).toNat = 8 * i by omega, Nat.min_eq_left (show 8 * i ≤ IntKind.u64.bits by show 8 * i ≤ 64; omega), Int.fdiv_eq_ediv_of_nonneg _ (Int.le_of_lt (Int.pow_pos (by decide))), pw256, Int.natCast_pow]
  rfl
theorem outN_val (lo hi : Int) : ∀ k, k ≤ 8 → ∀ j, gi (outN lo hi k) j = if j < k then lo / 256 ^ j % 256 else if 8 ≤ j ∧ j < 8 + k then hi / 256 ^ (j - 8) % 256 else 0
  | 0, _, j => by rw [outN_0, gi_rep]; split; omega; split <;> first | omega | rfl
  | k + 1, hk, j => by
    have ih := outN_val lo hi k (by omega)
    have hl := outN_length lo hi k
    rw [outN_s, fdiv8 k (by omega), fdiv8 k (by omega), IntKind.wrap_u8, IntKind.wrap_u8]
    by_cases h1 : j = 8 + k
    · subst h1
      rw [gi_same _ _ _ (by simp [hl]; omega), if_neg (by omega), if_pos (by omega), show 8 + k - 8 = k by omega]
    · rw [gi_upd _ _ _ _ h1]
      by_cases h2 : j = k
      · subst h2
        rw [gi_same _ _ _ (by omega), if_pos (by omega)]
      · rw [gi_upd _ _ _ _ h2, ih j]
        by_cases h3 : j < k
        · rw [if_pos h3, if_pos (by omega)]
        · rw [if_neg h3, if_neg (show ¬ j < k + 1 by omega)]
          by_cases h4 : 8 ≤ j ∧ j < 8 + k
          · rw [if_pos h4, if_pos (by omega)]
          · rw [if_neg h4, if_neg (by omega)]
theorem outN_eq {lo hi x : Int} (hlo : W64 lo) (hhi : 0 ≤ hi) (hx : ∃ q, x = lo + M64 * hi + 2 ^ 128 * q) : outN lo hi 8 = digN 16 x := by
  obtain ⟨q, hq⟩ := hx
  have e8 : (256 : Int) ^ 8 = M64 := by decide
  refine ext_gi (by rw [outN_length]; simp) fun i hi' => ?_
  rw [outN_length] at hi'
  rw [outN_val _ _ 8 (Nat.le_refl _), digN_gi _ hi']
  have hp : (0 : Int) < 256 ^ i := Int.pow_pos (by decide)
  by_cases h : i < 8
  · rw [if_pos h]
    obtain ⟨d, hd⟩ : ∃ d : Nat, 8 = i + (d + 1) := ⟨8 - i - 1, by omega⟩
    have eM : M64 = 256 ^ i * (256 * 256 ^ d) := by rw [← e8, hd, Int.pow_add, Int.pow_succ]; grind
    have e128 : (2 : Int) ^ 128 = M64 * M64 := by decide
    rw [hq, e128, show lo + M64 * hi + M64 * M64 * q = lo + 256 ^ i * (256 * (256 ^ d * (hi + M64 * q))) by rw [show lo + M64 * hi + M64 * M64 * q = lo + M64 * (hi + M64 * q) by grind]; rw [eM]; grind, Int.add_mul_ediv_left _ _ (by omega), Int.add_mul_emod_self_left]
  · rw [if_neg h, if_pos (by omega)]
    obtain ⟨j, hj⟩ : ∃ j, i = 8 + j := ⟨i - 8, by omega⟩
    subst hj
    obtain ⟨d, hd⟩ : ∃ d : Nat, 8 = j + (d + 1) := ⟨8 - j - 1, by omega⟩
    have eM : M64 = 256 ^ j * (256 * 256 ^ d) := by rw [← e8, hd, Int.pow_add, Int.pow_succ]; grind
    have e128 : (2 : Int) ^ 128 = M64 * M64 := by decide
    have hpj : (0 : Int) < 256 ^ j := Int.pow_pos (by decide)
    have e9 : x / M64 = hi + M64 * q := by
      rw [hq, e128, show lo + M64 * hi + M64 * M64 * q = lo + M64 * (hi + M64 * q) by grind, Int.add_mul_ediv_left _ _ (by decide), Int.ediv_eq_zero_of_lt hlo.1 hlo.2]
      omega
    rw [show 8 + j - 8 = j by omega, Int.pow_add, e8, ← Int.ediv_ediv_of_nonneg (by decide), e9, show hi + M64 * q = hi + 256 ^ j * (256 * (256 ^ d * q)) by rw [eM]; grind, Int.add_mul_ediv_left _ _ (by omega), Int.add_mul_emod_self_left]
theorem tagB_val {K : List Int} (hK : Byts K) {h : Int × Int × Int} (hh : HOk h) (h2 : 0 ≤ h.2.2 ∧ h.2.2 < 8) (hv : v3 h < 2 * QP + 10) : tagB (keyS0 K) (keyS1 K) h = digN 16 (v3 h % QP + sV K) := by
  have f := finI_val hh h2 hv
  have ok := finI_ok hh 2
  have es := keyS_val hK
  unfold tagB
  have e1 := lohi (finI h 2).1 (keyS0 K) 0
  have b1 : Bit (addHi (finI h 2).1 (keyS0 K) 0) := Bit.addHi ok.w0 (keyS0_w K) Bit.zero
  have e2 := lohi (finI h 2).2.1 (keyS1 K) (addHi (finI h 2).1 (keyS0 K) 0)
  refine outN_eq (W64.addLo _ _ _) (W64.addLo _ _ _).1 ?_
  rw [← f, ← es]
  unfold v3 w2
  have e128 : (2 : Int) ^ 128 = M64 * M64 := by decide
  rw [e128]
  refine ⟨(finI h 2).2.2 + addHi (finI h 2).2.1 (keyS1 K) (addHi (finI h 2).1 (keyS0 K) 0), ?_⟩
  generalize addHi (finI h 2).2.1 (keyS1 K) (addHi (finI h 2).1 (keyS0 K) 0) = c2 at *
  generalize addLo (finI h 2).2.1 (keyS1 K) (addHi (finI h 2).1 (keyS0 K) 0) = y1 at *
  generalize addHi (finI h 2).1 (keyS0 K) 0 = c1 at *
  generalize addLo (finI h 2).1 (keyS0 K) 0 = y0 at *
  grind
theorem v3_lt {a b c : Int} (ha : W64 a) (hb : W64 b) (hc : 0 ≤ c ∧ c < 8) : 0 ≤ v3 (a, b, c) ∧ v3 (a, b, c) < 2 * QP + 10 := by
  have hQ : QP = 1361129467683753853853498429727072845819 := rfl
  unfold v3
  unfold W64 M64 at *
  rw [hQ]
  simp only
  omega
/-- The tag of the bytes that are held. -/
theorem sum_val {K C : List Int} {s : PS} (hK : Byts K) (h : Holds K C s) : sumS (keyR0 K) (keyR1 K) (keyS0 K) (keyS1 K) s = digN 16 (tagV K C) := by
  have hok := lastH_ok (r0 := keyR0 K) (r1 := keyR1 K) h.ok
  have hn := h.n
  have hn16 := h.ok.n
  have key : v3 (lastH (keyR0 K) (keyR1 K) s) % QP = Hm K C ((C.length + 15) / 16) ∧ 0 ≤ (lastH (keyR0 K) (keyR1 K) s).2.2 ∧ (lastH (keyR0 K) (keyR1 K) s).2.2 < 8 := by
    unfold lastH
    by_cases h0 : 0 < s.n
    · rw [if_pos h0]
      obtain ⟨t1, t2, t3⟩ := takeH_val (m := s.n) hK h.ok.w0 h.ok.w1 h.h2 h.ok.bl h.byt (by omega)
      have hd : (C.length + 15) / 16 = C.length / 16 + 1 := by omega
      have hb : s.bl.take s.n = blk C (C.length / 16) := by
        unfold blk
        rw [h.bl, List.take_of_length_le (by simp; omega)]
      refine ⟨?_, t2, t3⟩
      rw [t1, fold_mod, hd, hb]
      show _ = ((Hm K C (C.length / 16) + blkV (blk C (C.length / 16))) * rV K) % QP
      rw [Int.mul_emod, Int.add_emod, h.v, ← Int.add_emod, ← Int.mul_emod]
    · rw [if_neg h0]
      have hd : (C.length + 15) / 16 = C.length / 16 := by omega
      have hr := hm_range K C (C.length / 16)
      refine ⟨?_, h.h2⟩
      rw [hd, h.v, Int.emod_eq_of_lt hr.1 hr.2]
  unfold sumS
  have hv := v3_lt hok.w0 hok.w1 key.2
  rw [tagB_val hK hok key.2 hv.2, key.1]
  rfl
end Sp
end Go.Proofs.Ythbmlpiplfbehaa
