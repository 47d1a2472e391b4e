/-
  Joined texts: HnJ, HnK, HnL, HnM, HnN, Hsk. No conditions.
-/
import Derived.Test.YtdjecenggngdjaaGae
import Derived.Test.YtdjecenggngdjaaGak
import Derived.Test.YtdjecenggngdjaaGar
import Derived.Test.YtdjecenggngdjaaGax
import Derived.Lib.ConvBytes
namespace Go.Proofs.Ytdjecenggngdjaa
set_option linter.unusedSimpArgs false
set_option linter.unusedVariables false
section
open Go Go.RowKit
namespace Sp
open F M
set_option maxRecDepth 20000 in
set_option maxHeartbeats 1000000 in
theorem hwrite_turn (q : Option Addr) (n c : Nat) (O : List Int) (b : Nat) (m : Mx) (t : HT) (hm : m.Ok) (ht : t.Ok) (T : TypeId) (w : World) (hb : w.heap[b]? = some (.cells (gRow m t) T (0, 0))) (hk : t.kind ≠ 0) (h : ¬ ((t.bg == (t.done == 0)) = true ∧ decide (t.done < 2) = true)) : Calls Try.prog 10 #[.pointer (some ⟨b, 0, none⟩), .agg (ints .u8 O), .slice q n c] w (fun e w' => e = .returned (.tuple #[.slice none 0 0, .int .i64 100]) ∧ OwnM w [b] w' [(b, gRow m t, T)]) := by
  cases ho : (t.bg == (t.done == 0)) <;> cases hth : decide (t.done < 2)
  · refine mutE Try.func10 Try.ntmps10 Try.results10 hb ?_
    repeat (first | (refine rgn 0 ?_; refine SL.bx ?_; intro ob; refine sEv ?_; refine sEv ?_; refine nlx ?_) | (refine rgn 1 ?_; refine sEv ?_; refine SL.v (ValO.call ent_23 _ rfl _ (fun w1 hw1 => hnone_any b m t hm ht T w1 (hw1.block (List.mem_cons_of_mem _ (List.mem_cons_self ..))) hk)) ?_; refine nlx ?_) | (refine rgn 3 ?_; refine sEv ?_; refine SL.v (v := .tuple #[.bool false, .bool false]) (ValO.call ent_24 _ rfl _ (fun w1 hw1 => by have h := hturn_any b m t hm ht T w1 (hw1.block (List.mem_cons_of_mem _ (List.mem_cons_self ..))); rw [ho, hth] at h; exact h)) ?_; (iterate 5 refine sEv ?_); refine nlx ?_) | (refine rgn 4 ?_; (iterate 3 refine sEv ?_); (first | (refine SL.gT ?_; refine sEv ?_) | refine SL.gF ?_); (first | (refine SL.gT ?_; refine sEv ?_) | refine SL.gF ?_); refine sEv ?_; refine sEv ?_; refine nlx ?_) | (refine rgn 5 ?_; refine sEv ?_; refine sEv ?_; refine nlx ?_) | (refine zsq ?_; intro _ _) | (with_reducible refine zkN ?_) | (refine useK (by assumption) ?_) | (with_reducible first | refine zsB ?_ | refine zkX ?_ | refine zkR ?_ | refine zbN ?_ | refine zbR ?_ | refine zbE ?_ | refine zbX ?_ | refine zsS ?_ | refine zsR ?_ | refine zsX ?_) | (refine cdT ?_) | (refine cdF ?_))
    exact doneK.mk rfl (ResO.tmp2 rfl rfl) ⟨rfl, by simp⟩
  · refine mutE Try.func10 Try.ntmps10 Try.results10 hb ?_
    repeat (first | (refine rgn 0 ?_; refine SL.bx ?_; intro ob; refine sEv ?_; refine sEv ?_; refine nlx ?_) | (refine rgn 1 ?_; refine sEv ?_; refine SL.v (ValO.call ent_23 _ rfl _ (fun w1 hw1 => hnone_any b m t hm ht T w1 (hw1.block (List.mem_cons_of_mem _ (List.mem_cons_self ..))) hk)) ?_; refine nlx ?_) | (refine rgn 3 ?_; refine sEv ?_; refine SL.v (v := .tuple #[.bool false, .bool true]) (ValO.call ent_24 _ rfl _ (fun w1 hw1 => by have h := hturn_any b m t hm ht T w1 (hw1.block (List.mem_cons_of_mem _ (List.mem_cons_self ..))); rw [ho, hth] at h; exact h)) ?_; (iterate 5 refine sEv ?_); refine nlx ?_) | (refine rgn 4 ?_; (iterate 3 refine sEv ?_); (first | (refine SL.gT ?_; refine sEv ?_) | refine SL.gF ?_); (first | (refine SL.gT ?_; refine sEv ?_) | refine SL.gF ?_); refine sEv ?_; refine sEv ?_; refine nlx ?_) | (refine rgn 5 ?_; refine sEv ?_; refine sEv ?_; refine nlx ?_) | (refine zsq ?_; intro _ _) | (with_reducible refine zkN ?_) | (refine useK (by assumption) ?_) | (with_reducible first | refine zsB ?_ | refine zkX ?_ | refine zkR ?_ | refine zbN ?_ | refine zbR ?_ | refine zbE ?_ | refine zbX ?_ | refine zsS ?_ | refine zsR ?_ | refine zsX ?_) | (refine cdT ?_) | (refine cdF ?_))
    exact doneK.mk rfl (ResO.tmp2 rfl rfl) ⟨rfl, by simp⟩
  · refine mutE Try.func10 Try.ntmps10 Try.results10 hb ?_
    repeat (first | (refine rgn 0 ?_; refine SL.bx ?_; intro ob; refine sEv ?_; refine sEv ?_; refine nlx ?_) | (refine rgn 1 ?_; refine sEv ?_; refine SL.v (ValO.call ent_23 _ rfl _ (fun w1 hw1 => hnone_any b m t hm ht T w1 (hw1.block (List.mem_cons_of_mem _ (List.mem_cons_self ..))) hk)) ?_; refine nlx ?_) | (refine rgn 3 ?_; refine sEv ?_; refine SL.v (v := .tuple #[.bool true, .bool false]) (ValO.call ent_24 _ rfl _ (fun w1 hw1 => by have h := hturn_any b m t hm ht T w1 (hw1.block (List.mem_cons_of_mem _ (List.mem_cons_self ..))); rw [ho, hth] at h; exact h)) ?_; (iterate 5 refine sEv ?_); refine nlx ?_) | (refine rgn 4 ?_; (iterate 3 refine sEv ?_); (first | (refine SL.gT ?_; refine sEv ?_) | refine SL.gF ?_); (first | (refine SL.gT ?_; refine sEv ?_) | refine SL.gF ?_); refine sEv ?_; refine sEv ?_; refine nlx ?_) | (refine rgn 5 ?_; refine sEv ?_; refine sEv ?_; refine nlx ?_) | (refine zsq ?_; intro _ _) | (with_reducible refine zkN ?_) | (refine useK (by assumption) ?_) | (with_reducible first | refine zsB ?_ | refine zkX ?_ | refine zkR ?_ | refine zbN ?_ | refine zbR ?_ | refine zbE ?_ | refine zbX ?_ | refine zsS ?_ | refine zsR ?_ | refine zsX ?_) | (refine cdT ?_) | (refine cdF ?_))
    exact doneK.mk rfl (ResO.tmp2 rfl rfl) ⟨rfl, by simp⟩
  · exact absurd ⟨ho, hth⟩ h
set_option maxRecDepth 20000 in
set_option maxHeartbeats 1000000 in
theorem hwriteA_no (q : Option Addr) (n c : Nat) (O : List Int) (b : Nat) (m : Mx) (t : HT) (hm : m.Ok) (ht : t.Ok) (T : TypeId) (w : World) (hb : w.heap[b]? = some (.cells (gRow m t) T (0, 0))) (hk : t.kind ≠ 0) (ho : (t.bg == (t.done == 0)) = true) (hth : decide (t.done < 2) = true) (hbg : t.bg = true) (lO : O.length = 32) (hn : n ≤ 4096) (R : Nat → Array Value) (X : List Int) (E : Int) (ex : Nat → Mem) (hwork : ∀ xb w3, Cpy w b xb (gRow m ({t with once := O} : HT)) w3 → Calls Try.prog 26 #[.pointer (some ⟨xb, 0, none⟩), .slice q n c] w3 (WPost w3 xb 58 R X E ex)) (hE : E ≠ 0) : Calls Try.prog 10 #[.pointer (some ⟨b, 0, none⟩), .agg (ints .u8 O), .slice q n c] w (StPost w b T (gRow m t) [] E) := by
  refine (callE (mu := [b]) Try.func10 Try.ntmps10 Try.results10 (OwnM.start1 w hb) (fun v bs => ∃ q c abs, v = .tuple #[.slice q (([] : List Int)).length c, .int .i64 (E)] ∧ AO q (([] : List Int)).length c (([] : List Int)) abs ∧ ((b, gRow m t, T) :: abs).Sublist bs) ?_).mono ?_
  · repeat (first | (refine rgn 0 ?_; refine SL.bx ?_; intro ob; refine sEv ?_; refine sEv ?_; refine nlx ?_) | (refine rgn 1 ?_; refine sEv ?_; refine SL.v (ValO.call ent_23 _ rfl _ (fun w1 hw1 => hnone_any b m t hm ht T w1 (hw1.block (List.mem_cons_of_mem _ (List.mem_cons_self ..))) hk)) ?_; refine nlx ?_) | (refine rgn 3 ?_; refine sEv ?_; refine SL.v (v := .tuple #[.bool true, .bool true]) (ValO.call ent_24 _ rfl _ (fun w1 hw1 => by have h := hturn_any b m t hm ht T w1 (hw1.block (List.mem_cons_of_mem _ (List.mem_cons_self ..))); rw [ho, hth] at h; exact h)) ?_; (iterate 5 refine sEv ?_); refine nlx ?_) | (refine rgn 4 ?_; (iterate 3 refine sEv ?_); (first | (refine SL.gT ?_; refine sEv ?_) | refine SL.gF ?_); (first | (refine SL.gT ?_; refine sEv ?_) | refine SL.gF ?_); refine sEv ?_; refine sEv ?_; refine nlx ?_) | (refine rgn 6 ?_; refine sEv ?_; refine SL.v (ValO.len tabOk (by rfl)) ?_; refine sEv ?_; refine sEv ?_; refine nlx ?_) | (refine rgn 8 ?_; refine SL.allocC zero_fn rfl (by intro _; exact bpp) ?_; intro fb; refine SL.stP fTabOk ?_ (v := .func (.func 25) #[] #[]) (A' := #[.func (.func 25) #[] #[]]) (hsz := by decide); refine nlx ?_) | (refine rgn 9 ?_; refine sEv ?_; refine SL.nc ?_; refine sEv ?_; refine SL.ldC tabOk ?_ (hv := (gr_bg hm ht).trans (by rw [hbg])); refine nlx ?_) | (refine rgn 10 ?_; refine SL.stP fTabOk ?_ (v := .func (.func 26) #[] #[]) (A' := #[.func (.func 26) #[] #[]]) (hsz := by decide); refine nlx ?_) | (refine rgn 11 ?_; refine sEv ?_; refine SL.v (ValO.mkf [] [.pointer (some ⟨ob, 0, none⟩), .pointer (some ⟨fb, 0, none⟩)]) ?_; refine sEv ?_; refine SL.callG ent_27 rfl (R := fun v bs' => ∃ q' c' abs, v = .tuple #[.slice q' 0 c', .int .i64 E] ∧ AO q' 0 c' [] abs ∧ bs' = [(fb, #[.func (.func 26) #[] #[]], 63), (ob, ints .u8 O, 23), (b, gRow m t, T)] ++ (abs)) (fun w1 hw1 => (hdoes_no ent_28 [.pointer (some ⟨ob, 0, none⟩), .pointer (some ⟨fb, 0, none⟩)] q n c X E R ex b m t hm ht T w1 (hw1.block (List.mem_of_getElem? (i := 2) rfl)) (fun xb w2 hw2 => by have hW := OwnM.call1A hw1 (i := 2) rfl (hw2.perm (List.Perm.swap _ _ _)); exact hw1_any ent_26 q n c O lO R X E ex ob fb xb m t hm ht 58 w2 (hw2.block (List.mem_cons_self ..)) (hW.block (List.mem_of_getElem? (i := 1) rfl)) (by simpa using hW.ne (i := 1) (j := 3) rfl rfl (by decide)) (hW.block (List.mem_of_getElem? (i := 0) rfl)) (by simpa using hW.ne (i := 0) (j := 3) rfl rfl (by decide)) (fun w3 hw3 => hwork xb w3 (Cpy.of (hW.call1 (i := 3) rfl hw3) (i := 3) (j := 2) rfl rfl (by decide)))) hE).mono (by rintro e w' ⟨q', c', abs, rfl, ha, hw'⟩; exact ⟨_, _, rfl, ⟨q', c', abs, rfl, ha, rfl⟩, OwnM.call1A hw1 (i := 2) rfl hw'⟩)) ?_; rintro v bs' ⟨q', c', abs, rfl, ha, rfl⟩; dsimp only [putL, setNth, List.cons_append, List.nil_append]; (iterate 4 refine sEv ?_); refine nlx ?_) | (refine zsq ?_; intro _ _) | (with_reducible refine zkN ?_) | (refine useK (by assumption) ?_) | (with_reducible first | refine zsB ?_ | refine zkX ?_ | refine zkR ?_ | refine zbN ?_ | refine zbR ?_ | refine zbE ?_ | refine zbX ?_ | refine zsS ?_ | refine zsR ?_ | refine zsX ?_) | (refine cdT ?_) | (refine cdF ?_))
    exact doneK.mk rfl (ResO.tmp2 rfl rfl) ⟨q', c', abs, rfl, ha, List.Sublist.cons _ (List.Sublist.cons _ (List.Sublist.refl _))⟩
  · rintro e w' ⟨v, bs, rfl, ⟨q', c', abs, rfl, ha, hs⟩, hw'⟩
    exact ⟨_, _, _, rfl, ha, hw'.sub hs⟩
set_option maxRecDepth 20000 in
set_option maxHeartbeats 1000000 in
theorem hwriteA_ok (q : Option Addr) (n c : Nat) (O : List Int) (b : Nat) (m : Mx) (t : HT) (hm : m.Ok) (ht : t.Ok) (T : TypeId) (w : World) (hb : w.heap[b]? = some (.cells (gRow m t) T (0, 0))) (hk : t.kind ≠ 0) (ho : (t.bg == (t.done == 0)) = true) (hth : decide (t.done < 2) = true) (hbg : t.bg = true) (lO : O.length = 32) (hn : n ≤ 4096) (m' : Mx) (t' : Nat → HT) (X : List Int) (ex : Nat → Mem) (hwork : ∀ xb w3, Cpy w b xb (gRow m ({t with once := O} : HT)) w3 → Calls Try.prog 26 #[.pointer (some ⟨xb, 0, none⟩), .slice q n c] w3 (WPost w3 xb 58 (fun rb => gRow m' (t' rb)) X 0 ex)) (hm' : m'.Ok) (ht' : ∀ rb, (t' rb).Ok) (hd : ∀ rb, 0 ≤ (t' rb).done ∧ (t' rb).done ≤ 100) : Calls Try.prog 10 #[.pointer (some ⟨b, 0, none⟩), .agg (ints .u8 O), .slice q n c] w (WPost w b T (fun rb => gRow m' {t' rb with done := (t' rb).done + 1}) X 0 ex) := by
  refine (callE (mu := [b]) Try.func10 Try.ntmps10 Try.results10 (OwnM.start1 w hb) (fun v bs => ∃ rb q c abs, v = .tuple #[.slice q X.length c, .int .i64 0] ∧ AO q X.length c X abs ∧ ((b, gRow m' {t' rb with done := (t' rb).done + 1}, T) :: (ex rb ++ abs)).Sublist bs) ?_).mono ?_
  · repeat (first | (refine rgn 0 ?_; refine SL.bx ?_; intro ob; refine sEv ?_; refine sEv ?_; refine nlx ?_) | (refine rgn 1 ?_; refine sEv ?_; refine SL.v (ValO.call ent_23 _ rfl _ (fun w1 hw1 => hnone_any b m t hm ht T w1 (hw1.block (List.mem_cons_of_mem _ (List.mem_cons_self ..))) hk)) ?_; refine nlx ?_) | (refine rgn 3 ?_; refine sEv ?_; refine SL.v (v := .tuple #[.bool true, .bool true]) (ValO.call ent_24 _ rfl _ (fun w1 hw1 => by have h := hturn_any b m t hm ht T w1 (hw1.block (List.mem_cons_of_mem _ (List.mem_cons_self ..))); rw [ho, hth] at h; exact h)) ?_; (iterate 5 refine sEv ?_); refine nlx ?_) | (refine rgn 4 ?_; (iterate 3 refine sEv ?_); (first | (refine SL.gT ?_; refine sEv ?_) | refine SL.gF ?_); (first | (refine SL.gT ?_; refine sEv ?_) | refine SL.gF ?_); refine sEv ?_; refine sEv ?_; refine nlx ?_) | (refine rgn 6 ?_; refine sEv ?_; refine SL.v (ValO.len tabOk (by rfl)) ?_; refine sEv ?_; refine sEv ?_; refine nlx ?_) | (refine rgn 8 ?_; refine SL.allocC zero_fn rfl (by intro _; exact bpp) ?_; intro fb; refine SL.stP fTabOk ?_ (v := .func (.func 25) #[] #[]) (A' := #[.func (.func 25) #[] #[]]) (hsz := by decide); refine nlx ?_) | (refine rgn 9 ?_; refine sEv ?_; refine SL.nc ?_; refine sEv ?_; refine SL.ldC tabOk ?_ (hv := (gr_bg hm ht).trans (by rw [hbg])); refine nlx ?_) | (refine rgn 10 ?_; refine SL.stP fTabOk ?_ (v := .func (.func 26) #[] #[]) (A' := #[.func (.func 26) #[] #[]]) (hsz := by decide); refine nlx ?_) | (refine rgn 11 ?_; refine sEv ?_; refine SL.v (ValO.mkf [] [.pointer (some ⟨ob, 0, none⟩), .pointer (some ⟨fb, 0, none⟩)]) ?_; refine sEv ?_; refine SL.callG ent_27 rfl (R := fun v bs' => ∃ rb q' c' abs, v = .tuple #[.slice q' X.length c', .int .i64 0] ∧ AO q' X.length c' X abs ∧ bs' = [(fb, #[.func (.func 26) #[] #[]], 63), (ob, ints .u8 O, 23), (b, gRow m' {t' rb with done := (t' rb).done + 1}, T)] ++ (ex rb ++ abs)) (fun w1 hw1 => (hdoes_ok ent_28 [.pointer (some ⟨ob, 0, none⟩), .pointer (some ⟨fb, 0, none⟩)] q n c X m' t' ex b m t hm ht T w1 (hw1.block (List.mem_of_getElem? (i := 2) rfl)) (fun xb w2 hw2 => by have hW := OwnM.call1A hw1 (i := 2) rfl (hw2.perm (List.Perm.swap _ _ _)); exact hw1_any ent_26 q n c O lO (fun rb => gRow m' (t' rb)) X 0 ex ob fb xb m t hm ht 58 w2 (hw2.block (List.mem_cons_self ..)) (hW.block (List.mem_of_getElem? (i := 1) rfl)) (by simpa using hW.ne (i := 1) (j := 3) rfl rfl (by decide)) (hW.block (List.mem_of_getElem? (i := 0) rfl)) (by simpa using hW.ne (i := 0) (j := 3) rfl rfl (by decide)) (fun w3 hw3 => hwork xb w3 (Cpy.of (hW.call1 (i := 3) rfl hw3) (i := 3) (j := 2) rfl rfl (by decide)))) hm' ht' hd).mono (by rintro e w' ⟨rb, q', c', abs, rfl, ha, hw'⟩; exact ⟨_, _, rfl, ⟨rb, q', c', abs, rfl, ha, rfl⟩, OwnM.call1A hw1 (i := 2) rfl hw'⟩)) ?_; rintro v bs' ⟨rb, q', c', abs, rfl, ha, rfl⟩; dsimp only [putL, setNth, List.cons_append, List.nil_append]; (iterate 4 refine sEv ?_); refine nlx ?_) | (refine zsq ?_; intro _ _) | (with_reducible refine zkN ?_) | (refine useK (by assumption) ?_) | (with_reducible first | refine zsB ?_ | refine zkX ?_ | refine zkR ?_ | refine zbN ?_ | refine zbR ?_ | refine zbE ?_ | refine zbX ?_ | refine zsS ?_ | refine zsR ?_ | refine zsX ?_) | (refine cdT ?_) | (refine cdF ?_))
    exact doneK.mk rfl (ResO.tmp2 rfl rfl) ⟨rb, q', c', abs, rfl, ha, List.Sublist.cons _ (List.Sublist.cons _ (List.Sublist.refl _))⟩
  · rintro e w' ⟨v, bs, rfl, ⟨rb, q', c', abs, rfl, ha, hs⟩, hw'⟩
    exact ⟨rb, _, _, _, rfl, ha, hw'.sub hs⟩
set_option maxRecDepth 20000 in
set_option maxHeartbeats 1000000 in
theorem hwriteB_ok (q : Option Addr) (n c : Nat) (O : List Int) (b : Nat) (m : Mx) (t : HT) (hm : m.Ok) (ht : t.Ok) (T : TypeId) (w : World) (hb : w.heap[b]? = some (.cells (gRow m t) T (0, 0))) (hk : t.kind ≠ 0) (ho : (t.bg == (t.done == 0)) = true) (hth : decide (t.done < 2) = true) (hbg : t.bg = false) (lO : O.length = 32) (hn : n ≤ 4096) (m' : Mx) (t' : Nat → HT) (X : List Int) (ex : Nat → Mem) (hwork : ∀ xb w3, Cpy w b xb (gRow m ({t with once := O} : HT)) w3 → Calls Try.prog 25 #[.pointer (some ⟨xb, 0, none⟩), .slice q n c] w3 (WPost w3 xb 58 (fun rb => gRow m' (t' rb)) X 0 ex)) (hm' : m'.Ok) (ht' : ∀ rb, (t' rb).Ok) (hd : ∀ rb, 0 ≤ (t' rb).done ∧ (t' rb).done ≤ 100) : Calls Try.prog 10 #[.pointer (some ⟨b, 0, none⟩), .agg (ints .u8 O), .slice q n c] w (WPost w b T (fun rb => gRow m' {t' rb with done := (t' rb).done + 1}) X 0 ex) := by
  refine (callE (mu := [b]) Try.func10 Try.ntmps10 Try.results10 (OwnM.start1 w hb) (fun v bs => ∃ rb q c abs, v = .tuple #[.slice q X.length c, .int .i64 0] ∧ AO q X.length c X abs ∧ ((b, gRow m' {t' rb with done := (t' rb).done + 1}, T) :: (ex rb ++ abs)).Sublist bs) ?_).mono ?_
  · repeat (first | (refine rgn 0 ?_; refine SL.bx ?_; intro ob; refine sEv ?_; refine sEv ?_; refine nlx ?_) | (refine rgn 1 ?_; refine sEv ?_; refine SL.v (ValO.call ent_23 _ rfl _ (fun w1 hw1 => hnone_any b m t hm ht T w1 (hw1.block (List.mem_cons_of_mem _ (List.mem_cons_self ..))) hk)) ?_; refine nlx ?_) | (refine rgn 3 ?_; refine sEv ?_; refine SL.v (v := .tuple #[.bool true, .bool true]) (ValO.call ent_24 _ rfl _ (fun w1 hw1 => by have h := hturn_any b m t hm ht T w1 (hw1.block (List.mem_cons_of_mem _ (List.mem_cons_self ..))); rw [ho, hth] at h; exact h)) ?_; (iterate 5 refine sEv ?_); refine nlx ?_) | (refine rgn 4 ?_; (iterate 3 refine sEv ?_); (first | (refine SL.gT ?_; refine sEv ?_) | refine SL.gF ?_); (first | (refine SL.gT ?_; refine sEv ?_) | refine SL.gF ?_); refine sEv ?_; refine sEv ?_; refine nlx ?_) | (refine rgn 6 ?_; refine sEv ?_; refine SL.v (ValO.len tabOk (by rfl)) ?_; refine sEv ?_; refine sEv ?_; refine nlx ?_) | (refine rgn 8 ?_; refine SL.allocC zero_fn rfl (by intro _; exact bpp) ?_; intro fb; refine SL.stP fTabOk ?_ (v := .func (.func 25) #[] #[]) (A' := #[.func (.func 25) #[] #[]]) (hsz := by decide); refine nlx ?_) | (refine rgn 9 ?_; refine sEv ?_; refine SL.nc ?_; refine sEv ?_; refine SL.ldC tabOk ?_ (hv := (gr_bg hm ht).trans (by rw [hbg])); refine nlx ?_) | (refine rgn 11 ?_; refine sEv ?_; refine SL.v (ValO.mkf [] [.pointer (some ⟨ob, 0, none⟩), .pointer (some ⟨fb, 0, none⟩)]) ?_; refine sEv ?_; refine SL.callG ent_27 rfl (R := fun v bs' => ∃ rb q' c' abs, v = .tuple #[.slice q' X.length c', .int .i64 0] ∧ AO q' X.length c' X abs ∧ bs' = [(fb, #[.func (.func 25) #[] #[]], 63), (ob, ints .u8 O, 23), (b, gRow m' {t' rb with done := (t' rb).done + 1}, T)] ++ (ex rb ++ abs)) (fun w1 hw1 => (hdoes_ok ent_28 [.pointer (some ⟨ob, 0, none⟩), .pointer (some ⟨fb, 0, none⟩)] q n c X m' t' ex b m t hm ht T w1 (hw1.block (List.mem_of_getElem? (i := 2) rfl)) (fun xb w2 hw2 => by have hW := OwnM.call1A hw1 (i := 2) rfl (hw2.perm (List.Perm.swap _ _ _)); exact hw1_any ent_25 q n c O lO (fun rb => gRow m' (t' rb)) X 0 ex ob fb xb m t hm ht 58 w2 (hw2.block (List.mem_cons_self ..)) (hW.block (List.mem_of_getElem? (i := 1) rfl)) (by simpa using hW.ne (i := 1) (j := 3) rfl rfl (by decide)) (hW.block (List.mem_of_getElem? (i := 0) rfl)) (by simpa using hW.ne (i := 0) (j := 3) rfl rfl (by decide)) (fun w3 hw3 => hwork xb w3 (Cpy.of (hW.call1 (i := 3) rfl hw3) (i := 3) (j := 2) rfl rfl (by decide)))) hm' ht' hd).mono (by rintro e w' ⟨rb, q', c', abs, rfl, ha, hw'⟩; exact ⟨_, _, rfl, ⟨rb, q', c', abs, rfl, ha, rfl⟩, OwnM.call1A hw1 (i := 2) rfl hw'⟩)) ?_; rintro v bs' ⟨rb, q', c', abs, rfl, ha, rfl⟩; dsimp only [putL, setNth, List.cons_append, List.nil_append]; (iterate 4 refine sEv ?_); refine nlx ?_) | (refine zsq ?_; intro _ _) | (with_reducible refine zkN ?_) | (refine useK (by assumption) ?_) | (with_reducible first | refine zsB ?_ | refine zkX ?_ | refine zkR ?_ | refine zbN ?_ | refine zbR ?_ | refine zbE ?_ | refine zbX ?_ | refine zsS ?_ | refine zsR ?_ | refine zsX ?_) | (refine cdT ?_) | (refine cdF ?_))
    exact doneK.mk rfl (ResO.tmp2 rfl rfl) ⟨rb, q', c', abs, rfl, ha, List.Sublist.cons _ (List.Sublist.cons _ (List.Sublist.refl _))⟩
  · rintro e w' ⟨v, bs, rfl, ⟨rb, q', c', abs, rfl, ha, hs⟩, hw'⟩
    exact ⟨rb, _, _, _, rfl, ha, hw'.sub hs⟩
end Sp
end
section
open Go Go.RowKit
namespace Sp
open F M
set_option maxRecDepth 20000 in
set_option maxHeartbeats 1000000 in
theorem hreadA_ok (q : Option Addr) (n c : Nat) (b : Nat) (m : Mx) (t : HT) (hm : m.Ok) (ht : t.Ok) (T : TypeId) (w : World) (hb : w.heap[b]? = some (.cells (gRow m t) T (0, 0))) (hk : t.kind ≠ 0) (ho : (t.bg == (t.done == 0)) = false) (hth : decide (t.done < 2) = true) (hbg : t.bg = true) (h0 : 48 ≤ n) (hn : n ≤ 4144) (m' : Mx) (t' : Nat → HT) (X : List Int) (ex : Nat → Mem) (hwork : ∀ xb w3, Cpy w b xb (gRow m t) w3 → Calls Try.prog 32 #[.pointer (some ⟨xb, 0, none⟩), .slice q n c] w3 (WPost w3 xb 58 (fun rb => gRow m' (t' rb)) X 0 ex)) (hm' : m'.Ok) (ht' : ∀ rb, (t' rb).Ok) (hd : ∀ rb, 0 ≤ (t' rb).done ∧ (t' rb).done ≤ 100) : Calls Try.prog 13 #[.pointer (some ⟨b, 0, none⟩), .slice q n c] w (WPost w b T (fun rb => gRow m' {t' rb with done := (t' rb).done + 1}) X 0 ex) := by
  refine (callE (mu := [b]) Try.func13 Try.ntmps13 Try.results13 (OwnM.start1 w hb) (fun v bs => ∃ rb q c abs, v = .tuple #[.slice q X.length c, .int .i64 0] ∧ AO q X.length c X abs ∧ ((b, gRow m' {t' rb with done := (t' rb).done + 1}, T) :: (ex rb ++ abs)).Sublist bs) ?_).mono ?_
  · repeat (first | (refine rgn 0 ?_; refine sEv ?_; refine sEv ?_; refine nlx ?_) | (refine rgn 1 ?_; refine sEv ?_; refine SL.v (ValO.call ent_23 _ rfl _ (fun w1 hw1 => hnone_any b m t hm ht T w1 (hw1.block (List.mem_cons_self ..)) hk)) ?_; refine nlx ?_) | (refine rgn 3 ?_; refine sEv ?_; refine sEv ?_; refine nlx ?_) | (refine rgn 4 ?_; refine sEv ?_; refine SL.nc ?_; refine sEv ?_; refine SL.ldC tabOk ?_ (hv := (gr_bg hm ht).trans (by rw [hbg])); refine nlx ?_) | (refine rgn 5 ?_; refine sEv ?_; refine sEv ?_; refine nlx ?_) | (refine rgn 6 ?_; refine sEv ?_; refine SL.v (v := .tuple #[.bool false, .bool true]) (ValO.call ent_24 _ rfl _ (fun w1 hw1 => by have h := hturn_any b m t hm ht T w1 (hw1.block (List.mem_cons_self ..)); rw [ho, hth] at h; exact h)) ?_; (iterate 5 refine sEv ?_); refine nlx ?_) | (refine rgn 7 ?_; refine sEv ?_; refine sEv ?_; (first | (refine SL.gT ?_; refine sEv ?_) | refine SL.gF ?_); (first | (refine SL.gT ?_; refine sEv ?_) | refine SL.gF ?_); refine sEv ?_; refine sEv ?_; refine nlx ?_) | (refine rgn 9 ?_; refine sEv ?_; refine SL.v (ValO.len tabOk (by rfl)) ?_; (iterate 3 refine sEv ?_); refine nlx ?_) | (refine rgn 11 ?_; refine sEv ?_; refine SL.v (ValO.len tabOk (by rfl)) ?_; refine sEv ?_; refine SL.v (v := .int .i64 4144) (ValO.ev tabOk (by rfl)) ?_; refine sEv ?_; refine sEv ?_; refine nlx ?_) | (refine rgn 13 ?_; (iterate 3 refine sEv ?_); refine SL.callG ent_27 rfl (R := fun v bs' => ∃ rb q' c' abs, v = .tuple #[.slice q' X.length c', .int .i64 0] ∧ AO q' X.length c' X abs ∧ bs' = [(b, gRow m' {t' rb with done := (t' rb).done + 1}, T)] ++ (ex rb ++ abs)) (fun w1 hw1 => (hdoes_ok ent_32 [] q n c X m' t' ex b m t hm ht T w1 (hw1.block (List.mem_cons_self ..)) (fun xb w2 hw2 => hwork xb w2 (Cpy.of (OwnM.call1A hw1 (i := 0) rfl (hw2.perm (List.Perm.swap _ _ _))) (i := 1) (j := 0) rfl rfl (by decide))) hm' ht' hd).mono (by rintro e w' ⟨rb, q', c', abs, rfl, ha, hw'⟩; exact ⟨_, _, rfl, ⟨rb, q', c', abs, rfl, ha, rfl⟩, OwnM.call1A hw1 (i := 0) rfl hw'⟩)) ?_; rintro v bs' ⟨rb, q', c', abs, rfl, ha, rfl⟩; dsimp only [putL, setNth, List.cons_append, List.nil_append]; (iterate 4 refine sEv ?_); refine nlx ?_) | (refine zsq ?_; intro _ _) | (with_reducible refine zkN ?_) | (refine useK (by assumption) ?_) | (with_reducible first | refine zsB ?_ | refine zkX ?_ | refine zkR ?_ | refine zbN ?_ | refine zbR ?_ | refine zbE ?_ | refine zbX ?_ | refine zsS ?_ | refine zsR ?_ | refine zsX ?_) | (refine cdT ?_) | (refine cdF ?_))
    exact doneK.mk rfl (ResO.tmp2 rfl rfl) ⟨rb, q', c', abs, rfl, ha, List.Sublist.refl _⟩
  · rintro e w' ⟨v, bs, rfl, ⟨rb, q', c', abs, rfl, ha, hs⟩, hw'⟩
    exact ⟨rb, _, _, _, rfl, ha, hw'.sub hs⟩
set_option maxRecDepth 20000 in
set_option maxHeartbeats 1000000 in
theorem hreadB_no (q : Option Addr) (n c : Nat) (b : Nat) (m : Mx) (t : HT) (hm : m.Ok) (ht : t.Ok) (T : TypeId) (w : World) (hb : w.heap[b]? = some (.cells (gRow m t) T (0, 0))) (hk : t.kind ≠ 0) (ho : (t.bg == (t.done == 0)) = false) (hth : decide (t.done < 2) = true) (hbg : t.bg = false) (h0 : 96 ≤ n) (hn : n ≤ 4192) (R : Nat → Array Value) (X : List Int) (E : Int) (ex : Nat → Mem) (hwork : ∀ xb w3, Cpy w b xb (gRow m t) w3 → Calls Try.prog 31 #[.pointer (some ⟨xb, 0, none⟩), .slice q n c] w3 (WPost w3 xb 58 R X E ex)) (hE : E ≠ 0) : Calls Try.prog 13 #[.pointer (some ⟨b, 0, none⟩), .slice q n c] w (StPost w b T (gRow m t) [] E) := by
  refine (callE (mu := [b]) Try.func13 Try.ntmps13 Try.results13 (OwnM.start1 w hb) (fun v bs => ∃ q c abs, v = .tuple #[.slice q (([] : List Int)).length c, .int .i64 (E)] ∧ AO q (([] : List Int)).length c (([] : List Int)) abs ∧ ((b, gRow m t, T) :: abs).Sublist bs) ?_).mono ?_
  · repeat (first | (refine rgn 0 ?_; refine sEv ?_; refine sEv ?_; refine nlx ?_) | (refine rgn 1 ?_; refine sEv ?_; refine SL.v (ValO.call ent_23 _ rfl _ (fun w1 hw1 => hnone_any b m t hm ht T w1 (hw1.block (List.mem_cons_self ..)) hk)) ?_; refine nlx ?_) | (refine rgn 3 ?_; refine sEv ?_; refine sEv ?_; refine nlx ?_) | (refine rgn 4 ?_; refine sEv ?_; refine SL.nc ?_; refine sEv ?_; refine SL.ldC tabOk ?_ (hv := (gr_bg hm ht).trans (by rw [hbg])); refine nlx ?_) | (refine rgn 6 ?_; refine sEv ?_; refine SL.v (v := .tuple #[.bool false, .bool true]) (ValO.call ent_24 _ rfl _ (fun w1 hw1 => by have h := hturn_any b m t hm ht T w1 (hw1.block (List.mem_cons_self ..)); rw [ho, hth] at h; exact h)) ?_; (iterate 5 refine sEv ?_); refine nlx ?_) | (refine rgn 7 ?_; refine sEv ?_; refine sEv ?_; (first | (refine SL.gT ?_; refine sEv ?_) | refine SL.gF ?_); (first | (refine SL.gT ?_; refine sEv ?_) | refine SL.gF ?_); refine sEv ?_; refine sEv ?_; refine nlx ?_) | (refine rgn 9 ?_; refine sEv ?_; refine SL.v (ValO.len tabOk (by rfl)) ?_; (iterate 3 refine sEv ?_); refine nlx ?_) | (refine rgn 11 ?_; refine sEv ?_; refine SL.v (ValO.len tabOk (by rfl)) ?_; refine sEv ?_; refine SL.v (v := .int .i64 4192) (ValO.ev tabOk (by rfl)) ?_; refine sEv ?_; refine sEv ?_; refine nlx ?_) | (refine rgn 13 ?_; (iterate 3 refine sEv ?_); refine SL.callG ent_27 rfl (R := fun v bs' => ∃ q' c' abs, v = .tuple #[.slice q' 0 c', .int .i64 E] ∧ AO q' 0 c' [] abs ∧ bs' = [(b, gRow m t, T)] ++ abs) (fun w1 hw1 => (hdoes_no ent_31 [] q n c X E R ex b m t hm ht T w1 (hw1.block (List.mem_cons_self ..)) (fun xb w2 hw2 => hwork xb w2 (Cpy.of (OwnM.call1A hw1 (i := 0) rfl (hw2.perm (List.Perm.swap _ _ _))) (i := 1) (j := 0) rfl rfl (by decide))) hE).mono (by rintro e w' ⟨q', c', abs, rfl, ha, hw'⟩; exact ⟨_, _, rfl, ⟨q', c', abs, rfl, ha, rfl⟩, OwnM.call1A hw1 (i := 0) rfl hw'⟩)) ?_; rintro v bs' ⟨q', c', abs, rfl, ha, rfl⟩; dsimp only [putL, setNth, List.cons_append, List.nil_append]; (iterate 4 refine sEv ?_); refine nlx ?_) | (refine zsq ?_; intro _ _) | (with_reducible refine zkN ?_) | (refine useK (by assumption) ?_) | (with_reducible first | refine zsB ?_ | refine zkX ?_ | refine zkR ?_ | refine zbN ?_ | refine zbR ?_ | refine zbE ?_ | refine zbX ?_ | refine zsS ?_ | refine zsR ?_ | refine zsX ?_) | (refine cdT ?_) | (refine cdF ?_))
    exact doneK.mk rfl (ResO.tmp2 rfl rfl) ⟨q', c', abs, rfl, ha, List.Sublist.refl _⟩
  · rintro e w' ⟨v, bs, rfl, ⟨q', c', abs, rfl, ha, hs⟩, hw'⟩
    exact ⟨_, _, _, rfl, ha, hw'.sub hs⟩
set_option maxRecDepth 20000 in
set_option maxHeartbeats 1000000 in
theorem hreadB_ok (q : Option Addr) (n c : Nat) (b : Nat) (m : Mx) (t : HT) (hm : m.Ok) (ht : t.Ok) (T : TypeId) (w : World) (hb : w.heap[b]? = some (.cells (gRow m t) T (0, 0))) (hk : t.kind ≠ 0) (ho : (t.bg == (t.done == 0)) = false) (hth : decide (t.done < 2) = true) (hbg : t.bg = false) (h0 : 96 ≤ n) (hn : n ≤ 4192) (m' : Mx) (t' : Nat → HT) (X : List Int) (ex : Nat → Mem) (hwork : ∀ xb w3, Cpy w b xb (gRow m t) w3 → Calls Try.prog 31 #[.pointer (some ⟨xb, 0, none⟩), .slice q n c] w3 (WPost w3 xb 58 (fun rb => gRow m' (t' rb)) X 0 ex)) (hm' : m'.Ok) (ht' : ∀ rb, (t' rb).Ok) (hd : ∀ rb, 0 ≤ (t' rb).done ∧ (t' rb).done ≤ 100) : Calls Try.prog 13 #[.pointer (some ⟨b, 0, none⟩), .slice q n c] w (WPost w b T (fun rb => gRow m' {t' rb with done := (t' rb).done + 1}) X 0 ex) := by
  refine (callE (mu := [b]) Try.func13 Try.ntmps13 Try.results13 (OwnM.start1 w hb) (fun v bs => ∃ rb q c abs, v = .tuple #[.slice q X.length c, .int .i64 0] ∧ AO q X.length c X abs ∧ ((b, gRow m' {t' rb with done := (t' rb).done + 1}, T) :: (ex rb ++ abs)).Sublist bs) ?_).mono ?_
  · repeat (first | (refine rgn 0 ?_; refine sEv ?_; refine sEv ?_; refine nlx ?_) | (refine rgn 1 ?_; refine sEv ?_; refine SL.v (ValO.call ent_23 _ rfl _ (fun w1 hw1 => hnone_any b m t hm ht T w1 (hw1.block (List.mem_cons_self ..)) hk)) ?_; refine nlx ?_) | (refine rgn 3 ?_; refine sEv ?_; refine sEv ?_; refine nlx ?_) | (refine rgn 4 ?_; refine sEv ?_; refine SL.nc ?_; refine sEv ?_; refine SL.ldC tabOk ?_ (hv := (gr_bg hm ht).trans (by rw [hbg])); refine nlx ?_) | (refine rgn 6 ?_; refine sEv ?_; refine SL.v (v := .tuple #[.bool false, .bool true]) (ValO.call ent_24 _ rfl _ (fun w1 hw1 => by have h := hturn_any b m t hm ht T w1 (hw1.block (List.mem_cons_self ..)); rw [ho, hth] at h; exact h)) ?_; (iterate 5 refine sEv ?_); refine nlx ?_) | (refine rgn 7 ?_; refine sEv ?_; refine sEv ?_; (first | (refine SL.gT ?_; refine sEv ?_) | refine SL.gF ?_); (first | (refine SL.gT ?_; refine sEv ?_) | refine SL.gF ?_); refine sEv ?_; refine sEv ?_; refine nlx ?_) | (refine rgn 9 ?_; refine sEv ?_; refine SL.v (ValO.len tabOk (by rfl)) ?_; (iterate 3 refine sEv ?_); refine nlx ?_) | (refine rgn 11 ?_; refine sEv ?_; refine SL.v (ValO.len tabOk (by rfl)) ?_; refine sEv ?_; refine SL.v (v := .int .i64 4192) (ValO.ev tabOk (by rfl)) ?_; refine sEv ?_; refine sEv ?_; refine nlx ?_) | (refine rgn 13 ?_; (iterate 3 refine sEv ?_); refine SL.callG ent_27 rfl (R := fun v bs' => ∃ rb q' c' abs, v = .tuple #[.slice q' X.length c', .int .i64 0] ∧ AO q' X.length c' X abs ∧ bs' = [(b, gRow m' {t' rb with done := (t' rb).done + 1}, T)] ++ (ex rb ++ abs)) (fun w1 hw1 => (hdoes_ok ent_31 [] q n c X m' t' ex b m t hm ht T w1 (hw1.block (List.mem_cons_self ..)) (fun xb w2 hw2 => hwork xb w2 (Cpy.of (OwnM.call1A hw1 (i := 0) rfl (hw2.perm (List.Perm.swap _ _ _))) (i := 1) (j := 0) rfl rfl (by decide))) hm' ht' hd).mono (by rintro e w' ⟨rb, q', c', abs, rfl, ha, hw'⟩; exact ⟨_, _, rfl, ⟨rb, q', c', abs, rfl, ha, rfl⟩, OwnM.call1A hw1 (i := 0) rfl hw'⟩)) ?_; rintro v bs' ⟨rb, q', c', abs, rfl, ha, rfl⟩; dsimp only [putL, setNth, List.cons_append, List.nil_append]; (iterate 4 refine sEv ?_); refine nlx ?_) | (refine zsq ?_; intro _ _) | (with_reducible refine zkN ?_) | (refine useK (by assumption) ?_) | (with_reducible first | refine zsB ?_ | refine zkX ?_ | refine zkR ?_ | refine zbN ?_ | refine zbR ?_ | refine zbE ?_ | refine zbX ?_ | refine zsS ?_ | refine zsR ?_ | refine zsX ?_) | (refine cdT ?_) | (refine cdF ?_))
    exact doneK.mk rfl (ResO.tmp2 rfl rfl) ⟨rb, q', c', abs, rfl, ha, List.Sublist.refl _⟩
  · rintro e w' ⟨v, bs, rfl, ⟨rb, q', c', abs, rfl, ha, hs⟩, hw'⟩
    exact ⟨rb, _, _, _, rfl, ha, hw'.sub hs⟩
end Sp
end
section
open Go Go.RowKit
namespace Sp
open F M
theorem ResO.tmp3 {P : Program} {w0 : World} {mu : List Nat} {bs : Mem} {l : List Value} {t u x : Nat} {a b c : Value} (ha : nth l t = a) (hb : nth l u = b) (hc : nth l x = c) : ResO P w0 mu bs #[.tmp t, .tmp u, .tmp x] l (.tuple #[a, b, c]) := by
  subst ha hb hc
  intro W fn hres hw
  have h1 := nth_eq l t
  have h2 := nth_eq l u
  have h3 := nth_eq l x
  simp [results, hres, h1, h2, h3]
set_option maxRecDepth 20000 in
set_option maxHeartbeats 1000000 in
theorem hremote_no (b : Nat) (m : Mx) (t : HT) (hm : m.Ok) (ht : t.Ok) (T : TypeId) (w : World) (hb : w.heap[b]? = some (.cells (gRow m t) T (0, 0))) (hk : t.kind ≠ 0) (hr : t.rp = .pointer none) : Calls Try.prog 19 #[.pointer (some ⟨b, 0, none⟩)] w (fun e w' => e = .returned (.tuple #[.agg (ints .u8 (List.replicate 32 0)), .bool false]) ∧ Below w.heap.size w w') := by
  refine pureE Try.func19 Try.ntmps19 Try.results19 ?_
  repeat (first | (refine rgn 0 ?_; refine SL.al zero_23 ?_; intro xb; refine sEv ?_; refine nlx ?_) | (refine rgn 1 ?_; refine sEv ?_; refine SL.v (ValO.call ent_23 _ rfl _ (fun w1 hw1 => hnone_any b m t hm ht T w1 (by rw [hw1.below.block _ (Array.getElem?_eq_some_iff.1 hb).1]; exact hb) hk)) ?_; refine sEv ?_; (first | (refine SL.gT ?_; refine sEv ?_) | refine SL.gF ?_); (first | (refine SL.gT ?_; refine SL.nc ?_) | refine SL.gF ?_); (first | (refine SL.gT ?_; refine sEv ?_) | refine SL.gF ?_); (first | (refine SL.gT ?_; refine SL.ldC tabOk ?_ (hv := (gr_rp hm ht).trans (by rw [hr]))) | refine SL.gF ?_); (first | (refine SL.gT ?_; (first | (refine SL.v (ValO.ptrNil tabOk rfl rfl rfl) ?_) | (refine SL.v (ValO.ptrNilT tabOk rfl rfl rfl) ?_))) | refine SL.gF ?_); refine sEv ?_; refine nlx ?_) | (refine rgn 2 ?_; refine SL.v (ValO.build (by first | (dsimp only [List.map, evL, nth]; done) | (dsimp only [List.map, evL, nth]; rfl)) Low.bldK0) ?_; refine SL.stR tabOk ?_; refine sEv ?_; refine nlx ?_) | (refine zsq ?_; intro _ _) | (with_reducible refine zkN ?_) | (refine useK (by assumption) ?_) | (with_reducible first | refine zsB ?_ | refine zkX ?_ | refine zkR ?_ | refine zbN ?_ | refine zbR ?_ | refine zbE ?_ | refine zbX ?_ | refine zsS ?_ | refine zsR ?_ | refine zsX ?_) | (refine cdT ?_) | (refine cdF ?_))
  exact doneK.mk rfl (ResO.cellTmp tabOk rfl rfl rfl (RdA.own g0) (by simp [ints_size]) rfl) rfl
set_option maxRecDepth 20000 in
set_option maxHeartbeats 1000000 in
theorem hdigest_any (b : Nat) (m : Mx) (t : HT) (hm : m.Ok) (ht : t.Ok) (T : TypeId) (w : World) (hb : w.heap[b]? = some (.cells (gRow m t) T (0, 0))) (hk : t.kind ≠ 0) : Calls Try.prog 11 #[.pointer (some ⟨b, 0, none⟩)] w (fun e w' => e = .returned (.agg (ints .u8 m.D)) ∧ Below w.heap.size w w') := by
  refine pureE Try.func11 Try.ntmps11 Try.results11 ?_
  repeat (first | (refine rgn 0 ?_; refine SL.al zero_22 ?_; intro xb; refine nlx ?_) | (refine rgn 1 ?_; refine sEv ?_; refine SL.v (ValO.call ent_23 _ rfl _ (fun w1 hw1 => hnone_any b m t hm ht T w1 (by rw [hw1.below.block _ (Array.getElem?_eq_some_iff.1 hb).1]; exact hb) hk)) ?_; refine nlx ?_) | (refine rgn 3 ?_; refine sEv ?_; refine SL.nc ?_; refine sEv ?_; refine sEv ?_; refine SL.ldP tabOk ?_ (hn := by rw [gr_size hm ht]; decide) (hB := gr_d hm ht); refine SL.stR tabOk ?_ (k := .u8) (L := m.D) (hn := by rw [ints_size, hm.d]); refine nlx ?_) | (refine zsq ?_; intro _ _) | (with_reducible refine zkN ?_) | (refine useK (by assumption) ?_) | (with_reducible first | refine zsB ?_ | refine zkX ?_ | refine zkR ?_ | refine zbN ?_ | refine zbR ?_ | refine zbE ?_ | refine zbX ?_ | refine zsS ?_ | refine zsR ?_ | refine zsX ?_) | (refine cdT ?_) | (refine cdF ?_))
  exact doneK.mk rfl (ResO.cell tabOk rfl rfl rfl (RdA.own g0) (by rw [ints_size, hm.d])) rfl
set_option maxRecDepth 20000 in
set_option maxHeartbeats 1000000 in
theorem hsplit_turn (b : Nat) (m : Mx) (t : HT) (hm : m.Ok) (ht : t.Ok) (T : TypeId) (w : World) (hb : w.heap[b]? = some (.cells (gRow m t) T (0, 0))) (hk : t.kind ≠ 0) (hd : t.done < 2) : Calls Try.prog 12 #[.pointer (some ⟨b, 0, none⟩)] w (fun e w' => e = .returned (.tuple #[.pointer none, .pointer none, .int .i64 100]) ∧ Below w.heap.size w w') := by
  refine pureE Try.func12 Try.ntmps12 Try.results12 ?_
  repeat (first | (refine rgn 0 ?_; (iterate 3 refine sEv ?_); refine nlx ?_) | (refine rgn 1 ?_; refine sEv ?_; refine SL.v (ValO.call ent_23 _ rfl _ (fun w1 hw1 => hnone_any b m t hm ht T w1 (by rw [hw1.below.block _ (Array.getElem?_eq_some_iff.1 hb).1]; exact hb) hk)) ?_; refine sEv ?_; refine nlx ?_) | (refine rgn 3 ?_; refine sEv ?_; refine SL.nc ?_; refine sEv ?_; refine SL.ldC tabOk ?_ (hv := gr_done hm ht); refine sEv ?_; refine sEv ?_; refine nlx ?_) | (refine rgn 4 ?_; (iterate 3 refine sEv ?_); refine nlx ?_) | (refine zsq ?_; intro _ _) | (with_reducible refine zkN ?_) | (refine useK (by assumption) ?_) | (with_reducible first | refine zsB ?_ | refine zkX ?_ | refine zkR ?_ | refine zbN ?_ | refine zbR ?_ | refine zbE ?_ | refine zbX ?_ | refine zsS ?_ | refine zsR ?_ | refine zsX ?_) | (refine cdT ?_) | (refine cdF ?_))
  exact doneK.mk rfl (ResO.tmp3 rfl rfl rfl) rfl
end Sp
end
section
open Go Go.RowKit
namespace Sp
open F M
def nmS (k : Int) : ByteArray := if k = 1 then ⟨#[78, 111, 105, 115, 101, 95, 73, 75, 95, 50, 53, 53, 49, 57, 95, 67, 104, 97, 67, 104, 97, 80, 111, 108, 121, 95, 66, 76, 65, 75, 69, 50, 115]⟩ else ⟨#[78, 111, 105, 115, 101, 95, 73, 75, 112, 115, 107, 50, 95, 50, 53, 53, 49, 57, 95, 67, 104, 97, 67, 104, 97, 80, 111, 108, 121, 95, 66, 76, 65, 75, 69, 50, 115]⟩
def strB (s : ByteArray) : List Int := s.data.toList.map (fun b => (b.toNat : Int))
theorem strB_length (s : ByteArray) : (strB s).length = s.size := by unfold strB; rw [List.length_map, Array.length_toList]; rfl
section
variable {P : Program} {tab : Tab} {w0 : World} {mu : List Nat} {bs : Mem} {l : List Value} {ops : Array Oper} {rest : List Oper} {Q : ExitP} {dst2 : Option Tmp} {ty ty2 : TypeId} {pos pos2 : String} {af af2 : Array Edge}
theorem bytesCells_ints (w : World) (e : TypeId) (s : ByteArray) : Go.Lib.bytesCells w e s = ints .u8 (strB s ++ List.replicate (grownCap w s.size 0 e - s.size) 0) := by
  unfold Go.Lib.bytesCells strB ints
  apply Array.ext'
  simp [Array.toList_append, Array.toList_map, List.map_map, Function.comp_def]
theorem below_bytes (w : World) (e : TypeId) (s : ByteArray) : Below w.heap.size w (Go.Lib.bytesWorld w e s) :=
  ⟨rfl, rfl, rfl, by rw [Go.Lib.bytesWorld_size]; omega, fun k hk => Go.Lib.bytesWorld_at_old w e s k hk⟩
theorem SL.cvCall (ht : TabOk P tab) {s t e by_ sz sz' d1 : Nat} {x : Operand} {str : ByteArray} {f : FuncId} {ats : Array TypeId} {v : Value} (hent : ∀ (A : Array Value) (w : World), (callFunc f A).run P w = .ok (.enter f A) w) (h0 : 0 < str.size)
    (hc : ∀ w b c, Sl w (some ⟨b, 0, none⟩) str.size c (strB str) → Calls P f #[.slice (some ⟨b, 0, none⟩) str.size c] w fun e w' => e = .returned v ∧ Below w.heap.size w w') {l' : Nat → Nat → List Value} (h : ∀ b c, SL P ops w0 mu rest Q (l' b c) bs)
    (hx : evL l x = .string str := by rfl) (hls : look tab s = some (.str, sz') := by rfl) (hl : look tab t = some (.sl e 1 by_, sz) := by rfl) (hle : look tab e = some (.int .u8, 1) := by rfl)
    (hxx : ∀ b c, evL (putL l (some d1) (.slice (some ⟨b, 0, none⟩) str.size c)) (.tmp d1) = .slice (some ⟨b, 0, none⟩) str.size c := by intro _ _; rfl)
    (hp : ∀ b c, putL (putL l (some d1) (.slice (some ⟨b, 0, none⟩) str.size c)) dst2 v = l' b c := by intro _ _; first | (dsimp only [putL, setNth]; done) | (dsimp only [putL, setNth]; rfl)) :
    SL P ops w0 mu (⟨some d1, .convert s t x, ty, pos, af, none⟩ :: ⟨dst2, .call { callee := .value (.func f), args := #[.tmp d1], argTypes := ats }, ty2, pos2, af2, none⟩ :: rest) Q l bs := by
  obtain ⟨hu, _, _⟩ := td_sl (look_ok ht hl)
  have hue := td_int (look_ok ht hle)
  have hus := td_str (look_ok ht hls)
  refine ⟨fun W Q' hw hA => ?_⟩
  refine wpList_plain rfl fun K hK => ?_
  have hcv := Go.Lib.run_convert_string_bytes (P := P) W s t e str hus hu hue
  unfold Oper.wp execOp
  simp only [evL_eq, hx, Sem.run_bind, hcv, Result.andThen_ok, Sem.run_pure]
  refine hK _ _ ?_
  rw [putL_eq]
  refine wpList_plain rfl fun K hK => ?_
  unfold Oper.wp
  rw [run_call_fn (A := #[.slice (some ⟨W.heap.size, 0, none⟩) str.size (grownCap W str.size 0 e)]) (by simp only [List.map_toArray, List.map_cons, List.map_nil, evL_eq, hxx]), hent]
  simp only [Oper.upon]
  have hS : Sl (Go.Lib.bytesWorld W e str) (some ⟨W.heap.size, 0, none⟩) str.size (grownCap W str.size 0 e) (strB str) := by
    have hh := Go.Lib.bytesWorld_at_new W e str
    rw [bytesCells_ints] at hh
    exact ⟨strB_length _, grownCap_ge _ _ _ _, fun _ => ⟨_, _, _, _, _, rfl, hh, Lies.row _ _⟩⟩
  refine (hc _ _ _ hS).mono ?_
  rintro e' w' ⟨rfl, hb⟩
  have hb1 := below_bytes W e str
  exact hK _ _ (by rw [putL_eq, hp]; exact (h _ _).run _ _ ((hw.grow hb1).grow hb) hA)
end
set_option maxRecDepth 20000 in
set_option maxHeartbeats 1000000 in
theorem hname_ok (k : Int) (hk : k = 1 ∨ k = 2) (w : World) : Calls Try.prog 20 #[.int .i64 k] w (fun e w' => e = .returned (.tuple #[.string (nmS k), .bool true]) ∧ Below w.heap.size w w') := by
  rcases hk with rfl | rfl
  · refine pureE Try.func20 Try.ntmps20 Try.results20 ?_
    repeat (first | (refine rgn 0 ?_; refine sEv ?_; refine sEv ?_; refine nlx ?_) | (refine rgn 1 ?_; refine sEv ?_; refine nlx ?_) | (refine rgn 2 ?_; refine sEv ?_; refine sEv ?_; refine nlx ?_) | (refine rgn 3 ?_; refine sEv ?_; refine sEv ?_; refine nlx ?_) | (refine zsq ?_; intro _ _) | (with_reducible refine zkN ?_) | (refine useK (by assumption) ?_) | (with_reducible first | refine zsB ?_ | refine zkX ?_ | refine zkR ?_ | refine zbN ?_ | refine zbR ?_ | refine zbE ?_ | refine zbX ?_ | refine zsS ?_ | refine zsR ?_ | refine zsX ?_) | (refine cdT ?_) | (refine cdF ?_))
    exact doneK.mk rfl (ResO.tmp2 rfl rfl) rfl
  · refine pureE Try.func20 Try.ntmps20 Try.results20 ?_
    repeat (first | (refine rgn 0 ?_; refine sEv ?_; refine sEv ?_; refine nlx ?_) | (refine rgn 1 ?_; refine sEv ?_; refine nlx ?_) | (refine rgn 2 ?_; refine sEv ?_; refine sEv ?_; refine nlx ?_) | (refine rgn 4 ?_; refine sEv ?_; refine sEv ?_; refine nlx ?_) | (refine rgn 5 ?_; refine sEv ?_; refine sEv ?_; refine nlx ?_) | (refine zsq ?_; intro _ _) | (with_reducible refine zkN ?_) | (refine useK (by assumption) ?_) | (with_reducible first | refine zsB ?_ | refine zkX ?_ | refine zkR ?_ | refine zbN ?_ | refine zbR ?_ | refine zbE ?_ | refine zbX ?_ | refine zsS ?_ | refine zsR ?_ | refine zsX ?_) | (refine cdT ?_) | (refine cdF ?_))
    exact doneK.mk rfl (ResO.tmp2 rfl rfl) rfl
end Sp
end
section
open Go Go.RowKit
namespace Sp
open F M
structure SU where
  kind : Int
  bg : Bool
  own : List Int
  oth : List Int
  pv : Value
  psk : List Int
structure SU.Ok (u : SU) : Prop where
  own : u.own.length = 32
  oth : u.oth.length = 32
  psk : u.psk.length = 32
@[irreducible] def suRow (u : SU) : Array Value := cat [#[.int .i64 u.kind], #[.bool u.bg], ints .u8 u.own, ints .u8 u.oth, #[u.pv], ints .u8 u.psk]
section
variable {u : SU}
theorem su_size (hu : u.Ok) : (suRow u).size = 99 := by unfold suRow; simp [cat, ints_size, hu.own, hu.oth, hu.psk]
theorem su_kind (hu : u.Ok) : (suRow u)[0]? = some (.int .i64 u.kind) := by unfold suRow; exact cat_at (L := []) (M := [#[.bool u.bg], ints .u8 u.own, ints .u8 u.oth, #[u.pv], ints .u8 u.psk]) rfl
theorem su_bg (hu : u.Ok) : (suRow u)[1]? = some (.bool u.bg) := by unfold suRow; exact cat_at (L := [#[.int .i64 u.kind]]) (M := [ints .u8 u.own, ints .u8 u.oth, #[u.pv], ints .u8 u.psk]) (by simp [cat, ints_size, hu.own, hu.oth, hu.psk])
theorem su_own (hu : u.Ok) : (suRow u).extract 2 (2 + 32) = ints .u8 u.own := by unfold suRow; exact cat_ex (L := [#[.int .i64 u.kind], #[.bool u.bg]]) (M := [ints .u8 u.oth, #[u.pv], ints .u8 u.psk]) (by simp [cat, ints_size, hu.own, hu.oth, hu.psk]) (by simp [cat, ints_size, hu.own, hu.oth, hu.psk])
theorem su_oth (hu : u.Ok) : (suRow u).extract 34 (34 + 32) = ints .u8 u.oth := by unfold suRow; exact cat_ex (L := [#[.int .i64 u.kind], #[.bool u.bg], ints .u8 u.own]) (M := [#[u.pv], ints .u8 u.psk]) (by simp [cat, ints_size, hu.own, hu.oth, hu.psk]) (by simp [cat, ints_size, hu.own, hu.oth, hu.psk])
theorem su_pv (hu : u.Ok) : (suRow u)[66]? = some (u.pv) := by unfold suRow; exact cat_at (L := [#[.int .i64 u.kind], #[.bool u.bg], ints .u8 u.own, ints .u8 u.oth]) (M := [ints .u8 u.psk]) (by simp [cat, ints_size, hu.own, hu.oth, hu.psk])
theorem su_psk (hu : u.Ok) : (suRow u).extract 67 (67 + 32) = ints .u8 u.psk := by unfold suRow; exact cat_ex (L := [#[.int .i64 u.kind], #[.bool u.bg], ints .u8 u.own, ints .u8 u.oth, #[u.pv]]) (M := []) (by simp [cat, ints_size, hu.own, hu.oth, hu.psk]) (by simp [cat, ints_size, hu.own, hu.oth, hu.psk])
end
def HT.new (k : Int) (b : Bool) (o s : List Int) : HT := { t00 with kind := k, bg := b, own := o, psk := s }
set_option maxRecDepth 100000 in
theorem hn_built (k : Int) (bg : Bool) {o s : List Int} (ho : o.length = 32) (hs : s.length = 32) : Try.prog.built 58 [(1, .int .i64 k), (2, .bool bg), (3, .agg (ints .u8 o)), (4, .agg (ints .u8 s))] = some (gRow m00 (HT.new k bg o s)) := by
  obtain ⟨a0, a1, a2, a3, a4, a5, a6, a7, a8, a9, a10, a11, a12, a13, a14, a15, a16, a17, a18, a19, a20, a21, a22, a23, a24, a25, a26, a27, a28, a29, a30, a31, rfl⟩ := list32 ho
  obtain ⟨b0, b1, b2, b3, b4, b5, b6, b7, b8, b9, b10, b11, b12, b13, b14, b15, b16, b17, b18, b19, b20, b21, b22, b23, b24, b25, b26, b27, b28, b29, b30, b31, rfl⟩ := list32 hs
  unfold gRow
  kernel_rfl
theorem new_ok (k : Int) (bg : Bool) {o s : List Int} (ho : o.length = 32) (hs : s.length = 32) : (HT.new k bg o s).Ok := ⟨ho, hs, rfl, rfl, rfl⟩
def Mx.nw0 (k : Int) : Mx := { m00 with D := bDg (strB (nmS k)), C := bDg (strB (nmS k)) }
@[irreducible] def Mx.nw (k : Int) (P U : List Int) : Mx := ((Mx.nw0 k).mix P).mix U
theorem Mx.nw0_ok (k : Int) : (Mx.nw0 k).Ok := ⟨bDg_length _, bDg_length _, rfl, byts_bDg _⟩
theorem Mx.nw_ok (k : Int) (P U : List Int) : (Mx.nw k P U).Ok := by unfold Mx.nw; exact ((Mx.nw0_ok k).mix P).mix U
theorem nmS_pos {k : Int} (h : k = 1 ∨ k = 2) : 0 < (nmS k).size := by rcases h with rfl | rfl <;> decide
theorem nmS_le {k : Int} (h : k = 1 ∨ k = 2) : (nmS k).size ≤ 140737488355328 := by rcases h with rfl | rfl <;> decide
set_option maxRecDepth 20000 in
set_option maxHeartbeats 1000000 in
theorem hnewA_ok (u : SU) (hu : u.Ok) (bo : Bytes32 u.own) (q : Option Addr) (n c : Nat) (P : List Int) (hpv : u.pv = .slice q n c) (w : World) (hS : Sl w q n c P) (hn : n ≤ 140737488351232) (hk : u.kind = 1 ∨ u.kind = 2) (hbg : u.bg = true) : Calls Try.prog 9 #[.agg (suRow u)] w (fun e w' => ∃ hb rb, e = .returned (.tuple #[.pointer (some ⟨hb, 0, none⟩), .int .i64 0]) ∧ OwnM w [] w' [(hb, gRow (Mx.nw u.kind P u.oth) {(HT.new u.kind u.bg u.own u.psk) with rp := .pointer (some ⟨rb, 0, none⟩)}, 58), (rb, ints .u8 u.oth, 23)]) := by
  have hm1 : (({m00 with D := (bDg (strB (nmS u.kind)))} : Mx)).Ok := ⟨bDg_length _, rfl, rfl, byts_bDg _⟩
  have hm2 := (Mx.nw0_ok u.kind).mix P
  have e9 : Mx.nw u.kind P u.oth = ((Mx.nw0 u.kind).mix P).mix u.oth := by unfold Mx.nw; rfl
  refine (callE (mu := []) Try.func9 Try.ntmps9 Try.results9 (OwnM.start w) (fun v bs => ∃ hb rb bs2, v = .tuple #[.pointer (some ⟨hb, 0, none⟩), .int .i64 0] ∧ bs.Perm bs2 ∧ [(hb, gRow (Mx.nw u.kind P u.oth) {(HT.new u.kind u.bg u.own u.psk) with rp := .pointer (some ⟨rb, 0, none⟩)}, 58), (rb, ints .u8 u.oth, 23)].Sublist bs2) ?_).mono ?_
  · rw [e9]
    repeat (first | (refine rgn 0 ?_; refine SL.bx ?_; intro sb; refine sEv ?_; refine sEv ?_; refine nlx ?_) | (refine rgn 1 ?_; refine sEv ?_; refine SL.ldC tabOk ?_ (hv := su_kind hu); refine SL.v (ValO.call ent_20 _ rfl _ (fun w1 hw1 => hname_ok u.kind hk w1)) ?_; (iterate 5 refine sEv ?_); refine nlx ?_) | (refine rgn 2 ?_; refine sEv ?_; refine sEv ?_; refine nlx ?_) | (refine rgn 4 ?_; refine sEv ?_; refine SL.ldC tabOk ?_ (hv := su_kind hu); refine sEv ?_; refine SL.ldC tabOk ?_ (hv := su_bg hu); refine sEv ?_; refine SL.ldP tabOk ?_ (hn := by rw [su_size hu]; decide) (hB := su_own hu); refine sEv ?_; refine SL.ldP tabOk ?_ (hn := by rw [su_size hu]; decide) (hB := su_psk hu); refine SL.v (ValO.build (by first | (dsimp only [List.map, evL, nth]; done) | (dsimp only [List.map, evL, nth]; rfl)) (hn_built u.kind u.bg hu.own hu.psk)) ?_; refine SL.bx ?_; intro hb; refine sEv ?_; refine nlx ?_) | (refine rgn 5 ?_; refine sEv ?_; refine sEv ?_; refine SL.cvCall tabOk ent_21 (v := .agg (ints .u8 (bDg (strB (nmS u.kind))))) (nmS_pos hk) (fun w1 b1 c1 hS1 => bdg_any _ _ _ _ w1 hS1 (nmS_le hk)) (fun nb nc => ?_); skip; refine SL.nc ?_; refine sEv ?_; refine sEv ?_; refine SL.stQ tabOk ?_ (B := ints .u8 (bDg (strB (nmS u.kind)))) (hn := by simp only [Value.cells]; rw [ints_size, bDg_length]) (hsz := by rw [gr_size m00_ok (new_ok u.kind u.bg hu.own hu.psk)]; decide) (hA := gr_pd m00_ok (new_ok u.kind u.bg hu.own hu.psk) (bDg_length _)); refine nlx ?_) | (refine rgn 6 ?_; refine sEv ?_; refine sEv ?_; refine SL.nc ?_; refine sEv ?_; refine sEv ?_; refine SL.ldP tabOk ?_ (hn := by rw [gr_size hm1 (new_ok u.kind u.bg hu.own hu.psk)]; decide) (hB := gr_d hm1 (new_ok u.kind u.bg hu.own hu.psk)); refine SL.nc ?_; refine sEv ?_; refine sEv ?_; refine SL.stQ tabOk ?_ (B := ints .u8 (bDg (strB (nmS u.kind)))) (hn := by simp only [Value.cells]; rw [ints_size, bDg_length]) (hsz := by rw [gr_size hm1 (new_ok u.kind u.bg hu.own hu.psk)]; decide) (hA := gr_pc hm1 (new_ok u.kind u.bg hu.own hu.psk) (bDg_length _)); refine nlx ?_) | (refine rgn 8 ?_; refine sEv ?_; refine SL.ldP tabOk ?_ (hn := by rw [su_size hu]; decide) (hB := su_oth hu); refine SL.al zero_23 ?_; intro rb; refine SL.stR tabOk ?_ (hn := by rw [ints_size, hu.oth]); refine nlx ?_) | (refine rgn 9 ?_; refine sEv ?_; refine SL.ldC tabOk ?_ (hv := (su_bg hu).trans (by rw [hbg])); refine nlx ?_) | (refine rgn 10 ?_; refine sEv ?_; refine SL.nc ?_; refine sEv ?_; refine SL.stP tabOk ?_ (hsz := by rw [gr_size hm2 (new_ok u.kind u.bg hu.own hu.psk)]; decide) (hA := gr_prp hm2 (new_ok u.kind u.bg hu.own hu.psk) _); refine nlx ?_) | (refine rgn 13 ?_; (iterate 3 refine sEv ?_); refine nlx ?_) | ((with_reducible show SP _ _ _ (Code.region _ _ true) _ _ _); first | (refine SPa (id := 7) [5] [] ([]) [0, 1, 2, 3, 4, 5] follows ?_; refine fPv ?_; refine SF.nc ?_; refine SF.e tabOk ?_; refine SF.e tabOk ?_; refine SF.ldC tabOk ?_ (hv := (su_pv hu).trans (by rw [hpv])); refine SF.cl2 hb (i := 0) ent_22 rfl (fun w1 hw1 hb1 => hmix_any hb (Mx.nw0 u.kind) (HT.new u.kind u.bg u.own u.psk) (Mx.nw0_ok u.kind) 58 q n c P w1 hS.len hn hb1 (fun w2 hw2 => hS.old (OwnM.below (hw1.call1 (i := 0) (by exact gbk _) hw2)))) ?_; refine SF.done ?_) | (refine SPa (id := 12) [4] [] ([]) [0, 1, 2, 3, 4] follows ?_; refine fPv ?_; refine SF.nc ?_; refine SF.e tabOk ?_; refine SF.ctA tabOk 0 32 ?_; refine SF.cl2 hb (i := 1) ent_22 rfl (fun w1 hw1 hb1 => hmix_any hb ((Mx.nw0 u.kind).mix P) ({(HT.new u.kind u.bg u.own u.psk) with rp := .pointer (some ⟨rb, 0, none⟩)} : HT) hm2 58 (some ⟨rb, 0, none⟩) 32 32 u.oth w1 hu.oth (by decide) hb1 (fun w2 hw2 => Sl.of (hw1.call1 (i := 1) (by exact gbk _) hw2) (RdA.own g0) (Lies.whole u.oth) hu.oth (Nat.le_refl _))) ?_; refine SF.done ?_)) | (refine zsq ?_; intro _ _) | (with_reducible refine zkN ?_) | (refine useK (by assumption) ?_) | (with_reducible first | refine zsB ?_ | refine zkX ?_ | refine zkR ?_ | refine zbN ?_ | refine zbR ?_ | refine zbE ?_ | refine zbX ?_ | refine zsS ?_ | refine zsR ?_ | refine zsX ?_) | (refine cdT ?_) | (refine cdF ?_))
    exact doneK.mk rfl (ResO.tmp2 rfl rfl) ⟨_, _, _, rfl, List.Perm.swap _ _ _, List.Sublist.cons_cons _ (List.Sublist.cons_cons _ (List.nil_sublist _))⟩
  · rintro e w' ⟨v, bs, rfl, ⟨hb, rb, bs2, rfl, hp, hs⟩, hw'⟩
    exact ⟨hb, rb, rfl, (hw'.perm hp).sub hs⟩
set_option maxRecDepth 20000 in
set_option maxHeartbeats 1000000 in
theorem hnewB_ok (u : SU) (hu : u.Ok) (bo : Bytes32 u.own) (q : Option Addr) (n c : Nat) (P : List Int) (hpv : u.pv = .slice q n c) (w : World) (hS : Sl w q n c P) (hn : n ≤ 140737488351232) (hk : u.kind = 1 ∨ u.kind = 2) (hbg : u.bg = false) : Calls Try.prog 9 #[.agg (suRow u)] w (fun e w' => ∃ hb rb, e = .returned (.tuple #[.pointer (some ⟨hb, 0, none⟩), .int .i64 0]) ∧ OwnM w [] w' [(hb, gRow (Mx.nw u.kind P (pubL u.own)) (HT.new u.kind u.bg u.own u.psk), 58), (rb, ints .u8 (pubL u.own), 23)]) := by
  have hm1 : (({m00 with D := (bDg (strB (nmS u.kind)))} : Mx)).Ok := ⟨bDg_length _, rfl, rfl, byts_bDg _⟩
  have hm2 := (Mx.nw0_ok u.kind).mix P
  have e9 : Mx.nw u.kind P (pubL u.own) = ((Mx.nw0 u.kind).mix P).mix (pubL u.own) := by unfold Mx.nw; rfl
  refine (callE (mu := []) Try.func9 Try.ntmps9 Try.results9 (OwnM.start w) (fun v bs => ∃ hb rb bs2, v = .tuple #[.pointer (some ⟨hb, 0, none⟩), .int .i64 0] ∧ bs.Perm bs2 ∧ [(hb, gRow (Mx.nw u.kind P (pubL u.own)) (HT.new u.kind u.bg u.own u.psk), 58), (rb, ints .u8 (pubL u.own), 23)].Sublist bs2) ?_).mono ?_
  · rw [e9]
    repeat (first | (refine rgn 0 ?_; refine SL.bx ?_; intro sb; refine sEv ?_; refine sEv ?_; refine nlx ?_) | (refine rgn 1 ?_; refine sEv ?_; refine SL.ldC tabOk ?_ (hv := su_kind hu); refine SL.v (ValO.call ent_20 _ rfl _ (fun w1 hw1 => hname_ok u.kind hk w1)) ?_; (iterate 5 refine sEv ?_); refine nlx ?_) | (refine rgn 2 ?_; refine sEv ?_; refine sEv ?_; refine nlx ?_) | (refine rgn 4 ?_; refine sEv ?_; refine SL.ldC tabOk ?_ (hv := su_kind hu); refine sEv ?_; refine SL.ldC tabOk ?_ (hv := su_bg hu); refine sEv ?_; refine SL.ldP tabOk ?_ (hn := by rw [su_size hu]; decide) (hB := su_own hu); refine sEv ?_; refine SL.ldP tabOk ?_ (hn := by rw [su_size hu]; decide) (hB := su_psk hu); refine SL.v (ValO.build (by first | (dsimp only [List.map, evL, nth]; done) | (dsimp only [List.map, evL, nth]; rfl)) (hn_built u.kind u.bg hu.own hu.psk)) ?_; refine SL.bx ?_; intro hb; refine sEv ?_; refine nlx ?_) | (refine rgn 5 ?_; refine sEv ?_; refine sEv ?_; refine SL.cvCall tabOk ent_21 (v := .agg (ints .u8 (bDg (strB (nmS u.kind))))) (nmS_pos hk) (fun w1 b1 c1 hS1 => bdg_any _ _ _ _ w1 hS1 (nmS_le hk)) (fun nb nc => ?_); skip; refine SL.nc ?_; refine sEv ?_; refine sEv ?_; refine SL.stQ tabOk ?_ (B := ints .u8 (bDg (strB (nmS u.kind)))) (hn := by simp only [Value.cells]; rw [ints_size, bDg_length]) (hsz := by rw [gr_size m00_ok (new_ok u.kind u.bg hu.own hu.psk)]; decide) (hA := gr_pd m00_ok (new_ok u.kind u.bg hu.own hu.psk) (bDg_length _)); refine nlx ?_) | (refine rgn 6 ?_; refine sEv ?_; refine sEv ?_; refine SL.nc ?_; refine sEv ?_; refine sEv ?_; refine SL.ldP tabOk ?_ (hn := by rw [gr_size hm1 (new_ok u.kind u.bg hu.own hu.psk)]; decide) (hB := gr_d hm1 (new_ok u.kind u.bg hu.own hu.psk)); refine SL.nc ?_; refine sEv ?_; refine sEv ?_; refine SL.stQ tabOk ?_ (B := ints .u8 (bDg (strB (nmS u.kind)))) (hn := by simp only [Value.cells]; rw [ints_size, bDg_length]) (hsz := by rw [gr_size hm1 (new_ok u.kind u.bg hu.own hu.psk)]; decide) (hA := gr_pc hm1 (new_ok u.kind u.bg hu.own hu.psk) (bDg_length _)); refine nlx ?_) | (refine rgn 8 ?_; refine sEv ?_; refine SL.ldP tabOk ?_ (hn := by rw [su_size hu]; decide) (hB := su_oth hu); refine SL.al zero_23 ?_; intro rb; refine SL.stR tabOk ?_ (hn := by rw [ints_size, hu.oth]); refine nlx ?_) | (refine rgn 9 ?_; refine sEv ?_; refine SL.ldC tabOk ?_ (hv := (su_bg hu).trans (by rw [hbg])); refine nlx ?_) | (refine rgn 11 ?_; refine sEv ?_; refine SL.ldP tabOk ?_ (hn := by rw [su_size hu]; decide) (hB := su_own hu); refine SL.v (ValO.call ent_18 _ rfl _ (fun w1 hw1 => pub_h u.own bo w1)) ?_; refine SL.stR tabOk ?_ (k := .u8) (L := pubL u.own) (hn := by rw [ints_size, pubL_length]) (hsz := by rw [ints_size, hu.oth]); refine nlx ?_) | (refine rgn 13 ?_; (iterate 3 refine sEv ?_); refine nlx ?_) | ((with_reducible show SP _ _ _ (Code.region _ _ true) _ _ _); first | (refine SPa (id := 7) [5] [] ([]) [0, 1, 2, 3, 4, 5] follows ?_; refine fPv ?_; refine SF.nc ?_; refine SF.e tabOk ?_; refine SF.e tabOk ?_; refine SF.ldC tabOk ?_ (hv := (su_pv hu).trans (by rw [hpv])); refine SF.cl2 hb (i := 0) ent_22 rfl (fun w1 hw1 hb1 => hmix_any hb (Mx.nw0 u.kind) (HT.new u.kind u.bg u.own u.psk) (Mx.nw0_ok u.kind) 58 q n c P w1 hS.len hn hb1 (fun w2 hw2 => hS.old (OwnM.below (hw1.call1 (i := 0) (by exact gbk _) hw2)))) ?_; refine SF.done ?_) | (refine SPa (id := 12) [4] [] ([]) [0, 1, 2, 3, 4] follows ?_; refine fPv ?_; refine SF.nc ?_; refine SF.e tabOk ?_; refine SF.ctA tabOk 0 32 ?_; refine SF.cl2 hb (i := 1) ent_22 rfl (fun w1 hw1 hb1 => hmix_any hb ((Mx.nw0 u.kind).mix P) (HT.new u.kind u.bg u.own u.psk) hm2 58 (some ⟨rb, 0, none⟩) 32 32 (pubL u.own) w1 (pubL_length _) (by decide) hb1 (fun w2 hw2 => Sl.of (hw1.call1 (i := 1) (by exact gbk _) hw2) (RdA.own g0) (Lies.whole (pubL u.own)) (pubL_length _) (Nat.le_refl _))) ?_; refine SF.done ?_)) | (refine zsq ?_; intro _ _) | (with_reducible refine zkN ?_) | (refine useK (by assumption) ?_) | (with_reducible first | refine zsB ?_ | refine zkX ?_ | refine zkR ?_ | refine zbN ?_ | refine zbR ?_ | refine zbE ?_ | refine zbX ?_ | refine zsS ?_ | refine zsR ?_ | refine zsX ?_) | (refine cdT ?_) | (refine cdF ?_))
    exact doneK.mk rfl (ResO.tmp2 rfl rfl) ⟨_, _, _, rfl, List.Perm.swap _ _ _, List.Sublist.cons_cons _ (List.Sublist.cons_cons _ (List.nil_sublist _))⟩
  · rintro e w' ⟨v, bs, rfl, ⟨hb, rb, bs2, rfl, hp, hs⟩, hw'⟩
    exact ⟨hb, rb, rfl, (hw'.perm hp).sub hs⟩
end Sp
end
section
open Go Go.RowKit
namespace Sp
theorem Mx.back {m : Mx} (hm : m.Ok) {B : List Int} (hB : B.length ≤ 4096) (bB : Byts B) : m.oE (m.sX B) = 0 ∧ m.oX (m.sX B) = B ∧ m.dec (m.sX B) = m.enc B := by
  have h1 : m.oE (m.sX B) = 0 := by
    unfold Mx.oE Mx.sX
    exact oE_back _ _ (by rw [hm.d]; decide) hB
  refine ⟨h1, ?_, ?_⟩
  · unfold Mx.oX Mx.sX
    exact oX_back _ _ (by rw [hm.d]; decide) hB bB
  · unfold Mx.dec
    rw [if_pos h1]
    unfold Mx.enc
    rfl
theorem shN_ok {a b : List Int} (ha : Bytes32 a) (hb : Bytes32 b) : Low.shN a (pubL b) = 0 := by
  unfold pubL
  exact Ed.both_ok ha hb (Low.byt_clamp ha) (Low.byt_clamp hb)
theorem shX_sym {a b : List Int} (ha : Bytes32 a) (hb : Bytes32 b) : Low.shX a (pubL b) = Low.shX b (pubL a) := by
  unfold pubL
  exact Ed.both_eq (Low.byt_clamp ha) (Low.byt_clamp hb)
theorem Mx.share_sym (m : Mx) {a b : List Int} (ha : Bytes32 a) (hb : Bytes32 b) : m.share a (pubL b) = m.share b (pubL a) := by
  unfold Mx.share
  rw [if_pos (shN_ok ha hb), if_pos (shN_ok hb ha), shX_sym ha hb]
theorem bothE_ok {a b c d : List Int} (ha : Bytes32 a) (hb : Bytes32 b) (hc : Bytes32 c) (hd : Bytes32 d) : bothE a (pubL b) c (pubL d) = 0 := by
  unfold bothE
  rw [if_pos (shN_ok ha hb)]
  exact shN_ok hc hd
theorem Mx.both_sym (m : Mx) {e a b : List Int} (he : Bytes32 e) (ha : Bytes32 a) (hb : Bytes32 b) : m.both e (pubL a) e (pubL b) = m.both a (pubL e) b (pubL e) := by
  unfold Mx.both
  rw [if_pos (shN_ok he ha), if_pos (shN_ok ha he), Mx.share_sym m he ha, Mx.share_sym _ he hb]
theorem take32 {X Y : List Int} (h : X.length = 32) : (X ++ Y).take 32 = X ∧ (X ++ Y).drop 32 = Y := by
  rw [← h]
  exact ⟨List.take_left' rfl, List.drop_left' rfl⟩
theorem first_back {m : Mx} (hm : m.Ok) {t s : HT} (hk : t.kind = s.kind) (ha : Bytes32 t.own) (he : Bytes32 t.once) (hb : Bytes32 s.own) {B M : List Int} (hB : B.length ≤ 4096) (bB : Byts B) (hM : M = fstX m t (pubL s.own) B) :
    M.take 32 = pubL t.once ∧ Low.shN s.own (M.take 32) = 0 ∧ m.r2 s M = m.f2 t (pubL s.own) ∧ (m.r2 s M).oE ((M.drop 32).take 48) = 0 ∧ rK m s M = pubL t.own ∧ Low.shN s.own (rK m s M) = 0 ∧ m.r4 s M = m.f3 t (pubL s.own)
      ∧ (m.r4 s M).oE (M.drop 80) = 0 ∧ (m.r4 s M).oX (M.drop 80) = B ∧ (m.r4 s M).dec (M.drop 80) = (m.f3 t (pubL s.own)).enc B := by
  have hM2 : M = pubL t.once ++ ((m.f2 t (pubL s.own)).sX (pubL t.own) ++ (m.f3 t (pubL s.own)).sX B) := by rw [hM]; unfold fstX; rfl
  obtain ⟨e1, e2⟩ := take32 (X := pubL t.once) (Y := (m.f2 t (pubL s.own)).sX (pubL t.own) ++ (m.f3 t (pubL s.own)).sX B) (pubL_length _)
  rw [← hM2] at e1 e2
  have l48 : ((m.f2 t (pubL s.own)).sX (pubL t.own)).length = 48 := by rw [Mx.sX_len, pubL_length]
  have e3 : (M.drop 32).take 48 = (m.f2 t (pubL s.own)).sX (pubL t.own) := by rw [e2]; exact List.take_left' l48
  have e4 : M.drop 80 = (m.f3 t (pubL s.own)).sX B := by
    have : M.drop 80 = (M.drop 32).drop 48 := by rw [List.drop_drop]
    rw [this, e2]
    exact List.drop_left' l48
  have hr2 : m.r2 s M = m.f2 t (pubL s.own) := by
    unfold Mx.r2 Mx.f2 Mx.f1
    rw [e1, hk]
    exact Mx.share_sym _ hb he
  obtain ⟨b1, b2, b3⟩ := Mx.back (hm.f2 t (pubL s.own)) (B := pubL t.own) (by rw [pubL_length]; decide) (byts_pubL _)
  have hrk : rK m s M = pubL t.own := by unfold rK; rw [hr2, e3, b2]
  have hr4 : m.r4 s M = m.f3 t (pubL s.own) := by
    unfold Mx.r4 Mx.f3
    rw [hrk, hr2, e3, b3]
    exact Mx.share_sym _ hb ha
  obtain ⟨c1, c2, c3⟩ := Mx.back (hm.f3 t (pubL s.own)) hB bB
  refine ⟨e1, by rw [e1]; exact shN_ok hb he, hr2, by rw [hr2, e3, b1], hrk, by rw [hrk]; exact shN_ok hb ha, hr4, ?_, ?_, ?_⟩
  · rw [hr4, e4, c1]
  · rw [hr4, e4, c2]
  · rw [hr4, e4, c3]
theorem second_back {m : Mx} (hm : m.Ok) {t s : HT} (hk : t.kind = s.kind) (hp : t.psk = s.psk) (ha : Bytes32 t.own) (he : Bytes32 t.once) (hf : Bytes32 s.once) (hth : s.their = pubL t.once) {B M : List Int} (hB : B.length ≤ 4096) (bB : Byts B) (hM : M = sndX m s (pubL t.own) B) :
    M.take 32 = pubL s.once ∧ bothE s.once s.their s.once (pubL t.own) = 0 ∧ bothE t.once (M.take 32) t.own (M.take 32) = 0 ∧ m.s3 t (M.take 32) t.once (M.take 32) t.own (M.take 32) = m.s3 s (pubL s.once) s.once s.their s.once (pubL t.own)
      ∧ (m.s3 t (M.take 32) t.once (M.take 32) t.own (M.take 32)).oE (M.drop 32) = 0 ∧ (m.s3 t (M.take 32) t.once (M.take 32) t.own (M.take 32)).oX (M.drop 32) = B
      ∧ (m.s3 t (M.take 32) t.once (M.take 32) t.own (M.take 32)).dec (M.drop 32) = (m.s3 s (pubL s.once) s.once s.their s.once (pubL t.own)).enc B := by
  have hM2 : M = pubL s.once ++ (m.s3 s (pubL s.once) s.once s.their s.once (pubL t.own)).sX B := by rw [hM]; unfold sndX; rfl
  obtain ⟨e1, e2⟩ := take32 (X := pubL s.once) (Y := (m.s3 s (pubL s.once) s.once s.their s.once (pubL t.own)).sX B) (pubL_length _)
  rw [← hM2] at e1 e2
  have h3 : m.s3 t (M.take 32) t.once (M.take 32) t.own (M.take 32) = m.s3 s (pubL s.once) s.once s.their s.once (pubL t.own) := by
    unfold Mx.s3 Mx.s2
    rw [e1, hth, hk, hp, Mx.both_sym _ hf he ha]
  obtain ⟨b1, b2, b3⟩ := Mx.back (hm.s3 s (pubL s.once) s.once s.their s.once (pubL t.own)) hB bB
  refine ⟨e1, by rw [hth]; exact bothE_ok hf he hf ha, by rw [e1]; exact bothE_ok he hf ha hf, h3, ?_, ?_, ?_⟩
  · rw [h3, e2, b1]
  · rw [h3, e2, b2]
  · rw [h3, e2, b3]
theorem fstX_byts {m : Mx} {t : HT} {U B : List Int} (bB : Byts B) : Byts (fstX m t U B) := by
  unfold fstX Mx.sX
  exact (byts_pubL _).app2 ((sealV_byts _ _ _ (byts_pubL _)).app2 (sealV_byts _ _ _ bB))
theorem sndX_byts {m : Mx} {t : HT} {U B : List Int} (bB : Byts B) : Byts (sndX m t U B) := by
  unfold sndX Mx.sX
  exact (byts_pubL _).app2 (sealV_byts _ _ _ bB)
end Sp
end
end Go.Proofs.Ytdjecenggngdjaa
