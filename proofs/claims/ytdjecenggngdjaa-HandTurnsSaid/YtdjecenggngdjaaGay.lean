/-
  Joined texts: HnK, HnL, HnM, HnN, Hsk, HnO, Brg, PrA. No conditions.
-/
import Derived.Test.YtdjecenggngdjaaGae
import Derived.Test.YtdjecenggngdjaaGak
import Derived.Test.YtdjecenggngdjaaGar
import Derived.Test.YtdjecenggngdjaaGax
import Derived.Lib.ConvBytes
namespace Go.Proofs.Ytdjecenggngdjaa
set_option linter.unusedSimpArgs false
set_option linter.unusedVariables false
section
open Go Go.RowKit
namespace Sp
open F M
set_option maxRecDepth 20000 in
set_option maxHeartbeats 1000000 in
theorem hreadA_turn (q : Option Addr) (n c : Nat) (b : Nat) (m : Mx) (t : HT) (hm : m.Ok) (ht : t.Ok) (T : TypeId) (w : World) (hb : w.heap[b]? = some (.cells (gRow m t) T (0, 0))) (hk : t.kind ≠ 0) (hbg : t.bg = true) (h : ¬ ((t.bg == (t.done == 0)) = false ∧ decide (t.done < 2) = true)) : Calls Try.prog 13 #[.pointer (some ⟨b, 0, none⟩), .slice q n c] w (fun e w' => e = .returned (.tuple #[.slice none 0 0, .int .i64 100]) ∧ OwnM w [b] w' [(b, gRow m t, T)]) := by
  cases ho : (t.bg == (t.done == 0)) <;> cases hth : decide (t.done < 2)
  · refine mutE Try.func13 Try.ntmps13 Try.results13 hb ?_
    repeat (first | (refine rgn 0 ?_; refine sEv ?_; refine sEv ?_; refine nlx ?_) | (refine rgn 1 ?_; refine sEv ?_; refine SL.v (ValO.call ent_23 _ rfl _ (fun w1 hw1 => hnone_any b m t hm ht T w1 (hw1.block (List.mem_cons_self ..)) hk)) ?_; refine nlx ?_) | (refine rgn 3 ?_; refine sEv ?_; refine sEv ?_; refine nlx ?_) | (refine rgn 4 ?_; refine sEv ?_; refine SL.nc ?_; refine sEv ?_; refine SL.ldC tabOk ?_ (hv := (gr_bg hm ht).trans (by rw [hbg])); refine nlx ?_) | (refine rgn 5 ?_; refine sEv ?_; refine sEv ?_; refine nlx ?_) | (refine rgn 6 ?_; refine sEv ?_; refine SL.v (v := .tuple #[.bool false, .bool false]) (ValO.call ent_24 _ rfl _ (fun w1 hw1 => by have h := hturn_any b m t hm ht T w1 (hw1.block (List.mem_cons_self ..)); rw [ho, hth] at h; exact h)) ?_; (iterate 5 refine sEv ?_); refine nlx ?_) | (refine rgn 7 ?_; refine sEv ?_; refine sEv ?_; (first | (refine SL.gT ?_; refine sEv ?_) | refine SL.gF ?_); (first | (refine SL.gT ?_; refine sEv ?_) | refine SL.gF ?_); refine sEv ?_; refine sEv ?_; refine nlx ?_) | (refine rgn 8 ?_; refine sEv ?_; refine sEv ?_; refine nlx ?_) | (refine zsq ?_; intro _ _) | (with_reducible refine zkN ?_) | (refine useK (by assumption) ?_) | (with_reducible first | refine zsB ?_ | refine zkX ?_ | refine zkR ?_ | refine zbN ?_ | refine zbR ?_ | refine zbE ?_ | refine zbX ?_ | refine zsS ?_ | refine zsR ?_ | refine zsX ?_) | (refine cdT ?_) | (refine cdF ?_))
    exact doneK.mk rfl (ResO.tmp2 rfl rfl) ⟨rfl, by simp⟩
  · exact absurd ⟨ho, hth⟩ h
  · refine mutE Try.func13 Try.ntmps13 Try.results13 hb ?_
    repeat (first | (refine rgn 0 ?_; refine sEv ?_; refine sEv ?_; refine nlx ?_) | (refine rgn 1 ?_; refine sEv ?_; refine SL.v (ValO.call ent_23 _ rfl _ (fun w1 hw1 => hnone_any b m t hm ht T w1 (hw1.block (List.mem_cons_self ..)) hk)) ?_; refine nlx ?_) | (refine rgn 3 ?_; refine sEv ?_; refine sEv ?_; refine nlx ?_) | (refine rgn 4 ?_; refine sEv ?_; refine SL.nc ?_; refine sEv ?_; refine SL.ldC tabOk ?_ (hv := (gr_bg hm ht).trans (by rw [hbg])); refine nlx ?_) | (refine rgn 5 ?_; refine sEv ?_; refine sEv ?_; refine nlx ?_) | (refine rgn 6 ?_; refine sEv ?_; refine SL.v (v := .tuple #[.bool true, .bool false]) (ValO.call ent_24 _ rfl _ (fun w1 hw1 => by have h := hturn_any b m t hm ht T w1 (hw1.block (List.mem_cons_self ..)); rw [ho, hth] at h; exact h)) ?_; (iterate 5 refine sEv ?_); refine nlx ?_) | (refine rgn 7 ?_; refine sEv ?_; refine sEv ?_; (first | (refine SL.gT ?_; refine sEv ?_) | refine SL.gF ?_); (first | (refine SL.gT ?_; refine sEv ?_) | refine SL.gF ?_); refine sEv ?_; refine sEv ?_; refine nlx ?_) | (refine rgn 8 ?_; refine sEv ?_; refine sEv ?_; refine nlx ?_) | (refine zsq ?_; intro _ _) | (with_reducible refine zkN ?_) | (refine useK (by assumption) ?_) | (with_reducible first | refine zsB ?_ | refine zkX ?_ | refine zkR ?_ | refine zbN ?_ | refine zbR ?_ | refine zbE ?_ | refine zbX ?_ | refine zsS ?_ | refine zsR ?_ | refine zsX ?_) | (refine cdT ?_) | (refine cdF ?_))
    exact doneK.mk rfl (ResO.tmp2 rfl rfl) ⟨rfl, by simp⟩
  · refine mutE Try.func13 Try.ntmps13 Try.results13 hb ?_
    repeat (first | (refine rgn 0 ?_; refine sEv ?_; refine sEv ?_; refine nlx ?_) | (refine rgn 1 ?_; refine sEv ?_; refine SL.v (ValO.call ent_23 _ rfl _ (fun w1 hw1 => hnone_any b m t hm ht T w1 (hw1.block (List.mem_cons_self ..)) hk)) ?_; refine nlx ?_) | (refine rgn 3 ?_; refine sEv ?_; refine sEv ?_; refine nlx ?_) | (refine rgn 4 ?_; refine sEv ?_; refine SL.nc ?_; refine sEv ?_; refine SL.ldC tabOk ?_ (hv := (gr_bg hm ht).trans (by rw [hbg])); refine nlx ?_) | (refine rgn 5 ?_; refine sEv ?_; refine sEv ?_; refine nlx ?_) | (refine rgn 6 ?_; refine sEv ?_; refine SL.v (v := .tuple #[.bool true, .bool true]) (ValO.call ent_24 _ rfl _ (fun w1 hw1 => by have h := hturn_any b m t hm ht T w1 (hw1.block (List.mem_cons_self ..)); rw [ho, hth] at h; exact h)) ?_; (iterate 5 refine sEv ?_); refine nlx ?_) | (refine rgn 7 ?_; refine sEv ?_; refine sEv ?_; (first | (refine SL.gT ?_; refine sEv ?_) | refine SL.gF ?_); (first | (refine SL.gT ?_; refine sEv ?_) | refine SL.gF ?_); refine sEv ?_; refine sEv ?_; refine nlx ?_) | (refine rgn 8 ?_; refine sEv ?_; refine sEv ?_; refine nlx ?_) | (refine zsq ?_; intro _ _) | (with_reducible refine zkN ?_) | (refine useK (by assumption) ?_) | (with_reducible first | refine zsB ?_ | refine zkX ?_ | refine zkR ?_ | refine zbN ?_ | refine zbR ?_ | refine zbE ?_ | refine zbX ?_ | refine zsS ?_ | refine zsR ?_ | refine zsX ?_) | (refine cdT ?_) | (refine cdF ?_))
    exact doneK.mk rfl (ResO.tmp2 rfl rfl) ⟨rfl, by simp⟩
set_option maxRecDepth 20000 in
set_option maxHeartbeats 1000000 in
theorem hreadA_ok (q : Option Addr) (n c : Nat) (b : Nat) (m : Mx) (t : HT) (hm : m.Ok) (ht : t.Ok) (T : TypeId) (w : World) (hb : w.heap[b]? = some (.cells (gRow m t) T (0, 0))) (hk : t.kind ≠ 0) (ho : (t.bg == (t.done == 0)) = false) (hth : decide (t.done < 2) = true) (hbg : t.bg = true) (h0 : 48 ≤ n) (hn : n ≤ 4144) (m' : Mx) (t' : Nat → HT) (X : List Int) (ex : Nat → Mem) (hwork : ∀ xb w3, Cpy w b xb (gRow m t) w3 → Calls Try.prog 32 #[.pointer (some ⟨xb, 0, none⟩), .slice q n c] w3 (WPost w3 xb 58 (fun rb => gRow m' (t' rb)) X 0 ex)) (hm' : m'.Ok) (ht' : ∀ rb, (t' rb).Ok) (hd : ∀ rb, 0 ≤ (t' rb).done ∧ (t' rb).done ≤ 100) : Calls Try.prog 13 #[.pointer (some ⟨b, 0, none⟩), .slice q n c] w (WPost w b T (fun rb => gRow m' {t' rb with done := (t' rb).done + 1}) X 0 ex) := by
  refine (callE (mu := [b]) Try.func13 Try.ntmps13 Try.results13 (OwnM.start1 w hb) (fun v bs => ∃ rb q c abs, v = .tuple #[.slice q X.length c, .int .i64 0] ∧ AO q X.length c X abs ∧ ((b, gRow m' {t' rb with done := (t' rb).done + 1}, T) :: (ex rb ++ abs)).Sublist bs) ?_).mono ?_
  · repeat (first | (refine rgn 0 ?_; refine sEv ?_; refine sEv ?_; refine nlx ?_) | (refine rgn 1 ?_; refine sEv ?_; refine SL.v (ValO.call ent_23 _ rfl _ (fun w1 hw1 => hnone_any b m t hm ht T w1 (hw1.block (List.mem_cons_self ..)) hk)) ?_; refine nlx ?_) | (refine rgn 3 ?_; refine sEv ?_; refine sEv ?_; refine nlx ?_) | (refine rgn 4 ?_; refine sEv ?_; refine SL.nc ?_; refine sEv ?_; refine SL.ldC tabOk ?_ (hv := (gr_bg hm ht).trans (by rw [hbg])); refine nlx ?_) | (refine rgn 5 ?_; refine sEv ?_; refine sEv ?_; refine nlx ?_) | (refine rgn 6 ?_; refine sEv ?_; refine SL.v (v := .tuple #[.bool false, .bool true]) (ValO.call ent_24 _ rfl _ (fun w1 hw1 => by have h := hturn_any b m t hm ht T w1 (hw1.block (List.mem_cons_self ..)); rw [ho, hth] at h; exact h)) ?_; (iterate 5 refine sEv ?_); refine nlx ?_) | (refine rgn 7 ?_; refine sEv ?_; refine sEv ?_; (first | (refine SL.gT ?_; refine sEv ?_) | refine SL.gF ?_); (first | (refine SL.gT ?_; refine sEv ?_) | refine SL.gF ?_); refine sEv ?_; refine sEv ?_; refine nlx ?_) | (refine rgn 9 ?_; refine sEv ?_; refine SL.v (ValO.len tabOk (by rfl)) ?_; (iterate 3 refine sEv ?_); refine nlx ?_) | (refine rgn 11 ?_; refine sEv ?_; refine SL.v (ValO.len tabOk (by rfl)) ?_; refine sEv ?_; refine SL.v (v := .int .i64 4144) (ValO.ev tabOk (by rfl)) ?_; refine sEv ?_; refine sEv ?_; refine nlx ?_) | (refine rgn 13 ?_; (iterate 3 refine sEv ?_); refine SL.callG ent_27 rfl (R := fun v bs' => ∃ rb q' c' abs, v = .tuple #[.slice q' X.length c', .int .i64 0] ∧ AO q' X.length c' X abs ∧ bs' = [(b, gRow m' {t' rb with done := (t' rb).done + 1}, T)] ++ (ex rb ++ abs)) (fun w1 hw1 => (hdoes_ok ent_32 [] q n c X m' t' ex b m t hm ht T w1 (hw1.block (List.mem_cons_self ..)) (fun xb w2 hw2 => hwork xb w2 (Cpy.of (OwnM.call1A hw1 (i := 0) rfl (hw2.perm (List.Perm.swap _ _ _))) (i := 1) (j := 0) rfl rfl (by decide))) hm' ht' hd).mono (by rintro e w' ⟨rb, q', c', abs, rfl, ha, hw'⟩; exact ⟨_, _, rfl, ⟨rb, q', c', abs, rfl, ha, rfl⟩, OwnM.call1A hw1 (i := 0) rfl hw'⟩)) ?_; rintro v bs' ⟨rb, q', c', abs, rfl, ha, rfl⟩; dsimp only [putL, setNth, List.cons_append, List.nil_append]; (iterate 4 refine sEv ?_); refine nlx ?_) | (refine zsq ?_; intro _ _) | (with_reducible refine zkN ?_) | (refine useK (by assumption) ?_) | (with_reducible first | refine zsB ?_ | refine zkX ?_ | refine zkR ?_ | refine zbN ?_ | refine zbR ?_ | refine zbE ?_ | refine zbX ?_ | refine zsS ?_ | refine zsR ?_ | refine zsX ?_) | (refine cdT ?_) | (refine cdF ?_))
    exact doneK.mk rfl (ResO.tmp2 rfl rfl) ⟨rb, q', c', abs, rfl, ha, List.Sublist.refl _⟩
  · rintro e w' ⟨v, bs, rfl, ⟨rb, q', c', abs, rfl, ha, hs⟩, hw'⟩
    exact ⟨rb, _, _, _, rfl, ha, hw'.sub hs⟩
set_option maxRecDepth 20000 in
set_option maxHeartbeats 1000000 in
theorem hreadB_turn (q : Option Addr) (n c : Nat) (b : Nat) (m : Mx) (t : HT) (hm : m.Ok) (ht : t.Ok) (T : TypeId) (w : World) (hb : w.heap[b]? = some (.cells (gRow m t) T (0, 0))) (hk : t.kind ≠ 0) (hbg : t.bg = false) (h : ¬ ((t.bg == (t.done == 0)) = false ∧ decide (t.done < 2) = true)) : Calls Try.prog 13 #[.pointer (some ⟨b, 0, none⟩), .slice q n c] w (fun e w' => e = .returned (.tuple #[.slice none 0 0, .int .i64 100]) ∧ OwnM w [b] w' [(b, gRow m t, T)]) := by
  cases ho : (t.bg == (t.done == 0)) <;> cases hth : decide (t.done < 2)
  · refine mutE Try.func13 Try.ntmps13 Try.results13 hb ?_
    repeat (first | (refine rgn 0 ?_; refine sEv ?_; refine sEv ?_; refine nlx ?_) | (refine rgn 1 ?_; refine sEv ?_; refine SL.v (ValO.call ent_23 _ rfl _ (fun w1 hw1 => hnone_any b m t hm ht T w1 (hw1.block (List.mem_cons_self ..)) hk)) ?_; refine nlx ?_) | (refine rgn 3 ?_; refine sEv ?_; refine sEv ?_; refine nlx ?_) | (refine rgn 4 ?_; refine sEv ?_; refine SL.nc ?_; refine sEv ?_; refine SL.ldC tabOk ?_ (hv := (gr_bg hm ht).trans (by rw [hbg])); refine nlx ?_) | (refine rgn 6 ?_; refine sEv ?_; refine SL.v (v := .tuple #[.bool false, .bool false]) (ValO.call ent_24 _ rfl _ (fun w1 hw1 => by have h := hturn_any b m t hm ht T w1 (hw1.block (List.mem_cons_self ..)); rw [ho, hth] at h; exact h)) ?_; (iterate 5 refine sEv ?_); refine nlx ?_) | (refine rgn 7 ?_; refine sEv ?_; refine sEv ?_; (first | (refine SL.gT ?_; refine sEv ?_) | refine SL.gF ?_); (first | (refine SL.gT ?_; refine sEv ?_) | refine SL.gF ?_); refine sEv ?_; refine sEv ?_; refine nlx ?_) | (refine rgn 8 ?_; refine sEv ?_; refine sEv ?_; refine nlx ?_) | (refine zsq ?_; intro _ _) | (with_reducible refine zkN ?_) | (refine useK (by assumption) ?_) | (with_reducible first | refine zsB ?_ | refine zkX ?_ | refine zkR ?_ | refine zbN ?_ | refine zbR ?_ | refine zbE ?_ | refine zbX ?_ | refine zsS ?_ | refine zsR ?_ | refine zsX ?_) | (refine cdT ?_) | (refine cdF ?_))
    exact doneK.mk rfl (ResO.tmp2 rfl rfl) ⟨rfl, by simp⟩
  · exact absurd ⟨ho, hth⟩ h
  · refine mutE Try.func13 Try.ntmps13 Try.results13 hb ?_
    repeat (first | (refine rgn 0 ?_; refine sEv ?_; refine sEv ?_; refine nlx ?_) | (refine rgn 1 ?_; refine sEv ?_; refine SL.v (ValO.call ent_23 _ rfl _ (fun w1 hw1 => hnone_any b m t hm ht T w1 (hw1.block (List.mem_cons_self ..)) hk)) ?_; refine nlx ?_) | (refine rgn 3 ?_; refine sEv ?_; refine sEv ?_; refine nlx ?_) | (refine rgn 4 ?_; refine sEv ?_; refine SL.nc ?_; refine sEv ?_; refine SL.ldC tabOk ?_ (hv := (gr_bg hm ht).trans (by rw [hbg])); refine nlx ?_) | (refine rgn 6 ?_; refine sEv ?_; refine SL.v (v := .tuple #[.bool true, .bool false]) (ValO.call ent_24 _ rfl _ (fun w1 hw1 => by have h := hturn_any b m t hm ht T w1 (hw1.block (List.mem_cons_self ..)); rw [ho, hth] at h; exact h)) ?_; (iterate 5 refine sEv ?_); refine nlx ?_) | (refine rgn 7 ?_; refine sEv ?_; refine sEv ?_; (first | (refine SL.gT ?_; refine sEv ?_) | refine SL.gF ?_); (first | (refine SL.gT ?_; refine sEv ?_) | refine SL.gF ?_); refine sEv ?_; refine sEv ?_; refine nlx ?_) | (refine rgn 8 ?_; refine sEv ?_; refine sEv ?_; refine nlx ?_) | (refine zsq ?_; intro _ _) | (with_reducible refine zkN ?_) | (refine useK (by assumption) ?_) | (with_reducible first | refine zsB ?_ | refine zkX ?_ | refine zkR ?_ | refine zbN ?_ | refine zbR ?_ | refine zbE ?_ | refine zbX ?_ | refine zsS ?_ | refine zsR ?_ | refine zsX ?_) | (refine cdT ?_) | (refine cdF ?_))
    exact doneK.mk rfl (ResO.tmp2 rfl rfl) ⟨rfl, by simp⟩
  · refine mutE Try.func13 Try.ntmps13 Try.results13 hb ?_
    repeat (first | (refine rgn 0 ?_; refine sEv ?_; refine sEv ?_; refine nlx ?_) | (refine rgn 1 ?_; refine sEv ?_; refine SL.v (ValO.call ent_23 _ rfl _ (fun w1 hw1 => hnone_any b m t hm ht T w1 (hw1.block (List.mem_cons_self ..)) hk)) ?_; refine nlx ?_) | (refine rgn 3 ?_; refine sEv ?_; refine sEv ?_; refine nlx ?_) | (refine rgn 4 ?_; refine sEv ?_; refine SL.nc ?_; refine sEv ?_; refine SL.ldC tabOk ?_ (hv := (gr_bg hm ht).trans (by rw [hbg])); refine nlx ?_) | (refine rgn 6 ?_; refine sEv ?_; refine SL.v (v := .tuple #[.bool true, .bool true]) (ValO.call ent_24 _ rfl _ (fun w1 hw1 => by have h := hturn_any b m t hm ht T w1 (hw1.block (List.mem_cons_self ..)); rw [ho, hth] at h; exact h)) ?_; (iterate 5 refine sEv ?_); refine nlx ?_) | (refine rgn 7 ?_; refine sEv ?_; refine sEv ?_; (first | (refine SL.gT ?_; refine sEv ?_) | refine SL.gF ?_); (first | (refine SL.gT ?_; refine sEv ?_) | refine SL.gF ?_); refine sEv ?_; refine sEv ?_; refine nlx ?_) | (refine rgn 8 ?_; refine sEv ?_; refine sEv ?_; refine nlx ?_) | (refine zsq ?_; intro _ _) | (with_reducible refine zkN ?_) | (refine useK (by assumption) ?_) | (with_reducible first | refine zsB ?_ | refine zkX ?_ | refine zkR ?_ | refine zbN ?_ | refine zbR ?_ | refine zbE ?_ | refine zbX ?_ | refine zsS ?_ | refine zsR ?_ | refine zsX ?_) | (refine cdT ?_) | (refine cdF ?_))
    exact doneK.mk rfl (ResO.tmp2 rfl rfl) ⟨rfl, by simp⟩
set_option maxRecDepth 20000 in
set_option maxHeartbeats 1000000 in
theorem hreadB_ok (q : Option Addr) (n c : Nat) (b : Nat) (m : Mx) (t : HT) (hm : m.Ok) (ht : t.Ok) (T : TypeId) (w : World) (hb : w.heap[b]? = some (.cells (gRow m t) T (0, 0))) (hk : t.kind ≠ 0) (ho : (t.bg == (t.done == 0)) = false) (hth : decide (t.done < 2) = true) (hbg : t.bg = false) (h0 : 96 ≤ n) (hn : n ≤ 4192) (m' : Mx) (t' : Nat → HT) (X : List Int) (ex : Nat → Mem) (hwork : ∀ xb w3, Cpy w b xb (gRow m t) w3 → Calls Try.prog 31 #[.pointer (some ⟨xb, 0, none⟩), .slice q n c] w3 (WPost w3 xb 58 (fun rb => gRow m' (t' rb)) X 0 ex)) (hm' : m'.Ok) (ht' : ∀ rb, (t' rb).Ok) (hd : ∀ rb, 0 ≤ (t' rb).done ∧ (t' rb).done ≤ 100) : Calls Try.prog 13 #[.pointer (some ⟨b, 0, none⟩), .slice q n c] w (WPost w b T (fun rb => gRow m' {t' rb with done := (t' rb).done + 1}) X 0 ex) := by
  refine (callE (mu := [b]) Try.func13 Try.ntmps13 Try.results13 (OwnM.start1 w hb) (fun v bs => ∃ rb q c abs, v = .tuple #[.slice q X.length c, .int .i64 0] ∧ AO q X.length c X abs ∧ ((b, gRow m' {t' rb with done := (t' rb).done + 1}, T) :: (ex rb ++ abs)).Sublist bs) ?_).mono ?_
  · repeat (first | (refine rgn 0 ?_; refine sEv ?_; refine sEv ?_; refine nlx ?_) | (refine rgn 1 ?_; refine sEv ?_; refine SL.v (ValO.call ent_23 _ rfl _ (fun w1 hw1 => hnone_any b m t hm ht T w1 (hw1.block (List.mem_cons_self ..)) hk)) ?_; refine nlx ?_) | (refine rgn 3 ?_; refine sEv ?_; refine sEv ?_; refine nlx ?_) | (refine rgn 4 ?_; refine sEv ?_; refine SL.nc ?_; refine sEv ?_; refine SL.ldC tabOk ?_ (hv := (gr_bg hm ht).trans (by rw [hbg])); refine nlx ?_) | (refine rgn 6 ?_; refine sEv ?_; refine SL.v (v := .tuple #[.bool false, .bool true]) (ValO.call ent_24 _ rfl _ (fun w1 hw1 => by have h := hturn_any b m t hm ht T w1 (hw1.block (List.mem_cons_self ..)); rw [ho, hth] at h; exact h)) ?_; (iterate 5 refine sEv ?_); refine nlx ?_) | (refine rgn 7 ?_; refine sEv ?_; refine sEv ?_; (first | (refine SL.gT ?_; refine sEv ?_) | refine SL.gF ?_); (first | (refine SL.gT ?_; refine sEv ?_) | refine SL.gF ?_); refine sEv ?_; refine sEv ?_; refine nlx ?_) | (refine rgn 9 ?_; refine sEv ?_; refine SL.v (ValO.len tabOk (by rfl)) ?_; (iterate 3 refine sEv ?_); refine nlx ?_) | (refine rgn 11 ?_; refine sEv ?_; refine SL.v (ValO.len tabOk (by rfl)) ?_; refine sEv ?_; refine SL.v (v := .int .i64 4192) (ValO.ev tabOk (by rfl)) ?_; refine sEv ?_; refine sEv ?_; refine nlx ?_) | (refine rgn 13 ?_; (iterate 3 refine sEv ?_); refine SL.callG ent_27 rfl (R := fun v bs' => ∃ rb q' c' abs, v = .tuple #[.slice q' X.length c', .int .i64 0] ∧ AO q' X.length c' X abs ∧ bs' = [(b, gRow m' {t' rb with done := (t' rb).done + 1}, T)] ++ (ex rb ++ abs)) (fun w1 hw1 => (hdoes_ok ent_31 [] q n c X m' t' ex b m t hm ht T w1 (hw1.block (List.mem_cons_self ..)) (fun xb w2 hw2 => hwork xb w2 (Cpy.of (OwnM.call1A hw1 (i := 0) rfl (hw2.perm (List.Perm.swap _ _ _))) (i := 1) (j := 0) rfl rfl (by decide))) hm' ht' hd).mono (by rintro e w' ⟨rb, q', c', abs, rfl, ha, hw'⟩; exact ⟨_, _, rfl, ⟨rb, q', c', abs, rfl, ha, rfl⟩, OwnM.call1A hw1 (i := 0) rfl hw'⟩)) ?_; rintro v bs' ⟨rb, q', c', abs, rfl, ha, rfl⟩; dsimp only [putL, setNth, List.cons_append, List.nil_append]; (iterate 4 refine sEv ?_); refine nlx ?_) | (refine zsq ?_; intro _ _) | (with_reducible refine zkN ?_) | (refine useK (by assumption) ?_) | (with_reducible first | refine zsB ?_ | refine zkX ?_ | refine zkR ?_ | refine zbN ?_ | refine zbR ?_ | refine zbE ?_ | refine zbX ?_ | refine zsS ?_ | refine zsR ?_ | refine zsX ?_) | (refine cdT ?_) | (refine cdF ?_))
    exact doneK.mk rfl (ResO.tmp2 rfl rfl) ⟨rb, q', c', abs, rfl, ha, List.Sublist.refl _⟩
  · rintro e w' ⟨v, bs, rfl, ⟨rb, q', c', abs, rfl, ha, hs⟩, hw'⟩
    exact ⟨rb, _, _, _, rfl, ha, hw'.sub hs⟩
end Sp
end
section
open Go Go.RowKit
namespace Sp
open F M
theorem ResO.tmp3 {P : Program} {w0 : World} {mu : List Nat} {bs : Mem} {l : List Value} {t u x : Nat} {a b c : Value} (ha : nth l t = a) (hb : nth l u = b) (hc : nth l x = c) : ResO P w0 mu bs #[.tmp t, .tmp u, .tmp x] l (.tuple #[a, b, c]) := by
  subst ha hb hc
  intro W fn hres hw
  have h1 := nth_eq l t
  have h2 := nth_eq l u
  have h3 := nth_eq l x
  simp [results, hres, h1, h2, h3]
set_option maxRecDepth 20000 in
set_option maxHeartbeats 1000000 in
theorem hdigest_any (b : Nat) (m : Mx) (t : HT) (hm : m.Ok) (ht : t.Ok) (T : TypeId) (w : World) (hb : w.heap[b]? = some (.cells (gRow m t) T (0, 0))) (hk : t.kind ≠ 0) : Calls Try.prog 11 #[.pointer (some ⟨b, 0, none⟩)] w (fun e w' => e = .returned (.agg (ints .u8 m.D)) ∧ Below w.heap.size w w') := by
  refine pureE Try.func11 Try.ntmps11 Try.results11 ?_
  repeat (first | (refine rgn 0 ?_; refine SL.al zero_22 ?_; intro xb; refine nlx ?_) | (refine rgn 1 ?_; refine sEv ?_; refine SL.v (ValO.call ent_23 _ rfl _ (fun w1 hw1 => hnone_any b m t hm ht T w1 (by rw [hw1.below.block _ (Array.getElem?_eq_some_iff.1 hb).1]; exact hb) hk)) ?_; refine nlx ?_) | (refine rgn 3 ?_; refine sEv ?_; refine SL.nc ?_; refine sEv ?_; refine sEv ?_; refine SL.ldP tabOk ?_ (hn := by rw [gr_size hm ht]; decide) (hB := gr_d hm ht); refine SL.stR tabOk ?_ (k := .u8) (L := m.D) (hn := by rw [ints_size, hm.d]); refine nlx ?_) | (refine zsq ?_; intro _ _) | (with_reducible refine zkN ?_) | (refine useK (by assumption) ?_) | (with_reducible first | refine zsB ?_ | refine zkX ?_ | refine zkR ?_ | refine zbN ?_ | refine zbR ?_ | refine zbE ?_ | refine zbX ?_ | refine zsS ?_ | refine zsR ?_ | refine zsX ?_) | (refine cdT ?_) | (refine cdF ?_))
  exact doneK.mk rfl (ResO.cell tabOk rfl rfl rfl (RdA.own g0) (by rw [ints_size, hm.d])) rfl
set_option maxRecDepth 20000 in
set_option maxHeartbeats 1000000 in
theorem hsplit_turn (b : Nat) (m : Mx) (t : HT) (hm : m.Ok) (ht : t.Ok) (T : TypeId) (w : World) (hb : w.heap[b]? = some (.cells (gRow m t) T (0, 0))) (hk : t.kind ≠ 0) (hd : t.done < 2) : Calls Try.prog 12 #[.pointer (some ⟨b, 0, none⟩)] w (fun e w' => e = .returned (.tuple #[.pointer none, .pointer none, .int .i64 100]) ∧ Below w.heap.size w w') := by
  refine pureE Try.func12 Try.ntmps12 Try.results12 ?_
  repeat (first | (refine rgn 0 ?_; (iterate 3 refine sEv ?_); refine nlx ?_) | (refine rgn 1 ?_; refine sEv ?_; refine SL.v (ValO.call ent_23 _ rfl _ (fun w1 hw1 => hnone_any b m t hm ht T w1 (by rw [hw1.below.block _ (Array.getElem?_eq_some_iff.1 hb).1]; exact hb) hk)) ?_; refine sEv ?_; refine nlx ?_) | (refine rgn 3 ?_; refine sEv ?_; refine SL.nc ?_; refine sEv ?_; refine SL.ldC tabOk ?_ (hv := gr_done hm ht); refine sEv ?_; refine sEv ?_; refine nlx ?_) | (refine rgn 4 ?_; (iterate 3 refine sEv ?_); refine nlx ?_) | (refine zsq ?_; intro _ _) | (with_reducible refine zkN ?_) | (refine useK (by assumption) ?_) | (with_reducible first | refine zsB ?_ | refine zkX ?_ | refine zkR ?_ | refine zbN ?_ | refine zbR ?_ | refine zbE ?_ | refine zbX ?_ | refine zsS ?_ | refine zsR ?_ | refine zsX ?_) | (refine cdT ?_) | (refine cdF ?_))
  exact doneK.mk rfl (ResO.tmp3 rfl rfl rfl) rfl
end Sp
end
section
open Go Go.RowKit
namespace Sp
open F M
def nmS (k : Int) : ByteArray := if k = 1 then ⟨#[78, 111, 105, 115, 101, 95, 73, 75, 95, 50, 53, 53, 49, 57, 95, 67, 104, 97, 67, 104, 97, 80, 111, 108, 121, 95, 66, 76, 65, 75, 69, 50, 115]⟩ else ⟨#[78, 111, 105, 115, 101, 95, 73, 75, 112, 115, 107, 50, 95, 50, 53, 53, 49, 57, 95, 67, 104, 97, 67, 104, 97, 80, 111, 108, 121, 95, 66, 76, 65, 75, 69, 50, 115]⟩
def strB (s : ByteArray) : List Int := s.data.toList.map (fun b => (b.toNat : Int))
theorem strB_length (s : ByteArray) : (strB s).length = s.size := by unfold strB; rw [List.length_map, Array.length_toList]; rfl
section
variable {P : Program} {tab : Tab} {w0 : World} {mu : List Nat} {bs : Mem} {l : List Value} {ops : Array Oper} {rest : List Oper} {Q : ExitP} {dst2 : Option Tmp} {ty ty2 : TypeId} {pos pos2 : String} {af af2 : Array Edge}
theorem bytesCells_ints (w : World) (e : TypeId) (s : ByteArray) : Go.Lib.bytesCells w e s = ints .u8 (strB s ++ List.replicate (grownCap w s.size 0 e - s.size) 0) := by
  unfold Go.Lib.bytesCells strB ints
  apply Array.ext'
  simp [Array.toList_append, Array.toList_map, List.map_map, Function.comp_def]
theorem below_bytes (w : World) (e : TypeId) (s : ByteArray) : Below w.heap.size w (Go.Lib.bytesWorld w e s) :=
  ⟨rfl, rfl, rfl, by rw [Go.Lib.bytesWorld_size]; omega, fun k hk => Go.Lib.bytesWorld_at_old w e s k hk⟩
theorem SL.cvCall (ht : TabOk P tab) {s t e by_ sz sz' d1 : Nat} {x : Operand} {str : ByteArray} {f : FuncId} {ats : Array TypeId} {v : Value} (hent : ∀ (A : Array Value) (w : World), (callFunc f A).run P w = .ok (.enter f A) w) (h0 : 0 < str.size)
    (hc : ∀ w b c, Sl w (some ⟨b, 0, none⟩) str.size c (strB str) → Calls P f #[.slice (some ⟨b, 0, none⟩) str.size c] w fun e w' => e = .returned v ∧ Below w.heap.size w w') {l' : Nat → Nat → List Value} (h : ∀ b c, SL P ops w0 mu rest Q (l' b c) bs)
    (hx : evL l x = .string str := by rfl) (hls : look tab s = some (.str, sz') := by rfl) (hl : look tab t = some (.sl e 1 by_, sz) := by rfl) (hle : look tab e = some (.int .u8, 1) := by rfl)
    (hxx : ∀ b c, evL (putL l (some d1) (.slice (some ⟨b, 0, none⟩) str.size c)) (.tmp d1) = .slice (some ⟨b, 0, none⟩) str.size c := by intro _ _; rfl)
    (hp : ∀ b c, putL (putL l (some d1) (.slice (some ⟨b, 0, none⟩) str.size c)) dst2 v = l' b c := by intro _ _; first | (dsimp only [putL, setNth]; done) | (dsimp only [putL, setNth]; rfl)) :
    SL P ops w0 mu (⟨some d1, .convert s t x, ty, pos, af, none⟩ :: ⟨dst2, .call { callee := .value (.func f), args := #[.tmp d1], argTypes := ats }, ty2, pos2, af2, none⟩ :: rest) Q l bs := by
  obtain ⟨hu, _, _⟩ := td_sl (look_ok ht hl)
  have hue := td_int (look_ok ht hle)
  have hus := td_str (look_ok ht hls)
  refine ⟨fun W Q' hw hA => ?_⟩
  refine wpList_plain rfl fun K hK => ?_
  have hcv := Go.Lib.run_convert_string_bytes (P := P) W s t e str hus hu hue
  unfold Oper.wp execOp
  simp only [evL_eq, hx, Sem.run_bind, hcv, Result.andThen_ok, Sem.run_pure]
  refine hK _ _ ?_
  rw [putL_eq]
  refine wpList_plain rfl fun K hK => ?_
  unfold Oper.wp
  rw [run_call_fn (A := #[.slice (some ⟨W.heap.size, 0, none⟩) str.size (grownCap W str.size 0 e)]) (by simp only [List.map_toArray, List.map_cons, List.map_nil, evL_eq, hxx]), hent]
  simp only [Oper.upon]
  have hS : Sl (Go.Lib.bytesWorld W e str) (some ⟨W.heap.size, 0, none⟩) str.size (grownCap W str.size 0 e) (strB str) := by
    have hh := Go.Lib.bytesWorld_at_new W e str
    rw [bytesCells_ints] at hh
    exact ⟨strB_length _, grownCap_ge _ _ _ _, fun _ => ⟨_, _, _, _, _, rfl, hh, Lies.row _ _⟩⟩
  refine (hc _ _ _ hS).mono ?_
  rintro e' w' ⟨rfl, hb⟩
  have hb1 := below_bytes W e str
  exact hK _ _ (by rw [putL_eq, hp]; exact (h _ _).run _ _ ((hw.grow hb1).grow hb) hA)
end
set_option maxRecDepth 20000 in
set_option maxHeartbeats 1000000 in
theorem hname_ok (k : Int) (hk : k = 1 ∨ k = 2) (w : World) : Calls Try.prog 20 #[.int .i64 k] w (fun e w' => e = .returned (.tuple #[.string (nmS k), .bool true]) ∧ Below w.heap.size w w') := by
  rcases hk with rfl | rfl
  · refine pureE Try.func20 Try.ntmps20 Try.results20 ?_
    repeat (first | (refine rgn 0 ?_; refine sEv ?_; refine sEv ?_; refine nlx ?_) | (refine rgn 1 ?_; refine sEv ?_; refine nlx ?_) | (refine rgn 2 ?_; refine sEv ?_; refine sEv ?_; refine nlx ?_) | (refine rgn 3 ?_; refine sEv ?_; refine sEv ?_; refine nlx ?_) | (refine zsq ?_; intro _ _) | (with_reducible refine zkN ?_) | (refine useK (by assumption) ?_) | (with_reducible first | refine zsB ?_ | refine zkX ?_ | refine zkR ?_ | refine zbN ?_ | refine zbR ?_ | refine zbE ?_ | refine zbX ?_ | refine zsS ?_ | refine zsR ?_ | refine zsX ?_) | (refine cdT ?_) | (refine cdF ?_))
    exact doneK.mk rfl (ResO.tmp2 rfl rfl) rfl
  · refine pureE Try.func20 Try.ntmps20 Try.results20 ?_
    repeat (first | (refine rgn 0 ?_; refine sEv ?_; refine sEv ?_; refine nlx ?_) | (refine rgn 1 ?_; refine sEv ?_; refine nlx ?_) | (refine rgn 2 ?_; refine sEv ?_; refine sEv ?_; refine nlx ?_) | (refine rgn 4 ?_; refine sEv ?_; refine sEv ?_; refine nlx ?_) | (refine rgn 5 ?_; refine sEv ?_; refine sEv ?_; refine nlx ?_) | (refine zsq ?_; intro _ _) | (with_reducible refine zkN ?_) | (refine useK (by assumption) ?_) | (with_reducible first | refine zsB ?_ | refine zkX ?_ | refine zkR ?_ | refine zbN ?_ | refine zbR ?_ | refine zbE ?_ | refine zbX ?_ | refine zsS ?_ | refine zsR ?_ | refine zsX ?_) | (refine cdT ?_) | (refine cdF ?_))
    exact doneK.mk rfl (ResO.tmp2 rfl rfl) rfl
end Sp
end
section
open Go Go.RowKit
namespace Sp
open F M
structure SU where
  kind : Int
  bg : Bool
  own : List Int
  oth : List Int
  pv : Value
  psk : List Int
structure SU.Ok (u : SU) : Prop where
  own : u.own.length = 32
  oth : u.oth.length = 32
  psk : u.psk.length = 32
@[irreducible] def suRow (u : SU) : Array Value := cat [#[.int .i64 u.kind], #[.bool u.bg], ints .u8 u.own, ints .u8 u.oth, #[u.pv], ints .u8 u.psk]
section
variable {u : SU}
theorem su_size (hu : u.Ok) : (suRow u).size = 99 := by unfold suRow; simp [cat, ints_size, hu.own, hu.oth, hu.psk]
theorem su_kind (hu : u.Ok) : (suRow u)[0]? = some (.int .i64 u.kind) := by unfold suRow; exact cat_at (L := []) rfl
theorem su_bg (hu : u.Ok) : (suRow u)[1]? = some (.bool u.bg) := by unfold suRow; exact cat_at (L := [#[.int .i64 u.kind]]) (by simp [cat, ints_size, hu.own, hu.oth, hu.psk])
theorem su_own (hu : u.Ok) : (suRow u).extract 2 (2 + 32) = ints .u8 u.own := by unfold suRow; exact cat_ex (L := [#[.int .i64 u.kind], #[.bool u.bg]]) (by simp [cat, ints_size, hu.own, hu.oth, hu.psk]) (by simp [cat, ints_size, hu.own, hu.oth, hu.psk])
theorem su_oth (hu : u.Ok) : (suRow u).extract 34 (34 + 32) = ints .u8 u.oth := by unfold suRow; exact cat_ex (L := [#[.int .i64 u.kind], #[.bool u.bg], ints .u8 u.own]) (by simp [cat, ints_size, hu.own, hu.oth, hu.psk]) (by simp [cat, ints_size, hu.own, hu.oth, hu.psk])
theorem su_pv (hu : u.Ok) : (suRow u)[66]? = some (u.pv) := by unfold suRow; exact cat_at (L := [#[.int .i64 u.kind], #[.bool u.bg], ints .u8 u.own, ints .u8 u.oth]) (by simp [cat, ints_size, hu.own, hu.oth, hu.psk])
theorem su_psk (hu : u.Ok) : (suRow u).extract 67 (67 + 32) = ints .u8 u.psk := by unfold suRow; exact cat_ex (L := [#[.int .i64 u.kind], #[.bool u.bg], ints .u8 u.own, ints .u8 u.oth, #[u.pv]]) (by simp [cat, ints_size, hu.own, hu.oth, hu.psk]) (by simp [cat, ints_size, hu.own, hu.oth, hu.psk])
end
def HT.new (k : Int) (b : Bool) (o s : List Int) : HT := { t00 with kind := k, bg := b, own := o, psk := s }
set_option maxRecDepth 100000 in
theorem hn_built (k : Int) (bg : Bool) {o s : List Int} (ho : o.length = 32) (hs : s.length = 32) : Try.prog.built 58 [(1, .int .i64 k), (2, .bool bg), (3, .agg (ints .u8 o)), (4, .agg (ints .u8 s))] = some (gRow m00 (HT.new k bg o s)) := by
  obtain ⟨a0, a1, a2, a3, a4, a5, a6, a7, a8, a9, a10, a11, a12, a13, a14, a15, a16, a17, a18, a19, a20, a21, a22, a23, a24, a25, a26, a27, a28, a29, a30, a31, rfl⟩ := list32 ho
  obtain ⟨b0, b1, b2, b3, b4, b5, b6, b7, b8, b9, b10, b11, b12, b13, b14, b15, b16, b17, b18, b19, b20, b21, b22, b23, b24, b25, b26, b27, b28, b29, b30, b31, rfl⟩ := list32 hs
  unfold gRow
  kernel_rfl
theorem new_ok (k : Int) (bg : Bool) {o s : List Int} (ho : o.length = 32) (hs : s.length = 32) : (HT.new k bg o s).Ok := ⟨ho, hs, rfl, rfl, rfl⟩
def Mx.nw0 (k : Int) : Mx := { m00 with D := bDg (strB (nmS k)), C := bDg (strB (nmS k)) }
@[irreducible] def Mx.nw (k : Int) (P U : List Int) : Mx := ((Mx.nw0 k).mix P).mix U
theorem Mx.nw0_ok (k : Int) : (Mx.nw0 k).Ok := ⟨bDg_length _, bDg_length _, rfl, byts_bDg _⟩
theorem Mx.nw_ok (k : Int) (P U : List Int) : (Mx.nw k P U).Ok := by unfold Mx.nw; exact ((Mx.nw0_ok k).mix P).mix U
theorem nmS_pos {k : Int} (h : k = 1 ∨ k = 2) : 0 < (nmS k).size := by rcases h with rfl | rfl <;> decide
theorem nmS_le {k : Int} (h : k = 1 ∨ k = 2) : (nmS k).size ≤ 140737488355328 := by rcases h with rfl | rfl <;> decide
set_option maxRecDepth 20000 in
set_option maxHeartbeats 1000000 in
theorem hnewA_ok (u : SU) (hu : u.Ok) (bo : Bytes32 u.own) (q : Option Addr) (n c : Nat) (P : List Int) (hpv : u.pv = .slice q n c) (w : World) (hS : Sl w q n c P) (hn : n ≤ 140737488351232) (hk : u.kind = 1 ∨ u.kind = 2) (hbg : u.bg = true) : Calls Try.prog 9 #[.agg (suRow u)] w (fun e w' => ∃ hb rb, e = .returned (.tuple #[.pointer (some ⟨hb, 0, none⟩), .int .i64 0]) ∧ OwnM w [] w' [(hb, gRow (Mx.nw u.kind P u.oth) {(HT.new u.kind u.bg u.own u.psk) with rp := .pointer (some ⟨rb, 0, none⟩)}, 58), (rb, ints .u8 u.oth, 23)]) := by
  have hm1 : (({m00 with D := (bDg (strB (nmS u.kind)))} : Mx)).Ok := ⟨bDg_length _, rfl, rfl, byts_bDg _⟩
  have hm2 := (Mx.nw0_ok u.kind).mix P
  have e9 : Mx.nw u.kind P u.oth = ((Mx.nw0 u.kind).mix P).mix u.oth := by unfold Mx.nw; rfl
  refine (callE (mu := []) Try.func9 Try.ntmps9 Try.results9 (OwnM.start w) (fun v bs => ∃ hb rb bs2, v = .tuple #[.pointer (some ⟨hb, 0, none⟩), .int .i64 0] ∧ bs.Perm bs2 ∧ [(hb, gRow (Mx.nw u.kind P u.oth) {(HT.new u.kind u.bg u.own u.psk) with rp := .pointer (some ⟨rb, 0, none⟩)}, 58), (rb, ints .u8 u.oth, 23)].Sublist bs2) ?_).mono ?_
  · rw [e9]
    repeat (first | (refine rgn 0 ?_; refine SL.bx ?_; intro sb; refine sEv ?_; refine sEv ?_; refine nlx ?_) | (refine rgn 1 ?_; refine sEv ?_; refine SL.ldC tabOk ?_ (hv := su_kind hu); refine SL.v (ValO.call ent_20 _ rfl _ (fun w1 hw1 => hname_ok u.kind hk w1)) ?_; (iterate 5 refine sEv ?_); refine nlx ?_) | (refine rgn 2 ?_; refine sEv ?_; refine sEv ?_; refine nlx ?_) | (refine rgn 4 ?_; refine sEv ?_; refine SL.ldC tabOk ?_ (hv := su_kind hu); refine sEv ?_; refine SL.ldC tabOk ?_ (hv := su_bg hu); refine sEv ?_; refine SL.ldP tabOk ?_ (hn := by rw [su_size hu]; decide) (hB := su_own hu); refine sEv ?_; refine SL.ldP tabOk ?_ (hn := by rw [su_size hu]; decide) (hB := su_psk hu); refine SL.v (ValO.build (by first | (dsimp only [List.map, evL, nth]; done) | (dsimp only [List.map, evL, nth]; rfl)) (hn_built u.kind u.bg hu.own hu.psk)) ?_; refine SL.bx ?_; intro hb; refine sEv ?_; refine nlx ?_) | (refine rgn 5 ?_; refine sEv ?_; refine sEv ?_; refine SL.cvCall tabOk ent_21 (v := .agg (ints .u8 (bDg (strB (nmS u.kind))))) (nmS_pos hk) (fun w1 b1 c1 hS1 => bdg_any _ _ _ _ w1 hS1 (nmS_le hk)) (fun nb nc => ?_); skip; refine SL.nc ?_; refine sEv ?_; refine sEv ?_; refine SL.stQ tabOk ?_ (B := ints .u8 (bDg (strB (nmS u.kind)))) (hn := by simp only [Value.cells]; rw [ints_size, bDg_length]) (hsz := by rw [gr_size m00_ok (new_ok u.kind u.bg hu.own hu.psk)]; decide) (hA := gr_pd m00_ok (new_ok u.kind u.bg hu.own hu.psk) (bDg_length _)); refine nlx ?_) | (refine rgn 6 ?_; refine sEv ?_; refine sEv ?_; refine SL.nc ?_; refine sEv ?_; refine sEv ?_; refine SL.ldP tabOk ?_ (hn := by rw [gr_size hm1 (new_ok u.kind u.bg hu.own hu.psk)]; decide) (hB := gr_d hm1 (new_ok u.kind u.bg hu.own hu.psk)); refine SL.nc ?_; refine sEv ?_; refine sEv ?_; refine SL.stQ tabOk ?_ (B := ints .u8 (bDg (strB (nmS u.kind)))) (hn := by simp only [Value.cells]; rw [ints_size, bDg_length]) (hsz := by rw [gr_size hm1 (new_ok u.kind u.bg hu.own hu.psk)]; decide) (hA := gr_pc hm1 (new_ok u.kind u.bg hu.own hu.psk) (bDg_length _)); refine nlx ?_) | (refine rgn 8 ?_; refine sEv ?_; refine SL.ldP tabOk ?_ (hn := by rw [su_size hu]; decide) (hB := su_oth hu); refine SL.al zero_23 ?_; intro rb; refine SL.stR tabOk ?_ (hn := by rw [ints_size, hu.oth]); refine nlx ?_) | (refine rgn 9 ?_; refine sEv ?_; refine SL.ldC tabOk ?_ (hv := (su_bg hu).trans (by rw [hbg])); refine nlx ?_) | (refine rgn 10 ?_; refine sEv ?_; refine SL.nc ?_; refine sEv ?_; refine SL.stP tabOk ?_ (hsz := by rw [gr_size hm2 (new_ok u.kind u.bg hu.own hu.psk)]; decide) (hA := gr_prp hm2 (new_ok u.kind u.bg hu.own hu.psk) _); refine nlx ?_) | (refine rgn 13 ?_; (iterate 3 refine sEv ?_); refine nlx ?_) | ((with_reducible show SP _ _ _ (Code.region _ _ true) _ _ _); first | (refine SPa (id := 7) [5] [] ([]) [0, 1, 2, 3, 4, 5] follows ?_; refine fPv ?_; refine SF.nc ?_; refine SF.e tabOk ?_; refine SF.e tabOk ?_; refine SF.ldC tabOk ?_ (hv := (su_pv hu).trans (by rw [hpv])); refine SF.cl2 hb (i := 0) ent_22 rfl (fun w1 hw1 hb1 => hmix_any hb (Mx.nw0 u.kind) (HT.new u.kind u.bg u.own u.psk) (Mx.nw0_ok u.kind) 58 q n c P w1 hS.len hn hb1 (fun w2 hw2 => hS.old (OwnM.below (hw1.call1 (i := 0) (by exact gbk _) hw2)))) ?_; refine SF.done ?_) | (refine SPa (id := 12) [4] [] ([]) [0, 1, 2, 3, 4] follows ?_; refine fPv ?_; refine SF.nc ?_; refine SF.e tabOk ?_; refine SF.ctA tabOk 0 32 ?_; refine SF.cl2 hb (i := 1) ent_22 rfl (fun w1 hw1 hb1 => hmix_any hb ((Mx.nw0 u.kind).mix P) ({(HT.new u.kind u.bg u.own u.psk) with rp := .pointer (some ⟨rb, 0, none⟩)} : HT) hm2 58 (some ⟨rb, 0, none⟩) 32 32 u.oth w1 hu.oth (by decide) hb1 (fun w2 hw2 => Sl.of (hw1.call1 (i := 1) (by exact gbk _) hw2) (RdA.own g0) (Lies.whole u.oth) hu.oth (Nat.le_refl _))) ?_; refine SF.done ?_)) | (refine zsq ?_; intro _ _) | (with_reducible refine zkN ?_) | (refine useK (by assumption) ?_) | (with_reducible first | refine zsB ?_ | refine zkX ?_ | refine zkR ?_ | refine zbN ?_ | refine zbR ?_ | refine zbE ?_ | refine zbX ?_ | refine zsS ?_ | refine zsR ?_ | refine zsX ?_) | (refine cdT ?_) | (refine cdF ?_))
    exact doneK.mk rfl (ResO.tmp2 rfl rfl) ⟨_, _, _, rfl, List.Perm.swap _ _ _, List.Sublist.cons_cons _ (List.Sublist.cons_cons _ (List.nil_sublist _))⟩
  · rintro e w' ⟨v, bs, rfl, ⟨hb, rb, bs2, rfl, hp, hs⟩, hw'⟩
    exact ⟨hb, rb, rfl, (hw'.perm hp).sub hs⟩
set_option maxRecDepth 20000 in
set_option maxHeartbeats 1000000 in
theorem hnewB_ok (u : SU) (hu : u.Ok) (bo : Bytes32 u.own) (q : Option Addr) (n c : Nat) (P : List Int) (hpv : u.pv = .slice q n c) (w : World) (hS : Sl w q n c P) (hn : n ≤ 140737488351232) (hk : u.kind = 1 ∨ u.kind = 2) (hbg : u.bg = false) : Calls Try.prog 9 #[.agg (suRow u)] w (fun e w' => ∃ hb rb, e = .returned (.tuple #[.pointer (some ⟨hb, 0, none⟩), .int .i64 0]) ∧ OwnM w [] w' [(hb, gRow (Mx.nw u.kind P (pubL u.own)) (HT.new u.kind u.bg u.own u.psk), 58), (rb, ints .u8 (pubL u.own), 23)]) := by
  have hm1 : (({m00 with D := (bDg (strB (nmS u.kind)))} : Mx)).Ok := ⟨bDg_length _, rfl, rfl, byts_bDg _⟩
  have hm2 := (Mx.nw0_ok u.kind).mix P
  have e9 : Mx.nw u.kind P (pubL u.own) = ((Mx.nw0 u.kind).mix P).mix (pubL u.own) := by unfold Mx.nw; rfl
  refine (callE (mu := []) Try.func9 Try.ntmps9 Try.results9 (OwnM.start w) (fun v bs => ∃ hb rb bs2, v = .tuple #[.pointer (some ⟨hb, 0, none⟩), .int .i64 0] ∧ bs.Perm bs2 ∧ [(hb, gRow (Mx.nw u.kind P (pubL u.own)) (HT.new u.kind u.bg u.own u.psk), 58), (rb, ints .u8 (pubL u.own), 23)].Sublist bs2) ?_).mono ?_
  · rw [e9]
    repeat (first | (refine rgn 0 ?_; refine SL.bx ?_; intro sb; refine sEv ?_; refine sEv ?_; refine nlx ?_) | (refine rgn 1 ?_; refine sEv ?_; refine SL.ldC tabOk ?_ (hv := su_kind hu); refine SL.v (ValO.call ent_20 _ rfl _ (fun w1 hw1 => hname_ok u.kind hk w1)) ?_; (iterate 5 refine sEv ?_); refine nlx ?_) | (refine rgn 2 ?_; refine sEv ?_; refine sEv ?_; refine nlx ?_) | (refine rgn 4 ?_; refine sEv ?_; refine SL.ldC tabOk ?_ (hv := su_kind hu); refine sEv ?_; refine SL.ldC tabOk ?_ (hv := su_bg hu); refine sEv ?_; refine SL.ldP tabOk ?_ (hn := by rw [su_size hu]; decide) (hB := su_own hu); refine sEv ?_; refine SL.ldP tabOk ?_ (hn := by rw [su_size hu]; decide) (hB := su_psk hu); refine SL.v (ValO.build (by first | (dsimp only [List.map, evL, nth]; done) | (dsimp only [List.map, evL, nth]; rfl)) (hn_built u.kind u.bg hu.own hu.psk)) ?_; refine SL.bx ?_; intro hb; refine sEv ?_; refine nlx ?_) | (refine rgn 5 ?_; refine sEv ?_; refine sEv ?_; refine SL.cvCall tabOk ent_21 (v := .agg (ints .u8 (bDg (strB (nmS u.kind))))) (nmS_pos hk) (fun w1 b1 c1 hS1 => bdg_any _ _ _ _ w1 hS1 (nmS_le hk)) (fun nb nc => ?_); skip; refine SL.nc ?_; refine sEv ?_; refine sEv ?_; refine SL.stQ tabOk ?_ (B := ints .u8 (bDg (strB (nmS u.kind)))) (hn := by simp only [Value.cells]; rw [ints_size, bDg_length]) (hsz := by rw [gr_size m00_ok (new_ok u.kind u.bg hu.own hu.psk)]; decide) (hA := gr_pd m00_ok (new_ok u.kind u.bg hu.own hu.psk) (bDg_length _)); refine nlx ?_) | (refine rgn 6 ?_; refine sEv ?_; refine sEv ?_; refine SL.nc ?_; refine sEv ?_; refine sEv ?_; refine SL.ldP tabOk ?_ (hn := by rw [gr_size hm1 (new_ok u.kind u.bg hu.own hu.psk)]; decide) (hB := gr_d hm1 (new_ok u.kind u.bg hu.own hu.psk)); refine SL.nc ?_; refine sEv ?_; refine sEv ?_; refine SL.stQ tabOk ?_ (B := ints .u8 (bDg (strB (nmS u.kind)))) (hn := by simp only [Value.cells]; rw [ints_size, bDg_length]) (hsz := by rw [gr_size hm1 (new_ok u.kind u.bg hu.own hu.psk)]; decide) (hA := gr_pc hm1 (new_ok u.kind u.bg hu.own hu.psk) (bDg_length _)); refine nlx ?_) | (refine rgn 8 ?_; refine sEv ?_; refine SL.ldP tabOk ?_ (hn := by rw [su_size hu]; decide) (hB := su_oth hu); refine SL.al zero_23 ?_; intro rb; refine SL.stR tabOk ?_ (hn := by rw [ints_size, hu.oth]); refine nlx ?_) | (refine rgn 9 ?_; refine sEv ?_; refine SL.ldC tabOk ?_ (hv := (su_bg hu).trans (by rw [hbg])); refine nlx ?_) | (refine rgn 11 ?_; refine sEv ?_; refine SL.ldP tabOk ?_ (hn := by rw [su_size hu]; decide) (hB := su_own hu); refine SL.v (ValO.call ent_18 _ rfl _ (fun w1 hw1 => pub_h u.own bo w1)) ?_; refine SL.stR tabOk ?_ (k := .u8) (L := pubL u.own) (hn := by rw [ints_size, pubL_length]) (hsz := by rw [ints_size, hu.oth]); refine nlx ?_) | (refine rgn 13 ?_; (iterate 3 refine sEv ?_); refine nlx ?_) | ((with_reducible show SP _ _ _ (Code.region _ _ true) _ _ _); first | (refine SPa (id := 7) [5] [] ([]) [0, 1, 2, 3, 4, 5] follows ?_; refine fPv ?_; refine SF.nc ?_; refine SF.e tabOk ?_; refine SF.e tabOk ?_; refine SF.ldC tabOk ?_ (hv := (su_pv hu).trans (by rw [hpv])); refine SF.cl2 hb (i := 0) ent_22 rfl (fun w1 hw1 hb1 => hmix_any hb (Mx.nw0 u.kind) (HT.new u.kind u.bg u.own u.psk) (Mx.nw0_ok u.kind) 58 q n c P w1 hS.len hn hb1 (fun w2 hw2 => hS.old (OwnM.below (hw1.call1 (i := 0) (by exact gbk _) hw2)))) ?_; refine SF.done ?_) | (refine SPa (id := 12) [4] [] ([]) [0, 1, 2, 3, 4] follows ?_; refine fPv ?_; refine SF.nc ?_; refine SF.e tabOk ?_; refine SF.ctA tabOk 0 32 ?_; refine SF.cl2 hb (i := 1) ent_22 rfl (fun w1 hw1 hb1 => hmix_any hb ((Mx.nw0 u.kind).mix P) (HT.new u.kind u.bg u.own u.psk) hm2 58 (some ⟨rb, 0, none⟩) 32 32 (pubL u.own) w1 (pubL_length _) (by decide) hb1 (fun w2 hw2 => Sl.of (hw1.call1 (i := 1) (by exact gbk _) hw2) (RdA.own g0) (Lies.whole (pubL u.own)) (pubL_length _) (Nat.le_refl _))) ?_; refine SF.done ?_)) | (refine zsq ?_; intro _ _) | (with_reducible refine zkN ?_) | (refine useK (by assumption) ?_) | (with_reducible first | refine zsB ?_ | refine zkX ?_ | refine zkR ?_ | refine zbN ?_ | refine zbR ?_ | refine zbE ?_ | refine zbX ?_ | refine zsS ?_ | refine zsR ?_ | refine zsX ?_) | (refine cdT ?_) | (refine cdF ?_))
    exact doneK.mk rfl (ResO.tmp2 rfl rfl) ⟨_, _, _, rfl, List.Perm.swap _ _ _, List.Sublist.cons_cons _ (List.Sublist.cons_cons _ (List.nil_sublist _))⟩
  · rintro e w' ⟨v, bs, rfl, ⟨hb, rb, bs2, rfl, hp, hs⟩, hw'⟩
    exact ⟨hb, rb, rfl, (hw'.perm hp).sub hs⟩
end Sp
end
section
open Go Go.RowKit
namespace Sp
theorem Mx.back {m : Mx} (hm : m.Ok) {B : List Int} (hB : B.length ≤ 4096) (bB : Byts B) : m.oE (m.sX B) = 0 ∧ m.oX (m.sX B) = B ∧ m.dec (m.sX B) = m.enc B := by
  have h1 : m.oE (m.sX B) = 0 := by
    unfold Mx.oE Mx.sX
    exact oE_back _ _ (by rw [hm.d]; decide) hB
  refine ⟨h1, ?_, ?_⟩
  · unfold Mx.oX Mx.sX
    exact oX_back _ _ (by rw [hm.d]; decide) hB bB
  · unfold Mx.dec
    rw [if_pos h1]
    unfold Mx.enc
    rfl
theorem shN_ok {a b : List Int} (ha : Bytes32 a) (hb : Bytes32 b) : Low.shN a (pubL b) = 0 := by
  unfold pubL
  exact Ed.both_ok ha hb (Low.byt_clamp ha) (Low.byt_clamp hb)
theorem shX_sym {a b : List Int} (ha : Bytes32 a) (hb : Bytes32 b) : Low.shX a (pubL b) = Low.shX b (pubL a) := by
  unfold pubL
  exact Ed.both_eq (Low.byt_clamp ha) (Low.byt_clamp hb)
theorem Mx.share_sym (m : Mx) {a b : List Int} (ha : Bytes32 a) (hb : Bytes32 b) : m.share a (pubL b) = m.share b (pubL a) := by
  unfold Mx.share
  rw [if_pos (shN_ok ha hb), if_pos (shN_ok hb ha), shX_sym ha hb]
theorem bothE_ok {a b c d : List Int} (ha : Bytes32 a) (hb : Bytes32 b) (hc : Bytes32 c) (hd : Bytes32 d) : bothE a (pubL b) c (pubL d) = 0 := by
  unfold bothE
  rw [if_pos (shN_ok ha hb)]
  exact shN_ok hc hd
theorem Mx.both_sym (m : Mx) {e a b : List Int} (he : Bytes32 e) (ha : Bytes32 a) (hb : Bytes32 b) : m.both e (pubL a) e (pubL b) = m.both a (pubL e) b (pubL e) := by
  unfold Mx.both
  rw [if_pos (shN_ok he ha), if_pos (shN_ok ha he), Mx.share_sym m he ha, Mx.share_sym _ he hb]
theorem take32 {X Y : List Int} (h : X.length = 32) : (X ++ Y).take 32 = X ∧ (X ++ Y).drop 32 = Y := by
  rw [← h]
  exact ⟨List.take_left' rfl, List.drop_left' rfl⟩
theorem first_back {m : Mx} (hm : m.Ok) {t s : HT} (hk : t.kind = s.kind) (ha : Bytes32 t.own) (he : Bytes32 t.once) (hb : Bytes32 s.own) {B M : List Int} (hB : B.length ≤ 4096) (bB : Byts B) (hM : M = fstX m t (pubL s.own) B) :
    M.take 32 = pubL t.once ∧ Low.shN s.own (M.take 32) = 0 ∧ m.r2 s M = m.f2 t (pubL s.own) ∧ (m.r2 s M).oE ((M.drop 32).take 48) = 0 ∧ rK m s M = pubL t.own ∧ Low.shN s.own (rK m s M) = 0 ∧ m.r4 s M = m.f3 t (pubL s.own)
      ∧ (m.r4 s M).oE (M.drop 80) = 0 ∧ (m.r4 s M).oX (M.drop 80) = B ∧ (m.r4 s M).dec (M.drop 80) = (m.f3 t (pubL s.own)).enc B := by
  have hM2 : M = pubL t.once ++ ((m.f2 t (pubL s.own)).sX (pubL t.own) ++ (m.f3 t (pubL s.own)).sX B) := by rw [hM]; unfold fstX; rfl
  obtain ⟨e1, e2⟩ := take32 (X := pubL t.once) (Y := (m.f2 t (pubL s.own)).sX (pubL t.own) ++ (m.f3 t (pubL s.own)).sX B) (pubL_length _)
  rw [← hM2] at e1 e2
  have l48 : ((m.f2 t (pubL s.own)).sX (pubL t.own)).length = 48 := by rw [Mx.sX_len, pubL_length]
  have e3 : (M.drop 32).take 48 = (m.f2 t (pubL s.own)).sX (pubL t.own) := by rw [e2]; exact List.take_left' l48
  have e4 : M.drop 80 = (m.f3 t (pubL s.own)).sX B := by
    have : M.drop 80 = (M.drop 32).drop 48 := by rw [List.drop_drop]
    rw [this, e2]
    exact List.drop_left' l48
  have hr2 : m.r2 s M = m.f2 t (pubL s.own) := by
    unfold Mx.r2 Mx.f2 Mx.f1
    rw [e1, hk]
    exact Mx.share_sym _ hb he
  obtain ⟨b1, b2, b3⟩ := Mx.back (hm.f2 t (pubL s.own)) (B := pubL t.own) (by rw [pubL_length]; decide) (byts_pubL _)
  have hrk : rK m s M = pubL t.own := by unfold rK; rw [hr2, e3, b2]
  have hr4 : m.r4 s M = m.f3 t (pubL s.own) := by
    unfold Mx.r4 Mx.f3
    rw [hrk, hr2, e3, b3]
    exact Mx.share_sym _ hb ha
  obtain ⟨c1, c2, c3⟩ := Mx.back (hm.f3 t (pubL s.own)) hB bB
  refine ⟨e1, by rw [e1]; exact shN_ok hb he, hr2, by rw [hr2, e3, b1], hrk, by rw [hrk]; exact shN_ok hb ha, hr4, ?_, ?_, ?_⟩
  · rw [hr4, e4, c1]
  · rw [hr4, e4, c2]
  · rw [hr4, e4, c3]
theorem second_back {m : Mx} (hm : m.Ok) {t s : HT} (hk : t.kind = s.kind) (hp : t.psk = s.psk) (ha : Bytes32 t.own) (he : Bytes32 t.once) (hf : Bytes32 s.once) (hth : s.their = pubL t.once) {B M : List Int} (hB : B.length ≤ 4096) (bB : Byts B) (hM : M = sndX m s (pubL t.own) B) :
    M.take 32 = pubL s.once ∧ bothE s.once s.their s.once (pubL t.own) = 0 ∧ bothE t.once (M.take 32) t.own (M.take 32) = 0 ∧ m.s3 t (M.take 32) t.once (M.take 32) t.own (M.take 32) = m.s3 s (pubL s.once) s.once s.their s.once (pubL t.own)
      ∧ (m.s3 t (M.take 32) t.once (M.take 32) t.own (M.take 32)).oE (M.drop 32) = 0 ∧ (m.s3 t (M.take 32) t.once (M.take 32) t.own (M.take 32)).oX (M.drop 32) = B
      ∧ (m.s3 t (M.take 32) t.once (M.take 32) t.own (M.take 32)).dec (M.drop 32) = (m.s3 s (pubL s.once) s.once s.their s.once (pubL t.own)).enc B := by
  have hM2 : M = pubL s.once ++ (m.s3 s (pubL s.once) s.once s.their s.once (pubL t.own)).sX B := by rw [hM]; unfold sndX; rfl
  obtain ⟨e1, e2⟩ := take32 (X := pubL s.once) (Y := (m.s3 s (pubL s.once) s.once s.their s.once (pubL t.own)).sX B) (pubL_length _)
  rw [← hM2] at e1 e2
  have h3 : m.s3 t (M.take 32) t.once (M.take 32) t.own (M.take 32) = m.s3 s (pubL s.once) s.once s.their s.once (pubL t.own) := by
    unfold Mx.s3 Mx.s2
    rw [e1, hth, hk, hp, Mx.both_sym _ hf he ha]
  obtain ⟨b1, b2, b3⟩ := Mx.back (hm.s3 s (pubL s.once) s.once s.their s.once (pubL t.own)) hB bB
  refine ⟨e1, by rw [hth]; exact bothE_ok hf he hf ha, by rw [e1]; exact bothE_ok he hf ha hf, h3, ?_, ?_, ?_⟩
  · rw [h3, e2, b1]
  · rw [h3, e2, b2]
  · rw [h3, e2, b3]
theorem fstX_byts {m : Mx} {t : HT} {U B : List Int} (bB : Byts B) : Byts (fstX m t U B) := by
  unfold fstX Mx.sX
  exact (byts_pubL _).app2 ((sealV_byts _ _ _ (byts_pubL _)).app2 (sealV_byts _ _ _ bB))
theorem sndX_byts {m : Mx} {t : HT} {U B : List Int} (bB : Byts B) : Byts (sndX m t U B) := by
  unfold sndX Mx.sX
  exact (byts_pubL _).app2 (sealV_byts _ _ _ bB)
end Sp
end
section
open Go Go.RowKit
namespace Sp
open F M
set_option maxHeartbeats 1000000 in
theorem hWA_ok (q : Option Addr) (n c : Nat) (B O U : List Int) (rb : Nat) {RT : TypeId} {fz : Nat × Nat} (b : Nat) (m : Mx) (t : HT) (hm : m.Ok) (ht : t.Ok) (w : World) (hb : w.heap[b]? = some (.cells (gRow m t) 58 (0, 0))) (hk : t.kind ≠ 0) (hbg : t.bg = true) (hd : t.done = 0) (lo : Bytes32 t.own) (hO : Bytes32 O) (hU : Bytes32 U) (hr : t.rp = .pointer (some ⟨rb, 0, none⟩)) (hrb : w.heap[rb]? = some (.cells (ints .u8 U) RT fz)) (hne : rb ∉ [b]) (bB : Byts B) (hn : n ≤ 4096) (hS : Sl w q n c B) (hA : ApartB b q n) (h1 : Low.shN O U = 0) (h2 : Low.shN t.own U = 0) : Calls Try.prog 10 #[.pointer (some ⟨b, 0, none⟩), .agg (ints .u8 O), .slice q n c] w (StPost w b 58 (gRow ((m.f3 ({t with once := O} : HT) U).enc B) {t with once := O, done := t.done + 1}) (fstX m ({t with once := O} : HT) U B) 0) := by
  have ho : (t.bg == (t.done == 0)) = true := by rw [hbg, hd]; rfl
  have hth : decide (t.done < 2) = true := by rw [hd]; rfl
  have hm' : ((m.f3 ({t with once := O} : HT) U).enc B).Ok := (hm.f3 _ _).enc _
  have h := hwriteA_ok q n c O b m t hm ht 58 w hb hk ho hth hbg hO.1 hn ((m.f3 ({t with once := O} : HT) U).enc B) (fun _ => ({t with once := O} : HT)) (fstX m ({t with once := O} : HT) U B) (fun _ => []) (fun xb w3 hc => by have hs := hc.sl hS hA; exact (hfirst_ok q n c B U rb xb m ({t with once := O} : HT) hm (ht.once_ hO.1) 58 w3 hc.row lo hO hU hr (hc.old rb _ hrb hne).1 (hc.old rb _ hrb hne).2 bB hn hs.1 hs.2 h1 h2).mono (fun _ _ hx => hx.w)) hm' (fun _ => (ht.once_ hO.1)) (fun _ => by show 0 ≤ t.done ∧ t.done ≤ 100; omega)
  exact h.mono (fun _ _ hx => hx.s)
set_option maxHeartbeats 1000000 in
theorem hWB_ok (q : Option Addr) (n c : Nat) (B O U : List Int) (rb : Nat) {RT : TypeId} {fz : Nat × Nat} (b : Nat) (m : Mx) (t : HT) (hm : m.Ok) (ht : t.Ok) (w : World) (hb : w.heap[b]? = some (.cells (gRow m t) 58 (0, 0))) (hk : t.kind ≠ 0) (hbg : t.bg = false) (hd : t.done = 1) (hq : Bytes32 t.their) (hO : Bytes32 O) (hU : Bytes32 U) (hr : t.rp = .pointer (some ⟨rb, 0, none⟩)) (hrb : w.heap[rb]? = some (.cells (ints .u8 U) RT fz)) (hne : rb ∉ [b]) (bB : Byts B) (hn : n ≤ 4096) (hS : Sl w q n c B) (hA : ApartB b q n) (h1 : bothE O t.their O U = 0) : Calls Try.prog 10 #[.pointer (some ⟨b, 0, none⟩), .agg (ints .u8 O), .slice q n c] w (StPost w b 58 (gRow ((m.s3 ({t with once := O} : HT) (pubL O) O t.their O U).enc B) {t with once := O, done := t.done + 1}) (sndX m ({t with once := O} : HT) U B) 0) := by
  have ho : (t.bg == (t.done == 0)) = true := by rw [hbg, hd]; rfl
  have hth : decide (t.done < 2) = true := by rw [hd]; rfl
  have hm' : ((m.s3 ({t with once := O} : HT) (pubL O) O t.their O U).enc B).Ok := (hm.s3 _ _ _ _ _ _).enc _
  have h := hwriteB_ok q n c O b m t hm ht 58 w hb hk ho hth hbg hO.1 hn ((m.s3 ({t with once := O} : HT) (pubL O) O t.their O U).enc B) (fun _ => ({t with once := O} : HT)) (sndX m ({t with once := O} : HT) U B) (fun _ => []) (fun xb w3 hc => by have hs := hc.sl hS hA; exact (hsecond_ok q n c B U rb xb m ({t with once := O} : HT) hm (ht.once_ hO.1) 58 w3 hc.row hq hO hU hr (hc.old rb _ hrb hne).1 (hc.old rb _ hrb hne).2 bB hn hs.1 hs.2 h1).mono (fun _ _ hx => hx.w)) hm' (fun _ => (ht.once_ hO.1)) (fun _ => by show 0 ≤ t.done ∧ t.done ≤ 100; omega)
  exact h.mono (fun _ _ hx => hx.s)
set_option maxHeartbeats 1000000 in
theorem hRB_ok (q : Option Addr) (n c : Nat) (M : List Int) (b : Nat) (m : Mx) (t : HT) (hm : m.Ok) (ht : t.Ok) (w : World) (hb : w.heap[b]? = some (.cells (gRow m t) 58 (0, 0))) (hk : t.kind ≠ 0) (hbg : t.bg = false) (hd : t.done = 0) (lo : Bytes32 t.own) (bM : Byts M) (h0 : 96 ≤ n) (hn : n ≤ 4192) (hS : Sl w q n c M) (hA : ApartB b q n) (h1 : Low.shN t.own (M.take 32) = 0) (h2 : (m.r2 t M).oE ((M.drop 32).take 48) = 0) (h3 : Low.shN t.own (rK m t M) = 0) (h4 : (m.r4 t M).oE (M.drop 80) = 0) : Calls Try.prog 13 #[.pointer (some ⟨b, 0, none⟩), .slice q n c] w (RdPost w b 58 (fun rb => gRow ((m.r4 t M).dec (M.drop 80)) {t with their := M.take 32, rp := .pointer (some ⟨rb, 0, none⟩), done := t.done + 1}) (rK m t M) ((m.r4 t M).oX (M.drop 80)) 0) := by
  obtain ⟨sb, off, A, AT, fz, rfl, hsb, hL⟩ := hS.at_ (by omega)
  have hsn : sb ∉ [b] := by simpa using hA (by omega) sb off rfl
  have hlM := hS.len
  have hcc := hS.cap
  have ho : (t.bg == (t.done == 0)) = false := by rw [hbg, hd]; rfl
  have hth : decide (t.done < 2) = true := by rw [hd]; rfl
  have hm' : ((m.r4 t M).dec (M.drop 80)).Ok := (hm.r4 t M).dec _
  have lE : (M.take 32).length = 32 := by rw [List.length_take]; omega
  have h := hreadB_ok (some ⟨sb, off, none⟩) n c b m t hm ht 58 w hb hk ho hth hbg h0 hn ((m.r4 t M).dec (M.drop 80)) (fun rb => ({t with their := (M.take 32), rp := .pointer (some ⟨rb, 0, none⟩)} : HT)) ((m.r4 t M).oX (M.drop 80)) (fun rb => [(rb, ints .u8 (rK m t M), 23)]) (fun xb w3 hc => by have h := hrf_end sb off n c M xb m t hm ht 58 w3 hc.row lo bM hlM hcc (hc.old sb _ hsb hsn).1 (hc.old sb _ hsb hsn).2 hL h0 hn h1 h2 h3; rw [h4] at h; exact h.mono (fun _ _ hx => hx.w)) hm' (fun _ => (ht.their_ lE).rp_ rfl) (fun _ => by show 0 ≤ t.done ∧ t.done ≤ 100; omega)
  exact h
set_option maxHeartbeats 1000000 in
theorem hRA_ok (q : Option Addr) (n c : Nat) (M : List Int) (b : Nat) (m : Mx) (t : HT) (hm : m.Ok) (ht : t.Ok) (w : World) (hb : w.heap[b]? = some (.cells (gRow m t) 58 (0, 0))) (hk : t.kind ≠ 0) (hbg : t.bg = true) (hd : t.done = 1) (lo : Bytes32 t.own) (lc : Bytes32 t.once) (bM : Byts M) (h0 : 48 ≤ n) (hn : n ≤ 4144) (hS : Sl w q n c M) (hA : ApartB b q n) (h1 : bothE t.once (M.take 32) t.own (M.take 32) = 0) (h2 : (m.s3 t (M.take 32) t.once (M.take 32) t.own (M.take 32)).oE (M.drop 32) = 0) : Calls Try.prog 13 #[.pointer (some ⟨b, 0, none⟩), .slice q n c] w (StPost w b 58 (gRow ((m.s3 t (M.take 32) t.once (M.take 32) t.own (M.take 32)).dec (M.drop 32)) {t with their := M.take 32, done := t.done + 1}) ((m.s3 t (M.take 32) t.once (M.take 32) t.own (M.take 32)).oX (M.drop 32)) 0) := by
  obtain ⟨sb, off, A, AT, fz, rfl, hsb, hL⟩ := hS.at_ (by omega)
  have hsn : sb ∉ [b] := by simpa using hA (by omega) sb off rfl
  have hlM := hS.len
  have hcc := hS.cap
  have ho : (t.bg == (t.done == 0)) = false := by rw [hbg, hd]; rfl
  have hth : decide (t.done < 2) = true := by rw [hd]; rfl
  have hm' : ((m.s3 t (M.take 32) t.once (M.take 32) t.own (M.take 32)).dec (M.drop 32)).Ok := (hm.s3 _ _ _ _ _ _).dec _
  have lE : (M.take 32).length = 32 := by rw [List.length_take]; omega
  have h := hreadA_ok (some ⟨sb, off, none⟩) n c b m t hm ht 58 w hb hk ho hth hbg h0 hn ((m.s3 t (M.take 32) t.once (M.take 32) t.own (M.take 32)).dec (M.drop 32)) (fun _ => ({t with their := (M.take 32)} : HT)) ((m.s3 t (M.take 32) t.once (M.take 32) t.own (M.take 32)).oX (M.drop 32)) (fun _ => []) (fun xb w3 hc => by have h := hrs_end sb off n c M xb m t hm ht 58 w3 hc.row lo lc bM hlM hcc (hc.old sb _ hsb hsn).1 (hc.old sb _ hsb hsn).2 hL h0 (by omega) h1; rw [h2] at h; exact h.mono (fun _ _ hx => hx.w)) hm' (fun _ => ht.their_ lE) (fun _ => by show 0 ≤ t.done ∧ t.done ≤ 100; omega)
  exact h.mono (fun _ _ hx => hx.s)
end Sp
end
section
open Go Go.RowKit
namespace Sp
open F M
theorem tmod_cases (a m : Int) (hm : 0 < m) : (a.tmod m < 0 ∧ a.tmod m + m = a % m) ∨ (0 ≤ a.tmod m ∧ a.tmod m = a % m) := by
  have h1 := Int.emod_nonneg a (show m ≠ 0 by omega)
  have h2 := Int.emod_lt_of_pos a hm
  by_cases ha : 0 ≤ a
  · exact .inr ⟨by rw [Int.tmod_eq_emod_of_nonneg ha]; exact h1, Int.tmod_eq_emod_of_nonneg ha⟩
  · have h3 := Int.tmod_eq_emod (a := a) (b := m)
    split at h3
    · right
      rw [h3]
      omega
    · left
      omega
set_option maxRecDepth 20000 in
theorem bring_any (a m : Int) (hm : 0 < m) (hm2 : m < 4294967296) (w : World) :
    Calls Try.prog 15 #[.int .i64 a, .int .i64 m] w fun e w' => e = .returned (.int .i64 (a % m)) ∧ Below w.heap.size w w' := by
  have h1 := Int.emod_nonneg a (show m ≠ 0 by omega)
  have h2 := Int.emod_lt_of_pos a hm
  rcases tmod_cases a m hm with ⟨h3, h4⟩ | ⟨h3, h4⟩
  · have hw : IntKind.i64.wrap (a.tmod m + m) = a % m := by rw [h4, IntWalk.i64_in _ (by omega)]
    have hw2 : IntKind.i64.wrap (a.tmod m) = a.tmod m := IntWalk.i64_in _ (by omega)
    refine pureE Try.func15 Try.ntmps15 Try.results15 ?_
    repeat (first | (refine rgn 0 ?_; refine sEv ?_; refine nlx ?_) | (refine rgn 1 ?_; refine sEv ?_; refine sEv ?_; refine nlx ?_) | (refine rgn 3 ?_; refine sEv ?_; refine sEv ?_; refine SL.dv ?_; refine sEv ?_; refine nlx ?_) | (refine rgn 4 ?_; refine sEv ?_; refine sEv ?_; refine nlx ?_) | (refine rgn 5 ?_; (iterate 4 refine sEv ?_); refine nlx ?_) | (refine rgn 6 ?_; refine sEv ?_; refine sEv ?_; refine nlx ?_) | (refine zsq ?_; intro _ _) | (with_reducible refine zkN ?_) | (refine useK (by assumption) ?_) | (with_reducible first | refine zsS ?_ | refine zsR ?_) | (refine cdT ?_) | (refine cdF ?_))
    exact doneK.mk rfl (ResO.tmp rfl) (by simp only [hw]; rfl)
  · refine pureE Try.func15 Try.ntmps15 Try.results15 ?_
    repeat (first | (refine rgn 0 ?_; refine sEv ?_; refine nlx ?_) | (refine rgn 1 ?_; refine sEv ?_; refine sEv ?_; refine nlx ?_) | (refine rgn 3 ?_; refine sEv ?_; refine sEv ?_; refine SL.dv ?_; refine sEv ?_; refine nlx ?_) | (refine rgn 4 ?_; refine sEv ?_; refine sEv ?_; refine nlx ?_) | (refine rgn 6 ?_; refine sEv ?_; refine sEv ?_; refine nlx ?_) | (refine zsq ?_; intro _ _) | (with_reducible refine zkN ?_) | (refine useK (by assumption) ?_) | (with_reducible first | refine zsS ?_ | refine zsR ?_) | ((with_reducible show SP _ _ _ (Code.cond _ _ _) _ _ _); first | (refine cdF ?_)))
    exact doneK.mk rfl (ResO.tmp rfl) (by rw [h4]; rfl)
end Sp
end
section
open Go Go.RowKit
namespace Sp
open F M
structure PR where
  kind : Int
  A : List Int
  B : List Int
  pv : Value
  psk : List Int
  oa : List Int
  ob : List Int
  f : Value
  s : Value
structure PR.Ok (p : PR) : Prop where
  A : p.A.length = 32
  B : p.B.length = 32
  psk : p.psk.length = 32
  oa : p.oa.length = 32
  ob : p.ob.length = 32
  c : ∀ v, v = p.pv ∨ v = p.f ∨ v = p.s → v.oneCell' = true
@[irreducible] def prRow (p : PR) : Array Value := cat [#[.int .i64 p.kind], ints .u8 p.A, ints .u8 p.B, #[p.pv], ints .u8 p.psk, ints .u8 p.oa, ints .u8 p.ob, #[p.f], #[p.s]]
section
variable {p : PR}
theorem pq_size (hp : p.Ok) : (prRow p).size = 164 := by unfold prRow; simp [cat, ints_size, hp.A, hp.B, hp.psk, hp.oa, hp.ob]
theorem pq_kind (hp : p.Ok) : (prRow p)[0]? = some (.int .i64 p.kind) := by unfold prRow; exact cat_at (L := []) rfl
theorem pq_pkind (hp : p.Ok) (v : Int) : putAt (prRow p) 0 [.int .i64 v] = prRow {p with kind := v} := by unfold prRow; exact cat_put (L := []) rfl rfl
theorem pq_A (hp : p.Ok) : (prRow p).extract 1 (1 + 32) = ints .u8 p.A := by unfold prRow; exact cat_ex (L := [#[.int .i64 p.kind]]) (by simp [cat, ints_size, hp.A, hp.B, hp.psk, hp.oa, hp.ob]) (by simp [cat, ints_size, hp.A, hp.B, hp.psk, hp.oa, hp.ob])
theorem pq_B (hp : p.Ok) : (prRow p).extract 33 (33 + 32) = ints .u8 p.B := by unfold prRow; exact cat_ex (L := [#[.int .i64 p.kind], ints .u8 p.A]) (by simp [cat, ints_size, hp.A, hp.B, hp.psk, hp.oa, hp.ob]) (by simp [cat, ints_size, hp.A, hp.B, hp.psk, hp.oa, hp.ob])
theorem pq_pv (hp : p.Ok) : (prRow p)[65]? = some (p.pv) := by unfold prRow; exact cat_at (L := [#[.int .i64 p.kind], ints .u8 p.A, ints .u8 p.B]) (by simp [cat, ints_size, hp.A, hp.B, hp.psk, hp.oa, hp.ob])
theorem pq_psk (hp : p.Ok) : (prRow p).extract 66 (66 + 32) = ints .u8 p.psk := by unfold prRow; exact cat_ex (L := [#[.int .i64 p.kind], ints .u8 p.A, ints .u8 p.B, #[p.pv]]) (by simp [cat, ints_size, hp.A, hp.B, hp.psk, hp.oa, hp.ob]) (by simp [cat, ints_size, hp.A, hp.B, hp.psk, hp.oa, hp.ob])
theorem pq_oa (hp : p.Ok) : (prRow p).extract 98 (98 + 32) = ints .u8 p.oa := by unfold prRow; exact cat_ex (L := [#[.int .i64 p.kind], ints .u8 p.A, ints .u8 p.B, #[p.pv], ints .u8 p.psk]) (by simp [cat, ints_size, hp.A, hp.B, hp.psk, hp.oa, hp.ob]) (by simp [cat, ints_size, hp.A, hp.B, hp.psk, hp.oa, hp.ob])
theorem pq_ob (hp : p.Ok) : (prRow p).extract 130 (130 + 32) = ints .u8 p.ob := by unfold prRow; exact cat_ex (L := [#[.int .i64 p.kind], ints .u8 p.A, ints .u8 p.B, #[p.pv], ints .u8 p.psk, ints .u8 p.oa]) (by simp [cat, ints_size, hp.A, hp.B, hp.psk, hp.oa, hp.ob]) (by simp [cat, ints_size, hp.A, hp.B, hp.psk, hp.oa, hp.ob])
theorem pq_f (hp : p.Ok) : (prRow p)[162]? = some (p.f) := by unfold prRow; exact cat_at (L := [#[.int .i64 p.kind], ints .u8 p.A, ints .u8 p.B, #[p.pv], ints .u8 p.psk, ints .u8 p.oa, ints .u8 p.ob]) (by simp [cat, ints_size, hp.A, hp.B, hp.psk, hp.oa, hp.ob])
theorem pq_pf (hp : p.Ok) (v : Value) : putAt (prRow p) 162 [v] = prRow {p with f := v} := by unfold prRow; exact cat_put (L := [#[.int .i64 p.kind], ints .u8 p.A, ints .u8 p.B, #[p.pv], ints .u8 p.psk, ints .u8 p.oa, ints .u8 p.ob]) (by simp [cat, ints_size, hp.A, hp.B, hp.psk, hp.oa, hp.ob]) rfl
theorem pq_s (hp : p.Ok) : (prRow p)[163]? = some (p.s) := by unfold prRow; exact cat_at (L := [#[.int .i64 p.kind], ints .u8 p.A, ints .u8 p.B, #[p.pv], ints .u8 p.psk, ints .u8 p.oa, ints .u8 p.ob, #[p.f]]) (by simp [cat, ints_size, hp.A, hp.B, hp.psk, hp.oa, hp.ob])
theorem pq_ps (hp : p.Ok) (v : Value) : putAt (prRow p) 163 [v] = prRow {p with s := v} := by unfold prRow; exact cat_put (L := [#[.int .i64 p.kind], ints .u8 p.A, ints .u8 p.B, #[p.pv], ints .u8 p.psk, ints .u8 p.oa, ints .u8 p.ob, #[p.f]]) (by simp [cat, ints_size, hp.A, hp.B, hp.psk, hp.oa, hp.ob]) rfl
theorem pq_cells (hp : p.Ok) : ∀ u ∈ (prRow p).toList, u.oneCell' = true := by
  unfold prRow
  intro u hu
  simp only [cat, Array.toList_append, List.mem_append] at hu
  rcases hu with h | h | h | h | h | h | h | h | h | h
  all_goals first | exact ints_mem u h | (simp at h; done) | (simp at h; subst h; first | rfl | exact hp.c _ (.inl rfl) | exact hp.c _ (.inr (.inl rfl)) | exact hp.c _ (.inr (.inr rfl)))
theorem PR.Ok.kind_ (hp : p.Ok) (v : Int) : ({p with kind := v} : PR).Ok := ⟨hp.A, hp.B, hp.psk, hp.oa, hp.ob, hp.c⟩
theorem PR.Ok.f_ (hp : p.Ok) {v : Value} (hv : v.oneCell' = true) : ({p with f := v} : PR).Ok := ⟨hp.A, hp.B, hp.psk, hp.oa, hp.ob, fun x hx => by
  rcases hx with rfl | rfl | rfl
  · exact hp.c _ (.inl rfl)
  · exact hv
  · exact hp.c _ (.inr (.inr rfl))⟩
theorem PR.Ok.s_ (hp : p.Ok) {v : Value} (hv : v.oneCell' = true) : ({p with s := v} : PR).Ok := ⟨hp.A, hp.B, hp.psk, hp.oa, hp.ob, fun x hx => by
  rcases hx with rfl | rfl | rfl
  · exact hp.c _ (.inl rfl)
  · exact hp.c _ (.inr (.inl rfl))
  · exact hv⟩
theorem su_cells {u : SU} (h : u.pv.oneCell' = true) : ∀ x ∈ (suRow u).toList, x.oneCell' = true := by
  unfold suRow
  intro x hx
  simp only [cat, Array.toList_append, List.mem_append] at hx
  rcases hx with h' | h' | h' | h' | h' | h' | h'
  all_goals first | exact ints_mem x h' | (simp at h'; done) | (simp at h'; subst h'; first | rfl | exact h)
end
def p00 : PR := ⟨0, List.replicate 32 0, List.replicate 32 0, .slice none 0 0, List.replicate 32 0, List.replicate 32 0, List.replicate 32 0, .slice none 0 0, .slice none 0 0⟩
theorem zero_Pair : (Try.prog.info? 26).map (·.zero) = some (some (.agg (prRow p00))) := by unfold prRow; kernel_rfl
theorem p00_ok : p00.Ok := ⟨rfl, rfl, rfl, rfl, rfl, fun v hv => by rcases hv with rfl | rfl | rfl <;> rfl⟩
def u00 : SU := ⟨0, false, List.replicate 32 0, List.replicate 32 0, .slice none 0 0, List.replicate 32 0⟩
theorem zero_Setup : (Try.prog.info? 29).map (·.zero) = some (some (.agg (suRow u00))) := by unfold suRow; kernel_rfl
theorem u00_ok : u00.Ok := ⟨rfl, rfl, rfl⟩
def alI' (x : Int) : Nat → List Int
  | 0 => List.replicate 32 0
  | i + 1 => (alI' x i).set i x
@[irreducible] def alI (x : Int) (i : Nat) : List Int := alI' x i
theorem alI_0 (x : Int) : alI x 0 = List.replicate 32 0 := by unfold alI; rfl
theorem alI_s (x : Int) (i : Nat) : alI x (i + 1) = (alI x i).set i x := by unfold alI; rfl
theorem alI_length (x : Int) : ∀ i, (alI x i).length = 32
  | 0 => by rw [alI_0]; simp
  | i + 1 => by rw [alI_s]; simp [alI_length x i]
attribute [simp] alI_length
theorem alI_32 (x : Int) : alI x 32 = List.replicate 32 x := by unfold alI; kernel_rfl
set_option maxRecDepth 20000 in
set_option maxHeartbeats 1000000 in
theorem all_any (x : Int) (w : World) : Calls Try.prog 17 #[.int .u8 x] w (fun e w' => e = .returned (.agg (ints .u8 (List.replicate 32 x))) ∧ Below w.heap.size w w') := by
  refine pureE Try.func17 Try.ntmps17 Try.results17 ?_
  repeat (first | (refine rgn 0 ?_; refine SL.al zero_23 ?_; intro rb; refine nlx ?_) | (refine rgn 1 ?_; refine SL.al zero_23 ?_; intro kb; refine nlx ?_) | (refine rgn 2 ?_; refine sEv ?_; refine nlx ?_) | (refine zsq ?_; intro _ _) | (with_reducible refine zkN ?_) | (refine useK (by assumption) ?_) | (with_reducible first | refine zsB ?_ | refine zkX ?_ | refine zkR ?_ | refine zbN ?_ | refine zbR ?_ | refine zbE ?_ | refine zbX ?_ | refine zsS ?_ | refine zsR ?_ | refine zsX ?_) | (refine cdT ?_) | (refine cdF ?_))
  refine SP.loopN (fun i l bs => l = [.int .u8 x, nth l 1, .pointer (some ⟨rb, 0, none⟩), .pointer (some ⟨kb, 0, none⟩), .int .i64 ((i : Nat)), nth l 5, nth l 6, nth l 7, nth l 8, nth l 9, nth l 10, nth l 11, nth l 12] ∧ bs = [(kb, ints .u8 (alI x i), 23), (rb, ints .u8 (List.replicate 32 0), 23)]) 32 ⟨rfl, by rw [alI_0]⟩ ?_
  rintro i lfi _ hki ⟨hli, rfl⟩
  refine SP.cast hli ?_
  clear hli
  by_cases hlti : i < 32
  · have hi1 : IntKind.i64.wrap ((i : Int) + 1) = ((i + 1 : Nat) : Int) := by rw [IntWalk.i64_in _ (by omega)]; omega
    repeat (first | (refine rgn 3 ?_; refine sEv ?_; refine sEv ?_; refine nlx ?_) | (refine rgn 4 ?_; (iterate 3 refine sEv ?_); refine nlx ?_) | (refine rgn 5 ?_; refine sEv ?_; refine sEv ?_; refine SL.ixA tabOk ?_; refine SL.stI tabOk ?_; refine nlx ?_) | (refine zsq ?_; intro _ _) | (with_reducible refine zkN ?_) | (refine useK (by assumption) ?_) | (with_reducible first | refine zsB ?_ | refine zkX ?_ | refine zkR ?_ | refine zbN ?_ | refine zbR ?_ | refine zbE ?_ | refine zbX ?_ | refine zsS ?_ | refine zsR ?_ | refine zsX ?_) | (refine cdT ?_) | (refine cdF ?_))
    simp only [hi1]
    exact ⟨hlti, rfl, by rw [alI_s]⟩
  · have hendi : i = 32 := by omega
    replace hendi := Lib.hid hendi
    repeat (first | (refine rgn 3 ?_; refine sEv ?_; refine sEv ?_; refine nlx ?_) | (refine zsq ?_; intro _ _) | (with_reducible refine zkN ?_) | (refine useK (by assumption) ?_) | (with_reducible first | refine zsB ?_ | refine zkX ?_ | refine zkR ?_ | refine zbN ?_ | refine zbR ?_ | refine zbE ?_ | refine zbX ?_ | refine zsS ?_ | refine zsR ?_ | refine zsX ?_) | (refine cdT ?_) | (refine cdF ?_))
    have hq := hendi.out; clear hendi; subst hq
    rw [alI_32]
    repeat (first | (refine rgn 6 ?_; refine SL.ldR tabOk ?_; refine SL.stR tabOk ?_; refine nlx ?_) | (refine zsq ?_; intro _ _) | (with_reducible refine zkN ?_) | (refine useK (by assumption) ?_) | (with_reducible first | refine zsB ?_ | refine zkX ?_ | refine zkR ?_ | refine zbN ?_ | refine zbR ?_ | refine zbE ?_ | refine zbX ?_ | refine zsS ?_ | refine zsR ?_ | refine zsX ?_) | (refine cdT ?_) | (refine cdF ?_))
    exact doneK.mk rfl (ResO.cell tabOk rfl rfl rfl (RdA.own g1) (by simp [ints_size])) rfl
set_option maxRecDepth 20000 in
set_option maxHeartbeats 1000000 in
theorem made_any (p : PR) (hp : p.Ok) (q1 q2 : Option Addr) (n1 c1 n2 c2 : Nat) (hf : p.f = .slice q1 n1 c1) (hs : p.s = .slice q2 n2 c2) (hc1 : n1 ≤ c1) (hc2 : n2 ≤ c2) (w : World) : Calls Try.prog 7 #[.agg (prRow p)] w (fun e w' => e = .returned (.agg (prRow ({p with kind := 1 + p.kind % 2, f := .slice q1 (min n1 4096) c1, s := .slice q2 (min n2 4096) c2} : PR))) ∧ Below w.heap.size w w') := by
  have hadd : some (Value.int .i64 (IntKind.i64.wrap (1 + p.kind % 2))) = some (Value.int .i64 (1 + p.kind % 2)) := by rw [IntWalk.i64_in _ (by omega)]
  have hp1 : (({p with kind := 1 + p.kind % 2} : PR)).Ok := hp.kind_ _
  have hp2 : (({p with kind := 1 + p.kind % 2, f := .slice q1 (min n1 4096) c1} : PR)).Ok := hp1.f_ rfl
  have hp3 : (({p with kind := 1 + p.kind % 2, f := .slice q1 (min n1 4096) c1, s := .slice q2 (min n2 4096) c2} : PR)).Ok := hp2.s_ rfl
  refine pureE Try.func7 Try.ntmps7 Try.results7 ?_
  repeat (first | (refine rgn 0 ?_; refine SL.bx ?_; intro pb; refine SL.al zero_Pair ?_; intro rb; refine nlx ?_) | (refine rgn 1 ?_; refine sEv ?_; refine SL.ldC tabOk ?_ (hv := pq_kind hp); refine SL.v (ValO.call ent_15 _ rfl _ (fun w1 hw1 => bring_any p.kind 2 (by decide) (by decide) w1)) ?_; refine SL.v (v := .int .i64 (1 + p.kind % 2)) (ValO.ev tabOk hadd) ?_; refine sEv ?_; refine SL.stP tabOk ?_ (hsz := by rw [pq_size hp]; decide) (hA := pq_pkind hp _); refine nlx ?_) | (refine rgn 2 ?_; refine sEv ?_; refine SL.ldC tabOk ?_ (hv := (pq_f hp1).trans (by rw [hf])); refine sEv ?_; refine SL.ldC tabOk ?_ (hv := (pq_f hp1).trans (by rw [hf])); refine SL.v (ValO.len tabOk (by rfl)) ?_; refine SL.v (v := .int .i64 ((min n1 4096 : Nat) : Int)) (ValO.min .i64 _ _ rfl rfl _ (by split <;> omega)) ?_; refine SL.v (ValO.cutF (z := min n1 4096) tabOk rfl rfl (by first | rfl | (simp [bnd, evL]; done) | (simp [bnd, evL]; omega)) (by omega)) ?_; refine sEv ?_; refine SL.stP tabOk ?_ (v := .slice q1 (min n1 4096) c1) (hsz := by rw [pq_size hp1]; decide) (hA := pq_pf hp1 _); refine nlx ?_) | (refine rgn 3 ?_; refine sEv ?_; refine SL.ldC tabOk ?_ (hv := (pq_s hp2).trans (by rw [hs])); refine sEv ?_; refine SL.ldC tabOk ?_ (hv := (pq_s hp2).trans (by rw [hs])); refine SL.v (ValO.len tabOk (by rfl)) ?_; refine SL.v (v := .int .i64 ((min n2 4096 : Nat) : Int)) (ValO.min .i64 _ _ rfl rfl _ (by split <;> omega)) ?_; refine SL.v (ValO.cutF (z := min n2 4096) tabOk rfl rfl (by first | rfl | (simp [bnd, evL]; done) | (simp [bnd, evL]; omega)) (by omega)) ?_; refine sEv ?_; refine SL.stP tabOk ?_ (v := .slice q2 (min n2 4096) c2) (hsz := by rw [pq_size hp2]; decide) (hA := pq_ps hp2 _); refine nlx ?_) | (refine rgn 4 ?_; refine SL.ldR tabOk ?_ (hn := pq_size hp3); refine SL.stA tabOk (pq_cells hp3) ?_ (hn := pq_size hp3) (hsz := pq_size p00_ok); refine nlx ?_) | (refine zsq ?_; intro _ _) | (with_reducible refine zkN ?_) | (refine useK (by assumption) ?_) | (with_reducible first | refine zsB ?_ | refine zkX ?_ | refine zkR ?_ | refine zbN ?_ | refine zbR ?_ | refine zbE ?_ | refine zbX ?_ | refine zsS ?_ | refine zsR ?_ | refine zsX ?_) | (refine cdT ?_) | (refine cdF ?_))
  exact doneK.mk rfl (ResO.cell tabOk rfl rfl rfl (RdA.own g0) (pq_size hp3)) rfl
end Sp
end
end Go.Proofs.Ytdjecenggngdjaa
