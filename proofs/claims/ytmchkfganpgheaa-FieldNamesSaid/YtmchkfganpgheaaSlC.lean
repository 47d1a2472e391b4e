/-
  Slices of values of several cells that appends make.
-/
import Derived.Test.YtmchkfganpgheaaSlA
namespace Go.Proofs.Ytmchkfganpgheaa
set_option linter.unusedSimpArgs false
set_option linter.unusedVariables false
open Go Go.RowKit
namespace Sp
open F M
/-- A slice of n values of s cells each that appends have made: nothing yet, or the cells X at the head of a row of one's own. -/
def AllC (s : Nat) (v : Value) (n : Nat) (X : List Value) (m : Mem) : Prop :=
  (n = 0 ∧ X = [] ∧ v = .slice none 0 0 ∧ m = []) ∨ ∃ b cap J T, v = .slice (some ⟨b, 0, none⟩) n cap ∧ m = [(b, (X ++ J).toArray, T)] ∧ X.length = n * s ∧ X.length + J.length = cap * s
theorem AllC.start (s : Nat) : AllC s (.slice none 0 0) 0 [] [] := .inl ⟨rfl, rfl, rfl, rfl⟩
theorem AllC.len {s n : Nat} {v : Value} {X : List Value} {m : Mem} (h : AllC s v n X m) : X.length = n * s := by
  rcases h with ⟨rfl, rfl, _, _⟩ | ⟨b, cap, J, T, _, _, h, _⟩
  · simp
  · exact h
theorem putAt_midC (B M J : List Value) (h : M.length ≤ J.length) : putAt (B ++ J).toArray B.length M = (B ++ M ++ J.drop M.length).toArray := by
  refine Array.ext_getElem? fun j => ?_
  rw [putAt_get _ _ _ _ (by simp; omega)]
  simp only [List.getElem?_toArray]
  by_cases h1 : j < B.length
  · rw [if_neg (by omega), List.append_assoc, List.getElem?_append_left h1, List.getElem?_append_left h1]
  · by_cases h2 : j < B.length + M.length
    · rw [if_pos (by omega), List.getElem?_append_left (by simp; omega), List.getElem?_append_right (by omega)]
    · rw [if_neg (by omega), List.getElem?_append_right (by omega), List.getElem?_append_right (by simp; omega), List.getElem?_drop]
      congr 1
      simp
      omega
section
variable {P : Program} {ops : Array Oper} {rest : List Oper} {dst : Option Tmp} {ty : TypeId} {pos : String} {af : Array Edge} {l : List Value} {w0 : World} {bs : Mem} {Q : ExitP} {tab : Tab}
/-- Values that lie at the head of a row are appended. -/
theorem SL.appC (ht : TabOk P tab) {s x : Operand} {t tx e e' es by0 by' sz sz' n k : Nat} {av z : Value} {X M : List Value} {abs pre : Mem} {nb c : Nat} {A : Array Value} (hS : AllC es av n X abs) (hr : RdA w0 [] (pre ++ abs) nb A) (hA : ∀ j, j < M.length → A[j]? = M[j]?) (hM : M.length = k * es) (h1 : ∀ u ∈ M, u.oneCell' = true) (hmax : n + k ≤ 1000) (hby : by0 ≤ 1000) (hz : (P.info? e).map (·.zero) = some (some z)) (hzs : z.cells.size = es)
    {l' : Value → List Value} (h : ∀ av' abs', AllC es av' (n + k) (X ++ M) abs' → SL P ops w0 [] rest Q (l' av') (pre ++ abs'))
    (hs : evL l s = av := by rfl) (hx : evL l x = .slice (some ⟨nb, 0, none⟩) k c := by rfl) (hl : look tab t = some (.sl e es by0, sz) := by rfl) (hl' : look tab tx = some (.sl e' es by', sz') := by rfl)
    (hbs : bs = pre ++ abs := by rfl) (hp : ∀ v, putL l dst v = l' v := by intro _; first | (dsimp only [putL, setNth]; done) | (dsimp only [putL, setNth]; rfl)) :
    SL P ops w0 [] (⟨dst, .call { callee := .builtin .append, args := #[s, x], argTypes := #[t, tx] }, ty, pos, af, none⟩ :: rest) Q l bs := by
  subst hbs
  refine SL.eff (R := fun v bs' => ∃ abs', AllC es v (n + k) (X ++ M) abs' ∧ bs' = pre ++ abs') (fun w hw => ?_) (by rintro v bs' ⟨abs', ha, rfl⟩; rw [hp]; exact h v abs' ha)
  obtain ⟨hu, hsz, hbyt⟩ := td_sl (look_ok ht hl)
  obtain ⟨hu', _, _⟩ := td_sl (look_ok ht hl')
  obtain ⟨T1, fz1, hb1⟩ := hr.get hw
  cases hq : P.info? e with
  | none => simp [hq] at hsz
  | some inf =>
    have hs1 : inf.size = es := by simpa [hq] using hsz
    have hbt : inf.bytes = by0 := by simpa [hq] using hbyt
    have hz' : inf.zero = some z := by simpa [hq] using hz
    have hsr : Src P inf.size tx (.slice (some ⟨nb, 0, none⟩) k c) k M w := by
      rw [hs1]
      refine Src.ofSlice w hu' ⟨nb, 0, none⟩ k c _ hM (fun j u hj => ?_) h1
      rw [add_off, cell_of_row w nb (0 + j) A T1 fz1 hb1, Nat.zero_add, hA j (List.getElem?_eq_some_iff.1 hj).1]
      exact hj
    rw [run_call_append hs hx]
    have hgrow : ∀ (base : Option Addr) (cap : Nat), av = .slice base n cap → X.length = n * es → cap < n + k → (Builtin.firstCells inf.size n (.slice base n cap)).run P w.drew = .ok X.toArray w.drew →
        ∃ v w' bs', (Builtin.append_ #[t, tx] ty #[av, .slice (some ⟨nb, 0, none⟩) k c]).run P w = .ok v w' ∧ (∃ abs', AllC es v (n + k) (X ++ M) abs' ∧ bs' = pre ++ abs') ∧ OwnM w0 [] w' bs' := by
      intro base cap hav hXl hg hold
      have hcap : Builtin.nextslicecap (n + k) cap * inf.bytes ≤ 281474976710656 := by
        have h2 := nextslicecap_le hg
        rw [hbt]
        have : Builtin.nextslicecap (n + k) cap * by0 ≤ 2 * (n + k) * 1000 := Nat.mul_le_mul h2 hby
        omega
      have hge := grownCap_ge w (n + k) cap e
      have hrun := run_append_grow_src (P := P) w t tx ty e inf z hu hq hz' base n cap X hold (.slice (some ⟨nb, 0, none⟩) k c) k M hsr hg (by omega) hcap
      subst hav
      rw [hrun]
      have hXM : (X ++ M).length = (n + k) * es := by rw [List.length_append, hXl, hM, Nat.add_mul]
      generalize hk : grownCap w (n + k) cap e - (n + k) = q at *
      have hq2 : grownCap w (n + k) cap e = n + k + q := by omega
      refine ⟨_, _, _, rfl, ⟨[(w.heap.size, (X ++ M ++ (Builtin.zeroCells z.cells q).toList).toArray, e)], .inr ⟨w.heap.size, grownCap w (n + k) cap e, (Builtin.zeroCells z.cells q).toList, e, rfl, rfl, hXM, ?_⟩, rfl⟩, ?_⟩
      · have := size_zeroCells z.cells q
        rw [hXM, Array.length_toList, this, hzs, hq2, ← Nat.add_mul]
      · have h3 := (hw.sub (List.sublist_append_left pre _)).drew 1
        have h4 := h3.alloc ((X ++ M).toArray ++ Builtin.zeroCells z.cells q) e
        have e5 : (X ++ M).toArray ++ Builtin.zeroCells z.cells q = (X ++ M ++ (Builtin.zeroCells z.cells q).toList).toArray := by apply Array.ext'; simp
        rw [e5] at h4
        rw [e5]
        exact h4.perm (by simpa using (List.perm_append_comm (l₁ := [(w.heap.size, (X ++ M ++ (Builtin.zeroCells z.cells q).toList).toArray, e)]) (l₂ := pre)))
    rcases hS with ⟨rfl, rfl, rfl, rfl⟩ | ⟨b, cap, J, T, rfl, rfl, hXl, hc⟩
    · by_cases hk0 : 0 < 0 + k
      · obtain ⟨v, w', bs', e1, e2, e3⟩ := hgrow none 0 rfl (by simp) hk0 (run_firstCells_none w.drew _ 0 0 0)
        rw [e1]
        exact ⟨v, w', bs', rfl, e2, e3⟩
      · obtain rfl : k = 0 := by omega
        obtain rfl : M = [] := List.eq_nil_of_length_eq_zero (by rw [hM, Nat.zero_mul])
        have hrun : (Builtin.append_ #[t, tx] ty #[.slice none 0 0, .slice (some ⟨nb, 0, none⟩) 0 c]).run P w = .ok (.slice none 0 0) w := by
          rcases hsr.kind with ⟨e2, hk⟩ | hk <;> simp [Builtin.append_, run_underlying hu, run_underlying hk, sizeOf, typeInfo, hq, hsr.len, hsr.cells, storeCells]
        rw [hrun]
        exact ⟨_, _, _, rfl, ⟨[], .inl ⟨rfl, rfl, rfl, rfl⟩, rfl⟩, by simpa using hw⟩
    · have hi : (pre ++ [(b, (X ++ J).toArray, T)])[pre.length]? = some (b, (X ++ J).toArray, T) := by rw [List.getElem?_append_right (Nat.le_refl _), Nat.sub_self]; rfl
      have hb := hw.block (List.mem_of_getElem? hi)
      rcases Nat.lt_or_ge cap (n + k) with hg | hroom
      · obtain ⟨v, w', bs', e1, e2, e3⟩ := hgrow (some ⟨b, 0, none⟩) cap rfl hXl hg (run_firstCells_some w.drew inf.size n ⟨b, 0, none⟩ n cap _ (by rw [hs1]; exact hXl) (fun j u hj => by
          have hjl := (List.getElem?_eq_some_iff.1 hj).1
          rw [add_off, cell_of_row w.drew b (0 + j) (X ++ J).toArray T (0, 0) hb, Nat.zero_add, List.getElem?_toArray, List.getElem?_append_left hjl]
          exact hj))
        rw [e1]
        exact ⟨v, w', bs', rfl, e2, e3⟩
      · have hJ : M.length ≤ J.length := by
          have : (n + k) * es ≤ cap * es := Nat.mul_le_mul_right _ hroom
          rw [Nat.add_mul] at this
          omega
        have hst := run_storeCells_row (P := P) M (fun v hv => hsr.one v hv) 0 w b X.length (X ++ J).toArray T hb (by simp; omega)
        have hst2 : (storeCells ((⟨b, 0, none⟩ : Addr).add (n * inf.size)) M 0).run P w = .ok () (w.setRow b (X ++ M ++ J.drop M.length).toArray) := by
          rw [add_off, hs1, Nat.zero_add, ← hXl, hst, Nat.add_zero, putAt_midC X M J hJ]
        have hrun : (Builtin.append_ #[t, tx] ty #[.slice (some ⟨b, 0, none⟩) n cap, .slice (some ⟨nb, 0, none⟩) k c]).run P w = .ok (.slice (some ⟨b, 0, none⟩) (n + k) cap) (w.setRow b (X ++ M ++ J.drop M.length).toArray) := by
          rcases hsr.kind with ⟨e2, hk⟩ | hk <;> simp [Builtin.append_, run_underlying hu, run_underlying hk, sizeOf, typeInfo, hq, hsr.len, hroom, hsr.cells, hst2]
        rw [hrun]
        simp only [Result.andThen_ok]
        refine ⟨_, _, _, rfl, ⟨[(b, (X ++ M ++ J.drop M.length).toArray, T)], .inr ⟨b, cap, J.drop M.length, T, rfl, rfl, by rw [List.length_append, hXl, hM, Nat.add_mul], by simp only [List.length_append, List.length_drop]; omega⟩, rfl⟩, ?_⟩
        have := hw.setRow hi (X ++ M ++ J.drop M.length).toArray
        rwa [List.set_append_right _ _ (Nat.le_refl _), Nat.sub_self] at this
end
end Sp
end Go.Proofs.Ytmchkfganpgheaa
