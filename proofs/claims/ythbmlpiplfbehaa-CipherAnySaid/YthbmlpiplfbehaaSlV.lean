/-
  Slices of one-cell values that appends make.
-/
import Derived.Test.YthbmlpiplfbehaaSlX
namespace Go.Proofs.Ythbmlpiplfbehaa
set_option linter.unusedSimpArgs false
set_option linter.unusedVariables false
open Go Go.RowKit
namespace Sp
open F M
/-- A slice of one-cell values that appends have made: nothing yet, or values at the head of a row of one's own. -/
def AllV (v : Value) (X : List Value) (m : Mem) : Prop :=
  (X = [] ∧ v = .slice none 0 0 ∧ m = []) ∨ ∃ b cap J T, v = .slice (some ⟨b, 0, none⟩) X.length cap ∧ m = [(b, (X ++ J).toArray, T)] ∧ X.length + J.length = cap
theorem AllV.start : AllV (.slice none 0 0) [] [] := .inl ⟨rfl, rfl, rfl⟩
theorem putAt_midV (B M J : List Value) (h : M.length ≤ J.length) : putAt (B ++ J).toArray B.length M = (B ++ M ++ J.drop M.length).toArray := by
  refine Array.ext_getElem? fun j => ?_
  rw [putAt_get _ _ _ _ (by simp; omega)]
  simp only [List.getElem?_toArray]
  by_cases h1 : j < B.length
  · rw [if_neg (by omega), List.append_assoc, List.getElem?_append_left h1, List.getElem?_append_left h1]
  · by_cases h2 : j < B.length + M.length
    · rw [if_pos (by omega), List.getElem?_append_left (by simp; omega), List.getElem?_append_right (by omega)]
    · rw [if_neg (by omega), List.getElem?_append_right (by omega), List.getElem?_append_right (by simp; omega), List.getElem?_drop]
      congr 1
      simp
      omega
section
variable {P : Program} {ops : Array Oper} {rest : List Oper} {dst : Option Tmp} {ty : TypeId} {pos : String} {af : Array Edge} {l : List Value} {w0 : World} {bs : Mem} {Q : ExitP} {tab : Tab}
/-- A value that lies in a built slice is appended. -/
theorem SL.appV (ht : TabOk P tab) {s x : Operand} {t tx e e' by0 by' sz sz' : Nat} {av xv z : Value} {X : List Value} {abs pre : Mem} {nb c : Nat} {A : Array Value} (hS : AllV av X abs) (hr : RdA w0 [] (pre ++ abs) nb A) (hA : A[0]? = some xv) (h1 : xv.oneCell' = true) (hmax : X.length ≤ 1000) (hby : by0 ≤ 1000) (hz : (P.info? e).map (·.zero) = some (some z)) (hz1 : z.cells.size = 1)
    {l' : Value → List Value} (h : ∀ av' abs', AllV av' (X ++ [xv]) abs' → SL P ops w0 [] rest Q (l' av') (pre ++ abs'))
    (hs : evL l s = av := by rfl) (hx : evL l x = .slice (some ⟨nb, 0, none⟩) 1 c := by rfl) (hl : look tab t = some (.sl e 1 by0, sz) := by rfl) (hl' : look tab tx = some (.sl e' 1 by', sz') := by rfl)
    (hbs : bs = pre ++ abs := by rfl) (hp : ∀ v, putL l dst v = l' v := by intro _; first | (dsimp only [putL, setNth]; done) | (dsimp only [putL, setNth]; rfl)) :
    SL P ops w0 [] (⟨dst, .call { callee := .builtin .append, args := #[s, x], argTypes := #[t, tx] }, ty, pos, af, none⟩ :: rest) Q l bs := by
  subst hbs
  refine SL.eff (R := fun v bs' => ∃ abs', AllV v (X ++ [xv]) abs' ∧ bs' = pre ++ abs') (fun w hw => ?_) (by rintro v bs' ⟨abs', ha, rfl⟩; rw [hp]; exact h v abs' ha)
  obtain ⟨hu, hsz, hbyt⟩ := td_sl (look_ok ht hl)
  obtain ⟨hu', _, _⟩ := td_sl (look_ok ht hl')
  obtain ⟨T1, fz1, hb1⟩ := hr.get hw
  cases hq : P.info? e with
  | none => simp [hq] at hsz
  | some inf =>
    have hs1 : inf.size = 1 := by simpa [hq] using hsz
    have hbt : inf.bytes = by0 := by simpa [hq] using hbyt
    have hz' : inf.zero = some z := by simpa [hq] using hz
    have hsr : Src P inf.size tx (.slice (some ⟨nb, 0, none⟩) 1 c) 1 [xv] w := by
      rw [hs1]
      refine Src.ofSlice w hu' ⟨nb, 0, none⟩ 1 c _ rfl (fun j u hj => ?_) (by simpa using h1)
      have hj0 : j = 0 := by
        cases j with
        | zero => rfl
        | succ j => simp at hj
      subst hj0
      rw [add_off, cell_of_row w nb (0 + 0) A T1 fz1 hb1]
      simpa [hA] using hj
    rw [run_call_append hs hx]
    have hgrow : ∀ (base : Option Addr) (n cap : Nat), n = X.length → av = .slice base n cap → cap < n + 1 → (Builtin.firstCells inf.size n (.slice base n cap)).run P w.drew = .ok X.toArray w.drew →
        ∃ v w' bs', (Builtin.append_ #[t, tx] ty #[av, .slice (some ⟨nb, 0, none⟩) 1 c]).run P w = .ok v w' ∧ (∃ abs', AllV v (X ++ [xv]) abs' ∧ bs' = pre ++ abs') ∧ OwnM w0 [] w' bs' := by
      intro base n cap hn hav hg hold
      have hcap : Builtin.nextslicecap (n + 1) cap * inf.bytes ≤ 281474976710656 := by
        have h2 := nextslicecap_le hg
        rw [hbt]
        have : Builtin.nextslicecap (n + 1) cap * by0 ≤ 2 * (n + 1) * 1000 := Nat.mul_le_mul h2 hby
        omega
      have hge := grownCap_ge w (n + 1) cap e
      have hrun := run_append_grow_src (P := P) w t tx ty e inf z hu hq hz' base n cap X hold (.slice (some ⟨nb, 0, none⟩) 1 c) 1 [xv] hsr hg (by omega) hcap
      subst hav
      rw [hrun]
      generalize hk : grownCap w (n + 1) cap e - (n + 1) = k at *
      refine ⟨_, _, _, rfl, ⟨[(w.heap.size, (X ++ [xv] ++ (Builtin.zeroCells z.cells k).toList).toArray, e)], .inr ⟨w.heap.size, grownCap w (n + 1) cap e, (Builtin.zeroCells z.cells k).toList, e, ?_, rfl, ?_⟩, rfl⟩, ?_⟩
      · rw [List.length_append, ← hn]; rfl
      · have := size_zeroCells z.cells k
        simp only [List.length_append, List.length_cons, List.length_nil, Array.length_toList, this, hz1, ← hn]
        omega
      · have h3 := (hw.sub (List.sublist_append_left pre _)).drew 1
        have h4 := h3.alloc ((X ++ [xv]).toArray ++ Builtin.zeroCells z.cells k) e
        have e5 : (X ++ [xv]).toArray ++ Builtin.zeroCells z.cells k = (X ++ [xv] ++ (Builtin.zeroCells z.cells k).toList).toArray := by apply Array.ext'; simp
        rw [e5] at h4
        rw [e5]
        exact h4.perm (by simpa using (List.perm_append_comm (l₁ := [(w.heap.size, (X ++ [xv] ++ (Builtin.zeroCells z.cells k).toList).toArray, e)]) (l₂ := pre)))
    rcases hS with ⟨rfl, rfl, rfl⟩ | ⟨b, cap, J, T, rfl, rfl, hc⟩
    · obtain ⟨v, w', bs', e1, e2, e3⟩ := hgrow none 0 0 rfl rfl (by decide) (run_firstCells_none w.drew _ 0 0 0)
      rw [e1]
      exact ⟨v, w', bs', rfl, e2, e3⟩
    · have hi : (pre ++ [(b, (X ++ J).toArray, T)])[pre.length]? = some (b, (X ++ J).toArray, T) := by rw [List.getElem?_append_right (Nat.le_refl _), Nat.sub_self]; rfl
      have hb := hw.block (List.mem_of_getElem? hi)
      rcases Nat.lt_or_ge cap (X.length + 1) with hg | hroom
      · obtain ⟨v, w', bs', e1, e2, e3⟩ := hgrow (some ⟨b, 0, none⟩) X.length cap rfl rfl hg (run_firstCells_some w.drew inf.size X.length ⟨b, 0, none⟩ X.length cap _ (by rw [hs1]; simp) (fun j u hj => by
          have hjl := (List.getElem?_eq_some_iff.1 hj).1
          rw [add_off, cell_of_row w.drew b (0 + j) (X ++ J).toArray T (0, 0) hb, Nat.zero_add, List.getElem?_toArray, List.getElem?_append_left hjl]
          exact hj))
        rw [e1]
        exact ⟨v, w', bs', rfl, e2, e3⟩
      · have hst := run_storeCells_row (P := P) [xv] (fun v hv => hsr.one v hv) 0 w b X.length (X ++ J).toArray T hb (by simp; omega)
        have hst2 : (storeCells ((⟨b, 0, none⟩ : Addr).add (X.length * inf.size)) [xv] 0).run P w = .ok () (w.setRow b (X ++ [xv] ++ J.drop 1).toArray) := by
          rw [add_off, hs1, Nat.mul_one, Nat.zero_add, hst, Nat.add_zero, putAt_midV X [xv] J (by simp; omega)]
          rfl
        have hrun : (Builtin.append_ #[t, tx] ty #[.slice (some ⟨b, 0, none⟩) X.length cap, .slice (some ⟨nb, 0, none⟩) 1 c]).run P w = .ok (.slice (some ⟨b, 0, none⟩) (X.length + 1) cap) (w.setRow b (X ++ [xv] ++ J.drop 1).toArray) := by
          rcases hsr.kind with ⟨e2, hk⟩ | hk <;> simp [Builtin.append_, run_underlying hu, run_underlying hk, sizeOf, typeInfo, hq, hsr.len, hroom, hsr.cells, hst2]
        rw [hrun]
        simp only [Result.andThen_ok]
        refine ⟨_, _, _, rfl, ⟨[(b, (X ++ [xv] ++ J.drop 1).toArray, T)], .inr ⟨b, cap, J.drop 1, T, by simp, rfl, by simp; omega⟩, rfl⟩, ?_⟩
        have := hw.setRow hi (X ++ [xv] ++ J.drop 1).toArray
        rwa [List.set_append_right _ _ (Nat.le_refl _), Nat.sub_self] at this
/-- A slice of one slice that is built. -/
theorem SL.buildV (ht : TabOk P tab) {mu : List Nat} {t e sz by_ : Nat} {x : Operand} {q : Option Addr} {n c : Nat} (hz : (P.info? e).map (·.zero) = some (some (.slice none 0 0)))
    {l' : Nat → List Value} (h : ∀ b, SL P ops w0 mu rest Q (l' b) ((b, #[.slice q n c], e) :: bs)) (hx : evL l x = .slice q n c := by rfl) (hl : look tab t = some (.sl e 1 by_, sz) := by rfl)
    (hp : ∀ b, putL l dst (.slice (some ⟨b, 0, none⟩) 1 1) = l' b := by intro _; first | (dsimp only [putL, setNth]; done) | (dsimp only [putL, setNth]; rfl)) :
    SL P ops w0 mu (⟨dst, .buildSlice t 1 #[(0, x)], ty, pos, af, none⟩ :: rest) Q l bs := by
  obtain ⟨hu, hsz, _⟩ := td_sl (look_ok ht hl)
  cases hq : P.info? e with
  | none => simp [hq] at hsz
  | some inf =>
    have hs1 : inf.size = 1 := by simpa [hq] using hsz
    have hz1 : inf.zero = some (.slice none 0 0) := by simpa [hq] using hz
    refine SL.buildSlice (vals := [(0, .slice q n c)]) hu hq hz1 (by rw [hs1]; decide) (by rw [hs1]; decide) (by simp [hx]) ?_ hp h
    rw [hs1]
    kernel_rfl
end
end Sp
end Go.Proofs.Ythbmlpiplfbehaa
