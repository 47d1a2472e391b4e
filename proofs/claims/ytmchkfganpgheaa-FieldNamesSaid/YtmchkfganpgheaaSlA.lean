/-
  More appends: onto a slice of one's own, room or none; an empty slice that is built.
-/
import Derived.Test.YtmchkfganpgheaaSl
namespace Go.Proofs.Ytmchkfganpgheaa
set_option linter.unusedSimpArgs false
set_option linter.unusedVariables false
open Go Go.RowKit
namespace Sp
open M
section
variable {P : Program} {ops : Array Oper} {rest : List Oper} {dst : Option Tmp} {ty : TypeId} {pos : String} {af : Array Edge} {l : List Value} {w0 : World} {mu : List Nat} {bs : Mem} {Q : ExitP} {tab : Tab}
theorem set_perm (p : Nat × Array Value × TypeId) : ∀ (L : Mem) (i : Nat), i < L.length → (L.set i p).Perm (p :: L.eraseIdx i)
  | [], i, h => absurd h (Nat.not_lt_zero i)
  | a :: L, 0, _ => by simp
  | a :: L, i + 1, h => by
    simp only [List.set_cons_succ, List.eraseIdx_cons_succ]
    exact ((set_perm p L i (by simpa using h)).cons a).trans (List.Perm.swap _ _ _)
theorem putAt_mid (B M J : List Int) (h : M.length ≤ J.length) : putAt (ints .u8 (B ++ J)) B.length (M.map (Value.int .u8)) = ints .u8 (B ++ M ++ J.drop M.length) := by
  apply Array.ext_getElem?
  intro j
  rw [putAt_get _ _ _ _ (by simp [ints_size]; omega)]
  simp only [ints, List.getElem?_toArray, List.getElem?_map, List.length_map]
  by_cases h1 : j < B.length
  · rw [if_neg (by omega), List.append_assoc, List.getElem?_append_left h1, List.getElem?_append_left h1]
  · by_cases h2 : j < B.length + M.length
    · rw [if_pos (by omega), List.append_assoc, List.getElem?_append_right (by omega), List.getElem?_append_left (by omega)]
    · rw [if_neg (by omega), List.append_assoc, List.getElem?_append_right (by omega), List.getElem?_append_right (by omega), List.getElem?_append_right (by omega), List.getElem?_drop]
      congr 2
      omega
/-- An empty slice that is built. -/
theorem SL.build0 (ht : TabOk P tab) {t e sz by_ : Nat}
    {l' : Nat → List Value} (h : ∀ b, SL P ops w0 mu rest Q (l' b) ((b, ints .u8 [], e) :: bs)) (hl : look tab t = some (.sl e 1 by_, sz) := by rfl)
    (hp : ∀ b, putL l dst (.slice (some ⟨b, 0, none⟩) 0 0) = l' b := by intro _; first | (dsimp only [putL, setNth]; done) | (dsimp only [putL, setNth]; rfl)) :
    SL P ops w0 mu (⟨dst, .buildSlice t 0 #[], ty, pos, af, none⟩ :: rest) Q l bs := by
  refine SL.eff (R := fun v bs' => ∃ b, v = .slice (some ⟨b, 0, none⟩) 0 0 ∧ bs' = (b, ints .u8 [], e) :: bs) (fun w hw => ?_) (by rintro v bs' ⟨b, rfl, rfl⟩; rw [hp]; exact h b)
  obtain ⟨hu, hsz, _⟩ := td_sl (look_ok ht hl)
  cases hq : P.info? e with
  | none => simp [hq] at hsz
  | some inf =>
    have hrun : (Instr.buildSlice t 0 #[]).run P w = .ok (.slice (some ⟨w.heap.size, 0, none⟩) 0 0) (w.alloc (.cells #[] e)) := by
      simp [Instr.buildSlice, run_underlying hu, sizeOf, typeInfo, hq, Instr.fill, newRow]
      congr 2
      exact Array.eq_empty_of_size_eq_zero (by simp)
    refine ⟨_, _, _, ?_, ⟨w.heap.size, rfl, rfl⟩, hw.alloc #[] e⟩
    unfold execOp
    simp only [Array.map_empty, List.map_toArray, List.map_nil, Sem.run_bind, hrun, Result.andThen_ok, Sem.run_pure]
theorem add_zero' (a : Addr) : a.add 0 = a := by
  cases a with
  | mk b o s => cases s <;> simp [Addr.add]
/-- A cut from the front: whatever the slice. -/
theorem ValO.cutF (ht : TabOk P tab) {gd : Option (Nat × Bool)} {t : TypeId} {x : Operand} {hi : Option Operand} {q : Option Addr} {n c e esz by_ sz z : Nat} (hx : evL l x = .slice q n c) (hl : look tab t = some (.sl e esz by_, sz))
    (hhi : bnd (hi.map (evL l)) n z) (hz : z ≤ c) : ValO P w0 mu bs l ⟨dst, .slice t x none hi none, ty, pos, af, gd⟩ (.slice q z c) := by
  obtain ⟨hu, hs, _⟩ := td_sl (look_ok ht hl)
  refine ⟨M.growAt_pure fun w => ?_⟩
  cases hq : P.info? e with
  | none => simp [hq] at hs
  | some inf =>
    have hs' : inf.size = esz := by simpa [hq] using hs
    have hb := run_bounds (P := P) w true n c 0 z none _ (by simp [bnd]) hhi (Nat.zero_le _) hz
    unfold execOp
    simp only [evL_eq, hx]
    cases q <;> simp [opt_eval, Instr.sliceAt, Instr.slice, Sem.run_bind, run_underlying hu, hb, sizeOf, typeInfo, hq, hs', add_zero']
/-- A slice of one byte that is built. -/
theorem SL.build1 (ht : TabOk P tab) {t e sz by_ : Nat} {x : Operand} {v : Int} (hz : (P.info? e).map (·.zero) = some (some (.int .u8 0)))
    {l' : Nat → List Value} (h : ∀ b, SL P ops w0 mu rest Q (l' b) ((b, ints .u8 [v], e) :: bs)) (hx : evL l x = .int .u8 v := by rfl) (hl : look tab t = some (.sl e 1 by_, sz) := by rfl)
    (hp : ∀ b, putL l dst (.slice (some ⟨b, 0, none⟩) 1 1) = l' b := by intro _; first | (dsimp only [putL, setNth]; done) | (dsimp only [putL, setNth]; rfl)) :
    SL P ops w0 mu (⟨dst, .buildSlice t 1 #[(0, x)], ty, pos, af, none⟩ :: rest) Q l bs := by
  obtain ⟨hu, hsz, _⟩ := td_sl (look_ok ht hl)
  cases hq : P.info? e with
  | none => simp [hq] at hsz
  | some inf =>
    have hs1 : inf.size = 1 := by simpa [hq] using hsz
    have hz1 : inf.zero = some (.int .u8 0) := by simpa [hq] using hz
    refine SL.buildSlice (vals := [(0, .int .u8 v)]) hu hq hz1 (by rw [hs1]; decide) (by rw [hs1]; decide) (by simp [hx]) ?_ hp h
    rw [hs1]
    kernel_rfl
/-- Bytes are appended to a slice of one's own: it lies at the head of a row, and what lies behind it there is nobody's. -/
theorem SL.appOwn (ht : TabOk P tab) {s x : Operand} {t tx e sz : Nat} {b n cap i m : Nat} {B J M : List Int} {T : TypeId} {xv : Value}
    (hi : bs[i]? = some (b, ints .u8 (B ++ J), T)) (hB : B.length = n) (hJ : n + J.length = cap) (hM : M.length = m) (hmax : n + m ≤ 140737488355328)
    (hsrc : ∀ w, OwnM w0 mu w bs → Src P 1 tx xv m (M.map (Value.int .u8)) w) {nm : Nat} {bs1 : Mem}
    {l' : Nat → Nat → List Value} (h : ∀ nb cap' J' T', nm + J'.length = cap' → SL P ops w0 mu rest Q (l' nb cap') ((nb, ints .u8 (B ++ M ++ J'), T') :: bs1))
    (hz : (P.info? e).map (·.zero) = some (some (.int .u8 0))) (hs : evL l s = .slice (some ⟨b, 0, none⟩) n cap := by rfl) (hx : evL l x = xv := by rfl)
    (hl : look tab t = some (.sl e 1 1, sz) := by rfl)
    (hnm : n + m = nm := by first | rfl | omega) (hbs : bs.eraseIdx i = bs1 := by first | (dsimp only [List.eraseIdx]; done) | (dsimp only [List.eraseIdx]; rfl))
    (hp : ∀ nb cap', putL l dst (.slice (some ⟨nb, 0, none⟩) nm cap') = l' nb cap' := by intro _ _; first | (dsimp only [putL, setNth]; done) | (dsimp only [putL, setNth]; rfl)) :
    SL P ops w0 mu (⟨dst, .call { callee := .builtin .append, args := #[s, x], argTypes := #[t, tx] }, ty, pos, af, none⟩ :: rest) Q l bs := by
  subst hB hM hnm hbs
  refine SL.eff (R := fun v bs' => ∃ nb cap' J' T', B.length + M.length + J'.length = cap' ∧ v = .slice (some ⟨nb, 0, none⟩) (B.length + M.length) cap' ∧ bs' = (nb, ints .u8 (B ++ M ++ J'), T') :: bs.eraseIdx i) (fun w hw => ?_) (by rintro v bs' ⟨nb, cap', J', T', hc, rfl, rfl⟩; rw [hp]; exact h nb cap' J' T' hc)
  obtain ⟨hu, hsz, hby⟩ := td_sl (look_ok ht hl)
  have hb := hw.block (List.mem_of_getElem? hi)
  have hlt : i < bs.length := (List.getElem?_eq_some_iff.1 hi).1
  cases hq : P.info? e with
  | none => simp [hq] at hsz
  | some inf =>
    have hs1 : inf.size = 1 := by simpa [hq] using hsz
    have hb1 : inf.bytes = 1 := by simpa [hq] using hby
    have hz1 : inf.zero = some (.int .u8 0) := by simpa [hq] using hz
    have hsr := hsrc w hw
    rw [← hs1] at hsr
    rw [run_call_append hs hx]
    rcases Nat.lt_or_ge cap (B.length + M.length) with hg | hroom
    · have hcap : Builtin.nextslicecap (B.length + M.length) cap * inf.bytes ≤ 281474976710656 := by
        have := nextslicecap_le hg
        rw [hb1]; omega
      have hold : (Builtin.firstCells inf.size B.length (.slice (some ⟨b, 0, none⟩) B.length cap)).run P w.drew = .ok (B.map (Value.int .u8)).toArray w.drew := by
        refine run_firstCells_some w.drew inf.size B.length ⟨b, 0, none⟩ B.length cap _ (by rw [hs1]; simp) (fun j u hu => ?_)
        have hj : j < B.length := by
          cases h : B[j]? with
          | none => simp [h] at hu
          | some x => exact (List.getElem?_eq_some_iff.1 h).1
        rw [add_off, cell_of_row w.drew b (0 + j) (ints .u8 (B ++ J)) T (0, 0) hb, ← hu]
        simp only [ints, List.getElem?_toArray, List.getElem?_map, Nat.zero_add]
        rw [List.getElem?_append_left hj]
      have hge := grownCap_ge w (B.length + M.length) cap e
      have hrun := run_append_grow_src (P := P) w t tx ty e inf _ hu hq hz1 (some ⟨b, 0, none⟩) B.length cap _ hold xv M.length _ hsr hg (by omega) hcap
      rw [hrun]
      simp only [Result.andThen_ok]
      refine ⟨_, _, _, rfl, ⟨w.heap.size, _, List.replicate (grownCap w (B.length + M.length) cap e - (B.length + M.length)) 0, e, by simp; omega, rfl, rfl⟩, ?_⟩
      have := (hw.drew 1).alloc (ints .u8 (B ++ M ++ List.replicate (grownCap w (B.length + M.length) cap e - (B.length + M.length)) 0)) e
      rw [zeroCells_int, ← List.map_append, show (List.map (Value.int .u8) (B ++ M)).toArray = ints .u8 (B ++ M) from rfl, ← ints_append]
      exact this.sub ((List.eraseIdx_sublist _ _).cons_cons _)
    · have hst := run_storeCells_row (P := P) (M.map (Value.int .u8)) (fun v hv => hsr.one v hv) 0 w b B.length (ints .u8 (B ++ J)) T hb (by simp [ints_size]; omega)
      have hst2 : (storeCells ((⟨b, 0, none⟩ : Addr).add (B.length * inf.size)) (M.map (Value.int .u8)) 0).run P w = .ok () (w.setRow b (ints .u8 (B ++ M ++ J.drop M.length))) := by
        rw [add_off, hs1, Nat.mul_one, Nat.zero_add, hst, Nat.add_zero, putAt_mid B M J (by omega)]
      have hrun : (Builtin.append_ #[t, tx] ty #[.slice (some ⟨b, 0, none⟩) B.length cap, xv]).run P w = .ok (.slice (some ⟨b, 0, none⟩) (B.length + M.length) cap) (w.setRow b (ints .u8 (B ++ M ++ J.drop M.length))) := by
        rcases hsr.kind with ⟨e', hk⟩ | hk <;> simp [Builtin.append_, run_underlying hu, run_underlying hk, sizeOf, typeInfo, hq, hsr.len, hroom, hsr.cells, hst2]
      rw [hrun]
      simp only [Result.andThen_ok]
      exact ⟨_, _, _, rfl, ⟨b, cap, J.drop M.length, T, by simp; omega, rfl, rfl⟩, (hw.setRow hi _).perm (set_perm _ _ _ hlt)⟩
/-- The memory in another order. -/
theorem SL.perm {bs' : Mem} (h : SL P ops w0 mu rest Q l bs') (hp : bs.Perm bs') : SL P ops w0 mu rest Q l bs := ⟨fun W Q' hw hA => h.run W Q' (hw.perm hp) hA⟩
theorem src_Sl {w : World} {tx e' : TypeId} (hk : P.underlying tx = some (.slice e')) {q : Option Addr} {m c : Nat} {M : List Int} (h : Sl w q m c M) : Src P 1 tx (.slice q m c) m (M.map (Value.int .u8)) w := by
  by_cases h0 : m = 0
  · subst h0
    obtain rfl : M = [] := List.eq_nil_of_length_eq_zero h.len
    cases q with
    | none => exact Src.ofNil w hk c
    | some a => exact Src.ofSlice w hk a 0 c [] (by simp) (fun j u hj => by simp at hj) (fun u hm => by cases hm)
  · obtain ⟨b, off, A, T, fz, rfl, hb, hA⟩ := h.at_ (by omega)
    have hlen := h.len
    refine Src.ofSlice w hk ⟨b, off, none⟩ m c _ (by simp [hlen]) (fun j u hu => ?_) (by simp [Value.oneCell'])
    rw [List.getElem?_map] at hu
    have hj : j < M.length := by
      cases h : M[j]? with
      | none => simp [h] at hu
      | some x => exact (List.getElem?_eq_some_iff.1 h).1
    have h1 := hA j hj
    rw [add_off, cell_of_row w b (off + j) A T fz hb, h1, ← hu]
    simp [gi, hj]
/-- A slice that appends have made: nothing yet, or bytes at the head of a row of one's own. -/
def AllO (v : Value) (X : List Int) (m : Mem) : Prop :=
  (X = [] ∧ v = .slice none 0 0 ∧ m = []) ∨ ∃ b cap J T, v = .slice (some ⟨b, 0, none⟩) X.length cap ∧ m = [(b, ints .u8 (X ++ J), T)] ∧ X.length + J.length = cap
theorem AllO.start : AllO (.slice none 0 0) [] [] := .inl ⟨rfl, rfl, rfl⟩
theorem AllO.sl {v : Value} {X : List Int} {m pre : Mem} (h : AllO v X m) {w : World} (hw : OwnM w0 mu w (pre ++ m)) : ∃ q c, v = .slice q X.length c ∧ Sl w q X.length c X := by
  rcases h with ⟨rfl, rfl, rfl⟩ | ⟨b, cap, J, T, rfl, rfl, hc⟩
  · exact ⟨none, 0, rfl, Sl.nil w none 0⟩
  · exact ⟨_, cap, rfl, Sl.of hw (.inl ⟨T, by simp⟩) (Lies.row X J) rfl (by omega)⟩
/-- Bytes are appended to it. -/
theorem SL.appAny (ht : TabOk P tab) {s x : Operand} {t tx e e' by' sz sz' : Nat} {av : Value} {X M : List Int} {abs pre : Mem} {q : Option Addr} {m c : Nat} (hS : AllO av X abs) (hM : Sl w0 q m c M) (hmax : X.length + m ≤ 140737488355328)
    {l' : Value → List Value} (h : ∀ av' abs', AllO av' (X ++ M) abs' → SL P ops w0 [] rest Q (l' av') (pre ++ abs')) (hz : (P.info? e).map (·.zero) = some (some (.int .u8 0)))
    (hs : evL l s = av := by rfl) (hx : evL l x = .slice q m c := by rfl) (hl : look tab t = some (.sl e 1 1, sz) := by rfl) (hl' : look tab tx = some (.sl e' 1 by', sz') := by rfl)
    (hbs : bs = pre ++ abs := by rfl) (hp : ∀ v, putL l dst v = l' v := by intro _; first | (dsimp only [putL, setNth]; done) | (dsimp only [putL, setNth]; rfl)) :
    SL P ops w0 [] (⟨dst, .call { callee := .builtin .append, args := #[s, x], argTypes := #[t, tx] }, ty, pos, af, none⟩ :: rest) Q l bs := by
  subst hbs
  have hlen := hM.len
  rcases hS with ⟨rfl, rfl, rfl⟩ | ⟨b, cap, J, T, rfl, rfl, hc⟩
  · by_cases h0 : m = 0
    · subst h0
      obtain rfl : M = [] := List.eq_nil_of_length_eq_zero hlen
      exact SL.app00 ht (h _ _ (.inl ⟨rfl, rfl, rfl⟩)) hs hx hl hl' (hp _)
    · obtain ⟨sb, off, A, T2, fz, rfl, hb, hL⟩ := hM.at_ (by omega)
      refine SL.app0 ht hL (by omega) (by omega) (l' := fun nb cap => l' (.slice (some ⟨nb, 0, none⟩) m cap)) (fun nb cap hcap => ?_) hz hlen hs hx hl hl' (RdA.old hb (by simp)) (fun _ _ => hp _)
      refine SL.perm (h _ _ (.inr ⟨nb, cap, List.replicate (cap - M.length) 0, e, ?_, rfl, ?_⟩)) ?_
      · rw [List.nil_append, hlen]
      · simp; omega
      · simpa using (List.perm_append_comm (l₁ := [(nb, ints .u8 (M ++ List.replicate (cap - M.length) 0), e)]) (l₂ := pre))
  · obtain ⟨hu', _, _⟩ := td_sl (look_ok ht hl')
    refine SL.appOwn ht (i := pre.length) (n := X.length) (cap := cap) (m := m) (B := X) (J := J) (M := M) (xv := .slice q m c) (nm := X.length + m) (l' := fun nb cap' => l' (.slice (some ⟨nb, 0, none⟩) (X.length + m) cap')) (bs1 := pre) (by rw [List.getElem?_append_right (Nat.le_refl _), Nat.sub_self]; rfl) rfl hc hlen hmax (fun w1 hw1 => src_Sl hu' (hM.old hw1.below)) (fun nb cap' J' T' hc' => ?_) hz hs hx hl rfl (by rw [List.eraseIdx_append_of_length_le (Nat.le_refl _), Nat.sub_self]; simp) (fun _ _ => hp _)
    refine SL.perm (h _ _ (.inr ⟨nb, cap', J', T', ?_, rfl, ?_⟩)) ?_
    · rw [List.length_append, hlen]
    · rw [List.length_append, hlen]; exact hc'
    · simpa using (List.perm_append_comm (l₁ := [(nb, ints .u8 (X ++ M ++ J'), T')]) (l₂ := pre))
end
end Sp
end Go.Proofs.Ytmchkfganpgheaa
