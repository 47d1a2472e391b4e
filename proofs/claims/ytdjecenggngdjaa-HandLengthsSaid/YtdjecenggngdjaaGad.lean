/-
  Joined texts: Any, Tac. No conditions.
-/
import Derived.Test.YtdjecenggngdjaaGac
namespace Go.Proofs.Ytdjecenggngdjaa
set_option linter.unusedSimpArgs false
set_option linter.unusedVariables false
set_option maxHeartbeats 16000000
section
open Go Go.RowKit
namespace F
open M Sp
section
variable {P : Program} {ops : Array Oper} {md : Region.Mode} {w0 : World} {mu : List Nat} {E D : List Nat} {keep : Mem}
def Kept (keep m : Mem) : Prop := ∀ p ∈ keep, p ∈ m
theorem Kept.more {keep m : Mem} {p : Nat × Array Value × TypeId} (h : Kept keep m) : Kept keep (p :: m) := fun q hq => List.mem_cons_of_mem _ (h q hq)
theorem Kept.perm {keep m m' : Mem} (h : Kept keep m) (hp : m.Perm m') : Kept keep m' := fun q hq => hp.mem_iff.1 (h q hq)
def effUpon (P : Program) (w0 : World) (mu : List Nat) (R : Value → Mem → Prop) : Result Next → Prop
  | .ok (.value u) w' => ∃ m', R u m' ∧ OwnM w0 mu w' m'
  | .ok .skip w' => ∃ m', R undef m' ∧ OwnM w0 mu w' m'
  | .ok (.enter f args) w' => Calls P f args w' fun e w'' => ∃ v m', e = .returned v ∧ R v m' ∧ OwnM w0 mu w'' m'
  | _ => False
def effAt (P : Program) (w0 : World) (mu : List Nat) (m : Mem) (o : Oper) (a : Act) (R : Value → Mem → Prop) : Prop := ∀ w, OwnM w0 mu w m → effUpon P w0 mu R ((execOp a.eval o).run P w)
def pureAt (P : Program) (o : Oper) (a : Act) (v : Value) : Prop := ∀ w, (execOp a.eval o).run P w = .ok (.value v) w
def mOp (P : Program) (ops : Array Oper) (w0 : World) (mu : List Nat) (E : List Nat) (keep : Mem) (i : Nat) (K : Act → Mem → Prop) (a : Act) (m : Mem) : Prop :=
  match ops[i]? with
  | none => False
  | some o =>
    match freshM o.op with
    | some T => o.guard = none ∧ ∃ A, (P.info? T).map (·.zero) = some (some (.agg A)) ∧ ∀ b, K (a.put o.dst (.pointer (some ⟨b, 0, none⟩))) ((b, A, T) :: m)
    | none => if Region.wanted o (yielded ops a.tmps) then
        if E.contains i then ∃ R, effAt P w0 mu m o a R ∧ ∀ v m', R v m' → Kept keep m' ∧ K (a.put o.dst v) m'
        else ∃ v, growAtM P w0 mu m o a v ∧ K (a.put o.dst v) m
      else K (a.put o.dst undef) m
theorem mOp_mono {i : Nat} {K K' : Act → Mem → Prop} {a : Act} {m : Mem} (h : ∀ a m, K a m → K' a m) (hh : mOp P ops w0 mu E keep i K a m) : mOp P ops w0 mu E keep i K' a m := by
  unfold mOp at *
  split
  · rename_i ho; simp only [ho] at hh
  · rename_i o ho
    simp only [ho] at hh
    split
    · rename_i T hT
      simp only [hT] at hh
      obtain ⟨hg, A, hz, hk⟩ := hh
      exact ⟨hg, A, hz, fun b => h _ _ (hk b)⟩
    · rename_i hT
      simp only [hT] at hh
      split
      · rename_i hw
        simp only [hw, if_true] at hh
        split
        · rename_i hE
          rw [if_pos hE] at hh
          obtain ⟨R, hr, hk⟩ := hh
          exact ⟨R, hr, fun v m' hR => ⟨(hk v m' hR).1, h _ _ (hk v m' hR).2⟩⟩
        · rename_i hE
          rw [if_neg hE] at hh
          obtain ⟨v, hv, hk⟩ := hh
          exact ⟨v, hv, h _ _ hk⟩
      · rename_i hw
        simp only [hw] at hh
        exact h _ _ hh
theorem wpOp_of_mOp {i : Nat} {a : Act} {m : Mem} {w : World} {K : Act → Mem → Prop} {K' : Act → World → Prop} {Q' : Exit → Act → World → Prop}
    (hw : OwnM w0 mu w m) (hK : ∀ a' m' w', OwnM w0 mu w' m' → K a' m' → K' a' w') (h : mOp P ops w0 mu E keep i K a m) : wpOp P ops Q' i K' a w := by
  unfold mOp at h
  unfold wpOp
  split
  · rename_i ho; simp only [ho] at h
  · rename_i o ho
    simp only [ho] at h
    split at h
    · rename_i T hT
      obtain ⟨hg, A, hz, hk⟩ := h
      have hop : o.op = .alloc T := by
        cases hop : o.op <;> simp [hop, freshM] at hT
        rw [hT]
      rw [if_pos (by simp [Region.wanted, hg])]
      refine .inl ?_
      cases hq : P.info? T with
      | none => simp [hq] at hz
      | some inf =>
        have hz' : inf.zero = some (.agg A) := by simpa [hq] using hz
        have hzv : (zeroValue T).run P w = .ok (.agg A) w := by simp [zeroValue, typeInfo, hq, hz']
        unfold Oper.wp execOp
        simp only [hop, Instr.alloc, newVar, newRow, newObj, Sem.run_bind, Sem.run_pure, Result.andThen_ok, hzv]
        exact hK _ _ _ (hw.alloc A T) (hk _)
    · split
      · rename_i hwant
        simp only [hwant, if_true] at h
        refine .inl ?_
        split at h
        · obtain ⟨R, hr, hk⟩ := h
          have h3 := hr w hw
          unfold Oper.wp
          generalize (execOp a.eval o).run P w = r at h3
          cases r with
          | ok nx w' =>
            cases nx
            case value u =>
              obtain ⟨m', hR, hw'⟩ := h3
              exact hK _ _ _ hw' (hk _ _ hR).2
            case skip =>
              obtain ⟨m', hR, hw'⟩ := h3
              exact hK _ _ _ hw' (hk _ _ hR).2
            case enter f args =>
              exact Calls.mono h3 fun e w'' ⟨v, m', he, hR, hw'⟩ => by subst he; exact hK _ _ _ hw' (hk _ _ hR).2
            all_goals exact absurd h3 (by simp [effUpon])
          | halt x w' => exact absurd h3 (by simp [effUpon])
        · obtain ⟨v, hv, hk⟩ := h
          have h3 := hv w hw
          unfold Oper.wp
          generalize (execOp a.eval o).run P w = r at h3
          cases r with
          | ok nx w' =>
            cases nx <;> simp only [M.growUpon] at h3 <;> simp only [Oper.upon]
            case value u =>
              obtain ⟨e1, e2⟩ := h3
              rw [e1, e2]
              exact hK _ _ _ hw hk
            case skip =>
              obtain ⟨e1, e2⟩ := h3
              rw [e1, ← e2]
              exact hK _ _ _ hw hk
            case enter f args =>
              obtain ⟨e1, hc⟩ := h3
              rw [e1]
              exact hc.mono fun e w'' ⟨he, hw''⟩ => by subst he; exact hK _ _ _ (hw.grow hw'') hk
            case row row args =>
              obtain ⟨e1, hc⟩ := h3
              rw [e1]
              exact hc.mono fun u w'' ⟨he, hw''⟩ => by subst he; exact hK _ _ _ (hw.grow hw'') hk
          | halt x w' => simp only [M.growUpon] at h3
      · rename_i hwant
        simp only [hwant] at h
        exact hK _ _ _ hw h
def wpAnyF (P : Program) (md : Region.Mode) (ops : Array Oper) (w0 : World) (mu : List Nat) (E : List Nat) (keep : Mem) (L : Act → Mem → Prop) : Nat → Array Bool → Act → Mem → Prop
  | 0, listed, a, m => Region.ready md ops listed = [] ∧ L a m
  | f + 1, listed, a, m => (Region.ready md ops listed = [] → L a m) ∧ ∀ i ∈ Region.ready md ops listed, mOp P ops w0 mu E keep i (wpAnyF P md ops w0 mu E keep L f (listed.setIfInBounds i true)) a m
theorem wpAny_of_F {L : Act → Mem → Prop} {Q' : Exit → Act → World → Prop} (hL : ∀ a m w, OwnM w0 mu w m → L a m → Q' .normal a w) :
    ∀ (f : Nat) (listed : Array Bool) (a : Act) (m : Mem) (w : World), OwnM w0 mu w m → wpAnyF P md ops w0 mu E keep L f listed a m → wpAny P md ops Q' f listed a w
  | 0, _, _, _, _, hw, h => ⟨h.1, hL _ _ _ hw h.2⟩
  | f + 1, _, _, _, _, hw, h => ⟨fun h0 => hL _ _ _ hw (h.1 h0), fun i hi => wpOp_of_mOp hw (fun a' m' w' hw' h' => wpAny_of_F hL f _ a' m' w' hw' h') (h.2 i hi)⟩
theorem mOp_perm {i : Nat} {K : Act → Mem → Prop} (hK : ∀ a m m', m.Perm m' → K a m → K a m') {a : Act} {m m' : Mem} (hp : m.Perm m') (h : mOp P ops w0 mu E keep i K a m) : mOp P ops w0 mu E keep i K a m' := by
  unfold mOp at *
  split
  · rename_i ho; simp only [ho] at h
  · rename_i o ho
    simp only [ho] at h
    split
    · rename_i T hT
      simp only [hT] at h
      obtain ⟨hg, A, hz, hk⟩ := h
      exact ⟨hg, A, hz, fun b => hK _ _ _ (hp.cons _) (hk b)⟩
    · rename_i hT
      simp only [hT] at h
      split
      · rename_i hw
        simp only [hw, if_true] at h
        split
        · rename_i hE
          rw [if_pos hE] at h
          obtain ⟨R, hr, hk⟩ := h
          exact ⟨R, fun w hw' => hr w (hw'.perm hp.symm), hk⟩
        · rename_i hE
          rw [if_neg hE] at h
          obtain ⟨v, hv, hk⟩ := h
          exact ⟨v, fun w hw' => hv w (hw'.perm hp.symm), hK _ _ _ hp hk⟩
      · rename_i hw
        simp only [hw] at h
        exact hK _ _ _ hp h
theorem wpAnyF_perm {L : Act → Mem → Prop} (hL : ∀ a m m', m.Perm m' → L a m → L a m') :
    ∀ (f : Nat) (listed : Array Bool) (a : Act) (m m' : Mem), m.Perm m' → wpAnyF P md ops w0 mu E keep L f listed a m → wpAnyF P md ops w0 mu E keep L f listed a m'
  | 0, _, _, _, _, hp, h => ⟨h.1, hL _ _ _ hp h.2⟩
  | f + 1, _, _, _, _, hp, h => ⟨fun h0 => hL _ _ _ hp (h.1 h0), fun i hi => mOp_perm (fun a m m' hp' => wpAnyF_perm hL f _ a m m' hp') hp (h.2 i hi)⟩
def YieldK (P : Program) (w0 : World) (mu : List Nat) (keep : Mem) (o : Oper) (v : Value) (a : Act) (m : Mem) : Nat → Prop
  | 1 => pureAt P o a v
  | 2 => ∀ m', Kept keep m' → growAtM P w0 mu m' o a v
  | _ => growAtM P w0 mu m o a v
def Yields (P : Program) (ops : Array Oper) (w0 : World) (mu : List Nat) (keep : Mem) (kd : Nat) (o : Oper) (v : Value) (a : Act) (m : Mem) : Prop :=
  (Region.wanted o (yielded ops a.tmps) = true ∧ YieldK P w0 mu keep o v a m kd) ∨ (Region.wanted o (yielded ops a.tmps) = false ∧ v = undef)
theorem Yields.grow {kd : Nat} {o : Oper} {v : Value} {a : Act} {m : Mem} (h : Yields P ops w0 mu keep kd o v a m) (hk : Kept keep m) (hw : Region.wanted o (yielded ops a.tmps) = true) : growAtM P w0 mu m o a v := by
  rcases h with ⟨_, h⟩ | ⟨h, _⟩
  · unfold YieldK at h
    split at h
    · exact fun w _ => by rw [h w]; exact ⟨rfl, rfl⟩
    · exact h m hk
    · exact h
  · rw [hw] at h; cases h
theorem Yields.mOp {kd : Nat} {i : Nat} {o : Oper} {v : Value} {a : Act} {m : Mem} (hi : ops[i]? = some o) (hf : freshM o.op = none) (hE : E.contains i = false) (hkp : Kept keep m) (hy : Yields P ops w0 mu keep kd o v a m) {K : Act → Mem → Prop} (h : K (a.put o.dst v) m) :
    mOp P ops w0 mu E keep i K a m := by
  unfold F.mOp
  simp only [hi, hf]
  by_cases hw : Region.wanted o (yielded ops a.tmps) = true
  · rw [if_pos hw, if_neg (by rw [hE]; exact Bool.false_ne_true)]
    exact ⟨v, hy.grow hkp hw, h⟩
  · rw [if_neg hw]
    rcases hy with ⟨h1, _⟩ | ⟨_, rfl⟩
    · exact absurd h1 hw
    · exact h
theorem Yields.same {kd : Nat} {o : Oper} {v : Value} {a a' : Act} {m : Mem} (hy : Yields P ops w0 mu keep kd o v a m) (he : execOp a'.eval o = execOp a.eval o)
    (hw : Region.wanted o (yielded ops a'.tmps) = Region.wanted o (yielded ops a.tmps)) : Yields P ops w0 mu keep kd o v a' m := by
  unfold Yields YieldK growAtM pureAt at *
  rw [he, hw]
  exact hy
theorem Yields.more {kd : Nat} {o : Oper} {v : Value} {a : Act} {m : Mem} {p : Nat × Array Value × TypeId} (hy : Yields P ops w0 mu keep kd o v a m) : Yields P ops w0 mu keep kd o v a (p :: m) := by
  rcases hy with ⟨h1, h2⟩ | h
  · refine .inl ⟨h1, ?_⟩
    unfold YieldK at h2 ⊢
    split at h2
    · exact h2
    · exact h2
    · exact fun w hw => h2 w hw.drop1
  · exact .inr h
theorem Yields.any {kd : Nat} (hkd : kd = 1 ∨ kd = 2) {o : Oper} {v : Value} {a : Act} {m m' : Mem} (hy : Yields P ops w0 mu keep kd o v a m) : Yields P ops w0 mu keep kd o v a m' := by
  rcases hkd with rfl | rfl <;> exact hy
theorem mOp_put {kd : Nat} {j : Nat} {oi oj : Oper} {v : Value} (hj : ops[j]? = some oj) (hap : oi.apart ops oj = true)
    (hsi : ∀ cs b, oi.op ≠ .select cs b) (hsj : ∀ cs b, oj.op ≠ .select cs b) (hpu : (kd = 1 ∨ kd = 2) ∨ E.contains j = false) {K : Act → Mem → Prop} {a : Act} {m : Mem} (hkp : Kept keep m)
    (hy : Yields P ops w0 mu keep kd oi v a m) (h : mOp P ops w0 mu E keep j K (a.put oi.dst v) m) :
    mOp P ops w0 mu E keep j (fun a' m' => (Yields P ops w0 mu keep kd oi v a' m' ∧ Kept keep m') ∧ K (a'.put oi.dst v) m') a m := by
  obtain ⟨h1, h2, h3⟩ := Oper.apart_spec hap
  have keep' : ∀ u, Yields P ops w0 mu keep kd oi v (a.put oj.dst u) m := fun u =>
    hy.same (execOp_put oi hsi a oj.dst u h3) (wanted_put oi a oj.dst u h3)
  unfold mOp at *
  simp only [hj] at *
  split
  · rename_i T hT
    simp only [hT] at h
    obtain ⟨hg, A, hz, hk⟩ := h
    exact ⟨hg, A, hz, fun b => ⟨⟨(keep' _).more, hkp.more⟩, by rw [← Act.put_comm a v _ h2]; exact hk b⟩⟩
  · rename_i hT
    simp only [hT] at h
    rw [wanted_put oj a oi.dst v h1] at h
    split
    · rename_i hw
      simp only [hw, if_true] at h
      split
      · rename_i hE
        rw [if_pos hE] at h
        obtain ⟨R, hr, hk⟩ := h
        refine ⟨R, fun w hw' => ?_, fun u m' hR => ⟨(hk u m' hR).1, ⟨?_, (hk u m' hR).1⟩, by rw [← Act.put_comm a v u h2]; exact (hk u m' hR).2⟩⟩
        · have := hr w hw'
          rwa [execOp_put oj hsj a oi.dst v h1] at this
        · rcases hpu with hpu | hpu
          · exact (keep' u).any hpu
          · rw [hpu] at hE; cases hE
      · rename_i hE
        rw [if_neg hE] at h
        obtain ⟨u, hu, hk⟩ := h
        refine ⟨u, fun w hw' => ?_, ⟨keep' u, hkp⟩, by rw [← Act.put_comm a v u h2]; exact hk⟩
        have := hu w hw'
        rwa [execOp_put oj hsj a oi.dst v h1] at this
    · rename_i hw
      simp only [hw] at h
      exact ⟨⟨keep' _, hkp⟩, by rw [← Act.put_comm a v undef h2]; exact h⟩
def dep (md : Region.Mode) (ops : Array Oper) : Nat → Nat → Nat → Bool
  | 0, _, _ => false
  | f + 1, j, i => match ops[j]? with
    | some oj => oj.after.any fun e => Region.binds md e && (e.on == i || dep md ops f e.on i)
    | none => false
theorem dep_unlisted {listed : Array Bool} (inv : HeadInv md ops ops.size listed) {i : Nat} (hi : listed.getD i true = false) : ∀ (f j : Nat), dep md ops f j i = true → listed.getD j false = false ∧ j ∉ Region.ready md ops listed
  | 0, _, h => by simp [dep] at h
  | f + 1, j, h => by
    unfold dep at h
    split at h
    · rename_i oj hj
      obtain ⟨e, he, hb⟩ := Array.any_eq_true'.1 h
      simp only [Bool.and_eq_true, Bool.or_eq_true, beq_iff_eq] at hb
      have hon : listed.getD e.on false = false := by
        rcases hb.2 with h1 | h1
        · rw [h1]; exact getD_both hi
        · exact (dep_unlisted inv hi f e.on h1).1
      refine ⟨?_, fun hr => ?_⟩
      · cases hl : listed.getD j false with
        | false => rfl
        | true =>
          have := inv.closed j oj hj hl e he hb.1
          rw [hon] at this; cases this
      · obtain ⟨_, o', ho', hall⟩ := mem_ready.1 hr
        have : o' = oj := Option.some.inj (ho'.symm.trans hj)
        subst this
        have := hall e he hb.1
        rw [hon] at this; cases this
    · cases h
def quietB (md : Region.Mode) (ops : Array Oper) (E : List Nat) (listed : Array Bool) (i : Nat) : Bool :=
  (List.range ops.size).all fun j => !E.contains j || listed.getD j true || dep md ops ops.size j i
theorem F_first {kd : Nat} {i : Nat} {oi : Oper} {v : Value} {L : Act → Mem → Prop} (hi : ops[i]? = some oi) (hfr : freshM oi.op = none) (hE : E.contains i = false) (hsel : ∀ (j : Nat) (o : Oper) cs b, ops[j]? = some o → o.op ≠ .select cs b) :
    ∀ (f : Nat) (listed : Array Bool) (a : Act) (m : Mem), HeadInv md ops ops.size listed →
      (∀ j oj, ops[j]? = some oj → j ≠ i → listed.getD j true = false → (∀ e ∈ oj.after, Region.binds md e = true → e.on ≠ i) → oi.apart ops oj = true) →
      ((kd = 1 ∨ kd = 2) ∨ quietB md ops E listed i = true) → Kept keep m →
      i ∈ Region.ready md ops listed → Yields P ops w0 mu keep kd oi v a m →
      wpAnyF P md ops w0 mu E keep L f (listed.setIfInBounds i true) (a.put oi.dst v) m → wpAnyF P md ops w0 mu E keep L (f + 1) listed a m := by
  intro f
  induction f with
  | zero =>
    intro listed a m inv _ _ hkp hr hy H
    refine ⟨fun h => (by rw [h] at hr; cases hr), fun j hj => ?_⟩
    by_cases hji : j = i
    · subst hji; exact hy.mOp hi hfr hE hkp H
    · have := ready_mono hj hji
      rw [H.1] at this; cases this
  | succ f ih =>
    intro listed a m inv hfree hq hkp hr hy H
    have hun := (mem_ready.1 hr).1
    refine ⟨fun h => (by rw [h] at hr; cases hr), fun j hj => ?_⟩
    by_cases hji : j = i
    · subst hji; exact hy.mOp hi hfr hE hkp H
    · have h1 := H.2 j (ready_mono hj hji)
      obtain ⟨hjun, oj, hoj, hall⟩ := mem_ready.1 hj
      have hjlt : j < ops.size := (Array.getElem?_eq_some_iff.1 hoj).1
      have hnot : ∀ e ∈ oj.after, Region.binds md e = true → e.on ≠ i := fun e he hb heq => by
        have h1 := hall e he hb
        rw [heq, getD_both hun] at h1
        cases h1
      have hEj : (kd = 1 ∨ kd = 2) ∨ E.contains j = false := by
        rcases hq with h | h
        · exact .inl h
        · refine .inr ?_
          have h5 := List.all_eq_true.1 h j (List.mem_range.2 hjlt)
          simp only [Bool.or_eq_true, Bool.not_eq_true', hjun, Bool.false_eq_true, or_false] at h5
          rcases h5 with h5 | h5
          · exact h5
          · exact absurd hj (dep_unlisted inv hun _ _ h5).2
      have h2 := mOp_put hoj (hfree j oj hoj hji hjun hnot) (fun cs b => hsel i oi cs b hi) (fun cs b => hsel j oj cs b hoj) hEj hkp hy h1
      have hfree' : ∀ k ok, ops[k]? = some ok → k ≠ i → (listed.setIfInBounds j true).getD k true = false →
          (∀ e ∈ ok.after, Region.binds md e = true → e.on ≠ i) → oi.apart ops ok = true := fun k ok hk hki hun hno => by
        refine hfree k ok hk hki ?_ hno
        by_cases hjk : j = k
        · subst hjk; exact hjun
        · rw [getD_set_ne true hjk] at hun; exact hun
      have hq' : (kd = 1 ∨ kd = 2) ∨ quietB md ops E (listed.setIfInBounds j true) i = true := by
        rcases hq with h | h
        · exact .inl h
        · refine .inr (List.all_eq_true.2 fun k hk => ?_)
          have h5 := List.all_eq_true.1 h k hk
          simp only [Bool.or_eq_true] at h5 ⊢
          rcases h5 with (h5 | h5) | h5
          · exact .inl (.inl h5)
          · refine .inl (.inr ?_)
            by_cases hjk : j = k
            · subst hjk; rw [hjun] at h5; cases h5
            · rw [getD_set_ne true hjk]; exact h5
          · exact .inr h5
      refine mOp_mono (fun a' m' h3 => ih (listed.setIfInBounds j true) a' m' (inv.set hj hjlt) hfree' hq' h3.1.2 (ready_mono hr (Ne.symm hji)) h3.1.1 ?_) h2
      rw [Array.setIfInBounds_comm _ _ hji]
      exact h3.2
def allocB (md : Region.Mode) (ops : Array Oper) (listed : Array Bool) (i : Nat) : Bool :=
  (List.range ops.size).all fun j => j == i || listed.getD j true || ((ops[j]?).bind fun o => freshM o.op).isSome || dep md ops ops.size j i
theorem F_fresh {i : Nat} {oi : Oper} {T : TypeId} {A : Array Value} {L : Act → Mem → Prop} (hi : ops[i]? = some oi) (hT : freshM oi.op = some T) (hg : oi.guard = none) (hz : (P.info? T).map (·.zero) = some (some (.agg A)))
    (hperm : ∀ a m m', m.Perm m' → L a m → L a m') :
    ∀ (f : Nat) (listed : Array Bool) (a : Act) (m : Mem), HeadInv md ops ops.size listed →
      (∀ j oj, ops[j]? = some oj → j ≠ i → listed.getD j true = false → (∀ e ∈ oj.after, Region.binds md e = true → e.on ≠ i) → oi.apart ops oj = true) →
      allocB md ops listed i = true → i ∈ Region.ready md ops listed →
      (∀ b, wpAnyF P md ops w0 mu E keep L f (listed.setIfInBounds i true) (a.put oi.dst (.pointer (some ⟨b, 0, none⟩))) ((b, A, T) :: m)) → wpAnyF P md ops w0 mu E keep L (f + 1) listed a m := by
  have here : ∀ (K : Act → Mem → Prop) (a : Act) (m : Mem), (∀ b, K (a.put oi.dst (.pointer (some ⟨b, 0, none⟩))) ((b, A, T) :: m)) → mOp P ops w0 mu E keep i K a m := by
    intro K a m h
    unfold mOp
    simp only [hi, hT]
    exact ⟨hg, A, hz, h⟩
  intro f
  induction f with
  | zero =>
    intro listed a m inv _ _ hr H
    refine ⟨fun h => (by rw [h] at hr; cases hr), fun j hj => ?_⟩
    by_cases hji : j = i
    · subst hji; exact here _ _ _ H
    · have := ready_mono hj hji
      rw [(H 0).1] at this; cases this
  | succ f ih =>
    intro listed a m inv hfree hall0 hr H
    have hun := (mem_ready.1 hr).1
    refine ⟨fun h => (by rw [h] at hr; cases hr), fun j hj => ?_⟩
    by_cases hji : j = i
    · subst hji; exact here _ _ _ H
    · obtain ⟨hjun, oj, hoj, hall⟩ := mem_ready.1 hj
      have hjlt : j < ops.size := (Array.getElem?_eq_some_iff.1 hoj).1
      have hnot : ∀ e ∈ oj.after, Region.binds md e = true → e.on ≠ i := fun e he hb heq => by
        have h1 := hall e he hb
        rw [heq, getD_both hun] at h1
        cases h1
      obtain ⟨h1a, h2a, h3a⟩ := Oper.apart_spec (hfree j oj hoj hji hjun hnot)
      have hfree' : ∀ k ok, ops[k]? = some ok → k ≠ i → (listed.setIfInBounds j true).getD k true = false →
          (∀ e ∈ ok.after, Region.binds md e = true → e.on ≠ i) → oi.apart ops ok = true := fun k ok hk hki hun hno => by
        refine hfree k ok hk hki ?_ hno
        by_cases hjk : j = k
        · subst hjk; exact hjun
        · rw [getD_set_ne true hjk] at hun; exact hun
      have hall' : allocB md ops (listed.setIfInBounds j true) i = true := by
        refine List.all_eq_true.2 fun k hk => ?_
        have h5 := List.all_eq_true.1 hall0 k hk
        simp only [Bool.or_eq_true] at h5 ⊢
        rcases h5 with ((h5 | h5) | h5) | h5
        · exact .inl (.inl (.inl h5))
        · refine .inl (.inl (.inr ?_))
          by_cases hjk : j = k
          · subst hjk; rw [hjun] at h5; cases h5
          · rw [getD_set_ne true hjk]; exact h5
        · exact .inl (.inr h5)
        · exact .inr h5
      obtain ⟨Tj, hTj⟩ : ∃ Tj, freshM oj.op = some Tj := by
        have h5 := List.all_eq_true.1 hall0 j (List.mem_range.2 hjlt)
        simp only [Bool.or_eq_true, beq_iff_eq, hji, false_or, hjun, Bool.false_eq_true, hoj, Option.bind_some] at h5
        rcases h5 with h5 | h5
        · exact Option.isSome_iff_exists.1 h5
        · exact absurd hj (dep_unlisted inv hun _ _ h5).2
      have hH := fun b => (H b).2 j (ready_mono hj hji)
      unfold mOp at hH ⊢
      simp only [hoj, hTj] at hH ⊢
      obtain ⟨hgj, Aj, hzj, _⟩ := hH 0
      refine ⟨hgj, Aj, hzj, fun b' => ih (listed.setIfInBounds j true) _ _ (inv.set hj hjlt) hfree' hall' (ready_mono hr (Ne.symm hji)) fun b => ?_⟩
      obtain ⟨_, Aj', hzj', hk⟩ := hH b
      have hA : Aj' = Aj := by
        rw [hzj] at hzj'
        simpa using hzj'.symm
      subst hA
      have := hk b'
      rw [Array.setIfInBounds_comm _ _ (Ne.symm hji), Act.put_comm a _ _ h2a] at this
      exact wpAnyF_perm hperm _ _ _ _ _ (List.Perm.swap _ _ _) this
def isPure : Op → Bool
  | .move _ | .assign _ | .extract _ _ => true
  | _ => false
def wpF (P : Program) (ops : Array Oper) (w0 : World) (mu : List Nat) (E D : List Nat) (keep : Mem) (L : Act → Mem → Prop) : List (Nat × Oper) → Act → Mem → Prop
  | [], a, m => L a m
  | (i, o) :: rest, a, m =>
    match freshM o.op with
    | some T => o.guard = none ∧ ∃ A, (P.info? T).map (·.zero) = some (some (.agg A)) ∧ ∀ b, wpF P ops w0 mu E D keep L rest (a.put o.dst (.pointer (some ⟨b, 0, none⟩))) ((b, A, T) :: m)
    | none => if Region.wanted o (yielded ops a.tmps) then
        if E.contains i then ∃ R, effAt P w0 mu m o a R ∧ ∀ v m', R v m' → Kept keep m' ∧ wpF P ops w0 mu E D keep L rest (a.put o.dst v) m'
        else ∃ v, YieldK P w0 mu keep o v a m (if isPure o.op then 1 else if D.contains i then 2 else 0) ∧ wpF P ops w0 mu E D keep L rest (a.put o.dst v) m
      else wpF P ops w0 mu E D keep L rest (a.put o.dst undef) m
def ordF (md : Region.Mode) (ops : Array Oper) (E D : List Nat) : List Nat → Array Bool → Bool
  | [], listed => decide (Region.ready md ops listed = [])
  | i :: rest, listed =>
    (match ops[i]? with
    | none => false
    | some o => if E.contains i then decide (Region.ready md ops listed = [i]) && (freshM o.op).isNone
      else (Region.ready md ops listed).contains i && Region.free md ops listed i && (if (freshM o.op).isSome then allocB md ops listed i else isPure o.op || D.contains i || quietB md ops E listed i)) &&
    ordF md ops E D rest (listed.setIfInBounds i true)
theorem wpAnyF_ord {L : Act → Mem → Prop} (hL : ∀ a m m', m.Perm m' → L a m → L a m') (hsel : Region.noSelect ops = true) :
    ∀ (ord : List Nat) (listed : Array Bool) (a : Act) (m : Mem) (l : List (Nat × Oper)), l.map (fun p => (p.1, some p.2)) = ord.map (fun i => (i, ops[i]?)) → HeadInv md ops ops.size listed → ordF md ops E D ord listed = true → Kept keep m → wpF P ops w0 mu E D keep L l a m →
    wpAnyF P md ops w0 mu E keep L ord.length listed a m
  | [], listed, a, m, l, hl, _, hB, _, h => by
    cases l with
    | nil => exact ⟨by simpa [ordF] using hB, h⟩
    | cons o l => simp at hl
  | i :: ord, listed, a, m, l, hl, inv, hB, hkp, h => by
    cases l with
    | nil => simp at hl
    | cons p l =>
      obtain ⟨i', o⟩ := p
      simp only [List.map_cons, List.cons.injEq, Prod.mk.injEq] at hl
      obtain ⟨⟨rfl, ho⟩, hl⟩ := hl
      have ho := ho.symm
      have hlt : i' < ops.size := (Array.getElem?_eq_some_iff.1 ho).1
      simp only [ordF, ho, Bool.and_eq_true] at hB
      obtain ⟨hB1, hB2⟩ := hB
      simp only [wpF] at h
      by_cases hE : E.contains i' = true
      · rw [if_pos hE] at hB1
        simp only [Bool.and_eq_true, decide_eq_true_eq, Option.isNone_iff_eq_none] at hB1
        obtain ⟨hr, hT⟩ := hB1
        have hr' : i' ∈ Region.ready md ops listed := by rw [hr]; simp
        refine ⟨fun h0 => (by rw [h0] at hr; cases hr), fun j hj => ?_⟩
        rw [hr] at hj
        obtain rfl : j = i' := by simpa using hj
        simp only [hT] at h
        unfold mOp
        simp only [ho, hT]
        split at h
        · rename_i hw
          (try rw [if_pos hE] at h)
          (try rw [if_pos hE])
          obtain ⟨R, hR, hk⟩ := h
          simp only [hw, if_true]
          exact ⟨R, hR, fun v m' hv => ⟨(hk v m' hv).1, wpAnyF_ord hL hsel ord _ _ _ l hl (inv.set hr' hlt) hB2 (hk v m' hv).1 (hk v m' hv).2⟩⟩
        · rename_i hw
          simp only [hw]
          exact wpAnyF_ord hL hsel ord _ _ _ l hl (inv.set hr' hlt) hB2 hkp h
      · rw [if_neg hE] at hB1
        simp only [Bool.and_eq_true] at hB1
        obtain ⟨⟨hr, hf⟩, hB3⟩ := hB1
        have hr' : i' ∈ Region.ready md ops listed := by simpa using hr
        have hEf : E.contains i' = false := by simpa using hE
        split at h
        · rename_i T hT
          obtain ⟨hg, A, hz, hk⟩ := h
          simp only [hT, Option.isSome_some, if_true] at hB3
          exact F_fresh ho hT hg hz hL _ listed a m inv (Region.free_spec ho hf) hB3 hr' fun b => wpAnyF_ord hL hsel ord _ _ _ l hl (inv.set hr' hlt) hB2 hkp.more (hk b)
        · rename_i hT
          simp only [hT, Option.isSome_none, Bool.false_eq_true, if_false, Bool.or_eq_true] at hB3
          have hB4 : ((if isPure o.op then 1 else if D.contains i' then 2 else 0 : Nat) = 1 ∨ (if isPure o.op then 1 else if D.contains i' then 2 else 0 : Nat) = 2) ∨ quietB md ops E listed i' = true := by
            rcases hB3 with (h1 | h1) | h1
            · exact .inl (.inl (by rw [if_pos h1]))
            · by_cases h2 : isPure o.op = true
              · exact .inl (.inl (by rw [if_pos h2]))
              · exact .inl (.inr (by rw [if_neg h2, if_pos h1]))
            · exact .inr h1
          split at h
          · rename_i hw
            (try rw [if_neg hE] at h)
            obtain ⟨v, hv, hk⟩ := h
            exact F_first (kd := if isPure o.op then 1 else if D.contains i' then 2 else 0) ho hT hEf (Region.noSelect_spec hsel) _ listed a m inv (Region.free_spec ho hf) hB4 hkp hr' (.inl ⟨hw, hv⟩)
              (wpAnyF_ord hL hsel ord _ _ _ l hl (inv.set hr' hlt) hB2 hkp hk)
          · rename_i hw
            exact F_first (kd := if isPure o.op then 1 else if D.contains i' then 2 else 0) ho hT hEf (Region.noSelect_spec hsel) _ listed a m inv (Region.free_spec ho hf) hB4 hkp hr' (.inr ⟨by simpa using hw, rfl⟩)
              (wpAnyF_ord hL hsel ord _ _ _ l hl (inv.set hr' hlt) hB2 hkp h)
def anyB (ops : Array Oper) (E D : List Nat) (ord : List Nat) : Bool := Region.noSelect ops && decide (ord.length = ops.size) && ordF .any ops E D ord (Array.replicate ops.size false)
theorem Kept.nil {m : Mem} : Kept [] m := fun _ h => by cases h
structure SF (P : Program) (ops : Array Oper) (w0 : World) (mu : List Nat) (E D : List Nat) (keep : Mem) (rest : List (Nat × Oper)) (Q : ExitP) (l : List Value) (m : Mem) : Prop where
  run : wpF P ops w0 mu E D keep (fun a m' => ∃ l' : List Value, a = ⟨l'.toArray, []⟩ ∧ ∀ m'', m'.Perm m'' → ∀ W Q', OwnM w0 mu W m'' → After w0 mu Q Q' → Q' .normal a W) rest ⟨l.toArray, []⟩ m
end
section
variable {P : Program} {tab : Tab} {w0 : World} {mu : List Nat} {bs : Mem} {l l' : List Value} {ops : Array Oper} {E D : List Nat} {keep : Mem} {rest : List (Nat × Oper)} {Q : ExitP} {i0 : Nat}
variable {dst : Option Tmp} {op : Op} {ty : TypeId} {pos : String} {af : Array Edge}
theorem SP_any {id : Nat} {L : List Oper} {L1 : List (Nat × Oper)} (E D : List Nat) (keep : Mem) (ord : List Nat) (hm : P.follows .mixedOrders = true) (hB : anyB L.toArray E D ord = true) (h1 : (ord.filterMap fun i => (L[i]?).map fun o => (i, o)) = L1) (hkp : Kept keep bs)
    (h : SF P L.toArray w0 mu E D keep L1 Q l bs) : SP P w0 mu (.region id L.toArray true) Q l bs := by
  subst h1
  simp only [anyB, Bool.and_eq_true, decide_eq_true_eq] at hB
  obtain ⟨⟨hsel, hlen⟩, hord⟩ := hB
  refine ⟨fun W Q' hw hA => ?_⟩
  have inv0 : HeadInv .any L.toArray L.toArray.size (Array.replicate L.toArray.size false) :=
    ⟨by simp, fun j oj _ hl => (by rw [getD_replicate_false] at hl; cases hl), fun t h1 h2 => absurd h2 (Nat.not_lt.2 h1)⟩
  have hmap : ∀ (ord : List Nat) (listed : Array Bool), ordF .any L.toArray E D ord listed = true → (ord.filterMap fun i => (L[i]?).map fun o => (i, o)).map (fun p => (p.1, some p.2)) = ord.map fun i => (i, L.toArray[i]?) := by
    intro ord
    induction ord with
    | nil => intro _ _; rfl
    | cons i ord ih =>
      intro listed hB
      simp only [ordF, Bool.and_eq_true] at hB
      obtain ⟨h1, h2⟩ := hB
      cases hi : L[i]? with
      | none => simp [hi] at h1
      | some o => simp [List.filterMap_cons, hi]; simpa using ih _ h2
  refine wp_region_any hm ?_
  have H := wpAnyF_ord (P := P) (w0 := w0) (mu := mu) (L := fun a m' => ∃ l' : List Value, a = ⟨l'.toArray, []⟩ ∧ ∀ m'', m'.Perm m'' → ∀ W Q', OwnM w0 mu W m'' → After w0 mu Q Q' → Q' .normal a W)
    (fun a m m' hp ⟨l', hl, hk⟩ => ⟨l', hl, fun m'' hp' => hk m'' (hp.trans hp')⟩) hsel ord _ _ _ _ (hmap ord _ hord) inv0 hord hkp h.run
  rw [hlen] at H
  exact wpAny_of_F (fun a m w hw' ⟨l', hl, hk⟩ => hk m (List.Perm.refl _) w Q' hw' hA) _ _ _ _ _ (hw.drew 1) H
theorem RdA.kept {m : Mem} {b : Nat} {A : Array Value} {T : TypeId} {i : Nat} (hm : Kept keep m) (hi : keep[i]? = some (b, A, T)) : RdA w0 mu m b A := .inl ⟨T, hm _ (List.mem_of_getElem? hi)⟩
theorem SF.nil (h : ∀ bs', bs.Perm bs' → Q .normal l bs') : SF P ops w0 mu E D keep [] Q l bs := ⟨⟨l, rfl, fun m'' hp W Q' hw hA => hA _ _ _ _ (h m'' hp) hw⟩⟩
theorem SF.done (h : Q .normal l bs) : SF P ops w0 mu E D keep [] Q l bs := ⟨⟨l, rfl, fun m'' hp W Q' hw hA => hA _ _ _ _ h (hw.perm hp.symm)⟩⟩
theorem SF.val {v : Value} (hE : E.contains i0 = false) (hf : freshM op = none) (hp : isPure op = false) (hD : D.contains i0 = false) (hv : ValO P w0 mu bs l ⟨dst, op, ty, pos, af, none⟩ v) (hl : putL l dst v = l') (h : SF P ops w0 mu E D keep rest Q l' bs) : SF P ops w0 mu E D keep ((i0, ⟨dst, op, ty, pos, af, none⟩) :: rest) Q l bs := by
  subst hl
  refine ⟨?_⟩
  simp only [wpF, hf, hE, hD, Region.wanted, if_true, Bool.false_eq_true, if_false, hp, YieldK]
  exact ⟨v, hv.out, by rw [putL_eq]; exact h.run⟩
theorem SF.valK {v : Value} (hE : E.contains i0 = false) (hf : freshM op = none) (hp : isPure op = false) (hD : D.contains i0 = true) (hv : ∀ m, Kept keep m → ValO P w0 mu m l ⟨dst, op, ty, pos, af, none⟩ v) (hl : putL l dst v = l') (h : SF P ops w0 mu E D keep rest Q l' bs) : SF P ops w0 mu E D keep ((i0, ⟨dst, op, ty, pos, af, none⟩) :: rest) Q l bs := by
  subst hl
  refine ⟨?_⟩
  simp only [wpF, hf, hE, hD, Region.wanted, if_true, Bool.false_eq_true, if_false, hp, YieldK]
  exact ⟨v, fun m hm => (hv m hm).out, by rw [putL_eq]; exact h.run⟩
theorem SF.pure (ht : TabOk P tab) {v : Value} (hE : E.contains i0 = false) (hp : isPure op = true) (hv : evF tab l op = some v) (hl : putL l dst v = l') (h : SF P ops w0 mu E D keep rest Q l' bs) : SF P ops w0 mu E D keep ((i0, ⟨dst, op, ty, pos, af, none⟩) :: rest) Q l bs := by
  subst hl
  refine ⟨?_⟩
  have hf : freshM op = none := by cases op <;> simp [isPure] at hp <;> rfl
  simp only [wpF, hf, hE, Region.wanted, if_true, Bool.false_eq_true, if_false, hp, YieldK]
  refine ⟨v, fun w => ?_, by rw [putL_eq]; exact h.run⟩
  unfold execOp
  cases op <;> simp only [isPure, Bool.false_eq_true] at hp <;> simp only [evF] at hv <;> simp only [evL_eq]
  case move x => cases hv; rfl
  case assign x => cases hv; rfl
  case extract x i =>
    unfold evExtract at hv
    split at hv
    · rename_i vs hx
      rw [hx]
      rw [lget_eq, Array.getElem?_toList] at hv
      simp [Instr.extract, hv]
    · cases hv
theorem SF.alloc {T : TypeId} {A : Array Value} (hz : (P.info? T).map (·.zero) = some (some (.agg A))) {l' : Nat → List Value} (hp : ∀ b, putL l dst (.pointer (some ⟨b, 0, none⟩)) = l' b) (h : ∀ b, SF P ops w0 mu E D keep rest Q (l' b) ((b, A, T) :: bs)) :
    SF P ops w0 mu E D keep ((i0, ⟨dst, .alloc T, ty, pos, af, none⟩) :: rest) Q l bs := by
  refine ⟨?_⟩
  simp only [wpF, freshM]
  exact ⟨trivial, A, hz, fun b => by rw [putL_eq, hp]; exact (h b).run⟩
theorem SF.eff {R : Value → Mem → Prop} (hE : E.contains i0 = true) (hf : freshM op = none) (hr : effAt P w0 mu bs ⟨dst, op, ty, pos, af, none⟩ ⟨l.toArray, []⟩ R) (hk : ∀ v m', R v m' → Kept keep m') (h : ∀ v m', R v m' → SF P ops w0 mu E D keep rest Q (putL l dst v) m') : SF P ops w0 mu E D keep ((i0, ⟨dst, op, ty, pos, af, none⟩) :: rest) Q l bs := by
  refine ⟨?_⟩
  simp only [wpF, hf, hE, Region.wanted, if_true]
  exact ⟨R, hr, fun v m' hv => ⟨hk v m' hv, by rw [putL_eq]; exact (h v m' hv).run⟩⟩
theorem SF.store (ht : TabOk P tab) (hE : E.contains i0 = true) {t : TypeId} {x y : Operand} {b off : Nat} (hx : evL l x = .pointer (some ⟨b, off, none⟩)) {v : Value} (hy : evL l y = v)
    {td : TD} {n : Nat} (hl : Sp.look tab t = some (td, n)) {i : Nat} {A : Array Value} {T : TypeId} (hi : bs[i]? = some (b, A, T)) (hn : v.cells.size = n) (hsz : off + n ≤ A.size) (h1 : ∀ u ∈ v.cells.toList, u.oneCell' = true)
    {A' : Array Value} (hA : putAt A off v.cells.toList = A') {bs' : Mem} (hbs : bs.set i (b, A', T) = bs') (hkp : Kept keep bs') (hp : putL l dst undef = l') (h : SF P ops w0 mu E D keep rest Q l' bs') : SF P ops w0 mu E D keep ((i0, ⟨dst, .store t x y, ty, pos, af, none⟩) :: rest) Q l bs := by
  subst hp hbs hA hn hy
  refine SF.eff (R := fun v m' => v = undef ∧ m' = bs.set i (b, putAt A off (evL l y).cells.toList, T)) hE rfl (fun w hw => ?_) (by rintro v m' ⟨rfl, rfl⟩; exact hkp) (by rintro v m' ⟨rfl, rfl⟩; exact h)
  have hb := hw.block (List.mem_of_getElem? hi)
  have hst : (Instr.storeAt t (.pointer (some ⟨b, off, none⟩)) (evL l y)).run P w = .ok () (w.setRow b (putAt A off (evL l y).cells.toList)) := by
    simp only [Instr.storeAt, Instr.sureAddr, Sem.run_bind, Sem.run_pure, Result.andThen_ok]
    exact run_storePart w b off T t A _ hb (td_size (look_ok ht hl)) hsz h1
  unfold execOp
  simp only [evL_eq, hx, Sem.run_bind, Sem.run_pure, Result.andThen_ok, hst]
  exact ⟨_, ⟨rfl, rfl⟩, hw.setRow hi _⟩
theorem SF.storeInt (ht : TabOk P tab) (hE : E.contains i0 = true) {t : TypeId} {x y : Operand} {b j : Nat} (hx : evL l x = .pointer (some ⟨b, j, none⟩)) {k : IntKind} {v : Int} (hy : evL l y = .int k v)
    {td : TD} (hl : Sp.look tab t = some (td, 1)) {i : Nat} {L : List Int} {T : TypeId} (hi : bs[i]? = some (b, ints k L, T)) (hj : j < L.length)
    {bs' : Mem} (hbs : bs.set i (b, ints k (L.set j v), T) = bs') (hkp : Kept keep bs') (hp : putL l dst undef = l') (h : SF P ops w0 mu E D keep rest Q l' bs') : SF P ops w0 mu E D keep ((i0, ⟨dst, .store t x y, ty, pos, af, none⟩) :: rest) Q l bs :=
  SF.store ht hE hx hy hl hi rfl (by rw [ints_size]; exact hj) (by intro u hu; simp [Value.cells] at hu; subst hu; rfl) (by simp [Value.cells, putAt, ints_set]) hbs hkp hp h
theorem SF.storeRow (ht : TabOk P tab) (hE : E.contains i0 = true) {t : TypeId} {x y : Operand} {b : Nat} (hx : evL l x = .pointer (some ⟨b, 0, none⟩)) {B : Array Value} (hy : evL l y = .agg B)
    {td : TD} {n : Nat} (hl : Sp.look tab t = some (td, n)) {i : Nat} {A : Array Value} {T : TypeId} (hi : bs[i]? = some (b, A, T)) (hn : B.size = n) (hsz : A.size = n) (h1 : ∀ u ∈ B.toList, u.oneCell' = true)
    {bs' : Mem} (hbs : bs.set i (b, B, T) = bs') (hkp : Kept keep bs') (hp : putL l dst undef = l') (h : SF P ops w0 mu E D keep rest Q l' bs') : SF P ops w0 mu E D keep ((i0, ⟨dst, .store t x y, ty, pos, af, none⟩) :: rest) Q l bs :=
  SF.store ht hE hx hy hl hi (by simpa [Value.cells] using hn) (by omega) (by simpa [Value.cells] using h1) (by simpa [Value.cells] using putAt_all A B (by omega)) hbs hkp hp h
theorem SF.box (hE : E.contains i0 = true) (hkp : Kept keep bs) {T : TypeId} {x : Operand} {A : Array Value} (hx : (evL l x).cells = A) {l' : Nat → List Value} (hp : ∀ b, putL l dst (.pointer (some ⟨b, 0, none⟩)) = l' b) (h : ∀ b, SF P ops w0 mu E D keep rest Q (l' b) ((b, A, T) :: bs)) :
    SF P ops w0 mu E D keep ((i0, ⟨dst, .box T x, ty, pos, af, none⟩) :: rest) Q l bs := by
  subst hx
  refine SF.eff (R := fun v m' => ∃ b, v = .pointer (some ⟨b, 0, none⟩) ∧ m' = (b, (evL l x).cells, T) :: bs) hE rfl (fun w hw => ?_) (by rintro v m' ⟨b, rfl, rfl⟩; exact hkp.more) (by rintro v m' ⟨b, rfl, rfl⟩; rw [hp]; exact h b)
  unfold execOp
  simp only [evL_eq, Instr.box, newVar, newRow, newObj, Sem.run_bind, Sem.run_pure, Result.andThen_ok]
  exact ⟨_, ⟨_, rfl, rfl⟩, hw.alloc _ T⟩
theorem SF.copy (ht : TabOk P tab) (hE : E.contains i0 = true) {d s : Operand} {dT sT : TypeId} {b off dl dc b2 off2 sl sc e by_ sz : Nat} (hd : evL l d = .slice (some ⟨b, off, none⟩) dl dc) (hs : evL l s = .slice (some ⟨b2, off2, none⟩) sl sc) (hl : Sp.look tab dT = some (.sl e 1 by_, sz))
    {i : Nat} {A : Array Value} {T : TypeId} (hi : bs[i]? = some (b, A, T)) {B : Array Value} (hr : RdA w0 mu bs b2 B) (n : Nat) (hn : min sl dl = n) (hA : off + n ≤ A.size) (hB : off2 + n ≤ B.size) (h1 : ∀ u ∈ (B.extract off2 (off2 + n)).toList, u.oneCell' = true)
    {A' : Array Value} (hA' : putAt A off (B.extract off2 (off2 + n)).toList = A') {bs' : Mem} (hbs : bs.set i (b, A', T) = bs') (hkp : Kept keep bs') (hp : putL l dst (.int .i64 (n : Int)) = l') (h : SF P ops w0 mu E D keep rest Q l' bs') :
    SF P ops w0 mu E D keep ((i0, ⟨dst, .call { callee := .builtin .copy, args := #[d, s], argTypes := #[dT, sT] }, ty, pos, af, none⟩) :: rest) Q l bs := by
  subst hp hbs hA'
  refine SF.eff (R := fun v m' => v = .int .i64 (n : Int) ∧ m' = bs.set i (b, putAt A off (B.extract off2 (off2 + n)).toList, T)) hE rfl (fun W hw => ?_) (by rintro v m' ⟨rfl, rfl⟩; exact hkp) (by rintro v m' ⟨rfl, rfl⟩; exact h)
  obtain ⟨hu, hsz, _⟩ := td_sl (look_ok ht hl)
  have hb := hw.block (List.mem_of_getElem? hi)
  obtain ⟨T2, fz, hb2⟩ := hr.get hw
  have hld := run_loadCells_part (P := P) W b2 off2 T2 B fz n hb2 hB
  have hst := run_storeCells_row (P := P) (B.extract off2 (off2 + n)).toList h1 0 W b off A T hb (by simp; omega)
  cases hq : P.info? e with
  | none => simp [hq] at hsz
  | some inf =>
    have hs' : inf.size = 1 := by simpa [hq] using hsz
    have hcp : (Builtin.copy_ #[dT, sT] ty #[.slice (some ⟨b, off, none⟩) dl dc, .slice (some ⟨b2, off2, none⟩) sl sc]).run P W = .ok (.int .i64 (n : Int)) (W.setRow b (putAt A off (B.extract off2 (off2 + n)).toList)) := by
      simp only [Nat.add_zero] at hst
      have hn' : Nat.min sl dl = n := hn
      simp only [Builtin.copy_, List.getElem?_toArray, List.getElem?_cons_zero, List.getElem?_cons_succ, Sem.run_bind, run_underlying hu, Builtin.lenOf, sizeOf, typeInfo, run_program, hq, hs', Builtin.firstCells, hn', Nat.mul_one, hld, hst, goInt, Sem.run_pure, Result.andThen_ok]
    unfold execOp
    simp only [resolve, Sem.run_bind, Sem.run_pure, Result.andThen_ok, invoke, builtin]
    have ha : (#[d, s].map (⟨l.toArray, []⟩ : Act).eval) = #[.slice (some ⟨b, off, none⟩) dl dc, .slice (some ⟨b2, off2, none⟩) sl sc] := by simp [evL_eq, hd, hs]
    rw [ha, hcp]
    exact ⟨_, ⟨rfl, rfl⟩, hw.setRow hi _⟩
theorem SF.callG (hE : E.contains i0 = true) {f : FuncId} {args : List Operand} {ats : Array TypeId} (hent : ∀ (A : Array Value) (w : World), (callFunc f A).run P w = .ok (.enter f A) w)
    {vals : List Value} (hv : args.map (evL l) = vals) {R : Value → Mem → Prop} (hc : ∀ w, OwnM w0 mu w bs → Calls P f vals.toArray w fun e w' => ∃ v bs', e = .returned v ∧ R v bs' ∧ OwnM w0 mu w' bs')
    (hkp : ∀ v bs', R v bs' → Kept keep bs') (h : ∀ v bs', R v bs' → SF P ops w0 mu E D keep rest Q (putL l dst v) bs') : SF P ops w0 mu E D keep ((i0, ⟨dst, .call { callee := .value (.func f), args := args.toArray, argTypes := ats }, ty, pos, af, none⟩) :: rest) Q l bs := by
  refine SF.eff (R := R) hE rfl (fun w hw => ?_) hkp h
  rw [run_call_fn (args_map args), hv, hent]
  exact hc w hw
theorem SF.call1 (hE : E.contains i0 = true) {f : FuncId} {args : List Operand} {ats : Array TypeId} (hent : ∀ (A : Array Value) (w : World), (callFunc f A).run P w = .ok (.enter f A) w)
    {vals : List Value} (hv : args.map (evL l) = vals) {v : Value} {i b : Nat} {A A' : Array Value} {T : TypeId} (hi : bs[i]? = some (b, A, T))
    (hc : ∀ w, OwnM w0 mu w bs → Calls P f vals.toArray w fun e w' => e = .returned v ∧ OwnM w [b] w' [(b, A', T)])
    {bs' : Mem} (hbs : bs.set i (b, A', T) = bs') (hkp : Kept keep bs') (hp : putL l dst v = l') (h : SF P ops w0 mu E D keep rest Q l' bs') : SF P ops w0 mu E D keep ((i0, ⟨dst, .call { callee := .value (.func f), args := args.toArray, argTypes := ats }, ty, pos, af, none⟩) :: rest) Q l bs := by
  subst hp hbs
  refine SF.callG hE hent hv (R := fun v' bs' => v' = v ∧ bs' = bs.set i (b, A', T)) (fun w hw => (hc w hw).mono ?_) (by rintro v' bs' ⟨rfl, rfl⟩; exact hkp) (by rintro v' bs' ⟨rfl, rfl⟩; exact h)
  rintro e w' ⟨rfl, hw'⟩
  exact ⟨_, _, rfl, ⟨rfl, rfl⟩, hw.call1 hi hw'⟩
end
end F
end
section
open Go Go.RowKit
namespace Sp
open M
theorem bpp {α : Type} {a b : α} (h : a = b := by first | (dsimp only [putL, setNth, evL, nth, Nat.zero_add, Nat.add_zero, Nat.reduceAdd, Nat.reduceMul, Nat.reduceSub, Int.reduceToNat, Int.toNat_natCast, Nat.mul_one, Nat.one_mul, gi_c0, gi_c1, gi_c2, gi_c3]; rfl) | (dsimp only [putL, setNth, evL, nth, Nat.zero_add, Nat.add_zero, Nat.reduceAdd, Nat.reduceMul, Nat.reduceSub, Int.reduceToNat, Int.toNat_natCast, Nat.mul_one, Nat.one_mul, gi_c0, gi_c1, gi_c2, gi_c3]; done)) : a = b := h
theorem stt {α : Type} {a b : List α} (h : a = b := by first | (dsimp only [List.set]; done) | (dsimp only [List.set]; rfl)) : a = b := h
section
variable {w0 W : World} {mu : List Nat} {bs : Mem}
theorem gbk (b : Nat) {i : Nat} {A : Array Value} {T : TypeId} (h : bs[i]? = some (b, A, T) := by first | exact g0 | exact g1 | exact g2 | exact g3 | exact g4 | exact g5 | exact g6 | exact g7 | exact g8 | exact g9 | exact g10 | exact g11 | exact g12 | exact g13 | exact g14 | exact g15) : bs[i]? = some (b, A, T) := h
theorem mbk (b : Nat) {i : Nat} {A : Array Value} {T : TypeId} (h : bs[i]? = some (b, A, T) := by first | exact g0 | exact g1 | exact g2 | exact g3 | exact g4 | exact g5 | exact g6 | exact g7 | exact g8 | exact g9 | exact g10 | exact g11 | exact g12 | exact g13 | exact g14 | exact g15) : (b, A, T) ∈ bs := List.mem_of_getElem? h
theorem hbk (hw : OwnM w0 mu W bs) (b : Nat) {i : Nat} {A : Array Value} {T : TypeId} (h : bs[i]? = some (b, A, T) := by first | exact g0 | exact g1 | exact g2 | exact g3 | exact g4 | exact g5 | exact g6 | exact g7 | exact g8 | exact g9 | exact g10 | exact g11 | exact g12 | exact g13 | exact g14 | exact g15) : W.heap[b]? = some (.cells A T (0, 0)) := hw.block (List.mem_of_getElem? h)
theorem rdk {b : Nat} {A : Array Value} (h : RdA w0 mu bs b A := by first | exact RdA.own g0 | exact RdA.own g1 | exact RdA.own g2 | exact RdA.own g3 | exact RdA.own g4 | exact RdA.own g5 | exact RdA.own g6 | exact RdA.own g7 | exact RdA.own g8 | exact RdA.own g9 | exact RdA.own g10 | exact RdA.own g11 | exact RdA.own g12 | exact RdA.own g13 | exact RdA.own g14 | exact RdA.own g15 | exact RdA.old (by assumption) (by first | simp | assumption)) : RdA w0 mu bs b A := h
end
section
variable {P : Program} {f : FuncId} {fn : Func} {c : Code} {args : Array Value} {w : World} {k : Nat} {rs : Array ResultVar} {l : List Value}
theorem padE (hn : fn.ntmps = k) (hl : args.toList ++ List.replicate (k - args.size) undef = l) : args ++ Array.replicate (fn.ntmps - args.size) undef = l.toArray := by
  subst hl hn
  apply Array.ext'
  simp
theorem pureE (hf : P.funcs[f]? = some fn) (hn : fn.ntmps = k) (hrs : fn.results = rs) {v : Value} (h : SP P w [] c (doneK P w [] rs (fun v' _ => v' = v)) l []) (hb : fn.body = some c := by rfl)
    (hl : args.toList ++ List.replicate (k - args.size) undef = l := by first | (simp only [List.size_toArray, List.length_cons, List.length_nil, Nat.reduceAdd, Nat.reduceSub, List.replicate_succ, List.replicate_zero, List.cons_append, List.nil_append]; done) | (simp only [List.size_toArray, List.length_cons, List.length_nil, Nat.reduceAdd, Nat.reduceSub, List.replicate_succ, List.replicate_zero, List.cons_append, List.nil_append]; rfl)) :
    Calls P f args w fun e w' => e = .returned v ∧ Below w.heap.size w w' := pure_of_SP hf hb l (padE hn hl) rs hrs v h
theorem mutE (hf : P.funcs[f]? = some fn) (hn : fn.ntmps = k) (hrs : fn.results = rs) {b : Nat} {A A' : Array Value} {T : TypeId} {v : Value} (hw : w.heap[b]? = some (.cells A T (0, 0))) (h : SP P w [b] c (doneK P w [b] rs (fun v' bs' => v' = v ∧ [(b, A', T)].Sublist bs')) l [(b, A, T)]) (hb : fn.body = some c := by rfl)
    (hl : args.toList ++ List.replicate (k - args.size) undef = l := by first | (simp only [List.size_toArray, List.length_cons, List.length_nil, Nat.reduceAdd, Nat.reduceSub, List.replicate_succ, List.replicate_zero, List.cons_append, List.nil_append]; done) | (simp only [List.size_toArray, List.length_cons, List.length_nil, Nat.reduceAdd, Nat.reduceSub, List.replicate_succ, List.replicate_zero, List.cons_append, List.nil_append]; rfl)) :
    Calls P f args w fun e w' => e = .returned v ∧ OwnM w [b] w' [(b, A', T)] := mut_of_SP hf hb hw l (padE hn hl) rs hrs v A' h
theorem newE (hf : P.funcs[f]? = some fn) (hn : fn.ntmps = k) (hrs : fn.results = rs) {A : Array Value} {T : TypeId} {V : Nat → Value} (h : SP P w [] c (doneK P w [] rs (fun v' bs' => ∃ b, v' = V b ∧ [(b, A, T)].Sublist bs')) l []) (hb : fn.body = some c := by rfl)
    (hl : args.toList ++ List.replicate (k - args.size) undef = l := by first | (simp only [List.size_toArray, List.length_cons, List.length_nil, Nat.reduceAdd, Nat.reduceSub, List.replicate_succ, List.replicate_zero, List.cons_append, List.nil_append]; done) | (simp only [List.size_toArray, List.length_cons, List.length_nil, Nat.reduceAdd, Nat.reduceSub, List.replicate_succ, List.replicate_zero, List.cons_append, List.nil_append]; rfl)) :
    Calls P f args w fun e w' => ∃ b, e = .returned (V b) ∧ OwnM w [] w' [(b, A, T)] := new_of_SP hf hb l (padE hn hl) rs hrs V h
theorem callE {mu : List Nat} {bs0 : Mem} (hf : P.funcs[f]? = some fn) (hn : fn.ntmps = k) (hrs : fn.results = rs) (h0 : OwnM w mu w bs0) (R : Value → Mem → Prop) (h : SP P w mu c (doneK P w mu rs R) l bs0) (hb : fn.body = some c := by rfl)
    (hl : args.toList ++ List.replicate (k - args.size) undef = l := by first | (simp only [List.size_toArray, List.length_cons, List.length_nil, Nat.reduceAdd, Nat.reduceSub, List.replicate_succ, List.replicate_zero, List.cons_append, List.nil_append]; done) | (simp only [List.size_toArray, List.length_cons, List.length_nil, Nat.reduceAdd, Nat.reduceSub, List.replicate_succ, List.replicate_zero, List.cons_append, List.nil_append]; rfl)) :
    Calls P f args w fun e w' => ∃ v bs', e = .returned v ∧ R v bs' ∧ OwnM w mu w' bs' := calls_of_SP hf hb h0 l (padE hn hl) rs hrs R h
end
section
variable {P : Program} {w0 : World} {mu : List Nat} {bs : Mem} {l : List Value} {Q : ExitP} {ops : Array Oper}
theorem rgn (id : Nat) {L : List Oper} (h : SL P L.toArray w0 mu L Q l bs) : SP P w0 mu (.region id L.toArray false) Q l bs := SP.region h
theorem nlx (h : Q .normal l bs) : SL P ops w0 mu [] Q l bs := SL.nil h
theorem zsq {x y : Code} (h : ∀ K : List Value → Mem → Prop, (∀ l bs, SP P w0 mu y Q l bs → K l bs) → SP P w0 mu x (thenK K Q) l bs) : SP P w0 mu (.seq x y) Q l bs := SP.seqK h
theorem zkN {next : List Value → Mem → Prop} (h : next l bs) : thenK next Q .normal l bs := h
theorem zkX {next : List Value → Mem → Prop} {id : Nat} (h : Q (.exit id) l bs) : thenK next Q (.exit id) l bs := h
theorem zkR {next : List Value → Mem → Prop} (h : Q .ret l bs) : thenK next Q .ret l bs := h
theorem zbN {id : Nat} (h : Q .normal l bs) : blockK id Q .normal l bs := h
theorem zbR {id : Nat} (h : Q .ret l bs) : blockK id Q .ret l bs := h
theorem zbE {id : Nat} (h : Q .normal l bs) : blockK id Q (.exit id) l bs := blockK_eq h
theorem zbX {id id' : Nat} (h : Q (.exit id') l bs) (hne : (id' == id) = false := by rfl) : blockK id Q (.exit id') l bs := blockK_ne hne h
theorem zsB {id : Nat} {c : Code} (h : SP P w0 mu c (blockK id Q) l bs) : SP P w0 mu (.block id c) Q l bs := SP.block h
theorem zsS (h : Q .normal l bs) : SP P w0 mu .skip Q l bs := SP.skip h
theorem zsR (h : Q .ret l bs) : SP P w0 mu .ret Q l bs := SP.ret h
theorem zsX {id : Nat} (h : Q (.exit id) l bs) : SP P w0 mu (.exit id) Q l bs := SP.exit h
theorem cdT {c : Operand} {x y : Code} {t : Bool} (h : SP P w0 mu x Q l bs) (hc : evL l c = .bool t := by rfl) (ht : t = true := by first | rfl | (simp only [decide_eq_true_eq, beq_iff_eq, bne_iff_ne]; first | done | omega)) : SP P w0 mu (.cond c x y) Q l bs := SP.condT hc ht h
theorem cdF {c : Operand} {x y : Code} {t : Bool} (h : SP P w0 mu y Q l bs) (hc : evL l c = .bool t := by rfl) (ht : t = false := by first | rfl | (simp only [decide_eq_false_iff_not, beq_eq_false_iff_ne, bne_eq_false_iff_eq]; first | done | omega)) : SP P w0 mu (.cond c x y) Q l bs := SP.condF hc ht h
end
end Sp
namespace F
open M Sp
section
variable {P : Program} {w0 : World} {mu : List Nat} {bs : Mem} {l : List Value} {Q : ExitP}
theorem SPa {id : Nat} {L : List Oper} {L1 : List (Nat × Oper)} (E D : List Nat) (keep : Mem) (ord : List Nat) (hm : P.follows .mixedOrders = true) (h : SF P L.toArray w0 mu E D keep L1 Q l bs) (hB : anyB L.toArray E D ord = true := by kernel_rfl)
    (h1 : (ord.filterMap fun i => (L[i]?).map fun o => (i, o)) = L1 := by first | (simp only [List.filterMap_cons, List.filterMap_nil, List.getElem?_cons_zero, List.getElem?_cons_succ, Option.map_some]; done) | (simp only [List.filterMap_cons, List.filterMap_nil, List.getElem?_cons_zero, List.getElem?_cons_succ, Option.map_some]; rfl)) (hkp : Kept keep bs := by first | exact Kept.nil | (simp [Kept]; done)) :
    SP P w0 mu (.region id L.toArray true) Q l bs := SP_any E D keep ord hm hB h1 hkp h
end
end F
end
end Go.Proofs.Ytdjecenggngdjaa
