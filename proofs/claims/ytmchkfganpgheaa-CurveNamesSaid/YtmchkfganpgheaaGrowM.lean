/-
  A region that draws its order, whose calls may make memory: one walk serves every order. Values first, then new variables, then the forced tail.
-/
import Derived.Test.YtmchkfganpgheaaMem
import Derived.StillTail
namespace Go.Proofs.Ytmchkfganpgheaa
set_option linter.unusedSimpArgs false
set_option linter.unusedVariables false
open Go Go.RowKit
namespace M

section
variable {P : Program} {ops : Array Oper} {md : Region.Mode} {w0 : World} {mu : List Nat} {bs : Mem}

/-- What one operation yields in a world, which may grow by a call. -/
def growUpon (P : Program) (w : World) (v : Value) : Result Next → Prop
  | .ok (.value u) w' => w' = w ∧ u = v
  | .ok .skip w' => w' = w ∧ v = undef
  | .ok (.enter f args) w' => w' = w ∧ Calls P f args w (fun e w'' => e = .returned v ∧ Below w.heap.size w w'')
  | .ok (.row row args) w' => w' = w ∧ Rows P row args w (fun u w'' => u = v ∧ Below w.heap.size w w'')
  | _ => False

def growAtM (P : Program) (w0 : World) (mu : List Nat) (bs : Mem) (o : Oper) (a : Act) (v : Value) : Prop :=
  ∀ w, OwnM w0 mu w bs → growUpon P w v ((execOp a.eval o).run P w)

def freshM : Op → Option TypeId
  | .alloc T => some T
  | _ => none

abbrev Acc := Mem

/-- One operation of the walk: a new variable's block is any; all else yields one value in every world. -/
def vOp (P : Program) (ops : Array Oper) (w0 : World) (mu : List Nat) (bs : Acc) (i : Nat) (K : Act → Acc → Prop) (a : Act) (acc : Acc) : Prop :=
  match ops[i]? with
  | none => False
  | some o =>
    match freshM o.op with
    | some T => o.guard = none ∧ ∃ A, (P.info? T).map (·.zero) = some (some (.agg A)) ∧ ∀ b, K (a.put o.dst (.pointer (some ⟨b, 0, none⟩))) ((b, A, T) :: acc)
    | none => if Region.wanted o (yielded ops a.tmps) then ∃ v, growAtM P w0 mu bs o a v ∧ K (a.put o.dst v) acc else K (a.put o.dst undef) acc

theorem vOp_mono {i : Nat} {K K' : Act → Acc → Prop} {a : Act} {acc : Acc} (h : ∀ a acc, K a acc → K' a acc) (hh : vOp P ops w0 mu bs i K a acc) : vOp P ops w0 mu bs i K' a acc := by
  unfold vOp at *
  split
  · rename_i ho; simp only [ho] at hh
  · rename_i o ho
    simp only [ho] at hh
    split
    · rename_i T hT
      simp only [hT] at hh
      obtain ⟨hg, A, hz, hk⟩ := hh
      exact ⟨hg, A, hz, fun b => h _ _ (hk b)⟩
    · rename_i hT
      simp only [hT] at hh
      split
      · rename_i hw
        simp only [hw, if_true] at hh
        obtain ⟨v, hv, hk⟩ := hh
        exact ⟨v, hv, h _ _ hk⟩
      · rename_i hw
        simp only [hw] at hh
        exact h _ _ hh

/-- A step of the walk is a step of every order. -/
theorem wpOp_of_vOp {i : Nat} {a : Act} {acc : Acc} {w : World} {K : Act → Acc → Prop} {K' : Act → World → Prop} {Q' : Exit → Act → World → Prop}
    (hw : OwnM w0 mu w (acc ++ bs)) (hK : ∀ a' acc' w', OwnM w0 mu w' (acc' ++ bs) → K a' acc' → K' a' w') (h : vOp P ops w0 mu bs i K a acc) : wpOp P ops Q' i K' a w := by
  unfold vOp at h
  unfold wpOp
  split
  · rename_i ho; simp only [ho] at h
  · rename_i o ho
    simp only [ho] at h
    split at h
    · rename_i T hT
      obtain ⟨hg, A, hz, hk⟩ := h
      have hop : o.op = .alloc T := by
        cases hop : o.op <;> simp [hop, freshM] at hT
        rw [hT]
      rw [if_pos (by simp [Region.wanted, hg])]
      refine .inl ?_
      cases hq : P.info? T with
      | none => simp [hq] at hz
      | some inf =>
        have hz' : inf.zero = some (.agg A) := by simpa [hq] using hz
        have hzv : (zeroValue T).run P w = .ok (.agg A) w := by simp [zeroValue, typeInfo, hq, hz']
        unfold Oper.wp execOp
        simp only [hop, Instr.alloc, newVar, newRow, newObj, Sem.run_bind, Sem.run_pure, Result.andThen_ok, hzv]
        exact hK _ ((w.heap.size, A, T) :: acc) _ (hw.alloc A T) (hk _)
    · split
      · rename_i hwant
        simp only [hwant, if_true] at h
        obtain ⟨v, hv, hk⟩ := h
        refine .inl ?_
        have h3 := hv w hw.tail
        unfold Oper.wp
        generalize (execOp a.eval o).run P w = r at h3
        cases r with
        | ok nx w' =>
          cases nx <;> simp only [growUpon] at h3 <;> simp only [Oper.upon]
          case value u =>
            obtain ⟨e1, e2⟩ := h3
            rw [e1, e2]
            exact hK _ _ _ hw hk
          case skip =>
            obtain ⟨e1, e2⟩ := h3
            rw [e1, ← e2]
            exact hK _ _ _ hw hk
          case enter f args =>
            obtain ⟨e1, hc⟩ := h3
            rw [e1]
            exact hc.mono fun e w'' ⟨he, hw''⟩ => by subst he; exact hK _ _ _ (hw.grow hw'') hk
          case row row args =>
            obtain ⟨e1, hc⟩ := h3
            rw [e1]
            exact hc.mono fun u w'' ⟨he, hw''⟩ => by subst he; exact hK _ _ _ (hw.grow hw'') hk
        | halt x w' => simp only [growUpon] at h3
      · rename_i hwant
        simp only [hwant] at h
        exact hK _ _ _ hw h

/-- Whatever order is picked among the first n operations. -/
def wpAnyV (P : Program) (md : Region.Mode) (ops : Array Oper) (w0 : World) (mu : List Nat) (bs : Acc) (n : Nat) (L : Array Bool → Act → Acc → Prop) : Nat → Array Bool → Act → Acc → Prop
  | 0, listed, a, acc => L listed a acc
  | f + 1, listed, a, acc =>
    Region.ready md ops listed ≠ [] ∧ ∀ i ∈ Region.ready md ops listed, i < n ∧ vOp P ops w0 mu bs i (wpAnyV P md ops w0 mu bs n L f (listed.setIfInBounds i true)) a acc

theorem wpAny_of_V {n g : Nat} {L : Array Bool → Act → Acc → Prop} {Q' : Exit → Act → World → Prop}
    (hL : ∀ listed a acc w, OwnM w0 mu w (acc ++ bs) → L listed a acc → wpAny P md ops Q' g listed a w) :
    ∀ (f : Nat) (listed : Array Bool) (a : Act) (acc : Acc) (w : World), OwnM w0 mu w (acc ++ bs) → wpAnyV P md ops w0 mu bs n L f listed a acc → wpAny P md ops Q' (f + g) listed a w
  | 0, listed, a, acc, w, hw, h => by rw [Nat.zero_add]; exact hL _ _ _ _ hw h
  | f + 1, listed, a, acc, w, hw, h => by
    rw [show f + 1 + g = (f + g) + 1 by omega]
    exact ⟨fun h0 => absurd h0 h.1, fun i hi => wpOp_of_vOp hw (fun a' acc' w' hw' h' => wpAny_of_V hL f _ a' acc' w' hw' h') (h.2 i hi).2⟩

theorem wpAnyV_perm {n : Nat} {L : Array Bool → Act → Acc → Prop} (hL : ∀ listed a acc acc', acc.Perm acc' → L listed a acc → L listed a acc') :
    ∀ (f : Nat) (listed : Array Bool) (a : Act) (acc acc' : Acc), acc.Perm acc' → wpAnyV P md ops w0 mu bs n L f listed a acc → wpAnyV P md ops w0 mu bs n L f listed a acc'
  | 0, _, _, _, _, hp, h => hL _ _ _ _ hp h
  | f + 1, listed, a, acc, acc', hp, h => ⟨h.1, fun i hi => ⟨(h.2 i hi).1, by
      have h2 := (h.2 i hi).2
      have ih := wpAnyV_perm (n := n) hL f (listed.setIfInBounds i true)
      unfold vOp at *
      split
      · rename_i ho; simp only [ho] at h2
      · rename_i o ho
        simp only [ho] at h2
        split
        · rename_i T hT
          simp only [hT] at h2
          obtain ⟨hg, A, hz, hk⟩ := h2
          exact ⟨hg, A, hz, fun b => ih _ _ _ (hp.cons _) (hk b)⟩
        · rename_i hT
          simp only [hT] at h2
          split
          · rename_i hw
            simp only [hw, if_true] at h2
            obtain ⟨v, hv, hk⟩ := h2
            exact ⟨v, hv, ih _ _ _ hp hk⟩
          · rename_i hw
            simp only [hw] at h2
            exact ih _ _ _ hp h2⟩⟩

/-- A value operation's value in a state. -/
def YieldsV (P : Program) (ops : Array Oper) (w0 : World) (mu : List Nat) (bs : Acc) (o : Oper) (v : Value) (a : Act) : Prop :=
  (Region.wanted o (yielded ops a.tmps) = true ∧ growAtM P w0 mu bs o a v) ∨ (Region.wanted o (yielded ops a.tmps) = false ∧ v = undef)

theorem YieldsV.vOp {i : Nat} {o : Oper} {v : Value} {a : Act} {acc : Acc} (hi : ops[i]? = some o) (hf : freshM o.op = none) (hy : YieldsV P ops w0 mu bs o v a) {K : Act → Acc → Prop} (h : K (a.put o.dst v) acc) :
    vOp P ops w0 mu bs i K a acc := by
  unfold Go.Proofs.Ytmchkfganpgheaa.M.vOp
  simp only [hi, hf]
  rcases hy with ⟨hw, hv⟩ | ⟨hw, rfl⟩
  · rw [if_pos hw]; exact ⟨v, hv, h⟩
  · rw [if_neg (by rw [hw]; exact Bool.false_ne_true)]; exact h

theorem YieldsV.of_same {o : Oper} {v : Value} {a a' : Act} (hy : YieldsV P ops w0 mu bs o v a) (he : execOp a'.eval o = execOp a.eval o)
    (hw : Region.wanted o (yielded ops a'.tmps) = Region.wanted o (yielded ops a.tmps)) : YieldsV P ops w0 mu bs o v a' := by
  unfold YieldsV growAtM at *
  rw [he, hw]
  exact hy

theorem vOp_put {j : Nat} {oi oj : Oper} {v : Value} (hj : ops[j]? = some oj) (hap : oi.apart ops oj = true)
    (hsi : ∀ cs b, oi.op ≠ .select cs b) (hsj : ∀ cs b, oj.op ≠ .select cs b) {K : Act → Acc → Prop} {a : Act} {acc : Acc}
    (hy : YieldsV P ops w0 mu bs oi v a) (h : vOp P ops w0 mu bs j K (a.put oi.dst v) acc) :
    vOp P ops w0 mu bs j (fun a' acc' => YieldsV P ops w0 mu bs oi v a' ∧ K (a'.put oi.dst v) acc') a acc := by
  obtain ⟨h1, h2, h3⟩ := Oper.apart_spec hap
  have keep : ∀ u, YieldsV P ops w0 mu bs oi v (a.put oj.dst u) := fun u =>
    hy.of_same (execOp_put oi hsi a oj.dst u h3) (wanted_put oi a oj.dst u h3)
  unfold vOp at *
  simp only [hj] at *
  split
  · rename_i T hT
    simp only [hT] at h
    obtain ⟨hg, A, hz, hk⟩ := h
    exact ⟨hg, A, hz, fun b => ⟨keep _, by rw [← Act.put_comm a v _ h2]; exact hk b⟩⟩
  · rename_i hT
    simp only [hT] at h
    rw [wanted_put oj a oi.dst v h1] at h
    split
    · rename_i hw
      simp only [hw, if_true] at h
      obtain ⟨u, hu, hk⟩ := h
      refine ⟨u, fun w hw' => ?_, keep u, by rw [← Act.put_comm a v u h2]; exact hk⟩
      have := hu w hw'
      rwa [execOp_put oj hsj a oi.dst v h1] at this
    · rename_i hw
      simp only [hw] at h
      exact ⟨keep _, by rw [← Act.put_comm a v undef h2]; exact h⟩

/-- What stands in the tail waits for all that stands ahead of it. -/
def TailWaits (md : Region.Mode) (ops : Array Oper) (n : Nat) : Prop :=
  ∀ (listed : Array Bool), HeadInv md ops n listed → ∀ i, i < n → listed.getD i true = false → ∀ t, n ≤ t → t ∉ Region.ready md ops listed

theorem wpAnyV_first {n i : Nat} {oi : Oper} {v : Value} {L : Array Bool → Act → Acc → Prop} (hi : ops[i]? = some oi) (hfr : freshM oi.op = none) (hsel : ∀ (j : Nat) (o : Oper) cs b, ops[j]? = some o → o.op ≠ .select cs b)
    (htail : TailWaits md ops n) (hin : i < n)
    (hdone : ∀ listed a acc, L listed a acc → ∀ j ∈ Region.ready md ops listed, n ≤ j) :
    ∀ (f : Nat) (listed : Array Bool) (a : Act) (acc : Acc), HeadInv md ops n listed →
      (∀ j oj, ops[j]? = some oj → j ≠ i → listed.getD j true = false → (∀ e ∈ oj.after, Region.binds md e = true → e.on ≠ i) → oi.apart ops oj = true) →
      i ∈ Region.ready md ops listed → YieldsV P ops w0 mu bs oi v a →
      wpAnyV P md ops w0 mu bs n L f (listed.setIfInBounds i true) (a.put oi.dst v) acc → wpAnyV P md ops w0 mu bs n L (f + 1) listed a acc := by
  intro f
  induction f with
  | zero =>
    intro listed a acc inv _ hr hy H
    have hun := (mem_ready.1 hr).1
    refine ⟨fun h => (by rw [h] at hr; cases hr), fun j hj => ?_⟩
    have hjn : j < n := by
      rcases Nat.lt_or_ge j n with h | h
      · exact h
      · exact absurd hj (htail _ inv i hin hun j h)
    refine ⟨hjn, ?_⟩
    by_cases hji : j = i
    · subst hji; exact hy.vOp hi hfr H
    · have := hdone _ _ _ H j (ready_mono hj hji)
      omega
  | succ f ih =>
    intro listed a acc inv hfree hr hy H
    have hun := (mem_ready.1 hr).1
    refine ⟨fun h => (by rw [h] at hr; cases hr), fun j hj => ?_⟩
    have hjn : j < n := by
      rcases Nat.lt_or_ge j n with h | h
      · exact h
      · exact absurd hj (htail _ inv i hin hun j h)
    refine ⟨hjn, ?_⟩
    by_cases hji : j = i
    · subst hji; exact hy.vOp hi hfr H
    · have h1 := (H.2 j (ready_mono hj hji)).2
      obtain ⟨hjun, oj, hoj, hall⟩ := mem_ready.1 hj
      have hnot : ∀ e ∈ oj.after, Region.binds md e = true → e.on ≠ i := fun e he hb heq => by
        have h1 := hall e he hb
        rw [heq, getD_both hun] at h1
        cases h1
      have h2 := vOp_put hoj (hfree j oj hoj hji hjun hnot) (fun cs b => hsel i oi cs b hi) (fun cs b => hsel j oj cs b hoj) hy h1
      have hfree' : ∀ k ok, ops[k]? = some ok → k ≠ i → (listed.setIfInBounds j true).getD k true = false →
          (∀ e ∈ ok.after, Region.binds md e = true → e.on ≠ i) → oi.apart ops ok = true := fun k ok hk hki hun hno => by
        refine hfree k ok hk hki ?_ hno
        by_cases hjk : j = k
        · subst hjk; exact hjun
        · rw [getD_set_ne true hjk] at hun; exact hun
      refine vOp_mono (fun a' acc' h3 => ih (listed.setIfInBounds j true) a' acc' (inv.set hj hjn) hfree' (ready_mono hr (Ne.symm hji)) h3.1 ?_) h2
      rw [Array.setIfInBounds_comm _ _ hji]
      exact h3.2

/-- A new variable may be made first, where all others that are left ahead of the tail are new variables too. -/
theorem wpAnyV_fresh {n i : Nat} {oi : Oper} {T : TypeId} {A : Array Value} {L : Array Bool → Act → Acc → Prop} (hi : ops[i]? = some oi) (hT : freshM oi.op = some T) (hg : oi.guard = none)
    (hz : (P.info? T).map (·.zero) = some (some (.agg A)))
    (htail : TailWaits md ops n) (hin : i < n)
    (hdone : ∀ listed a acc, L listed a acc → ∀ j ∈ Region.ready md ops listed, n ≤ j) (hperm : ∀ listed a acc acc', acc.Perm acc' → L listed a acc → L listed a acc') :
    ∀ (f : Nat) (listed : Array Bool) (a : Act) (acc : Acc), HeadInv md ops n listed →
      (∀ j oj, ops[j]? = some oj → j ≠ i → listed.getD j true = false → (∀ e ∈ oj.after, Region.binds md e = true → e.on ≠ i) → oi.apart ops oj = true) →
      (∀ j oj, ops[j]? = some oj → j < n → listed.getD j true = false → (freshM oj.op).isSome = true) →
      i ∈ Region.ready md ops listed →
      (∀ b, wpAnyV P md ops w0 mu bs n L f (listed.setIfInBounds i true) (a.put oi.dst (.pointer (some ⟨b, 0, none⟩))) ((b, A, T) :: acc)) → wpAnyV P md ops w0 mu bs n L (f + 1) listed a acc := by
  have here : ∀ (K : Act → Acc → Prop) (a : Act) (acc : Acc), (∀ b, K (a.put oi.dst (.pointer (some ⟨b, 0, none⟩))) ((b, A, T) :: acc)) → vOp P ops w0 mu bs i K a acc := by
    intro K a acc h
    unfold vOp
    simp only [hi, hT]
    exact ⟨hg, A, hz, h⟩
  intro f
  induction f with
  | zero =>
    intro listed a acc inv _ _ hr H
    have hun := (mem_ready.1 hr).1
    refine ⟨fun h => (by rw [h] at hr; cases hr), fun j hj => ?_⟩
    have hjn : j < n := by
      rcases Nat.lt_or_ge j n with h | h
      · exact h
      · exact absurd hj (htail _ inv i hin hun j h)
    refine ⟨hjn, ?_⟩
    by_cases hji : j = i
    · subst hji; exact here _ _ _ H
    · have := hdone _ _ _ (H 0) j (ready_mono hj hji)
      omega
  | succ f ih =>
    intro listed a acc inv hfree hall0 hr H
    have hun := (mem_ready.1 hr).1
    refine ⟨fun h => (by rw [h] at hr; cases hr), fun j hj => ?_⟩
    have hjn : j < n := by
      rcases Nat.lt_or_ge j n with h | h
      · exact h
      · exact absurd hj (htail _ inv i hin hun j h)
    refine ⟨hjn, ?_⟩
    by_cases hji : j = i
    · subst hji; exact here _ _ _ H
    · obtain ⟨hjun, oj, hoj, hall⟩ := mem_ready.1 hj
      have hnot : ∀ e ∈ oj.after, Region.binds md e = true → e.on ≠ i := fun e he hb heq => by
        have h1 := hall e he hb
        rw [heq, getD_both hun] at h1
        cases h1
      obtain ⟨h1a, h2a, h3a⟩ := Oper.apart_spec (hfree j oj hoj hji hjun hnot)
      have hfree' : ∀ k ok, ops[k]? = some ok → k ≠ i → (listed.setIfInBounds j true).getD k true = false →
          (∀ e ∈ ok.after, Region.binds md e = true → e.on ≠ i) → oi.apart ops ok = true := fun k ok hk hki hun hno => by
        refine hfree k ok hk hki ?_ hno
        by_cases hjk : j = k
        · subst hjk; exact hjun
        · rw [getD_set_ne true hjk] at hun; exact hun
      have hall' : ∀ k ok, ops[k]? = some ok → k < n → (listed.setIfInBounds j true).getD k true = false → (freshM ok.op).isSome = true := fun k ok hk hkn hun => by
        refine hall0 k ok hk hkn ?_
        by_cases hjk : j = k
        · subst hjk; exact hjun
        · rw [getD_set_ne true hjk] at hun; exact hun
      obtain ⟨Tj, hTj⟩ := Option.isSome_iff_exists.1 (hall0 j oj hoj hjn hjun)
      have hH := fun b => ((H b).2 j (ready_mono hj hji)).2
      unfold vOp at hH ⊢
      simp only [hoj, hTj] at hH ⊢
      obtain ⟨hgj, Aj, hzj, _⟩ := hH 0
      refine ⟨hgj, Aj, hzj, fun b' => ih (listed.setIfInBounds j true) _ _ (inv.set hj hjn) hfree' hall' (ready_mono hr (Ne.symm hji)) fun b => ?_⟩
      obtain ⟨_, Aj', hzj', hk⟩ := hH b
      have hA : Aj' = Aj := by
        rw [hzj] at hzj'
        simpa using hzj'.symm
      subst hA
      have := hk b'
      rw [Array.setIfInBounds_comm _ _ (Ne.symm hji), Act.put_comm a _ _ h2a] at this
      exact wpAnyV_perm hperm _ _ _ _ _ (List.Perm.swap _ _ _) this

/-- The walk, in an order of our own. -/
def wpV (P : Program) (ops : Array Oper) (w0 : World) (mu : List Nat) (bs : Acc) (F : Act → Acc → Prop) : List Oper → Act → Acc → Prop
  | [], a, acc => F a acc
  | o :: rest, a, acc =>
    match freshM o.op with
    | some T => o.guard = none ∧ ∃ A, (P.info? T).map (·.zero) = some (some (.agg A)) ∧ ∀ b, wpV P ops w0 mu bs F rest (a.put o.dst (.pointer (some ⟨b, 0, none⟩))) ((b, A, T) :: acc)
    | none => if Region.wanted o (yielded ops a.tmps) then ∃ v, growAtM P w0 mu bs o a v ∧ wpV P ops w0 mu bs F rest (a.put o.dst v) acc else wpV P ops w0 mu bs F rest (a.put o.dst undef) acc

def isFresh (ops : Array Oper) (i : Nat) : Bool := ((ops[i]?).bind fun o => freshM o.op).isSome

def ordB (md : Region.Mode) (ops : Array Oper) (n : Nat) (fin : Array Bool → Bool) : List Nat → Array Bool → Bool
  | [], listed => fin listed
  | i :: rest, listed => decide (i < n) && (Region.ready md ops listed).contains i && Region.free md ops listed i &&
      (!isFresh ops i || (List.range n).all fun j => listed.getD j true || isFresh ops j) && ordB md ops n fin rest (listed.setIfInBounds i true)

theorem wpAnyV_ord {n : Nat} {fin : Array Bool → Bool} {F : Act → Acc → Prop} (hF : ∀ a acc acc', acc.Perm acc' → F a acc → F a acc') (hsel : Region.noSelect ops = true) (htail : TailWaits md ops n)
    (hfin : ∀ listed, fin listed = true → ∀ j ∈ Region.ready md ops listed, n ≤ j) :
    ∀ (ord : List Nat) (listed : Array Bool) (a : Act) (acc : Acc) (l : List Oper), l.map some = ord.map (fun i => ops[i]?) → HeadInv md ops n listed → ordB md ops n fin ord listed = true → wpV P ops w0 mu bs F l a acc →
    wpAnyV P md ops w0 mu bs n (fun listed' a' acc' => fin listed' = true ∧ F a' acc') ord.length listed a acc
  | [], listed, a, acc, l, hl, _, hB, h => by
    cases l with
    | nil => exact ⟨hB, h⟩
    | cons o l => simp at hl
  | i :: ord, listed, a, acc, l, hl, inv, hB, h => by
    cases l with
    | nil => simp at hl
    | cons o l =>
      simp only [List.map_cons, List.cons.injEq] at hl
      obtain ⟨ho, hl⟩ := hl
      have ho := ho.symm
      simp only [ordB, Bool.and_eq_true, decide_eq_true_eq] at hB
      obtain ⟨⟨⟨⟨hin, hr⟩, hf⟩, hfr⟩, hB'⟩ := hB
      have hr' : i ∈ Region.ready md ops listed := by simpa using hr
      have hdone : ∀ (listed' : Array Bool) (a' : Act) (acc' : Acc), (fin listed' = true ∧ F a' acc') → ∀ j ∈ Region.ready md ops listed', n ≤ j :=
        fun listed' a' acc' hL => hfin _ hL.1
      simp only [wpV] at h
      split at h
      · rename_i T hT
        obtain ⟨hg, A, hz, hk⟩ := h
        refine wpAnyV_fresh ho hT hg hz htail hin hdone (fun _ _ _ _ hp hL => ⟨hL.1, hF _ _ _ hp hL.2⟩) _ listed a acc inv (Region.free_spec ho hf) ?_ hr'
          fun b => wpAnyV_ord hF hsel htail hfin ord _ _ _ l hl (inv.set hr' hin) hB' (hk b)
        intro j oj hj hjn hun
        simp only [isFresh, ho, Option.bind_some, hT, Option.isSome_some, Bool.not_true, Bool.false_or, List.all_eq_true, List.mem_range] at hfr
        have := hfr j hjn
        rw [hun] at this
        simpa [hj] using this
      · rename_i hT
        split at h
        · rename_i hw
          obtain ⟨v, hv, hk⟩ := h
          exact wpAnyV_first ho hT (Region.noSelect_spec hsel) htail hin hdone _ listed a acc inv (Region.free_spec ho hf) hr' (.inl ⟨hw, hv⟩)
            (wpAnyV_ord hF hsel htail hfin ord _ _ _ l hl (inv.set hr' hin) hB' hk)
        · rename_i hw
          exact wpAnyV_first ho hT (Region.noSelect_spec hsel) htail hin hdone _ listed a acc inv (Region.free_spec ho hf) hr' (.inr ⟨by simpa using hw, rfl⟩)
            (wpAnyV_ord hF hsel htail hfin ord _ _ _ l hl (inv.set hr' hin) hB' h)

def growB (ops : Array Oper) (n : Nat) (ord : List Nat) : Bool :=
  Region.noSelect ops && decide (n < ops.size) && Region.sinkB .any ops n && Region.chainB .any ops n && decide (ord.length = n) &&
    ordB .any ops n (Region.seqB .any ops (ops.size - n) n) ord (Array.replicate ops.size false)

theorem ordB_lt {n : Nat} {fin : Array Bool → Bool} : ∀ (ord : List Nat) (listed : Array Bool), ordB md ops n fin ord listed = true → ∀ i ∈ ord, i < n
  | [], _, _, i, hi => by simp at hi
  | j :: ord, listed, h, i, hi => by
    simp only [ordB, Bool.and_eq_true, decide_eq_true_eq] at h
    rcases List.mem_cons.1 hi with rfl | hi
    · exact h.1.1.1.1
    · exact ordB_lt ord _ h.2 i hi
theorem map_filterMap {l : List Oper} : ∀ (ord : List Nat), (∀ i ∈ ord, i < l.length) → (ord.filterMap fun i => l[i]?).map some = ord.map fun i => l.toArray[i]?
  | [], _ => rfl
  | i :: ord, h => by
    have hi := h i (by simp)
    have ih := map_filterMap ord (fun j hj => h j (by simp [hj]))
    simp only [List.map_cons, List.getElem?_toArray]
    rw [List.filterMap_cons, List.getElem?_eq_getElem hi]
    simp only [List.map_cons, List.cons.injEq, true_and]
    simpa using ih

/-- A REGION THAT DRAWS, walked once. n: how many operations stand ahead of the tail; ord: our order of these; the tail is walked as it stands, in every world where what was made lies. -/
theorem wp_region_grow {id : Nat} {Q : Exit → Act → World → Prop} {a : Act} {W : World} {l : List Oper} (n : Nat) (ord : List Nat) (hm : P.follows .mixedOrders = true) (hB : growB l.toArray n ord = true)
    (hown : OwnM w0 mu W bs)
    (h : wpV P l.toArray w0 mu bs (fun a' acc => ∀ W', OwnM w0 mu W' (acc ++ bs) → wpList P l.toArray Q (l.drop n) a' W') (ord.filterMap fun i => l[i]?) a []) : (Code.region id l.toArray true).wp P Q a W := by
  simp only [growB, Bool.and_eq_true, decide_eq_true_eq] at hB
  obtain ⟨⟨⟨⟨⟨hsel, hn⟩, hs⟩, hc⟩, hlen⟩, hord⟩ := hB
  have hdl : (l.drop n).length = l.toArray.size - n := by simp
  have inv0 : HeadInv .any l.toArray n (Array.replicate l.toArray.size false) :=
    ⟨by simp, fun j oj _ hl => (by rw [getD_replicate_false] at hl; cases hl), fun t _ ht => getD_in (by simpa using ht) (getD_replicate_false _ _)⟩
  have H := wpAnyV_ord (md := .any) (fin := Region.seqB .any l.toArray (l.toArray.size - n) n) (F := fun a' acc => ∀ W', OwnM w0 mu W' (acc ++ bs) → wpList P l.toArray Q (l.drop n) a' W')
    (fun a' acc acc' hp hF W' hw' => hF W' (hw'.perm (hp.symm.append_right _))) hsel (fun listed inv i hi hun t ht => tail_waits hs hc hn inv _ i rfl hi hun t ht) (fun _ h => seqB_ready h) ord _ a [] _ (map_filterMap ord fun i hi => Nat.lt_trans (ordB_lt ord _ hord i hi) (by simpa using hn)) inv0 hord h
  refine wp_region_any hm ?_
  have hown' : OwnM w0 mu ({ W with drawn := W.drawn + 1 } : World) ([] ++ bs) := hown.drew 1
  have := wpAny_of_V (Q' := Q) (g := l.toArray.size - n) (fun listed a' acc w hw hL => by
    have := wpAny_of_seq (md := .any) (Q' := Q) (l.drop n) n listed a' w (fun j => by simp [List.getElem?_drop]) (by rw [hdl]; exact hL.1) (hL.2 w hw)
    rwa [hdl] at this) _ _ _ _ _ hown' H
  rw [hlen, show n + (l.toArray.size - n) = l.toArray.size by omega] at this
  exact this

/-- The same, where the tail's operations may come in several orders: each of them waits for all that stands ahead of the tail. -/
def directB (ops : Array Oper) (n : Nat) : Bool :=
  (List.range ops.size).all fun t => decide (t < n) || (List.range n).all fun i => Region.waitsFor .any ops t i
def growB2 (ops : Array Oper) (n : Nat) (ord : List Nat) : Bool :=
  Region.noSelect ops && decide (n < ops.size) && directB ops n && decide (ord.length = n) &&
    ordB .any ops n (fun listed => (List.range n).all fun i => listed.getD i false) ord (Array.replicate ops.size false)
def listedBy (size : Nat) : List Nat → Array Bool → Array Bool
  | [], listed => listed
  | i :: ord, listed => listedBy size ord (listed.setIfInBounds i true)

theorem direct_waits {n : Nat} (h : directB ops n = true) : TailWaits .any ops n := by
  intro listed inv i hi hun t ht hr
  obtain ⟨_, ot, hot, hall⟩ := mem_ready.1 hr
  have htlt : t < ops.size := (Array.getElem?_eq_some_iff.1 hot).1
  have h1 := List.all_eq_true.1 h t (List.mem_range.2 htlt)
  simp only [Bool.or_eq_true, decide_eq_true_eq] at h1
  rcases h1 with h1 | h1
  · omega
  · obtain ⟨o', ho', e, he, hb, hon⟩ := Region.waitsFor_spec (List.all_eq_true.1 h1 i (List.mem_range.2 hi))
    have : o' = ot := Option.some.inj (ho'.symm.trans hot)
    subst this
    have h2 := hall e he hb
    rw [hon, getD_both hun] at h2
    cases h2

theorem wpAnyV_listed {n : Nat} {F : Act → Acc → Prop} : ∀ (f : Nat) (listed : Array Bool) (a : Act) (acc : Acc), wpAnyV P md ops w0 mu bs n (fun listed' a' acc' => (List.range n).all (fun i => listed'.getD i false) = true ∧ F a' acc') f listed a acc → listed.size = ops.size →
    (∀ t, n ≤ t → t < ops.size → listed.getD t false = false) →
    wpAnyV P md ops w0 mu bs n (fun listed' a' acc' => listed' = (Array.replicate n true ++ Array.replicate (ops.size - n) false) ∧ F a' acc') f listed a acc
  | 0, listed, a, acc, h, hs, ht => by
    by_cases hn : n ≤ ops.size
    · refine ⟨?_, h.2⟩
      have h1 := h.1
      simp only [List.all_eq_true, List.mem_range] at h1
      apply Array.ext (by simp [hs]; omega)
      intro i hi hi'
      by_cases hin : i < n
      · have := h1 i hin
        simp [hi] at this
        simp [hin, this]
      · have := ht i (by omega) (by omega)
        simp [hi] at this
        simp [this, Array.getElem_append, hin]
    · exfalso
      have h1 := h.1
      simp only [List.all_eq_true, List.mem_range] at h1
      have := h1 ops.size (by omega)
      simp [hs] at this
  | f + 1, listed, a, acc, h, hs, ht => ⟨h.1, fun i hi => ⟨(h.2 i hi).1, vOp_mono (fun a' acc' h' => wpAnyV_listed f _ a' acc' h' (by simp [hs]) (fun t ht1 ht2 => by
      rw [getD_set_ne false (by have := (h.2 i hi).1; omega)]; exact ht t ht1 ht2)) (h.2 i hi).2⟩⟩

theorem wp_region_grow2 {id : Nat} {Q : Exit → Act → World → Prop} {a : Act} {W : World} {l : List Oper} (n : Nat) (ord : List Nat) (hm : P.follows .mixedOrders = true) (hB : growB2 l.toArray n ord = true)
    (hown : OwnM w0 mu W bs)
    (h : wpV P l.toArray w0 mu bs (fun a' acc => ∀ W', OwnM w0 mu W' (acc ++ bs) → wpAny P .any l.toArray Q (l.length - n) (Array.replicate n true ++ Array.replicate (l.length - n) false) a' W') (ord.filterMap fun i => l[i]?) a []) : (Code.region id l.toArray true).wp P Q a W := by
  simp only [growB2, Bool.and_eq_true, decide_eq_true_eq] at hB
  obtain ⟨⟨⟨⟨hsel, hn⟩, hd⟩, hlen⟩, hord⟩ := hB
  have inv0 : HeadInv .any l.toArray n (Array.replicate l.toArray.size false) :=
    ⟨by simp, fun j oj _ hl => (by rw [getD_replicate_false] at hl; cases hl), fun t _ ht => getD_in (by simpa using ht) (getD_replicate_false _ _)⟩
  have H := wpAnyV_ord (md := .any) (fin := fun listed => (List.range n).all fun i => listed.getD i false) (F := fun a' acc => ∀ W', OwnM w0 mu W' (acc ++ bs) → wpAny P .any l.toArray Q (l.length - n) (Array.replicate n true ++ Array.replicate (l.length - n) false) a' W')
    (fun a' acc acc' hp hF W' hw' => hF W' (hw'.perm (hp.symm.append_right _))) hsel (direct_waits hd) (fun listed hf j hj => by
      rcases Nat.lt_or_ge j n with hlt | hge
      · have h1 := List.all_eq_true.1 hf j (List.mem_range.2 hlt)
        have h2 := getD_both (mem_ready.1 hj).1
        rw [h2] at h1
        cases h1
      · exact hge) ord _ a [] _ (map_filterMap ord fun i hi => Nat.lt_trans (ordB_lt ord _ hord i hi) (by simpa using hn)) inv0 hord h
  have H2 := wpAnyV_listed _ _ _ _ H (by simp) (fun t _ _ => getD_replicate_false _ _)
  refine wp_region_any hm ?_
  have hown' : OwnM w0 mu ({ W with drawn := W.drawn + 1 } : World) ([] ++ bs) := hown.drew 1
  have := wpAny_of_V (Q' := Q) (g := l.length - n) (fun listed a' acc w hw hL => by
    have := hL.2 w hw
    rw [hL.1]
    simpa using this) _ _ _ _ _ hown' H2
  have hn' : n < l.length := by simpa using hn
  rw [hlen, show n + (l.length - n) = l.toArray.size by simp; omega] at this
  exact this

theorem wpV_nil {F : Act → Acc → Prop} {a : Act} {acc : Acc} (h : F a acc) : wpV P ops w0 mu bs F [] a acc := h
theorem wpV_step {F : Act → Acc → Prop} {lf : List Value} {df : List Deferred} {acc : Acc} {o : Oper} {rest : List Oper} (hg : o.guard = none) (hf : freshM o.op = none) (v : Value) (hv : growAtM P w0 mu bs o ⟨lf.toArray, df⟩ v)
    (h : wpV P ops w0 mu bs F rest ⟨(putL lf o.dst v).toArray, df⟩ acc) : wpV P ops w0 mu bs F (o :: rest) ⟨lf.toArray, df⟩ acc := by
  simp only [wpV, hf]
  rw [if_pos (by simp [Region.wanted, hg])]
  exact ⟨v, hv, by rw [putL_eq]; exact h⟩
theorem wpV_stepg {F : Act → Acc → Prop} {lf : List Value} {df : List Deferred} {acc : Acc} {o : Oper} {rest : List Oper} (hg : Region.wanted o (yielded ops lf.toArray) = true) (hf : freshM o.op = none) (v : Value) (hv : growAtM P w0 mu bs o ⟨lf.toArray, df⟩ v)
    (h : wpV P ops w0 mu bs F rest ⟨(putL lf o.dst v).toArray, df⟩ acc) : wpV P ops w0 mu bs F (o :: rest) ⟨lf.toArray, df⟩ acc := by
  simp only [wpV, hf]
  rw [if_pos hg]
  exact ⟨v, hv, by rw [putL_eq]; exact h⟩
theorem wpV_skip {F : Act → Acc → Prop} {lf : List Value} {df : List Deferred} {acc : Acc} {o : Oper} {rest : List Oper} (hg : Region.wanted o (yielded ops lf.toArray) = false) (hf : freshM o.op = none)
    (h : wpV P ops w0 mu bs F rest ⟨(putL lf o.dst undef).toArray, df⟩ acc) : wpV P ops w0 mu bs F (o :: rest) ⟨lf.toArray, df⟩ acc := by
  simp only [wpV, hf]
  rw [if_neg (by rw [hg]; exact Bool.false_ne_true), putL_eq]
  exact h
theorem wpV_alloc {F : Act → Acc → Prop} {lf : List Value} {df : List Deferred} {acc : Acc} {o : Oper} {rest : List Oper} (hg : o.guard = none) (T : TypeId) (hf : freshM o.op = some T) (A : Array Value)
    (hz : (P.info? T).map (·.zero) = some (some (.agg A)))
    (h : ∀ b, wpV P ops w0 mu bs F rest ⟨(putL lf o.dst (.pointer (some ⟨b, 0, none⟩))).toArray, df⟩ ((b, A, T) :: acc)) : wpV P ops w0 mu bs F (o :: rest) ⟨lf.toArray, df⟩ acc := by
  simp only [wpV, hf]
  exact ⟨hg, A, hz, fun b => by rw [putL_eq]; exact h b⟩

section
variable {lf : List Value} {df : List Deferred} {o : Oper}
theorem growAt_move (x : Operand) (ho : o.op = .move x) (v : Value) (hx : evL lf x = v) : growAtM P w0 mu bs o ⟨lf.toArray, df⟩ v := by
  intro w _
  unfold execOp
  simp only [ho, evL_eq, hx, Sem.run_pure]
  exact ⟨rfl, rfl⟩
theorem growAt_assign (x : Operand) (ho : o.op = .assign x) (v : Value) (hx : evL lf x = v) : growAtM P w0 mu bs o ⟨lf.toArray, df⟩ v := by
  intro w _
  unfold execOp
  simp only [ho, evL_eq, hx, Sem.run_pure]
  exact ⟨rfl, rfl⟩
/-- A value that hangs on no world. -/
theorem growAt_pure {a : Act} {v : Value} (h : ∀ w, (execOp a.eval o).run P w = .ok (.value v) w) : growAtM P w0 mu bs o a v := by
  intro w _
  rw [h w]
  exact ⟨rfl, rfl⟩
theorem growAt_bin (op : BinOp) (t : TypeId) (x y : Operand) (t' : TypeId) (ho : o.op = .binOp op t x y t') (vx vy : Value) (hx : evL lf x = vx) (hy : evL lf y = vy) (v : Value)
    (h : ∀ w, (do eqGuard op t x y vx vy; binOp op t vx vy).run P w = .ok v w) : growAtM P w0 mu bs o ⟨lf.toArray, df⟩ v := by
  refine growAt_pure fun w => ?_
  unfold execOp
  simp only [ho, evL_eq, hx, hy]
  rw [Sem.run_bind, h w]
  rfl
theorem growAt_bits (op : BinOp) (t : TypeId) (x y : Operand) (t' : TypeId) (ho : o.op = .binOp op t x y t') (hop : op = .and ∨ op = .or ∨ op = .xor ∨ op = .andNot) (k : IntKind) (a b : Int) (hx : evL lf x = .int k a) (hy : evL lf y = .int k b) :
    growAtM P w0 mu bs o ⟨lf.toArray, df⟩ (.int k (bits op k a b)) := by
  refine growAt_bin op t x y t' ho _ _ hx hy _ fun w => ?_
  rcases hop with rfl | rfl | rfl | rfl <;> (simp only [go_sem]; rfl)
theorem growAt_un (op : UnOp) (t : TypeId) (x : Operand) (ho : o.op = .unOp op t x) (vx : Value) (hx : evL lf x = vx) (v : Value)
    (h : ∀ w, (Op.unary op vx).run P w = .ok v w) : growAtM P w0 mu bs o ⟨lf.toArray, df⟩ v := by
  refine growAt_pure fun w => ?_
  unfold execOp
  simp only [ho, evL_eq, hx, Sem.run_bind, h w, Result.andThen_ok, Sem.run_pure]
theorem growAt_conv (s d : TypeId) (x : Operand) (ho : o.op = .convert s d x) (vx : Value) (hx : evL lf x = vx) (v : Value)
    (h : ∀ w, (convert s d vx).run P w = .ok v w) : growAtM P w0 mu bs o ⟨lf.toArray, df⟩ v := by
  refine growAt_pure fun w => ?_
  unfold execOp
  simp only [ho, evL_eq, hx, Sem.run_bind, h w, Result.andThen_ok, Sem.run_pure]
theorem growAt_idx (t : TypeId) (x y : Operand) (ho : o.op = .indexAddr t x y) (vx vy : Value) (hx : evL lf x = vx) (hy : evL lf y = vy) (v : Value)
    (h : ∀ w, (Instr.indexAt t vx vy).run P w = .ok v w) : growAtM P w0 mu bs o ⟨lf.toArray, df⟩ v := by
  refine growAt_pure fun w => ?_
  unfold execOp
  simp only [ho, evL_eq, hx, hy, Sem.run_bind, h w, Result.andThen_ok, Sem.run_pure]
theorem run_indexAt_arr (w : World) (t e : TypeId) (n s : Nat) (hu : P.underlying t = some (.array n e)) (hs : (P.info? e).map (·.size) = some s) (b off : Nat) (j : IntKind) (i : Int) (h0 : 0 ≤ i) (h1 : i < n) (m : Nat) (hm : off + i.toNat * s = m) :
    (Instr.indexAt t (.pointer (some ⟨b, off, none⟩)) (.int j i)).run P w = .ok (.pointer (some ⟨b, m, none⟩)) w := by
  cases hq : P.info? e with
  | none => simp [hq] at hs
  | some inf =>
    have hs' : inf.size = s := by simpa [hq] using hs
    have hadd : (⟨b, off, none⟩ : Addr).add (i.toNat * s) = ⟨b, m, none⟩ := by
      unfold Addr.add
      split
      · rename_i h
        rw [h] at hm
        simp [← hm]
      · simp [hm]
    simp [Instr.indexAt, asIntOf, Instr.sureAddr, Sem.run_bind, run_underlying hu, h0, h1, sizeOf, typeInfo, hq, hs', hadd]
theorem growAt_idxA (t : TypeId) (x y : Operand) (ho : o.op = .indexAddr t x y) (b off : Nat) (hx : evL lf x = .pointer (some ⟨b, off, none⟩)) (j : IntKind) (i : Int) (hy : evL lf y = .int j i)
    (n : Nat) (e : TypeId) (hu : P.underlying t = some (.array n e)) (s : Nat) (hs : (P.info? e).map (·.size) = some s) (h0 : 0 ≤ i) (h1 : i < n) (m : Nat) (hm : off + i.toNat * s = m) : growAtM P w0 mu bs o ⟨lf.toArray, df⟩ (.pointer (some ⟨b, m, none⟩)) :=
  growAt_idx t x y ho _ _ hx hy _ fun w => run_indexAt_arr w t e n s hu hs b off j i h0 h1 m hm
theorem growAt_fld (t : TypeId) (x : Operand) (i : Nat) (ho : o.op = .fieldAddr t x i) (vx : Value) (hx : evL lf x = vx) (v : Value)
    (h : ∀ w, (Instr.fieldAt t vx i).run P w = .ok v w) : growAtM P w0 mu bs o ⟨lf.toArray, df⟩ v := by
  refine growAt_pure fun w => ?_
  unfold execOp
  simp only [ho, evL_eq, hx, Sem.run_bind, h w, Result.andThen_ok, Sem.run_pure]
theorem growAt_extract (x : Operand) (i : Nat) (ho : o.op = .extract x i) (vs : List Value) (hx : evL lf x = .tuple vs.toArray) (v : Value) (hv : vs[i]? = some v) : growAtM P w0 mu bs o ⟨lf.toArray, df⟩ v := by
  refine growAt_pure fun w => ?_
  unfold execOp
  simp [ho, evL_eq, hx, Instr.extract, hv]
theorem growAt_pick (c x y : Operand) (ho : o.op = .pick c x y) (b : Bool) (hc : evL lf c = .bool b) (vx vy : Value) (hx : evL lf x = vx) (hy : evL lf y = vy) : growAtM P w0 mu bs o ⟨lf.toArray, df⟩ (if b then vx else vy) := by
  refine growAt_pure fun w => ?_
  unfold execOp
  simp [ho, evL_eq, hc, hx, hy, asBool]
/-- A call of a function with a body, by its contract. -/
theorem growAt_call {a : Act} {f : FuncId} {args : Array Value} {v : Value} (hr : ∀ w, (execOp a.eval o).run P w = .ok (.enter f args) w)
    (hc : ∀ w, Calls P f args w fun e w' => e = .returned v ∧ Below w.heap.size w w') : growAtM P w0 mu bs o a v := by
  intro w _
  rw [hr w]
  exact ⟨rfl, hc w⟩
end
end
end M
end Go.Proofs.Ytmchkfganpgheaa
