/-
  Joined texts: Grow, Eq, SpM. No conditions.
-/
import Derived.Test.YtdjecenggngdjaaGaa
import Derived.Test.YtdjecenggngdjaaGab
import Derived.StillTail
import Derived.Laws.StructEq
namespace Go.Proofs.Ytdjecenggngdjaa
set_option linter.unusedSimpArgs false
set_option linter.unusedVariables false
set_option maxHeartbeats 16000000
section
open Go Go.RowKit
theorem Own.perm {w0 W : World} {bs bs' : List (Nat × Array Value × TypeId)} (h : Own w0 W bs) (hp : bs.Perm bs') : Own w0 W bs' :=
  ⟨h.below, fun p hm => h.here p (hp.mem_iff.2 hm), (hp.map _).nodup_iff.1 h.apart⟩
theorem Own.tail {w0 W : World} {acc bs : List (Nat × Array Value × TypeId)} (h : Own w0 W (acc ++ bs)) : Own w0 W bs :=
  ⟨h.below, fun p hm => h.here p (List.mem_append_right _ hm), by have := h.apart; rw [List.map_append, List.nodup_append] at this; exact this.2.1⟩
section
variable {P : Program} {ops : Array Oper} {md : Region.Mode} {w0 : World} {bs : List (Nat × Array Value × TypeId)}
def growUpon (P : Program) (w : World) (v : Value) : Result Next → Prop
  | .ok (.value u) w' => w' = w ∧ u = v
  | .ok .skip w' => w' = w ∧ v = undef
  | .ok (.enter f args) w' => w' = w ∧ Calls P f args w (fun e w'' => e = .returned v ∧ Below w.heap.size w w'')
  | .ok (.row row args) w' => w' = w ∧ Rows P row args w (fun u w'' => u = v ∧ Below w.heap.size w w'')
  | _ => False
def Oper.growAt (P : Program) (w0 : World) (bs : List (Nat × Array Value × TypeId)) (o : Oper) (a : Act) (v : Value) : Prop :=
  ∀ w, Own w0 w bs → growUpon P w v ((execOp a.eval o).run P w)
def Op.fresh : Op → Option TypeId
  | .alloc T => some T
  | _ => none
abbrev Acc := List (Nat × Array Value × TypeId)
def vOp (P : Program) (ops : Array Oper) (w0 : World) (bs : Acc) (i : Nat) (K : Act → Acc → Prop) (a : Act) (acc : Acc) : Prop :=
  match ops[i]? with
  | none => False
  | some o =>
    match Op.fresh o.op with
    | some T => o.guard = none ∧ ∃ A, (P.info? T).map (·.zero) = some (some (.agg A)) ∧ ∀ b, K (a.put o.dst (.pointer (some ⟨b, 0, none⟩))) ((b, A, T) :: acc)
    | none => if Region.wanted o (yielded ops a.tmps) then ∃ v, Oper.growAt P w0 bs o a v ∧ K (a.put o.dst v) acc else K (a.put o.dst undef) acc
theorem vOp_mono {i : Nat} {K K' : Act → Acc → Prop} {a : Act} {acc : Acc} (h : ∀ a acc, K a acc → K' a acc) (hh : vOp P ops w0 bs i K a acc) : vOp P ops w0 bs i K' a acc := by
  unfold vOp at *
  split
  · rename_i ho; simp only [ho] at hh
  · rename_i o ho
    simp only [ho] at hh
    split
    · rename_i T hT
      simp only [hT] at hh
      obtain ⟨hg, A, hz, hk⟩ := hh
      exact ⟨hg, A, hz, fun b => h _ _ (hk b)⟩
    · rename_i hT
      simp only [hT] at hh
      split
      · rename_i hw
        simp only [hw, if_true] at hh
        obtain ⟨v, hv, hk⟩ := hh
        exact ⟨v, hv, h _ _ hk⟩
      · rename_i hw
        simp only [hw] at hh
        exact h _ _ hh
theorem wpOp_of_vOp {i : Nat} {a : Act} {acc : Acc} {w : World} {K : Act → Acc → Prop} {K' : Act → World → Prop} {Q' : Exit → Act → World → Prop}
    (hw : Own w0 w (acc ++ bs)) (hK : ∀ a' acc' w', Own w0 w' (acc' ++ bs) → K a' acc' → K' a' w') (h : vOp P ops w0 bs i K a acc) : wpOp P ops Q' i K' a w := by
  unfold vOp at h
  unfold wpOp
  split
  · rename_i ho; simp only [ho] at h
  · rename_i o ho
    simp only [ho] at h
    split at h
    · rename_i T hT
      obtain ⟨hg, A, hz, hk⟩ := h
      have hop : o.op = .alloc T := by
        cases hop : o.op <;> simp [hop, Op.fresh] at hT
        rw [hT]
      rw [if_pos (by simp [Region.wanted, hg])]
      refine .inl ?_
      cases hq : P.info? T with
      | none => simp [hq] at hz
      | some inf =>
        have hz' : inf.zero = some (.agg A) := by simpa [hq] using hz
        have hzv : (zeroValue T).run P w = .ok (.agg A) w := by simp [zeroValue, typeInfo, hq, hz']
        unfold Oper.wp execOp
        simp only [hop, Instr.alloc, newVar, newRow, newObj, Sem.run_bind, Sem.run_pure, Result.andThen_ok, hzv]
        exact hK _ ((w.heap.size, A, T) :: acc) _ (hw.alloc A T) (hk _)
    · split
      · rename_i hwant
        simp only [hwant, if_true] at h
        obtain ⟨v, hv, hk⟩ := h
        refine .inl ?_
        have h3 := hv w hw.tail
        unfold Oper.wp
        generalize (execOp a.eval o).run P w = r at h3
        cases r with
        | ok nx w' =>
          cases nx <;> simp only [growUpon] at h3 <;> simp only [Oper.upon]
          case value u =>
            obtain ⟨e1, e2⟩ := h3
            rw [e1, e2]
            exact hK _ _ _ hw hk
          case skip =>
            obtain ⟨e1, e2⟩ := h3
            rw [e1, ← e2]
            exact hK _ _ _ hw hk
          case enter f args =>
            obtain ⟨e1, hc⟩ := h3
            rw [e1]
            exact hc.mono fun e w'' ⟨he, hw''⟩ => by subst he; exact hK _ _ _ (hw.grow hw'') hk
          case row row args =>
            obtain ⟨e1, hc⟩ := h3
            rw [e1]
            exact hc.mono fun u w'' ⟨he, hw''⟩ => by subst he; exact hK _ _ _ (hw.grow hw'') hk
        | halt x w' => simp only [growUpon] at h3
      · rename_i hwant
        simp only [hwant] at h
        exact hK _ _ _ hw h
def wpAnyV (P : Program) (md : Region.Mode) (ops : Array Oper) (w0 : World) (bs : Acc) (n : Nat) (L : Array Bool → Act → Acc → Prop) : Nat → Array Bool → Act → Acc → Prop
  | 0, listed, a, acc => L listed a acc
  | f + 1, listed, a, acc =>
    Region.ready md ops listed ≠ [] ∧ ∀ i ∈ Region.ready md ops listed, i < n ∧ vOp P ops w0 bs i (wpAnyV P md ops w0 bs n L f (listed.setIfInBounds i true)) a acc
theorem wpAny_of_V {n g : Nat} {L : Array Bool → Act → Acc → Prop} {Q' : Exit → Act → World → Prop}
    (hL : ∀ listed a acc w, Own w0 w (acc ++ bs) → L listed a acc → wpAny P md ops Q' g listed a w) :
    ∀ (f : Nat) (listed : Array Bool) (a : Act) (acc : Acc) (w : World), Own w0 w (acc ++ bs) → wpAnyV P md ops w0 bs n L f listed a acc → wpAny P md ops Q' (f + g) listed a w
  | 0, listed, a, acc, w, hw, h => by rw [Nat.zero_add]; exact hL _ _ _ _ hw h
  | f + 1, listed, a, acc, w, hw, h => by
    rw [show f + 1 + g = (f + g) + 1 by omega]
    exact ⟨fun h0 => absurd h0 h.1, fun i hi => wpOp_of_vOp hw (fun a' acc' w' hw' h' => wpAny_of_V hL f _ a' acc' w' hw' h') (h.2 i hi).2⟩
theorem wpAnyV_perm {n : Nat} {L : Array Bool → Act → Acc → Prop} (hL : ∀ listed a acc acc', acc.Perm acc' → L listed a acc → L listed a acc') :
    ∀ (f : Nat) (listed : Array Bool) (a : Act) (acc acc' : Acc), acc.Perm acc' → wpAnyV P md ops w0 bs n L f listed a acc → wpAnyV P md ops w0 bs n L f listed a acc'
  | 0, _, _, _, _, hp, h => hL _ _ _ _ hp h
  | f + 1, listed, a, acc, acc', hp, h => ⟨h.1, fun i hi => ⟨(h.2 i hi).1, by
      have h2 := (h.2 i hi).2
      have ih := wpAnyV_perm (n := n) hL f (listed.setIfInBounds i true)
      unfold vOp at *
      split
      · rename_i ho; simp only [ho] at h2
      · rename_i o ho
        simp only [ho] at h2
        split
        · rename_i T hT
          simp only [hT] at h2
          obtain ⟨hg, A, hz, hk⟩ := h2
          exact ⟨hg, A, hz, fun b => ih _ _ _ (hp.cons _) (hk b)⟩
        · rename_i hT
          simp only [hT] at h2
          split
          · rename_i hw
            simp only [hw, if_true] at h2
            obtain ⟨v, hv, hk⟩ := h2
            exact ⟨v, hv, ih _ _ _ hp hk⟩
          · rename_i hw
            simp only [hw] at h2
            exact ih _ _ _ hp h2⟩⟩
def YieldsV (P : Program) (ops : Array Oper) (w0 : World) (bs : Acc) (o : Oper) (v : Value) (a : Act) : Prop :=
  (Region.wanted o (yielded ops a.tmps) = true ∧ Oper.growAt P w0 bs o a v) ∨ (Region.wanted o (yielded ops a.tmps) = false ∧ v = undef)
theorem YieldsV.vOp {i : Nat} {o : Oper} {v : Value} {a : Act} {acc : Acc} (hi : ops[i]? = some o) (hf : Op.fresh o.op = none) (hy : YieldsV P ops w0 bs o v a) {K : Act → Acc → Prop} (h : K (a.put o.dst v) acc) :
    vOp P ops w0 bs i K a acc := by
  unfold Go.Proofs.Ytdjecenggngdjaa.vOp
  simp only [hi, hf]
  rcases hy with ⟨hw, hv⟩ | ⟨hw, rfl⟩
  · rw [if_pos hw]; exact ⟨v, hv, h⟩
  · rw [if_neg (by rw [hw]; exact Bool.false_ne_true)]; exact h
theorem YieldsV.of_same {o : Oper} {v : Value} {a a' : Act} (hy : YieldsV P ops w0 bs o v a) (he : execOp a'.eval o = execOp a.eval o)
    (hw : Region.wanted o (yielded ops a'.tmps) = Region.wanted o (yielded ops a.tmps)) : YieldsV P ops w0 bs o v a' := by
  unfold YieldsV Oper.growAt at *
  rw [he, hw]
  exact hy
theorem vOp_put {j : Nat} {oi oj : Oper} {v : Value} (hj : ops[j]? = some oj) (hap : oi.apart ops oj = true)
    (hsi : ∀ cs b, oi.op ≠ .select cs b) (hsj : ∀ cs b, oj.op ≠ .select cs b) {K : Act → Acc → Prop} {a : Act} {acc : Acc}
    (hy : YieldsV P ops w0 bs oi v a) (h : vOp P ops w0 bs j K (a.put oi.dst v) acc) :
    vOp P ops w0 bs j (fun a' acc' => YieldsV P ops w0 bs oi v a' ∧ K (a'.put oi.dst v) acc') a acc := by
  obtain ⟨h1, h2, h3⟩ := Oper.apart_spec hap
  have keep : ∀ u, YieldsV P ops w0 bs oi v (a.put oj.dst u) := fun u =>
    hy.of_same (execOp_put oi hsi a oj.dst u h3) (wanted_put oi a oj.dst u h3)
  unfold vOp at *
  simp only [hj] at *
  split
  · rename_i T hT
    simp only [hT] at h
    obtain ⟨hg, A, hz, hk⟩ := h
    exact ⟨hg, A, hz, fun b => ⟨keep _, by rw [← Act.put_comm a v _ h2]; exact hk b⟩⟩
  · rename_i hT
    simp only [hT] at h
    rw [wanted_put oj a oi.dst v h1] at h
    split
    · rename_i hw
      simp only [hw, if_true] at h
      obtain ⟨u, hu, hk⟩ := h
      refine ⟨u, fun w hw' => ?_, keep u, by rw [← Act.put_comm a v u h2]; exact hk⟩
      have := hu w hw'
      rwa [execOp_put oj hsj a oi.dst v h1] at this
    · rename_i hw
      simp only [hw] at h
      exact ⟨keep _, by rw [← Act.put_comm a v undef h2]; exact h⟩
def TailWaits (md : Region.Mode) (ops : Array Oper) (n : Nat) : Prop :=
  ∀ (listed : Array Bool), HeadInv md ops n listed → ∀ i, i < n → listed.getD i true = false → ∀ t, n ≤ t → t ∉ Region.ready md ops listed
theorem wpAnyV_first {n i : Nat} {oi : Oper} {v : Value} {L : Array Bool → Act → Acc → Prop} (hi : ops[i]? = some oi) (hfr : Op.fresh oi.op = none) (hsel : ∀ (j : Nat) (o : Oper) cs b, ops[j]? = some o → o.op ≠ .select cs b)
    (htail : TailWaits md ops n) (hin : i < n)
    (hdone : ∀ listed a acc, L listed a acc → ∀ j ∈ Region.ready md ops listed, n ≤ j) :
    ∀ (f : Nat) (listed : Array Bool) (a : Act) (acc : Acc), HeadInv md ops n listed →
      (∀ j oj, ops[j]? = some oj → j ≠ i → listed.getD j true = false → (∀ e ∈ oj.after, Region.binds md e = true → e.on ≠ i) → oi.apart ops oj = true) →
      i ∈ Region.ready md ops listed → YieldsV P ops w0 bs oi v a →
      wpAnyV P md ops w0 bs n L f (listed.setIfInBounds i true) (a.put oi.dst v) acc → wpAnyV P md ops w0 bs n L (f + 1) listed a acc := by
  intro f
  induction f with
  | zero =>
    intro listed a acc inv _ hr hy H
    have hun := (mem_ready.1 hr).1
    refine ⟨fun h => (by rw [h] at hr; cases hr), fun j hj => ?_⟩
    have hjn : j < n := by
      rcases Nat.lt_or_ge j n with h | h
      · exact h
      · exact absurd hj (htail _ inv i hin hun j h)
    refine ⟨hjn, ?_⟩
    by_cases hji : j = i
    · subst hji; exact hy.vOp hi hfr H
    · have := hdone _ _ _ H j (ready_mono hj hji)
      omega
  | succ f ih =>
    intro listed a acc inv hfree hr hy H
    have hun := (mem_ready.1 hr).1
    refine ⟨fun h => (by rw [h] at hr; cases hr), fun j hj => ?_⟩
    have hjn : j < n := by
      rcases Nat.lt_or_ge j n with h | h
      · exact h
      · exact absurd hj (htail _ inv i hin hun j h)
    refine ⟨hjn, ?_⟩
    by_cases hji : j = i
    · subst hji; exact hy.vOp hi hfr H
    · have h1 := (H.2 j (ready_mono hj hji)).2
      obtain ⟨hjun, oj, hoj, hall⟩ := mem_ready.1 hj
      have hnot : ∀ e ∈ oj.after, Region.binds md e = true → e.on ≠ i := fun e he hb heq => by
        have h1 := hall e he hb
        rw [heq, getD_both hun] at h1
        cases h1
      have h2 := vOp_put hoj (hfree j oj hoj hji hjun hnot) (fun cs b => hsel i oi cs b hi) (fun cs b => hsel j oj cs b hoj) hy h1
      have hfree' : ∀ k ok, ops[k]? = some ok → k ≠ i → (listed.setIfInBounds j true).getD k true = false →
          (∀ e ∈ ok.after, Region.binds md e = true → e.on ≠ i) → oi.apart ops ok = true := fun k ok hk hki hun hno => by
        refine hfree k ok hk hki ?_ hno
        by_cases hjk : j = k
        · subst hjk; exact hjun
        · rw [getD_set_ne true hjk] at hun; exact hun
      refine vOp_mono (fun a' acc' h3 => ih (listed.setIfInBounds j true) a' acc' (inv.set hj hjn) hfree' (ready_mono hr (Ne.symm hji)) h3.1 ?_) h2
      rw [Array.setIfInBounds_comm _ _ hji]
      exact h3.2
theorem wpAnyV_fresh {n i : Nat} {oi : Oper} {T : TypeId} {A : Array Value} {L : Array Bool → Act → Acc → Prop} (hi : ops[i]? = some oi) (hT : Op.fresh oi.op = some T) (hg : oi.guard = none)
    (hz : (P.info? T).map (·.zero) = some (some (.agg A)))
    (htail : TailWaits md ops n) (hin : i < n)
    (hdone : ∀ listed a acc, L listed a acc → ∀ j ∈ Region.ready md ops listed, n ≤ j) (hperm : ∀ listed a acc acc', acc.Perm acc' → L listed a acc → L listed a acc') :
    ∀ (f : Nat) (listed : Array Bool) (a : Act) (acc : Acc), HeadInv md ops n listed →
      (∀ j oj, ops[j]? = some oj → j ≠ i → listed.getD j true = false → (∀ e ∈ oj.after, Region.binds md e = true → e.on ≠ i) → oi.apart ops oj = true) →
      (∀ j oj, ops[j]? = some oj → j < n → listed.getD j true = false → (Op.fresh oj.op).isSome = true) →
      i ∈ Region.ready md ops listed →
      (∀ b, wpAnyV P md ops w0 bs n L f (listed.setIfInBounds i true) (a.put oi.dst (.pointer (some ⟨b, 0, none⟩))) ((b, A, T) :: acc)) → wpAnyV P md ops w0 bs n L (f + 1) listed a acc := by
  have here : ∀ (K : Act → Acc → Prop) (a : Act) (acc : Acc), (∀ b, K (a.put oi.dst (.pointer (some ⟨b, 0, none⟩))) ((b, A, T) :: acc)) → vOp P ops w0 bs i K a acc := by
    intro K a acc h
    unfold vOp
    simp only [hi, hT]
    exact ⟨hg, A, hz, h⟩
  intro f
  induction f with
  | zero =>
    intro listed a acc inv _ _ hr H
    have hun := (mem_ready.1 hr).1
    refine ⟨fun h => (by rw [h] at hr; cases hr), fun j hj => ?_⟩
    have hjn : j < n := by
      rcases Nat.lt_or_ge j n with h | h
      · exact h
      · exact absurd hj (htail _ inv i hin hun j h)
    refine ⟨hjn, ?_⟩
    by_cases hji : j = i
    · subst hji; exact here _ _ _ H
    · have := hdone _ _ _ (H 0) j (ready_mono hj hji)
      omega
  | succ f ih =>
    intro listed a acc inv hfree hall0 hr H
    have hun := (mem_ready.1 hr).1
    refine ⟨fun h => (by rw [h] at hr; cases hr), fun j hj => ?_⟩
    have hjn : j < n := by
      rcases Nat.lt_or_ge j n with h | h
      · exact h
      · exact absurd hj (htail _ inv i hin hun j h)
    refine ⟨hjn, ?_⟩
    by_cases hji : j = i
    · subst hji; exact here _ _ _ H
    · obtain ⟨hjun, oj, hoj, hall⟩ := mem_ready.1 hj
      have hnot : ∀ e ∈ oj.after, Region.binds md e = true → e.on ≠ i := fun e he hb heq => by
        have h1 := hall e he hb
        rw [heq, getD_both hun] at h1
        cases h1
      obtain ⟨h1a, h2a, h3a⟩ := Oper.apart_spec (hfree j oj hoj hji hjun hnot)
      have hfree' : ∀ k ok, ops[k]? = some ok → k ≠ i → (listed.setIfInBounds j true).getD k true = false →
          (∀ e ∈ ok.after, Region.binds md e = true → e.on ≠ i) → oi.apart ops ok = true := fun k ok hk hki hun hno => by
        refine hfree k ok hk hki ?_ hno
        by_cases hjk : j = k
        · subst hjk; exact hjun
        · rw [getD_set_ne true hjk] at hun; exact hun
      have hall' : ∀ k ok, ops[k]? = some ok → k < n → (listed.setIfInBounds j true).getD k true = false → (Op.fresh ok.op).isSome = true := fun k ok hk hkn hun => by
        refine hall0 k ok hk hkn ?_
        by_cases hjk : j = k
        · subst hjk; exact hjun
        · rw [getD_set_ne true hjk] at hun; exact hun
      obtain ⟨Tj, hTj⟩ := Option.isSome_iff_exists.1 (hall0 j oj hoj hjn hjun)
      have hH := fun b => ((H b).2 j (ready_mono hj hji)).2
      unfold vOp at hH ⊢
      simp only [hoj, hTj] at hH ⊢
      obtain ⟨hgj, Aj, hzj, _⟩ := hH 0
      refine ⟨hgj, Aj, hzj, fun b' => ih (listed.setIfInBounds j true) _ _ (inv.set hj hjn) hfree' hall' (ready_mono hr (Ne.symm hji)) fun b => ?_⟩
      obtain ⟨_, Aj', hzj', hk⟩ := hH b
      have hA : Aj' = Aj := by
        rw [hzj] at hzj'
        simpa using hzj'.symm
      subst hA
      have := hk b'
      rw [Array.setIfInBounds_comm _ _ (Ne.symm hji), Act.put_comm a _ _ h2a] at this
      exact wpAnyV_perm hperm _ _ _ _ _ (List.Perm.swap _ _ _) this
def wpV (P : Program) (ops : Array Oper) (w0 : World) (bs : Acc) (F : Act → Acc → Prop) : List Oper → Act → Acc → Prop
  | [], a, acc => F a acc
  | o :: rest, a, acc =>
    match Op.fresh o.op with
    | some T => o.guard = none ∧ ∃ A, (P.info? T).map (·.zero) = some (some (.agg A)) ∧ ∀ b, wpV P ops w0 bs F rest (a.put o.dst (.pointer (some ⟨b, 0, none⟩))) ((b, A, T) :: acc)
    | none => if Region.wanted o (yielded ops a.tmps) then ∃ v, Oper.growAt P w0 bs o a v ∧ wpV P ops w0 bs F rest (a.put o.dst v) acc else wpV P ops w0 bs F rest (a.put o.dst undef) acc
def isFresh (ops : Array Oper) (i : Nat) : Bool := ((ops[i]?).bind fun o => Op.fresh o.op).isSome
def ordB (md : Region.Mode) (ops : Array Oper) (n : Nat) (fin : Array Bool → Bool) : List Nat → Array Bool → Bool
  | [], listed => fin listed
  | i :: rest, listed => decide (i < n) && (Region.ready md ops listed).contains i && Region.free md ops listed i &&
      (!isFresh ops i || (List.range n).all fun j => listed.getD j true || isFresh ops j) && ordB md ops n fin rest (listed.setIfInBounds i true)
theorem wpAnyV_ord {n : Nat} {fin : Array Bool → Bool} {F : Act → Acc → Prop} (hF : ∀ a acc acc', acc.Perm acc' → F a acc → F a acc') (hsel : Region.noSelect ops = true) (htail : TailWaits md ops n)
    (hfin : ∀ listed, fin listed = true → ∀ j ∈ Region.ready md ops listed, n ≤ j) :
    ∀ (ord : List Nat) (listed : Array Bool) (a : Act) (acc : Acc) (l : List Oper), l.map some = ord.map (fun i => ops[i]?) → HeadInv md ops n listed → ordB md ops n fin ord listed = true → wpV P ops w0 bs F l a acc →
    wpAnyV P md ops w0 bs n (fun listed' a' acc' => fin listed' = true ∧ F a' acc') ord.length listed a acc
  | [], listed, a, acc, l, hl, _, hB, h => by
    cases l with
    | nil => exact ⟨hB, h⟩
    | cons o l => simp at hl
  | i :: ord, listed, a, acc, l, hl, inv, hB, h => by
    cases l with
    | nil => simp at hl
    | cons o l =>
      simp only [List.map_cons, List.cons.injEq] at hl
      obtain ⟨ho, hl⟩ := hl
      have ho := ho.symm
      simp only [ordB, Bool.and_eq_true, decide_eq_true_eq] at hB
      obtain ⟨⟨⟨⟨hin, hr⟩, hf⟩, hfr⟩, hB'⟩ := hB
      have hr' : i ∈ Region.ready md ops listed := by simpa using hr
      have hdone : ∀ (listed' : Array Bool) (a' : Act) (acc' : Acc), (fin listed' = true ∧ F a' acc') → ∀ j ∈ Region.ready md ops listed', n ≤ j :=
        fun listed' a' acc' hL => hfin _ hL.1
      simp only [wpV] at h
      split at h
      · rename_i T hT
        obtain ⟨hg, A, hz, hk⟩ := h
        refine wpAnyV_fresh ho hT hg hz htail hin hdone (fun _ _ _ _ hp hL => ⟨hL.1, hF _ _ _ hp hL.2⟩) _ listed a acc inv (Region.free_spec ho hf) ?_ hr'
          fun b => wpAnyV_ord hF hsel htail hfin ord _ _ _ l hl (inv.set hr' hin) hB' (hk b)
        intro j oj hj hjn hun
        simp only [isFresh, ho, Option.bind_some, hT, Option.isSome_some, Bool.not_true, Bool.false_or, List.all_eq_true, List.mem_range] at hfr
        have := hfr j hjn
        rw [hun] at this
        simpa [hj] using this
      · rename_i hT
        split at h
        · rename_i hw
          obtain ⟨v, hv, hk⟩ := h
          exact wpAnyV_first ho hT (Region.noSelect_spec hsel) htail hin hdone _ listed a acc inv (Region.free_spec ho hf) hr' (.inl ⟨hw, hv⟩)
            (wpAnyV_ord hF hsel htail hfin ord _ _ _ l hl (inv.set hr' hin) hB' hk)
        · rename_i hw
          exact wpAnyV_first ho hT (Region.noSelect_spec hsel) htail hin hdone _ listed a acc inv (Region.free_spec ho hf) hr' (.inr ⟨by simpa using hw, rfl⟩)
            (wpAnyV_ord hF hsel htail hfin ord _ _ _ l hl (inv.set hr' hin) hB' h)
def growB (ops : Array Oper) (n : Nat) (ord : List Nat) : Bool :=
  Region.noSelect ops && decide (n < ops.size) && Region.sinkB .any ops n && Region.chainB .any ops n && decide (ord.length = n) &&
    ordB .any ops n (Region.seqB .any ops (ops.size - n) n) ord (Array.replicate ops.size false)
theorem ordB_lt {n : Nat} {fin : Array Bool → Bool} : ∀ (ord : List Nat) (listed : Array Bool), ordB md ops n fin ord listed = true → ∀ i ∈ ord, i < n
  | [], _, _, i, hi => by simp at hi
  | j :: ord, listed, h, i, hi => by
    simp only [ordB, Bool.and_eq_true, decide_eq_true_eq] at h
    rcases List.mem_cons.1 hi with rfl | hi
    · exact h.1.1.1.1
    · exact ordB_lt ord _ h.2 i hi
theorem map_filterMap {l : List Oper} : ∀ (ord : List Nat), (∀ i ∈ ord, i < l.length) → (ord.filterMap fun i => l[i]?).map some = ord.map fun i => l.toArray[i]?
  | [], _ => rfl
  | i :: ord, h => by
    have hi := h i (by simp)
    have ih := map_filterMap ord (fun j hj => h j (by simp [hj]))
    simp only [List.map_cons, List.getElem?_toArray]
    rw [List.filterMap_cons, List.getElem?_eq_getElem hi]
    simp only [List.map_cons, List.cons.injEq, true_and]
    simpa using ih
theorem wp_region_grow {id : Nat} {Q : Exit → Act → World → Prop} {a : Act} {W : World} {l : List Oper} (n : Nat) (ord : List Nat) (hm : P.follows .mixedOrders = true) (hB : growB l.toArray n ord = true)
    (hown : Own w0 W bs)
    (h : wpV P l.toArray w0 bs (fun a' acc => ∀ W', Own w0 W' (acc ++ bs) → wpList P l.toArray Q (l.drop n) a' W') (ord.filterMap fun i => l[i]?) a []) : (Code.region id l.toArray true).wp P Q a W := by
  simp only [growB, Bool.and_eq_true, decide_eq_true_eq] at hB
  obtain ⟨⟨⟨⟨⟨hsel, hn⟩, hs⟩, hc⟩, hlen⟩, hord⟩ := hB
  have hdl : (l.drop n).length = l.toArray.size - n := by simp
  have inv0 : HeadInv .any l.toArray n (Array.replicate l.toArray.size false) :=
    ⟨by simp, fun j oj _ hl => (by rw [getD_replicate_false] at hl; cases hl), fun t _ ht => getD_in (by simpa using ht) (getD_replicate_false _ _)⟩
  have H := wpAnyV_ord (md := .any) (fin := Region.seqB .any l.toArray (l.toArray.size - n) n) (F := fun a' acc => ∀ W', Own w0 W' (acc ++ bs) → wpList P l.toArray Q (l.drop n) a' W')
    (fun a' acc acc' hp hF W' hw' => hF W' (hw'.perm (hp.symm.append_right _))) hsel (fun listed inv i hi hun t ht => tail_waits hs hc hn inv _ i rfl hi hun t ht) (fun _ h => seqB_ready h) ord _ a [] _ (map_filterMap ord fun i hi => Nat.lt_trans (ordB_lt ord _ hord i hi) (by simpa using hn)) inv0 hord h
  refine wp_region_any hm ?_
  have hown' : Own w0 ({ W with drawn := W.drawn + 1 } : World) ([] ++ bs) := ⟨⟨hown.below.os, hown.below.tape, hown.below.output, hown.below.size, hown.below.block⟩, hown.here, hown.apart⟩
  have := wpAny_of_V (Q' := Q) (g := l.toArray.size - n) (fun listed a' acc w hw hL => by
    have := wpAny_of_seq (md := .any) (Q' := Q) (l.drop n) n listed a' w (fun j => by simp [List.getElem?_drop]) (by rw [hdl]; exact hL.1) (hL.2 w hw)
    rwa [hdl] at this) _ _ _ _ _ hown' H
  rw [hlen, show n + (l.toArray.size - n) = l.toArray.size by omega] at this
  exact this
theorem wpOp_store_row {Q : Exit → Act → World → Prop} {W : World} {lf : List Value} {df : List Deferred} {o : Oper} {K : Act → World → Prop} {i0 : Nat} (hown : Own w0 W bs) (hi0 : ops[i0]? = some o) (hgd : o.guard = none) (ty : TypeId) (x y : Operand) (ho : o.op = .store ty x y) (b : Nat) (hx : evL lf x = .pointer (some ⟨b, 0, none⟩))
    (A' : Array Value) (hy : evL lf y = .agg A') (h1 : A'.all (·.oneCell') = true) (hs : (P.info? ty).map (·.size) = some A'.size)
    (i : Nat) (A : Array Value) (T : TypeId) (hi : bs[i]? = some (b, A, T)) (hsz : A.size = A'.size)
    (h : ∀ W', Own w0 W' (bs.set i (b, A', T)) → K ⟨(putL lf o.dst undef).toArray, df⟩ W') : wpOp P ops Q i0 K ⟨lf.toArray, df⟩ W := by
  have hl : (Instr.storeAt ty (.pointer (some ⟨b, 0, none⟩)) (.agg A')).run P W = .ok () (W.setRow b A') := by
    simp only [Instr.storeAt, Instr.sureAddr, Sem.run_bind, Sem.run_pure, Result.andThen_ok]
    exact run_storeVar_row W b T ty A A' (hown.block i hi) hs hsz h1
  unfold wpOp
  simp only [hi0]
  rw [if_pos (by simp [Region.wanted, hgd])]
  refine .inl ?_
  unfold Oper.wp execOp
  simp only [ho, evL_eq, hx, hy, Sem.run_bind, Sem.run_pure, Result.andThen_ok, hl]
  have := h _ (hown.setRow hi A')
  rw [← putL_eq] at this
  exact this
theorem wpV_nil {F : Act → Acc → Prop} {a : Act} {acc : Acc} (h : F a acc) : wpV P ops w0 bs F [] a acc := h
theorem wpV_step {F : Act → Acc → Prop} {lf : List Value} {df : List Deferred} {acc : Acc} {o : Oper} {rest : List Oper} (hg : o.guard = none) (hf : Op.fresh o.op = none) (v : Value) (hv : Oper.growAt P w0 bs o ⟨lf.toArray, df⟩ v)
    (h : wpV P ops w0 bs F rest ⟨(putL lf o.dst v).toArray, df⟩ acc) : wpV P ops w0 bs F (o :: rest) ⟨lf.toArray, df⟩ acc := by
  simp only [wpV, hf]
  rw [if_pos (by simp [Region.wanted, hg])]
  exact ⟨v, hv, by rw [putL_eq]; exact h⟩
theorem wpV_skip {F : Act → Acc → Prop} {lf : List Value} {df : List Deferred} {acc : Acc} {o : Oper} {rest : List Oper} (hg : Region.wanted o (yielded ops lf.toArray) = false) (hf : Op.fresh o.op = none)
    (h : wpV P ops w0 bs F rest ⟨(putL lf o.dst undef).toArray, df⟩ acc) : wpV P ops w0 bs F (o :: rest) ⟨lf.toArray, df⟩ acc := by
  simp only [wpV, hf]
  rw [if_neg (by rw [hg]; exact Bool.false_ne_true), putL_eq]
  exact h
theorem wpV_alloc {F : Act → Acc → Prop} {lf : List Value} {df : List Deferred} {acc : Acc} {o : Oper} {rest : List Oper} (hg : o.guard = none) (T : TypeId) (hf : Op.fresh o.op = some T) (A : Array Value)
    (hz : (P.info? T).map (·.zero) = some (some (.agg A)))
    (h : ∀ b, wpV P ops w0 bs F rest ⟨(putL lf o.dst (.pointer (some ⟨b, 0, none⟩))).toArray, df⟩ ((b, A, T) :: acc)) : wpV P ops w0 bs F (o :: rest) ⟨lf.toArray, df⟩ acc := by
  simp only [wpV, hf]
  exact ⟨hg, A, hz, fun b => by rw [putL_eq]; exact h b⟩
section
variable {lf : List Value} {df : List Deferred} {o : Oper}
theorem growAt_load_int (ty : TypeId) (x : Operand) (ho : o.op = .load ty x) (b j : Nat) (hx : evL lf x = .pointer (some ⟨b, j, none⟩))
    (k : IntKind) (hu : P.underlying ty = some (.int k)) (i : Nat) (L : List Int) (T : TypeId) (hi : bs[i]? = some (b, ints k L, T)) (hj : j < L.length) : Oper.growAt P w0 bs o ⟨lf.toArray, df⟩ (.int k (gi L j)) := by
  intro w hw
  have hl := run_loadAt_cell (P := P) (W := w) ty (.int k) hu rfl ⟨b, j, none⟩ (.int k (gi L j)) (by rw [hw.cell i hi]; exact ints_get hj)
  unfold execOp
  simp only [ho, evL_eq, hx, Sem.run_bind, Sem.run_pure, Result.andThen_ok, hl]
  exact ⟨rfl, rfl⟩
theorem growAt_move (x : Operand) (ho : o.op = .move x) (v : Value) (hx : evL lf x = v) : Oper.growAt P w0 bs o ⟨lf.toArray, df⟩ v := by
  intro w _
  unfold execOp
  simp only [ho, evL_eq, hx, Sem.run_pure]
  exact ⟨rfl, rfl⟩
theorem growAt_assign (x : Operand) (ho : o.op = .assign x) (v : Value) (hx : evL lf x = v) : Oper.growAt P w0 bs o ⟨lf.toArray, df⟩ v := by
  intro w _
  unfold execOp
  simp only [ho, evL_eq, hx, Sem.run_pure]
  exact ⟨rfl, rfl⟩
theorem growAt_pure {a : Act} {v : Value} (h : ∀ w, (execOp a.eval o).run P w = .ok (.value v) w) : Oper.growAt P w0 bs o a v := by
  intro w _
  rw [h w]
  exact ⟨rfl, rfl⟩
theorem growAt_bin (op : BinOp) (t : TypeId) (x y : Operand) (t' : TypeId) (ho : o.op = .binOp op t x y t') (vx vy : Value) (hx : evL lf x = vx) (hy : evL lf y = vy) (v : Value)
    (h : ∀ w, (do eqGuard op t x y vx vy; binOp op t vx vy).run P w = .ok v w) : Oper.growAt P w0 bs o ⟨lf.toArray, df⟩ v := by
  refine growAt_pure fun w => ?_
  unfold execOp
  simp only [ho, evL_eq, hx, hy]
  rw [Sem.run_bind, h w]
  rfl
theorem growAt_bits (op : BinOp) (t : TypeId) (x y : Operand) (t' : TypeId) (ho : o.op = .binOp op t x y t') (hop : op = .and ∨ op = .or ∨ op = .xor ∨ op = .andNot) (k : IntKind) (a b : Int) (hx : evL lf x = .int k a) (hy : evL lf y = .int k b) :
    Oper.growAt P w0 bs o ⟨lf.toArray, df⟩ (.int k (bits op k a b)) := by
  refine growAt_bin op t x y t' ho _ _ hx hy _ fun w => ?_
  rcases hop with rfl | rfl | rfl | rfl <;> (simp only [go_sem]; rfl)
theorem growAt_un (op : UnOp) (t : TypeId) (x : Operand) (ho : o.op = .unOp op t x) (vx : Value) (hx : evL lf x = vx) (v : Value)
    (h : ∀ w, (Op.unary op vx).run P w = .ok v w) : Oper.growAt P w0 bs o ⟨lf.toArray, df⟩ v := by
  refine growAt_pure fun w => ?_
  unfold execOp
  simp only [ho, evL_eq, hx, Sem.run_bind, h w, Result.andThen_ok, Sem.run_pure]
theorem growAt_conv (s d : TypeId) (x : Operand) (ho : o.op = .convert s d x) (vx : Value) (hx : evL lf x = vx) (v : Value)
    (h : ∀ w, (convert s d vx).run P w = .ok v w) : Oper.growAt P w0 bs o ⟨lf.toArray, df⟩ v := by
  refine growAt_pure fun w => ?_
  unfold execOp
  simp only [ho, evL_eq, hx, Sem.run_bind, h w, Result.andThen_ok, Sem.run_pure]
theorem growAt_idx (t : TypeId) (x y : Operand) (ho : o.op = .indexAddr t x y) (vx vy : Value) (hx : evL lf x = vx) (hy : evL lf y = vy) (v : Value)
    (h : ∀ w, (Instr.indexAt t vx vy).run P w = .ok v w) : Oper.growAt P w0 bs o ⟨lf.toArray, df⟩ v := by
  refine growAt_pure fun w => ?_
  unfold execOp
  simp only [ho, evL_eq, hx, hy, Sem.run_bind, h w, Result.andThen_ok, Sem.run_pure]
theorem run_indexAt_arr (w : World) (t e : TypeId) (n s : Nat) (hu : P.underlying t = some (.array n e)) (hs : (P.info? e).map (·.size) = some s) (b off : Nat) (j : IntKind) (i : Int) (h0 : 0 ≤ i) (h1 : i < n) (m : Nat) (hm : off + i.toNat * s = m) :
    (Instr.indexAt t (.pointer (some ⟨b, off, none⟩)) (.int j i)).run P w = .ok (.pointer (some ⟨b, m, none⟩)) w := by
  cases hq : P.info? e with
  | none => simp [hq] at hs
  | some inf =>
    have hs' : inf.size = s := by simpa [hq] using hs
    have hadd : (⟨b, off, none⟩ : Addr).add (i.toNat * s) = ⟨b, m, none⟩ := by
      unfold Addr.add
      split
      · rename_i h
        rw [h] at hm
        simp [← hm]
      · simp [hm]
    simp [Instr.indexAt, asIntOf, Instr.sureAddr, Sem.run_bind, run_underlying hu, h0, h1, sizeOf, typeInfo, hq, hs', hadd]
theorem growAt_idxA (t : TypeId) (x y : Operand) (ho : o.op = .indexAddr t x y) (b off : Nat) (hx : evL lf x = .pointer (some ⟨b, off, none⟩)) (j : IntKind) (i : Int) (hy : evL lf y = .int j i)
    (n : Nat) (e : TypeId) (hu : P.underlying t = some (.array n e)) (s : Nat) (hs : (P.info? e).map (·.size) = some s) (h0 : 0 ≤ i) (h1 : i < n) (m : Nat) (hm : off + i.toNat * s = m) : Oper.growAt P w0 bs o ⟨lf.toArray, df⟩ (.pointer (some ⟨b, m, none⟩)) :=
  growAt_idx t x y ho _ _ hx hy _ fun w => run_indexAt_arr w t e n s hu hs b off j i h0 h1 m hm
theorem growAt_fld (t : TypeId) (x : Operand) (i : Nat) (ho : o.op = .fieldAddr t x i) (vx : Value) (hx : evL lf x = vx) (v : Value)
    (h : ∀ w, (Instr.fieldAt t vx i).run P w = .ok v w) : Oper.growAt P w0 bs o ⟨lf.toArray, df⟩ v := by
  refine growAt_pure fun w => ?_
  unfold execOp
  simp only [ho, evL_eq, hx, Sem.run_bind, h w, Result.andThen_ok, Sem.run_pure]
theorem growAt_extract (x : Operand) (i : Nat) (ho : o.op = .extract x i) (vs : List Value) (hx : evL lf x = .tuple vs.toArray) (v : Value) (hv : vs[i]? = some v) : Oper.growAt P w0 bs o ⟨lf.toArray, df⟩ v := by
  refine growAt_pure fun w => ?_
  unfold execOp
  simp [ho, evL_eq, hx, Instr.extract, hv]
theorem growAt_pick (c x y : Operand) (ho : o.op = .pick c x y) (b : Bool) (hc : evL lf c = .bool b) (vx vy : Value) (hx : evL lf x = vx) (hy : evL lf y = vy) : Oper.growAt P w0 bs o ⟨lf.toArray, df⟩ (if b then vx else vy) := by
  refine growAt_pure fun w => ?_
  unfold execOp
  simp [ho, evL_eq, hc, hx, hy, asBool]
end
end
end
section
open Go Go.RowKit
section
variable {P : Program} (w : World)
theorem run_part_int (e : TypeId) (d : TypeDesc) (hu : P.underlying e = some d) (hd : (match d with | .struct _ | .array _ _ => true | _ => false) = false) (k : IntKind) (L : List Int) (i : Nat) (hi : i < L.length) :
    (part e (ints k L) i).run P w = .ok (.int k (gi L i)) w := by
  unfold part
  have hagg : (isAgg e).run P w = .ok false w := by
    unfold isAgg
    rw [Sem.run_bind, run_underlying hu w]
    cases d <;> simp_all
  simp [Sem.run_bind, hagg, ints_get hi]
theorem run_index_ints (t e : TypeId) (n : Nat) (k' : IntKind) (hu : P.underlying t = some (.array n e)) (hue : P.underlying e = some (.int k')) (hs : (P.info? e).map (·.size) = some 1)
    (k : IntKind) (L : List Int) (hL : L.length = n) (j : IntKind) (i : Int) (h0 : 0 ≤ i) (h1 : i < n) :
    (Instr.index t (.agg (ints k L)) (.int j i)).run P w = .ok (.int k (gi L i.toNat)) w := by
  cases hq : P.info? e with
  | none => simp [hq] at hs
  | some inf =>
    have hs' : inf.size = 1 := by simpa [hq] using hs
    have hp := run_part_int (P := P) w e (.int k') hue rfl k L i.toNat (by omega)
    simp [Instr.index, asIntOf, Sem.run_bind, run_underlying hu, h0, h1, sizeOf, typeInfo, hq, hs', hp]
def eqFrom (d : Nat) (e : TypeId) (n : Nat) (xs ys : Array Value) : List Nat → Sem Bool
  | [] => pure true
  | i :: l => do
    let a ← part e xs (i * n)
    let b ← part e ys (i * n)
    let r ← Op.equalIn d e a b
    if (!r) = true then pure false else eqFrom d e n xs ys l
theorem run_equalIn_array (d : Nat) (t e : TypeId) (len : Nat) (xs ys : Array Value) (ht : P.underlying t = some (.array len e)) (s : Nat) (hs : (P.info? e).map (·.size) = some s) :
    (Op.equalIn (d + 1) t (.agg xs) (.agg ys)).run P w = (eqFrom d e s xs ys (List.range len)).run P w := by
  cases hq : P.info? e with
  | none => simp [hq] at hs
  | some inf =>
    have hs' : inf.size = s := by simpa [hq] using hs
    simp only [Op.equalIn, Sem.run_bind, run_underlying ht, Result.andThen_ok, sizeOf, typeInfo, run_program, hq, Sem.run_pure, hs']
    rw [Std.Legacy.Range.forIn_eq_forIn_range', show (Std.Legacy.Range.size [0:len]) = len by simp [Std.Legacy.Range.size], List.range_eq_range']
    generalize List.range' 0 len = l
    induction l generalizing w with
    | nil => simp [eqFrom]
    | cons i l ih =>
      simp only [List.forIn_cons, eqFrom, Sem.run_bind]
      generalize (part e xs (i * s)).run P w = r1
      cases r1 with
      | ok a w1 =>
        simp only [Result.andThen_ok]
        generalize (part e ys (i * s)).run P w1 = r2
        cases r2 with
        | ok b w2 =>
          simp only [Result.andThen_ok]
          generalize (Op.equalIn d e a b).run P w2 = r3
          cases r3 with
          | ok r w3 =>
            cases r
            · simp only [Result.andThen_ok, Bool.not_false, if_true, Sem.run_pure]
            · simp only [Result.andThen_ok, Bool.not_true, Bool.false_eq_true, if_false, Sem.run_pure]
              exact ih w3
          | halt x w3 => simp [Result.andThen]
        | halt x w2 => simp [Result.andThen]
      | halt x w1 => simp [Result.andThen]
theorem run_eqFrom_ints (d : Nat) (e : TypeId) (k' : IntKind) (hue : P.underlying e = some (.int k')) (k : IntKind) (L M : List Int) :
    ∀ l : List Nat, (∀ i ∈ l, i < L.length ∧ i < M.length) → (eqFrom (d + 1) e 1 (ints k L) (ints k M) l).run P w = .ok (l.all fun i => gi L i == gi M i) w
  | [], _ => by simp [eqFrom]
  | i :: l, h => by
    have h0 := h i (by simp)
    have ha := run_part_int (P := P) w e (.int k') hue rfl k L i h0.1
    have hb := run_part_int (P := P) w e (.int k') hue rfl k M i h0.2
    have ih := run_eqFrom_ints d e k' hue k L M l (fun j hj => h j (by simp [hj]))
    simp only [eqFrom, Nat.mul_one, Sem.run_bind, ha, hb, Result.andThen_ok, run_equalIn_int w d e k k' _ _ hue, List.all_cons]
    by_cases hc : gi L i = gi M i
    · simp [hc, ih]
    · simp [hc]
theorem gi_ext {L M : List Int} (hl : L.length = M.length) (h : ∀ i, i < L.length → gi L i = gi M i) : L = M := by
  apply List.ext_getElem hl
  intro i h1 h2
  have := h i h1
  simpa [gi, h1, h2] using this
theorem all_gi (L M : List Int) (n : Nat) (hL : L.length = n) (hM : M.length = n) : ((List.range n).all fun i => gi L i == gi M i) = decide (L = M) := by
  rw [Bool.eq_iff_iff]
  simp only [List.all_eq_true, List.mem_range, beq_iff_eq, decide_eq_true_eq]
  exact ⟨fun h => gi_ext (by omega) (fun i hi => h i (by omega)), fun h i _ => by rw [h]⟩
theorem run_eql_ints (t e : TypeId) (n : Nat) (k' : IntKind) (hu : P.underlying t = some (.array n e)) (hue : P.underlying e = some (.int k')) (hs : (P.info? e).map (·.size) = some 1)
    (k : IntKind) (L M : List Int) (hL : L.length = n) (hM : M.length = n) :
    (binOp .eql t (.agg (ints k L)) (.agg (ints k M))).run P w = .ok (.bool (decide (L = M))) w := by
  rw [run_eql_struct, show (10000 : Nat) = 9999 + 1 from rfl, run_equalIn_array w 9999 t e n _ _ hu 1 hs, show (9999 : Nat) = 9998 + 1 from rfl, run_eqFrom_ints w 9998 e k' hue k L M _ (by intro i hi; simp at hi; omega), all_gi L M n hL hM]
  rfl
theorem wpl_build {W : World} {ops : Array Oper} {Q : Exit → Act → World → Prop} {rest : List Oper} {o : Oper} {lf : List Value} {df : List Deferred} (hgd : o.guard = none) (t : TypeId) (parts : List (Nat × Operand)) (ho : o.op = .build t parts.toArray)
    (vals : List (Nat × Value)) (hv : parts.map (fun p => (p.1, evL lf p.2)) = vals) (cells : Array Value) (hb : P.built t vals = some cells)
    (h : wpList P ops Q rest ⟨(putL lf o.dst (.agg cells)).toArray, df⟩ W) : wpList P ops Q (o :: rest) ⟨lf.toArray, df⟩ W :=
  wpList_plain hgd fun _ hK => by
    have hr := run_build (P := P) W t (parts.toArray.map fun p => (p.1, evL lf p.2)) cells (by simpa [hv] using hb)
    unfold Oper.wp execOp
    simp only [ho, evL_eq, Sem.run_bind, hr, Result.andThen_ok, Sem.run_pure]
    exact hK _ _ (by rw [putL_eq]; exact h)
theorem ints_extract (k : IntKind) (L : List Int) (a n : Nat) : (ints k L).extract a (a + n) = ints k ((L.drop a).take n) := by
  simp [ints, List.map_take, List.map_drop]
theorem run_field_ints (t : TypeId) (fs : Array Field) (i : Nat) (f : Field) (hu : P.underlying t = some (.struct fs)) (hf : fs[i]? = some f) (d : TypeDesc) (huf : P.underlying f.type = some d)
    (hd : (match d with | .struct _ | .array _ _ => true | _ => false) = true) (n : Nat) (hs : (P.info? f.type).map (·.size) = some n) (k : IntKind) (L : List Int) :
    (Instr.field t (.agg (ints k L)) i).run P w = .ok (.agg (ints k ((L.drop f.offset).take n))) w := by
  have hagg : (isAgg f.type).run P w = .ok true w := by
    unfold isAgg
    rw [Sem.run_bind, run_underlying huf w]
    cases d <;> simp_all
  cases hq : P.info? f.type with
  | none => simp [hq] at hs
  | some inf =>
    have hs' : inf.size = n := by simpa [hq] using hs
    simp [Instr.field, Sem.run_bind, run_underlying hu, hf, asAgg, part, hagg, sizeOf, typeInfo, hq, hs', ints_extract]
theorem wpl_field {W : World} {ops : Array Oper} {Q : Exit → Act → World → Prop} {rest : List Oper} {o : Oper} {lf : List Value} {df : List Deferred} (hgd : o.guard = none) (t : TypeId) (x : Operand) (i : Nat) (ho : o.op = .field t x i) (k : IntKind) (L : List Int) (hx : evL lf x = .agg (ints k L))
    (fs : Array Field) (hu : P.underlying t = some (.struct fs)) (f : Field) (hf : fs[i]? = some f) (d : TypeDesc) (huf : P.underlying f.type = some d)
    (hd : (match d with | .struct _ | .array _ _ => true | _ => false) = true) (n : Nat) (hs : (P.info? f.type).map (·.size) = some n) (M : List Int) (hM : (L.drop f.offset).take n = M)
    (h : wpList P ops Q rest ⟨(putL lf o.dst (.agg (ints k M))).toArray, df⟩ W) : wpList P ops Q (o :: rest) ⟨lf.toArray, df⟩ W :=
  wpList_plain hgd fun _ hK => by
    subst hM
    unfold Oper.wp execOp
    simp only [ho, evL_eq, hx, Sem.run_bind, run_field_ints W t fs i f hu hf d huf hd n hs k L, Result.andThen_ok, Sem.run_pure]
    exact hK _ _ (by rw [putL_eq]; exact h)
theorem wpl_index {W : World} {ops : Array Oper} {Q : Exit → Act → World → Prop} {rest : List Oper} {o : Oper} {lf : List Value} {df : List Deferred} (hgd : o.guard = none) (t : TypeId) (x y : Operand) (ho : o.op = .index t x y) (k : IntKind) (L : List Int) (hx : evL lf x = .agg (ints k L)) (j : IntKind) (i : Int) (hy : evL lf y = .int j i)
    (e : TypeId) (n : Nat) (k' : IntKind) (hu : P.underlying t = some (.array n e)) (hue : P.underlying e = some (.int k')) (hs : (P.info? e).map (·.size) = some 1)
    (hL : L.length = n) (h0 : 0 ≤ i) (h1 : i < n) (h : wpList P ops Q rest ⟨(putL lf o.dst (.int k (gi L i.toNat))).toArray, df⟩ W) : wpList P ops Q (o :: rest) ⟨lf.toArray, df⟩ W :=
  wpList_plain hgd fun _ hK => by
    unfold Oper.wp execOp
    simp only [ho, evL_eq, hx, hy, Sem.run_bind, run_index_ints W t e n k' hu hue hs k L hL j i h0 h1, Result.andThen_ok, Sem.run_pure]
    exact hK _ _ (by rw [putL_eq]; exact h)
end
end
section
open Go Go.RowKit
namespace Sp
open M
section
variable {P : Program} {tab : Tab} {w0 : World} {mu : List Nat} {bs : Mem} {l l' : List Value} {ops : Array Oper} {rest : List Oper} {Q : ExitP}
variable {dst : Option Tmp} {op : Op} {ty : TypeId} {pos : String} {af : Array Edge} {gd : Option (Nat × Bool)}
theorem ValO.evB (ht : TabOk P tab) {o : Oper} {t b : Bool} (h : evF tab l o.op = some (.bool t)) (hb : t = b) : ValO P w0 mu bs l o (.bool b) := by subst hb; exact ValO.ev ht h
theorem ValO.nilc {x : Operand} {a : Addr} (hx : evL l x = .pointer (some a)) : ValO P w0 mu bs l ⟨dst, .nilCheck x, ty, pos, af, gd⟩ (.pointer (some a)) := by
  refine ⟨M.growAt_pure fun w => ?_⟩
  unfold execOp
  simp only [evL_eq, hx, Sem.run_pure]
theorem run_equalIn_ptr (w : World) (d t e : Nat) (a : Option Addr) (h : P.underlying t = some (.pointer e)) : (Op.equalIn (d + 1) t (.pointer a) (.pointer none)).run P w = .ok a.isNone w := by
  cases a <;> simp [Op.equalIn, run_underlying h]
theorem run_eql_ptr (w : World) (t e : Nat) (a : Option Addr) (h : P.underlying t = some (.pointer e)) : (binOp .eql t (.pointer a) (.pointer none)).run P w = .ok (.bool a.isNone) w := by
  have h2 := run_equalIn_ptr w 9999 t e a h
  simp only [binOp]
  simp [Op.equal, Op.maxDepth, h2]
theorem ValO.ptrNil (ht : TabOk P tab) {t t' : TypeId} {x y : Operand} {e sz : Nat} {a : Addr} (hl : look tab t = some (.ptr e, sz)) (hx : evL l x = .pointer (some a)) (hy : evL l y = .pointer none) :
    ValO P w0 mu bs l ⟨dst, .binOp .eql t x y t', ty, pos, af, gd⟩ (.bool false) := by
  have hu := td_ptr (look_ok ht hl)
  refine ⟨M.growAt_pure fun w => ?_⟩
  unfold execOp
  simp only [evL_eq, hx, hy]
  have h1 : (eqGuard .eql t x y (.pointer (some a)) (.pointer none)).run P w = .ok () w := by simp [eqGuard]
  rw [Sem.run_bind, Sem.run_bind, h1, Result.andThen_ok, run_eql_ptr w t e _ hu]
  rfl
theorem ValO.ptrNilT (ht : TabOk P tab) {t t' : TypeId} {x y : Operand} {e sz : Nat} (hl : look tab t = some (.ptr e, sz)) (hx : evL l x = .pointer none) (hy : evL l y = .pointer none) :
    ValO P w0 mu bs l ⟨dst, .binOp .eql t x y t', ty, pos, af, gd⟩ (.bool true) := by
  have hu := td_ptr (look_ok ht hl)
  refine ⟨M.growAt_pure fun w => ?_⟩
  unfold execOp
  simp only [evL_eq, hx, hy]
  have h1 : (eqGuard .eql t x y (.pointer (none)) (.pointer none)).run P w = .ok () w := by simp [eqGuard]
  rw [Sem.run_bind, Sem.run_bind, h1, Result.andThen_ok, run_eql_ptr w t e _ hu]
  rfl
theorem ValO.index (ht : TabOk P tab) {t : TypeId} {x y : Operand} {k j : IntKind} {L : List Int} {i : Int} {n e sz : Nat} (hl : look tab t = some (.arr n e 1, sz)) {k' : IntKind} {sz' : Nat} (hle : look tab e = some (.int k', sz')) (hx : evL l x = .agg (ints k L)) (hy : evL l y = .int j i)
    (hL : L.length = n) (h0 : 0 ≤ i) (h1 : i < n) (m : Nat) (hm : i.toNat = m) : ValO P w0 mu bs l ⟨dst, .index t x y, ty, pos, af, gd⟩ (.int k (gi L m)) := by
  subst hm
  obtain ⟨hu, hs⟩ := td_arr (look_ok ht hl)
  refine ⟨M.growAt_pure fun w => ?_⟩
  unfold execOp
  simp only [evL_eq, hx, hy, Sem.run_bind, run_index_ints w t e n k' hu (td_int (look_ok ht hle)) hs k L hL j i h0 h1, Result.andThen_ok, Sem.run_pure]
theorem ValO.eqlI (ht : TabOk P tab) {t t' : TypeId} {x y : Operand} {k : IntKind} {L L' : List Int} {n e sz : Nat} (hl : look tab t = some (.arr n e 1, sz)) {k' : IntKind} {sz' : Nat} (hle : look tab e = some (.int k', sz')) (hx : evL l x = .agg (ints k L)) (hy : evL l y = .agg (ints k L'))
    (hg : P.eqGuardType P.depth t = false) (hL : L.length = n) (hM : L'.length = n) : ValO P w0 mu bs l ⟨dst, .binOp .eql t x y t', ty, pos, af, gd⟩ (.bool (decide (L = L'))) := by
  obtain ⟨hu, hs⟩ := td_arr (look_ok ht hl)
  refine ⟨M.growAt_pure fun w => ?_⟩
  unfold execOp
  simp only [evL_eq, hx, hy, Sem.run_bind, run_eqGuard_agg w .eql t x y _ _ hg, Result.andThen_ok, run_eql_ints w t e n k' hu (td_int (look_ok ht hle)) hs k L L' hL hM, Sem.run_pure]
theorem ValO.build {t : TypeId} {parts : List (Nat × Operand)} {vals : List (Nat × Value)} (hv : parts.map (fun p => (p.1, evL l p.2)) = vals) {cells : Array Value} (hb : P.built t vals = some cells) :
    ValO P w0 mu bs l ⟨dst, .build t parts.toArray, ty, pos, af, gd⟩ (.agg cells) := by
  refine ⟨M.growAt_pure fun w => ?_⟩
  have hr := run_build (P := P) w t (parts.toArray.map fun p => (p.1, evL l p.2)) cells (by simpa [hv] using hb)
  unfold execOp
  simp only [evL_eq, Sem.run_bind, hr, Result.andThen_ok, Sem.run_pure]
def bnd : Option Value → Nat → Nat → Prop
  | none, d, n => n = d
  | some (.int _ i), _, n => i = n
  | _, _, _ => False
theorem run_bounds (w : World) (isS : Bool) (len cap lo hi : Nat) (lv hv : Option Value) (hl : bnd lv 0 lo) (hh : bnd hv len hi) (h1 : lo ≤ hi) (h2 : hi ≤ cap) :
    (Instr.sliceBounds isS len cap lv hv none).run P w = .ok (lo, hi, cap) w := by
  unfold Instr.sliceBounds
  cases lv with
  | none =>
    cases hv with
    | none => simp [bnd] at hl hh; simp [hl, hh]
    | some v =>
      cases v <;> simp [bnd] at hl hh
      subst hl hh
      simp [Instr.sliceBound, asIntOf, h2]
  | some u =>
    cases u <;> simp [bnd] at hl
    subst hl
    cases hv with
    | none =>
      simp [bnd] at hh
      subst hh
      simp [Instr.sliceBound, asIntOf, h1]
    | some v =>
      cases v <;> simp [bnd] at hh
      subst hh
      simp [Instr.sliceBound, asIntOf, h1, h2]
theorem cutm_ne {n a off esz m : Nat} (h : n ≠ a) (hm : off + a * esz = m) : (if n = a then off else off + a * esz) = m := by rw [if_neg h, hm]
theorem cutm_eq {n a off esz : Nat} (h : n = a) : (if n = a then off else off + a * esz) = off := by rw [if_pos h]
theorem one1 {v : Value} (h : v.cells = #[v] := by rfl) (h1 : v.oneCell' = true := by rfl) : ∀ u ∈ v.cells.toList, u.oneCell' = true := by rw [h]; intro u hu; simp at hu; subst hu; exact h1
theorem opt_eval (o : Option Operand) : Option.map (⟨l.toArray, []⟩ : Act).eval o = o.map (evL l) := by cases o <;> simp [evL_eq]
theorem ValO.cutA (ht : TabOk P tab) {t : TypeId} {x : Operand} {lo hi : Option Operand} {b off n e esz sz a z : Nat} (hx : evL l x = .pointer (some ⟨b, off, none⟩)) (hl : look tab t = some (.arr n e esz, sz))
    (hlo : bnd (lo.map (evL l)) 0 a) (hhi : bnd (hi.map (evL l)) n z) (h1 : a ≤ z) (h2 : z ≤ n) (m c d : Nat) (hm : (if n = a then off else off + a * esz) = m) (hc : z - a = c) (hd : n - a = d) :
    ValO P w0 mu bs l ⟨dst, .slice t x lo hi none, ty, pos, af, gd⟩ (.slice (some ⟨b, m, none⟩) c d) := by
  subst hm hc hd
  obtain ⟨hu, hs⟩ := td_arr (look_ok ht hl)
  refine ⟨M.growAt_pure fun w => ?_⟩
  cases hq : P.info? e with
  | none => simp [hq] at hs
  | some inf =>
    have hs' : inf.size = esz := by simpa [hq] using hs
    have hb := run_bounds (P := P) w false n n a z _ _ hlo hhi h1 h2
    unfold execOp
    simp only [evL_eq, hx]
    simp only [opt_eval, Instr.sliceAt, Sem.run_bind, run_underlying hu, Result.andThen_ok, Instr.sureAddr, Sem.run_pure, Option.map_none, hb, sizeOf, typeInfo, run_program, hq, hs', add_off]
    split <;> simp_all
theorem ValO.cutS (ht : TabOk P tab) {t : TypeId} {x : Operand} {lo hi : Option Operand} {b off len cap e esz by_ sz a z : Nat} (hx : evL l x = .slice (some ⟨b, off, none⟩) len cap) (hl : look tab t = some (.sl e esz by_, sz))
    (hlo : bnd (lo.map (evL l)) 0 a) (hhi : bnd (hi.map (evL l)) len z) (h1 : a ≤ z) (h2 : z ≤ cap) (m c d : Nat) (hm : (if cap = a then off else off + a * esz) = m) (hc : z - a = c) (hd : cap - a = d) :
    ValO P w0 mu bs l ⟨dst, .slice t x lo hi none, ty, pos, af, gd⟩ (.slice (some ⟨b, m, none⟩) c d) := by
  subst hm hc hd
  obtain ⟨hu, hs, _⟩ := td_sl (look_ok ht hl)
  refine ⟨M.growAt_pure fun w => ?_⟩
  cases hq : P.info? e with
  | none => simp [hq] at hs
  | some inf =>
    have hs' : inf.size = esz := by simpa [hq] using hs
    have hb := run_bounds (P := P) w true len cap a z _ _ hlo hhi h1 h2
    unfold execOp
    simp only [evL_eq, hx]
    simp only [opt_eval, Instr.sliceAt, Instr.slice, Sem.run_bind, run_underlying hu, Result.andThen_ok, Sem.run_pure, Option.map_none, hb, sizeOf, typeInfo, run_program, hq, hs', Option.map_some, add_off]
    split <;> simp_all
theorem run_loadCells_part (w : World) (b off : Nat) (t : TypeId) (A : Array Value) (fz : Nat × Nat) (n : Nat) (hb : w.heap[b]? = some (.cells A t fz)) (hn : off + n ≤ A.size) :
    (loadCells ⟨b, off, none⟩ n).run P w = .ok (A.extract off (off + n)) w := by
  have hl : (loadCells ⟨b, off, none⟩ (A.extract off (off + n)).toList.length).run P w = .ok (A.extract off (off + n)).toList.toArray w :=
    run_loadCells_list (P := P) w ⟨b, off, none⟩ (A.extract off (off + n)).toList (fun j v hv => by
      rw [add_off, cell_of_row w b (off + j) A t fz hb]
      have hv' : (A.extract off (off + n))[j]? = some v := by rw [← hv]; simp only [Array.getElem?_toList]
      rw [Array.getElem?_extract] at hv'
      split at hv'
      · exact hv'
      · cases hv')
  have hlen : (A.extract off (off + n)).toList.length = n := by simp; omega
  rw [hlen, Array.toArray_toList] at hl
  exact hl
theorem extract_one (A : Array Value) (h : ∀ u ∈ A.toList, u.oneCell' = true) (a z : Nat) : ∀ u ∈ (A.extract a z).toList, u.oneCell' = true := by
  intro u hu
  simp only [Array.mem_toList_iff] at hu
  rw [Array.mem_iff_getElem?] at hu
  obtain ⟨i, hi⟩ := hu
  rw [Array.getElem?_extract] at hi
  split at hi
  · exact h u (by rw [Array.mem_toList_iff, Array.mem_iff_getElem?]; exact ⟨_, hi⟩)
  · cases hi
theorem SL.copy (ht : TabOk P tab) {d s : Operand} {dT sT : TypeId} {b off dl dc b2 off2 sl sc e by_ sz : Nat} (hd : evL l d = .slice (some ⟨b, off, none⟩) dl dc) (hs : evL l s = .slice (some ⟨b2, off2, none⟩) sl sc) (hl : look tab dT = some (.sl e 1 by_, sz))
    {i : Nat} {A : Array Value} {T : TypeId} (hi : bs[i]? = some (b, A, T)) {B : Array Value} (hr : RdA w0 mu bs b2 B) (n : Nat) (hn : min sl dl = n) (hA : off + n ≤ A.size) (hB : off2 + n ≤ B.size) (h1 : ∀ u ∈ B.toList, u.oneCell' = true)
    {A' : Array Value} (hA' : putAt A off (B.extract off2 (off2 + n)).toList = A') {bs' : Mem} (hbs : bs.set i (b, A', T) = bs') (hp : putL l dst (.int .i64 (n : Int)) = l') (h : SL P ops w0 mu rest Q l' bs') :
    SL P ops w0 mu (⟨dst, .call { callee := .builtin .copy, args := #[d, s], argTypes := #[dT, sT] }, ty, pos, af, none⟩ :: rest) Q l bs := by
  subst hp hbs hA'
  refine ⟨fun W Q' hw hQ => ?_⟩
  refine wpList_plain rfl fun K hK => ?_
  obtain ⟨hu, hsz, _⟩ := td_sl (look_ok ht hl)
  have hb := hw.block (List.mem_of_getElem? hi)
  obtain ⟨T2, fz, hb2⟩ := hr.get hw
  have hld := run_loadCells_part (P := P) W b2 off2 T2 B fz n hb2 hB
  have hst := run_storeCells_row (P := P) (B.extract off2 (off2 + n)).toList (extract_one B h1 _ _) 0 W b off A T hb (by simp; omega)
  cases hq : P.info? e with
  | none => simp [hq] at hsz
  | some inf =>
    have hs' : inf.size = 1 := by simpa [hq] using hsz
    have hcp : (Builtin.copy_ #[dT, sT] ty #[.slice (some ⟨b, off, none⟩) dl dc, .slice (some ⟨b2, off2, none⟩) sl sc]).run P W = .ok (.int .i64 (n : Int)) (W.setRow b (putAt A off (B.extract off2 (off2 + n)).toList)) := by
      simp only [Nat.add_zero] at hst
      have hn' : Nat.min sl dl = n := hn
      simp only [Builtin.copy_, List.getElem?_toArray, List.getElem?_cons_zero, List.getElem?_cons_succ, Sem.run_bind, run_underlying hu, Builtin.lenOf, sizeOf, typeInfo, run_program, hq, hs', Builtin.firstCells, hn', Nat.mul_one, hld, hst, goInt, Sem.run_pure, Result.andThen_ok]
    unfold Oper.wp execOp
    simp only [resolve, Sem.run_bind, Sem.run_pure, Result.andThen_ok, invoke, builtin]
    have ha : (#[d, s].map (⟨l.toArray, []⟩ : Act).eval) = #[.slice (some ⟨b, off, none⟩) dl dc, .slice (some ⟨b2, off2, none⟩) sl sc] := by simp [evL_eq, hd, hs]
    rw [ha, hcp]
    exact hK _ _ (by rw [putL_eq]; exact h.run _ _ (hw.setRow hi _) hQ)
end
section
variable {P : Program}
theorem mut_of_SP {f : FuncId} {fn : Func} {c : Code} {args : Array Value} {w : World} {b : Nat} {A : Array Value} {T : TypeId} (hf : P.funcs[f]? = some fn) (hb : fn.body = some c) (hw : w.heap[b]? = some (.cells A T (0, 0))) (l : List Value) (hl : args ++ Array.replicate (fn.ntmps - args.size) undef = l.toArray)
    (rs : Array ResultVar) (hrs : fn.results = rs) (v : Value) (A' : Array Value) (h : SP P w [b] c (doneK P w [b] rs (fun v' bs' => v' = v ∧ [(b, A', T)].Sublist bs')) l [(b, A, T)]) : Calls P f args w fun e w' => e = .returned v ∧ OwnM w [b] w' [(b, A', T)] :=
  (calls_of_SP hf hb (OwnM.start1 w hw) l hl rs hrs _ h).mono fun e w' ⟨v', bs', he, ⟨hv, hs⟩, hw'⟩ => ⟨by rw [he, hv], hw'.sub hs⟩
theorem new_of_SP {f : FuncId} {fn : Func} {c : Code} {args : Array Value} {w : World} {A : Array Value} {T : TypeId} (hf : P.funcs[f]? = some fn) (hb : fn.body = some c) (l : List Value) (hl : args ++ Array.replicate (fn.ntmps - args.size) undef = l.toArray)
    (rs : Array ResultVar) (hrs : fn.results = rs) (V : Nat → Value) (h : SP P w [] c (doneK P w [] rs (fun v' bs' => ∃ b, v' = V b ∧ [(b, A, T)].Sublist bs')) l []) : Calls P f args w fun e w' => ∃ b, e = .returned (V b) ∧ OwnM w [] w' [(b, A, T)] :=
  (calls_of_SP hf hb (OwnM.start w) l hl rs hrs _ h).mono fun e w' ⟨v', bs', he, ⟨b, hv, hs⟩, hw'⟩ => ⟨b, by rw [he, hv], hw'.sub hs⟩
theorem sub1 {α : Type} {a : α} {r : List α} : [a].Sublist (a :: r) := by simp
theorem subc {α : Type} {a b : α} {r : List α} (h : [a].Sublist r) : [a].Sublist (b :: r) := h.cons _
end
end Sp
end
end Go.Proofs.Ytdjecenggngdjaa
