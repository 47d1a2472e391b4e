/-
  A region that draws its order, whose calls may make memory: one walk serves every order. Values first, then new variables, then the forced tail.
-/
import Derived.Test.YthbmlpiplfbehaaLib
import Derived.StillTail
namespace Go.Proofs.Ythbmlpiplfbehaa
set_option linter.unusedSimpArgs false
set_option linter.unusedVariables false
open Go Go.RowKit

theorem Own.perm {w0 W : World} {bs bs' : List (Nat × Array Value × TypeId)} (h : Own w0 W bs) (hp : bs.Perm bs') : Own w0 W bs' :=
  ⟨h.below, fun p hm => h.here p (hp.mem_iff.2 hm), (hp.map _).nodup_iff.1 h.apart⟩
theorem Own.tail {w0 W : World} {acc bs : List (Nat × Array Value × TypeId)} (h : Own w0 W (acc ++ bs)) : Own w0 W bs :=
  ⟨h.below, fun p hm => h.here p (List.mem_append_right _ hm), by have := h.apart; rw [List.map_append, List.nodup_append] at this; exact this.2.1⟩

section
variable {P : Program} {ops : Array Oper} {md : Region.Mode} {w0 : World} {bs : List (Nat × Array Value × TypeId)}

/-- What one operation yields in a world, which may grow by a call. -/
def growUpon (P : Program) (w : World) (v : Value) : Result Next → Prop
  | .ok (.value u) w' => w' = w ∧ u = v
  | .ok .skip w' => w' = w ∧ v = undef
  | .ok (.enter f args) w' => w' = w ∧ Calls P f args w (fun e w'' => e = .returned v ∧ Below w.heap.size w w'')
  | .ok (.row row args) w' => w' = w ∧ Rows P row args w (fun u w'' => u = v ∧ Below w.heap.size w w'')
  | _ => False

def Oper.growAt (P : Program) (w0 : World) (bs : List (Nat × Array Value × TypeId)) (o : Oper) (a : Act) (v : Value) : Prop :=
  ∀ w, Own w0 w bs → growUpon P w v ((execOp a.eval o).run P w)

def Op.fresh : Op → Option TypeId
  | .alloc T => some T
  | _ => none

abbrev Acc := List (Nat × Array Value × TypeId)

/-- The walk, in an order of our own. -/
def wpV (P : Program) (ops : Array Oper) (w0 : World) (bs : Acc) (F : Act → Acc → Prop) : List Oper → Act → Acc → Prop
  | [], a, acc => F a acc
  | o :: rest, a, acc =>
    match Op.fresh o.op with
    | some T => o.guard = none ∧ ∃ A, (P.info? T).map (·.zero) = some (some (.agg A)) ∧ ∀ b, wpV P ops w0 bs F rest (a.put o.dst (.pointer (some ⟨b, 0, none⟩))) ((b, A, T) :: acc)
    | none => if Region.wanted o (yielded ops a.tmps) then ∃ v, Oper.growAt P w0 bs o a v ∧ wpV P ops w0 bs F rest (a.put o.dst v) acc else wpV P ops w0 bs F rest (a.put o.dst undef) acc

theorem wpV_step {F : Act → Acc → Prop} {lf : List Value} {df : List Deferred} {acc : Acc} {o : Oper} {rest : List Oper} (hg : o.guard = none) (hf : Op.fresh o.op = none) (v : Value) (hv : Oper.growAt P w0 bs o ⟨lf.toArray, df⟩ v)
    (h : wpV P ops w0 bs F rest ⟨(putL lf o.dst v).toArray, df⟩ acc) : wpV P ops w0 bs F (o :: rest) ⟨lf.toArray, df⟩ acc := by
  simp only [wpV, hf]
  rw [if_pos (by simp [Region.wanted, hg])]
  exact ⟨v, hv, by rw [putL_eq]; exact h⟩
theorem wpV_skip {F : Act → Acc → Prop} {lf : List Value} {df : List Deferred} {acc : Acc} {o : Oper} {rest : List Oper} (hg : Region.wanted o (yielded ops lf.toArray) = false) (hf : Op.fresh o.op = none)
    (h : wpV P ops w0 bs F rest ⟨(putL lf o.dst undef).toArray, df⟩ acc) : wpV P ops w0 bs F (o :: rest) ⟨lf.toArray, df⟩ acc := by
  simp only [wpV, hf]
  rw [if_neg (by rw [hg]; exact Bool.false_ne_true), putL_eq]
  exact h
theorem wpV_alloc {F : Act → Acc → Prop} {lf : List Value} {df : List Deferred} {acc : Acc} {o : Oper} {rest : List Oper} (hg : o.guard = none) (T : TypeId) (hf : Op.fresh o.op = some T) (A : Array Value)
    (hz : (P.info? T).map (·.zero) = some (some (.agg A)))
    (h : ∀ b, wpV P ops w0 bs F rest ⟨(putL lf o.dst (.pointer (some ⟨b, 0, none⟩))).toArray, df⟩ ((b, A, T) :: acc)) : wpV P ops w0 bs F (o :: rest) ⟨lf.toArray, df⟩ acc := by
  simp only [wpV, hf]
  exact ⟨hg, A, hz, fun b => by rw [putL_eq]; exact h b⟩

section
variable {lf : List Value} {df : List Deferred} {o : Oper}
/-- A value that hangs on no world. -/
theorem growAt_pure {a : Act} {v : Value} (h : ∀ w, (execOp a.eval o).run P w = .ok (.value v) w) : Oper.growAt P w0 bs o a v := by
  intro w _
  rw [h w]
  exact ⟨rfl, rfl⟩
theorem run_indexAt_arr (w : World) (t e : TypeId) (n s : Nat) (hu : P.underlying t = some (.array n e)) (hs : (P.info? e).map (·.size) = some s) (b off : Nat) (j : IntKind) (i : Int) (h0 : 0 ≤ i) (h1 : i < n) (m : Nat) (hm : off + i.toNat * s = m) :
    (Instr.indexAt t (.pointer (some ⟨b, off, none⟩)) (.int j i)).run P w = .ok (.pointer (some ⟨b, m, none⟩)) w := by
  cases hq : P.info? e with
  | none => simp [hq] at hs
  | some inf =>
    have hs' : inf.size = s := by simpa [hq] using hs
    have hadd : (⟨b, off, none⟩ : Addr).add (i.toNat * s) = ⟨b, m, none⟩ := by
      unfold Addr.add
      split
      · rename_i h
        rw [h] at hm
        simp [← hm]
      · simp [hm]
    simp [Instr.indexAt, asIntOf, Instr.sureAddr, Sem.run_bind, run_underlying hu, h0, h1, sizeOf, typeInfo, hq, hs', hadd]
end
end
end Go.Proofs.Ythbmlpiplfbehaa
