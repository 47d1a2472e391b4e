/-
  Calls of function values that lie in slots.
-/
import Derived.Test.YthbmlpiplfbehaaSl
namespace Go.Proofs.Ythbmlpiplfbehaa
set_option linter.unusedSimpArgs false
set_option linter.unusedVariables false
open Go Go.RowKit
namespace Sp
open M
variable {P : Program} {w0 : World} {mu : List Nat} {bs : Mem} {l : List Value} {rest : List Oper} {Q : ExitP} {dst : Option Tmp} {ty : TypeId} {pos : String} {af : Array Edge} {gd : Option (Nat × Bool)}
theorem run_call_val {a : Act} {w : World} {x : Operand} {f : FuncId} {args : Array Operand} {ats : Array TypeId} (hx : a.eval x = a.eval (.func f)) :
    (execOp a.eval ⟨dst, .call { callee := .value x, args, argTypes := ats }, ty, pos, af, gd⟩).run P w = (execOp a.eval ⟨dst, .call { callee := .value (.func f), args, argTypes := ats }, ty, pos, af, gd⟩).run P w := by
  unfold execOp
  simp [resolve, hx]
theorem ValO.callV {x : Operand} {f : FuncId} {args : Array Operand} {ats : Array TypeId} {v : Value} (hx : evL l x = evL l (.func f)) (h : ValO P w0 mu bs l ⟨dst, .call { callee := .value (.func f), args, argTypes := ats }, ty, pos, af, gd⟩ v) :
    ValO P w0 mu bs l ⟨dst, .call { callee := .value x, args, argTypes := ats }, ty, pos, af, gd⟩ v := by
  refine ⟨fun w hw => ?_⟩
  have := h.out w hw
  rwa [run_call_val (f := f) (by rw [evL_eq, evL_eq]; exact hx)]
/-- A call of a function that lies in a slot, which may change memory. -/
theorem SL.callGV {ops : Array Oper} {x : Operand} {f : FuncId} {args : List Operand} {ats : Array TypeId} (hx : evL l x = evL l (.func f)) (hent : ∀ (A : Array Value) (w : World), (callFunc f A).run P w = .ok (.enter f A) w)
    {vals : List Value} (hv : args.map (evL l) = vals) {R : Value → Mem → Prop} (hc : ∀ w, OwnM w0 mu w bs → Calls P f vals.toArray w fun e w' => ∃ v bs', e = .returned v ∧ R v bs' ∧ OwnM w0 mu w' bs')
    (h : ∀ v bs', R v bs' → SL P ops w0 mu rest Q (putL l dst v) bs') : SL P ops w0 mu (⟨dst, .call { callee := .value x, args := args.toArray, argTypes := ats }, ty, pos, af, none⟩ :: rest) Q l bs := by
  refine ⟨fun W Q' hw hA => ?_⟩
  refine wpList_plain rfl fun K hK => ?_
  unfold Oper.wp
  rw [run_call_val (f := f) (by rw [evL_eq, evL_eq]; exact hx), run_call_fn (args_map args), hv, hent]
  simp only [Oper.upon]
  refine (hc W hw).mono ?_
  rintro e w' ⟨v, bs', rfl, hR, hw'⟩
  exact hK _ _ (by rw [putL_eq]; exact (h v bs' hR).run _ _ hw' hA)
end Sp
end Go.Proofs.Ythbmlpiplfbehaa
