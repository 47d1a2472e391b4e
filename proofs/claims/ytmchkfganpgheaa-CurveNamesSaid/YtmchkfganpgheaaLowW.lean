/-
  What CurveLow's walk needs beside the walker: slices of arrays that are built, arrays that differ, blocks that are forgotten.
-/
import Derived.Test.YtmchkfganpgheaaSpM
import Derived.Great.BuildSlice
namespace Go.Proofs.Ytmchkfganpgheaa
set_option linter.unusedSimpArgs false
set_option linter.unusedVariables false
open Go Go.RowKit
namespace Sp
open M
variable {P : Program} {tab : Tab} {w0 : World} {mu : List Nat} {bs : Mem} {l l' : List Value} {ops : Array Oper} {rest : List Oper} {Q : ExitP}
variable {dst : Option Tmp} {op : Op} {ty : TypeId} {pos : String} {af : Array Edge} {gd : Option (Nat × Bool)}

/-- Blocks of its own that a run needs no more. -/
theorem SP.forget {c : Code} (pre : Mem) (h : SP P w0 mu c Q l bs) : SP P w0 mu c Q l (pre ++ bs) := ⟨fun W Q' hw hA => h.run W Q' hw.tail hA⟩

theorem SL.buildSlice {t e : TypeId} {n : Nat} {parts : Array (Nat × Operand)} {cells : Array Value} {ie : TypeInfo} {z : Value} (hu : P.underlying t = some (.slice e)) (hie : P.info? e = some ie) (hz : ie.zero = some z)
    (hsmall : ¬ n * ie.size > 2 ^ 24) (hpos : ¬ n * ie.size = 0) {vals : List (Nat × Value)} (hv : parts.toList.map (fun p => (p.1, evL l p.2)) = vals)
    (hf : Instr.fill (fun i => some (i * ie.size, ie.size)) ((Array.range (n * ie.size)).map (z.cells[· % z.cells.size]!)) vals = some cells)
    {l' : Nat → List Value} (hp : ∀ b, putL l dst (.slice (some ⟨b, 0, none⟩) n n) = l' b) (h : ∀ b, SL P ops w0 mu rest Q (l' b) ((b, cells, e) :: bs)) :
    SL P ops w0 mu (⟨dst, .buildSlice t n parts, ty, pos, af, none⟩ :: rest) Q l bs := by
  subst hv
  refine ⟨fun W Q' hw hA => ?_⟩
  refine wpList_plain rfl fun K hK => ?_
  refine wp_buildSlice t e n parts rfl cells ie z hu hie hz hsmall hpos ?_ ?_
  · rw [Array.toList_map, ← hf]
    simp only [evL_eq]
  · exact hK _ _ (by rw [putL_eq, hp]; exact (h _).run _ _ (hw.alloc _ e) hA)

theorem run_neq_ints (w : World) (t e : TypeId) (n : Nat) (k' : IntKind) (hu : P.underlying t = some (.array n e)) (hue : P.underlying e = some (.int k')) (hs : (P.info? e).map (·.size) = some 1)
    (k : IntKind) (L M : List Int) (hL : L.length = n) (hM : M.length = n) :
    (binOp .neq t (.agg (ints k L)) (.agg (ints k M))).run P w = .ok (.bool (!decide (L = M))) w := by
  have h : (Op.equal t (.agg (ints k L)) (.agg (ints k M))).run P w = .ok (decide (L = M)) w := by
    unfold Op.equal
    rw [show Op.maxDepth = 9999 + 1 from rfl, run_equalIn_array w 9999 t e n _ _ hu 1 hs, show (9999 : Nat) = 9998 + 1 from rfl, run_eqFrom_ints w 9998 e k' hue k L M _ (by intro i hi; simp at hi; omega), all_gi L M n hL hM]
  simp only [binOp]
  simp [h]
theorem neqF (ht : TabOk P tab) {t t' : TypeId} {x y : Operand} {k : IntKind} {L L' : List Int} {n e sz : Nat} (hl : look tab t = some (.arr n e 1, sz)) {k' : IntKind} {sz' : Nat} (hle : look tab e = some (.int k', sz')) (hx : evL l x = .agg (ints k L)) (hy : evL l y = .agg (ints k L'))
    (hg : P.eqGuardType P.depth t = false) (hL : L.length = n) (hM : L'.length = n) (e' : L = L') : ValO P w0 mu bs l ⟨dst, .binOp .neq t x y t', ty, pos, af, gd⟩ (.bool false) := by
  obtain ⟨hu, hs⟩ := td_arr (look_ok ht hl)
  refine ⟨M.growAt_pure fun w => ?_⟩
  unfold execOp
  simp only [evL_eq, hx, hy, Sem.run_bind, run_eqGuard_agg w .neq t x y _ _ hg, Result.andThen_ok, run_neq_ints w t e n k' hu (td_int (look_ok ht hle)) hs k L L' hL hM, Sem.run_pure, decide_eq_true e', Bool.not_true]
end Sp
end Go.Proofs.Ytmchkfganpgheaa
