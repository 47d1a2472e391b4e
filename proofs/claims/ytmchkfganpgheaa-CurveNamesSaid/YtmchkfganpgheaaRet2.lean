/-
  'return a, b' of two rows: the second load may come behind the first store. One walk.
-/
import Derived.Test.YtmchkfganpgheaaEq
import Derived.OrdersHeld
namespace Go.Proofs.Ytmchkfganpgheaa
set_option linter.unusedSimpArgs false
set_option linter.unusedVariables false
open Go Go.RowKit

def ret2B (ops : Array Oper) : Bool :=
  let l0 := Array.replicate ops.size false
  let l1 := l0.setIfInBounds 0 true
  let l2 := l1.setIfInBounds 1 true
  let l3 := l2.setIfInBounds 2 true
  let l4 := l3.setIfInBounds 3 true
  decide (ops.size = 4) && Region.noSelect ops && Region.free .any ops l0 0 && (Region.ready .any ops l0).contains 0 && Region.free .any ops l1 1 && (Region.ready .any ops l1).contains 1 &&
    decide (Region.ready .any ops l2 = [2]) && decide (Region.ready .any ops l3 = [3]) && decide (Region.ready .any ops l4 = [])

theorem yieldsIf_row {P : Program} {ops : Array Oper} {S : World → Prop} {o : Oper} {a : Act} (hg : o.guard = none) (ty : TypeId) (x : Operand) (ho : o.op = .load ty x) (b : Nat) (hx : a.eval x = .pointer (some ⟨b, 0, none⟩))
    (A : Array Value) (T : TypeId) (hS : ∀ w, S w → w.heap[b]? = some (.cells A T (0, 0)))
    (d : TypeDesc) (hu : P.underlying ty = some d) (hd : (match d with | .struct _ | .array _ _ => true | _ => false) = true) (hs : (P.info? ty).map (·.size) = some A.size) : YieldsIf P ops S o (.agg A) a := by
  refine .inl ⟨by simp [Region.wanted, hg], fun w hw => ?_⟩
  unfold execOp
  simp only [ho, hx, Instr.loadAt, Instr.sureAddr, Sem.run_bind, Sem.run_pure, Result.andThen_ok, run_loadVar_row w b T ty A (0, 0) d (hS w hw) hu hd hs]

theorem Own.ne {w0 W : World} {bs : List (Nat × Array Value × TypeId)} (h : Own w0 W bs) {i j : Nat} {p q : Nat × Array Value × TypeId} (hi : bs[i]? = some p) (hj : bs[j]? = some q) (hij : i ≠ j) : p.1 ≠ q.1 := by
  intro he
  have h1 : (bs.map (·.1))[i]? = some p.1 := by simp [hi]
  have h2 : (bs.map (·.1))[j]? = some q.1 := by simp [hj]
  have hi' : i < (bs.map (·.1)).length := (List.getElem?_eq_some_iff.1 h1).1
  exact hij (List.getElem?_inj hi' h.apart |>.1 (by rw [h1, h2, he]))

theorem wp_region_ret2 {P : Program} {w0 W : World} {bs : List (Nat × Array Value × TypeId)} {id : Nat} {Q : Exit → Act → World → Prop} {lf : List Value} {df : List Deferred} {o0 o1 o2 o3 : Oper} (hm : P.follows .mixedOrders = true) (hB : ret2B #[o0, o1, o2, o3] = true) (hown : Own w0 W bs)
    (hg : o0.guard = none ∧ o1.guard = none ∧ o2.guard = none ∧ o3.guard = none)
    (t0 t1 t2 t3 : TypeId) (x0 x1 x2 x3 y2 y3 : Operand) (ho0 : o0.op = .load t0 x0) (ho1 : o1.op = .load t1 x1) (ho2 : o2.op = .store t2 x2 y2) (ho3 : o3.op = .store t3 x3 y3)
    (b0 b1 b2 b3 : Nat) (i0 i1 i2 i3 : Nat) (hne : i2 ≠ i0 ∧ i2 ≠ i1 ∧ i3 ≠ i2 ∧ i3 ≠ i0 ∧ i3 ≠ i1) (A0 A1 A2 A3 : Array Value) (T0 T1 T2 T3 : TypeId)
    (hi0 : bs[i0]? = some (b0, A0, T0)) (hi1 : bs[i1]? = some (b1, A1, T1)) (hi2 : bs[i2]? = some (b2, A2, T2)) (hi3 : bs[i3]? = some (b3, A3, T3))
    (hx0 : evL lf x0 = .pointer (some ⟨b0, 0, none⟩)) (hx1 : evL (putL lf o0.dst (.agg A0)) x1 = .pointer (some ⟨b1, 0, none⟩))
    (hx2 : evL (putL (putL lf o0.dst (.agg A0)) o1.dst (.agg A1)) x2 = .pointer (some ⟨b2, 0, none⟩)) (hy2 : evL (putL (putL lf o0.dst (.agg A0)) o1.dst (.agg A1)) y2 = .agg A0)
    (hx3 : evL (putL (putL (putL lf o0.dst (.agg A0)) o1.dst (.agg A1)) o2.dst undef) x3 = .pointer (some ⟨b3, 0, none⟩)) (hy3 : evL (putL (putL (putL lf o0.dst (.agg A0)) o1.dst (.agg A1)) o2.dst undef) y3 = .agg A1)
    (d0 d1 : TypeDesc) (hu0 : P.underlying t0 = some d0) (hu1 : P.underlying t1 = some d1) (hd0 : (match d0 with | .struct _ | .array _ _ => true | _ => false) = true) (hd1 : (match d1 with | .struct _ | .array _ _ => true | _ => false) = true)
    (hs0 : (P.info? t0).map (·.size) = some A0.size) (hs1 : (P.info? t1).map (·.size) = some A1.size) (hs2 : (P.info? t2).map (·.size) = some A0.size) (hs3 : (P.info? t3).map (·.size) = some A1.size)
    (hz2 : A2.size = A0.size) (hz3 : A3.size = A1.size) (hc0 : A0.all (·.oneCell') = true) (hc1 : A1.all (·.oneCell') = true) (hQ0 : ∀ c (a : Act) w, Q (.panic c) (a.put o0.dst (.agg A0)) w → Q (.panic c) a w) (hQ1 : ∀ c (a : Act) w, Q (.panic c) (a.put o1.dst (.agg A1)) w → Q (.panic c) a w)
    (h : ∀ W', Own w0 W' ((bs.set i2 (b2, A0, T2)).set i3 (b3, A1, T3)) → Q .normal ⟨(putL (putL (putL (putL lf o0.dst (.agg A0)) o1.dst (.agg A1)) o2.dst undef) o3.dst undef).toArray, df⟩ W') :
    (Code.region id #[o0, o1, o2, o3] true).wp P Q ⟨lf.toArray, df⟩ W := by
  simp only [ret2B, Bool.and_eq_true, decide_eq_true_eq] at hB
  obtain ⟨⟨⟨⟨⟨⟨⟨⟨_, hsel⟩, hf0⟩, hr0⟩, hf1⟩, hr1⟩, hr2⟩, hr3⟩, hr4⟩ := hB
  have hown1 : Own w0 ({ W with drawn := W.drawn + 1 } : World) bs := ⟨⟨hown.below.os, hown.below.tape, hown.below.output, hown.below.size, hown.below.block⟩, hown.here, hown.apart⟩
  refine wp_region_held (S := fun w' => w'.heap[b0]? = some (.cells A0 T0 (0, 0)) ∧ w'.heap[b1]? = some (.cells A1 T1 (0, 0))) hm ?_
  have hS1 : (W.heap[b0]? = some (.cells A0 T0 (0, 0)) ∧ W.heap[b1]? = some (.cells A1 T1 (0, 0))) := ⟨hown.block i0 hi0, hown.block i1 hi1⟩
  refine wpAnyH_take (i := 0) (oi := o0) (v := .agg A0) rfl hsel hf0 hr0 hQ0 (yieldsIf_row hg.1 t0 x0 ho0 b0 (by rw [evL_eq]; exact hx0) A0 T0 (fun _ hw => hw.1) d0 hu0 hd0 hs0) hS1 ?_
  refine wpAnyH_take (i := 1) (oi := o1) (v := .agg A1) rfl hsel hf1 hr1 hQ1 (yieldsIf_row hg.2.1 t1 x1 ho1 b1 (by rw [putL_eq, evL_eq]; exact hx1) A1 T1 (fun _ hw => hw.2) d1 hu1 hd1 hs1) hS1 ?_
  rw [putL_eq, putL_eq]
  refine wpAnyH_all hr2 (by simp) ?_
  intro i hi
  obtain rfl : i = 2 := by simpa using hi
  refine wpOp_store_row hown1 rfl hg.2.2.1 t2 x2 y2 ho2 b2 hx2 A0 hy2 hc0 hs2 i2 A2 T2 hi2 hz2 ?_
  intro W2 hown2
  have hb0 : (bs.set i2 (b2, A0, T2))[i0]? = some (b0, A0, T0) := by rw [List.getElem?_set_ne hne.1]; exact hi0
  have hb1 : (bs.set i2 (b2, A0, T2))[i1]? = some (b1, A1, T1) := by rw [List.getElem?_set_ne hne.2.1]; exact hi1
  have hb3 : (bs.set i2 (b2, A0, T2))[i3]? = some (b3, A3, T3) := by rw [List.getElem?_set_ne hne.2.2.1.symm]; exact hi3
  refine ⟨⟨hown2.block i0 hb0, hown2.block i1 hb1⟩, ?_⟩
  refine wpAnyH_all hr3 (by simp) ?_
  intro i hi
  obtain rfl : i = 3 := by simpa using hi
  refine wpOp_store_row hown2 rfl hg.2.2.2 t3 x3 y3 ho3 b3 hx3 A1 hy3 hc1 hs3 i3 A3 T3 hb3 hz3 ?_
  intro W3 hown3
  refine ⟨⟨hown3.block i0 (by rw [List.getElem?_set_ne hne.2.2.2.1]; exact hb0), hown3.block i1 (by rw [List.getElem?_set_ne hne.2.2.2.2]; exact hb1)⟩, ?_⟩
  exact wpAnyH_done hr4 (h W3 hown3) _
end Go.Proofs.Ytmchkfganpgheaa
