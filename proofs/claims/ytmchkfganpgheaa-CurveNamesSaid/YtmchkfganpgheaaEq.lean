/-
  Two arrays of integers, held against each other; an array's element by its index.
-/
import Derived.Test.YtmchkfganpgheaaGrow
import Derived.Laws.StructEq
namespace Go.Proofs.Ytmchkfganpgheaa
set_option linter.unusedSimpArgs false
set_option linter.unusedVariables false
open Go Go.RowKit

section
variable {P : Program} (w : World)

theorem run_part_int (e : TypeId) (d : TypeDesc) (hu : P.underlying e = some d) (hd : (match d with | .struct _ | .array _ _ => true | _ => false) = false) (k : IntKind) (L : List Int) (i : Nat) (hi : i < L.length) :
    (part e (ints k L) i).run P w = .ok (.int k (gi L i)) w := by
  unfold part
  have hagg : (isAgg e).run P w = .ok false w := by
    unfold isAgg
    rw [Sem.run_bind, run_underlying hu w]
    cases d <;> simp_all
  simp [Sem.run_bind, hagg, ints_get hi]

theorem run_index_ints (t e : TypeId) (n : Nat) (k' : IntKind) (hu : P.underlying t = some (.array n e)) (hue : P.underlying e = some (.int k')) (hs : (P.info? e).map (·.size) = some 1)
    (k : IntKind) (L : List Int) (hL : L.length = n) (j : IntKind) (i : Int) (h0 : 0 ≤ i) (h1 : i < n) :
    (Instr.index t (.agg (ints k L)) (.int j i)).run P w = .ok (.int k (gi L i.toNat)) w := by
  cases hq : P.info? e with
  | none => simp [hq] at hs
  | some inf =>
    have hs' : inf.size = 1 := by simpa [hq] using hs
    have hp := run_part_int (P := P) w e (.int k') hue rfl k L i.toNat (by omega)
    simp [Instr.index, asIntOf, Sem.run_bind, run_underlying hu, h0, h1, sizeOf, typeInfo, hq, hs', hp]

/-- The comparison, place by place. -/
def eqFrom (d : Nat) (e : TypeId) (n : Nat) (xs ys : Array Value) : List Nat → Sem Bool
  | [] => pure true
  | i :: l => do
    let a ← part e xs (i * n)
    let b ← part e ys (i * n)
    let r ← Op.equalIn d e a b
    if (!r) = true then pure false else eqFrom d e n xs ys l

theorem run_equalIn_array (d : Nat) (t e : TypeId) (len : Nat) (xs ys : Array Value) (ht : P.underlying t = some (.array len e)) (s : Nat) (hs : (P.info? e).map (·.size) = some s) :
    (Op.equalIn (d + 1) t (.agg xs) (.agg ys)).run P w = (eqFrom d e s xs ys (List.range len)).run P w := by
  cases hq : P.info? e with
  | none => simp [hq] at hs
  | some inf =>
    have hs' : inf.size = s := by simpa [hq] using hs
    simp only [Op.equalIn, Sem.run_bind, run_underlying ht, Result.andThen_ok, sizeOf, typeInfo, run_program, hq, Sem.run_pure, hs']
    rw [Std.Legacy.Range.forIn_eq_forIn_range', show (Std.Legacy.Range.size [0:len]) = len by simp [Std.Legacy.Range.size], List.range_eq_range']
    generalize List.range' 0 len = l
    induction l generalizing w with
    | nil => simp [eqFrom]
    | cons i l ih =>
      simp only [List.forIn_cons, eqFrom, Sem.run_bind]
      generalize (part e xs (i * s)).run P w = r1
      cases r1 with
      | ok a w1 =>
        simp only [Result.andThen_ok]
        generalize (part e ys (i * s)).run P w1 = r2
        cases r2 with
        | ok b w2 =>
          simp only [Result.andThen_ok]
          generalize (Op.equalIn d e a b).run P w2 = r3
          cases r3 with
          | ok r w3 =>
            cases r
            · simp only [Result.andThen_ok, Bool.not_false, if_true, Sem.run_pure]
            · simp only [Result.andThen_ok, Bool.not_true, Bool.false_eq_true, if_false, Sem.run_pure]
              exact ih w3
          | halt x w3 => simp [Result.andThen]
        | halt x w2 => simp [Result.andThen]
      | halt x w1 => simp [Result.andThen]

theorem run_eqFrom_ints (d : Nat) (e : TypeId) (k' : IntKind) (hue : P.underlying e = some (.int k')) (k : IntKind) (L M : List Int) :
    ∀ l : List Nat, (∀ i ∈ l, i < L.length ∧ i < M.length) → (eqFrom (d + 1) e 1 (ints k L) (ints k M) l).run P w = .ok (l.all fun i => gi L i == gi M i) w
  | [], _ => by simp [eqFrom]
  | i :: l, h => by
    have h0 := h i (by simp)
    have ha := run_part_int (P := P) w e (.int k') hue rfl k L i h0.1
    have hb := run_part_int (P := P) w e (.int k') hue rfl k M i h0.2
    have ih := run_eqFrom_ints d e k' hue k L M l (fun j hj => h j (by simp [hj]))
    simp only [eqFrom, Nat.mul_one, Sem.run_bind, ha, hb, Result.andThen_ok, run_equalIn_int w d e k k' _ _ hue, List.all_cons]
    by_cases hc : gi L i = gi M i
    · simp [hc, ih]
    · simp [hc]

theorem gi_ext {L M : List Int} (hl : L.length = M.length) (h : ∀ i, i < L.length → gi L i = gi M i) : L = M := by
  apply List.ext_getElem hl
  intro i h1 h2
  have := h i h1
  simpa [gi, h1, h2] using this

theorem all_gi (L M : List Int) (n : Nat) (hL : L.length = n) (hM : M.length = n) : ((List.range n).all fun i => gi L i == gi M i) = decide (L = M) := by
  rw [Bool.eq_iff_iff]
  simp only [List.all_eq_true, List.mem_range, beq_iff_eq, decide_eq_true_eq]
  exact ⟨fun h => gi_ext (by omega) (fun i hi => h i (by omega)), fun h i _ => by rw [h]⟩

/-- '==' of two arrays of integers. -/
theorem run_eql_ints (t e : TypeId) (n : Nat) (k' : IntKind) (hu : P.underlying t = some (.array n e)) (hue : P.underlying e = some (.int k')) (hs : (P.info? e).map (·.size) = some 1)
    (k : IntKind) (L M : List Int) (hL : L.length = n) (hM : M.length = n) :
    (binOp .eql t (.agg (ints k L)) (.agg (ints k M))).run P w = .ok (.bool (decide (L = M))) w := by
  rw [run_eql_struct, show (10000 : Nat) = 9999 + 1 from rfl, run_equalIn_array w 9999 t e n _ _ hu 1 hs, show (9999 : Nat) = 9998 + 1 from rfl, run_eqFrom_ints w 9998 e k' hue k L M _ (by intro i hi; simp at hi; omega), all_gi L M n hL hM]
  rfl

/-- An aggregate, put together. -/
theorem wpl_build {W : World} {ops : Array Oper} {Q : Exit → Act → World → Prop} {rest : List Oper} {o : Oper} {lf : List Value} {df : List Deferred} (hgd : o.guard = none) (t : TypeId) (parts : List (Nat × Operand)) (ho : o.op = .build t parts.toArray)
    (vals : List (Nat × Value)) (hv : parts.map (fun p => (p.1, evL lf p.2)) = vals) (cells : Array Value) (hb : P.built t vals = some cells)
    (h : wpList P ops Q rest ⟨(putL lf o.dst (.agg cells)).toArray, df⟩ W) : wpList P ops Q (o :: rest) ⟨lf.toArray, df⟩ W :=
  wpList_plain hgd fun _ hK => by
    have hr := run_build (P := P) W t (parts.toArray.map fun p => (p.1, evL lf p.2)) cells (by simpa [hv] using hb)
    unfold Oper.wp execOp
    simp only [ho, evL_eq, Sem.run_bind, hr, Result.andThen_ok, Sem.run_pure]
    exact hK _ _ (by rw [putL_eq]; exact h)

theorem ints_extract (k : IntKind) (L : List Int) (a n : Nat) : (ints k L).extract a (a + n) = ints k ((L.drop a).take n) := by
  simp [ints, List.map_take, List.map_drop]

/-- A field that is an array (or a struct) of integers, of a struct's value. -/
theorem run_field_ints (t : TypeId) (fs : Array Field) (i : Nat) (f : Field) (hu : P.underlying t = some (.struct fs)) (hf : fs[i]? = some f) (d : TypeDesc) (huf : P.underlying f.type = some d)
    (hd : (match d with | .struct _ | .array _ _ => true | _ => false) = true) (n : Nat) (hs : (P.info? f.type).map (·.size) = some n) (k : IntKind) (L : List Int) :
    (Instr.field t (.agg (ints k L)) i).run P w = .ok (.agg (ints k ((L.drop f.offset).take n))) w := by
  have hagg : (isAgg f.type).run P w = .ok true w := by
    unfold isAgg
    rw [Sem.run_bind, run_underlying huf w]
    cases d <;> simp_all
  cases hq : P.info? f.type with
  | none => simp [hq] at hs
  | some inf =>
    have hs' : inf.size = n := by simpa [hq] using hs
    simp [Instr.field, Sem.run_bind, run_underlying hu, hf, asAgg, part, hagg, sizeOf, typeInfo, hq, hs', ints_extract]

theorem growAt_field {w0 : World} {bs : Acc} {o : Oper} {lf : List Value} {df : List Deferred} (t : TypeId) (x : Operand) (i : Nat) (ho : o.op = .field t x i) (k : IntKind) (L : List Int) (hx : evL lf x = .agg (ints k L))
    (fs : Array Field) (hu : P.underlying t = some (.struct fs)) (f : Field) (hf : fs[i]? = some f) (d : TypeDesc) (huf : P.underlying f.type = some d)
    (hd : (match d with | .struct _ | .array _ _ => true | _ => false) = true) (n : Nat) (hs : (P.info? f.type).map (·.size) = some n) (M : List Int) (hM : (L.drop f.offset).take n = M) : Oper.growAt P w0 bs o ⟨lf.toArray, df⟩ (.agg (ints k M)) := by
  subst hM
  refine growAt_pure fun w => ?_
  unfold execOp
  simp only [ho, evL_eq, hx, Sem.run_bind, run_field_ints w t fs i f hu hf d huf hd n hs k L, Result.andThen_ok, Sem.run_pure]

theorem wpl_field {W : World} {ops : Array Oper} {Q : Exit → Act → World → Prop} {rest : List Oper} {o : Oper} {lf : List Value} {df : List Deferred} (hgd : o.guard = none) (t : TypeId) (x : Operand) (i : Nat) (ho : o.op = .field t x i) (k : IntKind) (L : List Int) (hx : evL lf x = .agg (ints k L))
    (fs : Array Field) (hu : P.underlying t = some (.struct fs)) (f : Field) (hf : fs[i]? = some f) (d : TypeDesc) (huf : P.underlying f.type = some d)
    (hd : (match d with | .struct _ | .array _ _ => true | _ => false) = true) (n : Nat) (hs : (P.info? f.type).map (·.size) = some n) (M : List Int) (hM : (L.drop f.offset).take n = M)
    (h : wpList P ops Q rest ⟨(putL lf o.dst (.agg (ints k M))).toArray, df⟩ W) : wpList P ops Q (o :: rest) ⟨lf.toArray, df⟩ W :=
  wpList_plain hgd fun _ hK => by
    subst hM
    unfold Oper.wp execOp
    simp only [ho, evL_eq, hx, Sem.run_bind, run_field_ints W t fs i f hu hf d huf hd n hs k L, Result.andThen_ok, Sem.run_pure]
    exact hK _ _ (by rw [putL_eq]; exact h)

theorem growAt_index {w0 : World} {bs : Acc} {o : Oper} {lf : List Value} {df : List Deferred} (t : TypeId) (x y : Operand) (ho : o.op = .index t x y) (k : IntKind) (L : List Int) (hx : evL lf x = .agg (ints k L)) (j : IntKind) (i : Int) (hy : evL lf y = .int j i)
    (e : TypeId) (n : Nat) (k' : IntKind) (hu : P.underlying t = some (.array n e)) (hue : P.underlying e = some (.int k')) (hs : (P.info? e).map (·.size) = some 1)
    (hL : L.length = n) (h0 : 0 ≤ i) (h1 : i < n) : Oper.growAt P w0 bs o ⟨lf.toArray, df⟩ (.int k (gi L i.toNat)) := by
  refine growAt_pure fun w => ?_
  unfold execOp
  simp only [ho, evL_eq, hx, hy, Sem.run_bind, run_index_ints w t e n k' hu hue hs k L hL j i h0 h1, Result.andThen_ok, Sem.run_pure]

theorem wpl_index {W : World} {ops : Array Oper} {Q : Exit → Act → World → Prop} {rest : List Oper} {o : Oper} {lf : List Value} {df : List Deferred} (hgd : o.guard = none) (t : TypeId) (x y : Operand) (ho : o.op = .index t x y) (k : IntKind) (L : List Int) (hx : evL lf x = .agg (ints k L)) (j : IntKind) (i : Int) (hy : evL lf y = .int j i)
    (e : TypeId) (n : Nat) (k' : IntKind) (hu : P.underlying t = some (.array n e)) (hue : P.underlying e = some (.int k')) (hs : (P.info? e).map (·.size) = some 1)
    (hL : L.length = n) (h0 : 0 ≤ i) (h1 : i < n) (h : wpList P ops Q rest ⟨(putL lf o.dst (.int k (gi L i.toNat))).toArray, df⟩ W) : wpList P ops Q (o :: rest) ⟨lf.toArray, df⟩ W :=
  wpList_plain hgd fun _ hK => by
    unfold Oper.wp execOp
    simp only [ho, evL_eq, hx, hy, Sem.run_bind, run_index_ints W t e n k' hu hue hs k L hL j i h0 h1, Result.andThen_ok, Sem.run_pure]
    exact hK _ _ (by rw [putL_eq]; exact h)

theorem wpl_eql {W : World} {ops : Array Oper} {Q : Exit → Act → World → Prop} {rest : List Oper} {o : Oper} {lf : List Value} {df : List Deferred} (hgd : o.guard = none) (t : TypeId) (x y : Operand) (t' : TypeId) (ho : o.op = .binOp .eql t x y t') (k : IntKind) (L M : List Int) (hx : evL lf x = .agg (ints k L)) (hy : evL lf y = .agg (ints k M))
    (e : TypeId) (n : Nat) (k' : IntKind) (hu : P.underlying t = some (.array n e)) (hue : P.underlying e = some (.int k')) (hs : (P.info? e).map (·.size) = some 1) (hg : P.eqGuardType P.depth t = false)
    (hL : L.length = n) (hM : M.length = n) (h : wpList P ops Q rest ⟨(putL lf o.dst (.bool (decide (L = M)))).toArray, df⟩ W) : wpList P ops Q (o :: rest) ⟨lf.toArray, df⟩ W :=
  wpList_plain hgd fun _ hK => by
    unfold Oper.wp execOp
    simp only [ho, evL_eq, hx, hy, Sem.run_bind, run_eqGuard_agg W .eql t x y _ _ hg, Result.andThen_ok, run_eql_ints W t e n k' hu hue hs k L M hL hM, Sem.run_pure]
    exact hK _ _ (by rw [putL_eq]; exact h)

theorem growAt_eql {w0 : World} {bs : Acc} {o : Oper} {lf : List Value} {df : List Deferred} (t : TypeId) (x y : Operand) (t' : TypeId) (ho : o.op = .binOp .eql t x y t') (k : IntKind) (L M : List Int) (hx : evL lf x = .agg (ints k L)) (hy : evL lf y = .agg (ints k M))
    (e : TypeId) (n : Nat) (k' : IntKind) (hu : P.underlying t = some (.array n e)) (hue : P.underlying e = some (.int k')) (hs : (P.info? e).map (·.size) = some 1) (hg : P.eqGuardType P.depth t = false)
    (hL : L.length = n) (hM : M.length = n) : Oper.growAt P w0 bs o ⟨lf.toArray, df⟩ (.bool (decide (L = M))) := by
  refine growAt_pure fun w => ?_
  unfold execOp
  simp only [ho, evL_eq, hx, hy, Sem.run_bind, run_eqGuard_agg w .eql t x y _ _ hg, Result.andThen_ok, run_eql_ints w t e n k' hu hue hs k L M hL hM, Sem.run_pure]

end
end Go.Proofs.Ytmchkfganpgheaa
