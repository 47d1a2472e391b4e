/-
  Own small library: rows of integers, blocks that a call owns, steps of the walk over them.
-/
import Derived.WalkKit
import Derived.WalkSpells
import Derived.WalkLawsBesides
import Derived.Laws.Rows
import Derived.Laws.Tables
import Derived.Deep.WholeRow
import Derived.Deep.Quiet
import Derived.StillTailTactics
import Derived.KernelRfl
namespace Go.Proofs.Ytmchkfganpgheaa
set_option linter.unusedSimpArgs false
set_option linter.unusedVariables false
open Go Go.RowKit

/-- A row of integers of one kind, as values. -/
def ints (k : IntKind) (L : List Int) : Array Value := (L.map (Value.int k)).toArray

/-- The integer at a place of a list (0 behind its end). -/
def gi (L : List Int) (j : Nat) : Int := L.getD j 0
theorem ints_size (k : IntKind) (L : List Int) : (ints k L).size = L.length := by simp [ints]
theorem sz_eq {k k' : IntKind} {L M : List Int} {n : Nat} (hL : L.length = n) (hM : M.length = n) : (ints k L).size = (ints k' M).size := by rw [ints_size, ints_size, hL, hM]
theorem ints_get {k : IntKind} {L : List Int} {j : Nat} (h : j < L.length) : (ints k L)[j]? = some (.int k (gi L j)) := by
  simp [ints, gi, h]
theorem ints_set (k : IntKind) (L : List Int) (j : Nat) (v : Int) : (ints k L).setIfInBounds j (.int k v) = ints k (L.set j v) := by
  simp [ints, List.map_set]
theorem ints_cell (k : IntKind) (L : List Int) : (ints k L).all (·.oneCell') = true := by
  rw [Array.all_eq_true_iff_forall_mem]
  intro v hv
  simp only [ints, List.mem_toArray, List.mem_map] at hv
  obtain ⟨x, _, rfl⟩ := hv
  rfl

/-- What the call owns: from the world w0 (its beginning) to W nothing old has turned, and these blocks hold these rows. -/
structure Own (w0 W : World) (bs : List (Nat × Array Value × TypeId)) : Prop where
  below : Below w0.heap.size w0 W
  here : ∀ p ∈ bs, w0.heap.size ≤ p.1 ∧ W.heap[p.1]? = some (.cells p.2.1 p.2.2 (0, 0))
  apart : (bs.map (·.1)).Nodup

theorem Own.start (w : World) : Own w w [] := ⟨Below.refl _ _, by simp, by simp⟩
theorem Own.block {w0 W : World} {bs : List (Nat × Array Value × TypeId)} (h : Own w0 W bs) (i : Nat) {b : Nat} {A : Array Value} {T : TypeId} (hi : bs[i]? = some (b, A, T)) :
    W.heap[b]? = some (.cells A T (0, 0)) := (h.here _ (List.mem_of_getElem? hi)).2
theorem Own.base {w0 W : World} {bs : List (Nat × Array Value × TypeId)} (h : Own w0 W bs) (i : Nat) {b : Nat} {A : Array Value} {T : TypeId} (hi : bs[i]? = some (b, A, T)) :
    w0.heap.size ≤ b := (h.here _ (List.mem_of_getElem? hi)).1
theorem Own.lt {w0 W : World} {bs : List (Nat × Array Value × TypeId)} (h : Own w0 W bs) {p : Nat × Array Value × TypeId} (hp : p ∈ bs) : p.1 < W.heap.size := by
  have := (h.here p hp).2
  exact (Array.getElem?_eq_some_iff.1 this).1
theorem Own.grow {w0 W W' : World} {bs : List (Nat × Array Value × TypeId)} (h : Own w0 W bs) (hb : Below W.heap.size W W') : Own w0 W' bs :=
  ⟨h.below.trans (hb.mono h.below.size), fun p hp => ⟨(h.here p hp).1, by rw [hb.block _ (h.lt hp)]; exact (h.here p hp).2⟩, h.apart⟩
theorem Own.drew {w0 W : World} {bs : List (Nat × Array Value × TypeId)} (h : Own w0 W bs) : Own w0 W.drew bs :=
  ⟨h.below.drew, h.here, h.apart⟩
theorem Own.drewN {w0 W : World} {bs : List (Nat × Array Value × TypeId)} (h : Own w0 W bs) (n : Nat) : Own w0 (W.drewN n) bs :=
  ⟨⟨h.below.os, h.below.tape, h.below.output, h.below.size, h.below.block⟩, h.here, h.apart⟩
theorem Own.alloc {w0 W : World} {bs : List (Nat × Array Value × TypeId)} (h : Own w0 W bs) (A : Array Value) (T : TypeId) :
    Own w0 (W.alloc (.cells A T)) ((W.heap.size, A, T) :: bs) := by
  refine ⟨h.below.alloc h.below.size _, ?_, ?_⟩
  · intro p hp
    rcases List.mem_cons.1 hp with rfl | hp
    · exact ⟨h.below.size, heap_alloc_new _ _⟩
    · exact ⟨(h.here p hp).1, by rw [Below.heap_alloc _ _ _ (h.lt hp)]; exact (h.here p hp).2⟩
  · simp only [List.map_cons, List.nodup_cons]
    refine ⟨fun hm => ?_, h.apart⟩
    obtain ⟨p, hp, he⟩ := List.mem_map.1 hm
    have := h.lt hp
    omega
theorem nodup_set_same {bs : List (Nat × Array Value × TypeId)} {i : Nat} {b : Nat} {A A' : Array Value} {T : TypeId} (hi : bs[i]? = some (b, A, T)) :
    (bs.set i (b, A', T)).map (·.1) = bs.map (·.1) := by
  apply List.ext_getElem?
  intro j
  by_cases hj : i = j
  · subst hj
    have hlt : i < bs.length := (List.getElem?_eq_some_iff.1 hi).1
    simp [hlt, (List.getElem?_eq_some_iff.1 hi).2]
  · simp [List.getElem?_set, hj]
theorem Own.setRow {w0 W : World} {bs : List (Nat × Array Value × TypeId)} (h : Own w0 W bs) {i : Nat} {b : Nat} {A : Array Value} {T : TypeId} (hi : bs[i]? = some (b, A, T)) (A' : Array Value) :
    Own w0 (W.setRow b A') (bs.set i (b, A', T)) := by
  have hb := h.block i hi
  have hbase := h.base i hi
  refine ⟨h.below.trans ⟨rfl, rfl, rfl, by simp, fun k hk => setRow_other _ _ _ _ (by omega)⟩, ?_, ?_⟩
  · intro p hp
    obtain ⟨j, hj⟩ := List.mem_iff_getElem?.1 hp
    by_cases hij : i = j
    · subst hij
      have hlt : i < bs.length := (List.getElem?_eq_some_iff.1 hi).1
      simp only [List.getElem?_set_self hlt, Option.some.injEq] at hj
      subst hj
      exact ⟨hbase, setRow_heap _ _ _ _ _ _ hb⟩
    · rw [List.getElem?_set_ne hij] at hj
      have hne : p.1 ≠ b := by
        intro he
        have h1 : (bs.map (·.1))[j]? = some p.1 := by simp [hj]
        have h2 : (bs.map (·.1))[i]? = some b := by simp [hi]
        have hi' : i < (bs.map (·.1)).length := (List.getElem?_eq_some_iff.1 h2).1
        exact hij ((List.getElem?_inj hi' h.apart).1 (by rw [h2, h1, he]))
      exact ⟨(h.here p (List.mem_of_getElem? hj)).1, by rw [setRow_other _ _ _ _ hne]; exact (h.here p (List.mem_of_getElem? hj)).2⟩
  · rw [nodup_set_same hi]; exact h.apart
theorem Own.setCell {w0 W : World} {bs : List (Nat × Array Value × TypeId)} (h : Own w0 W bs) {i : Nat} {b : Nat} {A : Array Value} {T : TypeId} (hi : bs[i]? = some (b, A, T)) (j : Nat) (v : Value) :
    Own w0 (W.setCell ⟨b, j, none⟩ v) (bs.set i (b, A.setIfInBounds j v, T)) := by
  rw [setCell_eq_setRow _ _ _ _ _ _ _ (h.block i hi)]
  exact h.setRow hi _
theorem Own.cell {w0 W : World} {bs : List (Nat × Array Value × TypeId)} (h : Own w0 W bs) (i : Nat) {b : Nat} {A : Array Value} {T : TypeId} (hi : bs[i]? = some (b, A, T)) (j : Nat) :
    W.cell? ⟨b, j, none⟩ = A[j]? := cell_of_row _ _ _ _ _ _ (h.block i hi)
theorem Own.free {w0 W : World} {bs : List (Nat × Array Value × TypeId)} (h : Own w0 W bs) (i : Nat) {b : Nat} {A : Array Value} {T : TypeId} (hi : bs[i]? = some (b, A, T)) (j : Nat) :
    W.frozen? ⟨b, j, none⟩ = false := frozen_of_row _ _ _ _ _ (h.block i hi)

/-! ### Frames as lists: read and written by structure -/
def nth : List Value → Nat → Value
  | [], _ => undef
  | x :: _, 0 => x
  | _ :: l, n + 1 => nth l n
def setNth : List Value → Nat → Value → List Value
  | [], _, _ => []
  | _ :: l, 0, v => v :: l
  | x :: l, n + 1, v => x :: setNth l n v
def evL (l : List Value) : Operand → Value
  | .tmp t => nth l t
  | .const v => v
  | .global g => .pointer (some ⟨g, 0, none⟩)
  | .func f => .func (.func f) #[] #[]
def putL (l : List Value) : Option Tmp → Value → List Value
  | none, _ => l
  | some d, v => setNth l d v
theorem nth_eq : ∀ (l : List Value) (n : Nat), (l[n]?).getD undef = nth l n
  | [], _ => rfl
  | _ :: _, 0 => rfl
  | _ :: l, n + 1 => by simpa [nth] using nth_eq l n
theorem setNth_eq : ∀ (l : List Value) (n : Nat) (v : Value), l.set n v = setNth l n v
  | [], _, _ => rfl
  | _ :: _, 0, _ => rfl
  | x :: l, n + 1, v => by simp [setNth, setNth_eq l n v]
theorem evL_eq (l : List Value) (df : List Deferred) (x : Operand) : (⟨l.toArray, df⟩ : Act).eval x = evL l x := by
  cases x <;> simp [Act.eval, evL, nth_eq]
theorem putL_eq (l : List Value) (df : List Deferred) (d : Option Tmp) (v : Value) : (⟨l.toArray, df⟩ : Act).put d v = ⟨(putL l d v).toArray, df⟩ := by
  cases d <;> simp [Act.put, putL, setNth_eq]

/-! ### Steps of the walk over what the call owns -/
section
variable {P : Program} {ops : Array Oper} {Q : Exit → Act → World → Prop} {l : List Value} {df : List Deferred} {w0 W : World} {bs : List (Nat × Array Value × TypeId)} {rest : List Oper} {o : Oper}

theorem wpl_box (hown : Own w0 W bs) (hgd : o.guard = none) (T : TypeId) (x : Operand) (ho : o.op = .box T x) (A : Array Value) (hx : evL l x = .agg A)
    (h : ∀ b W', Own w0 W' ((b, A, T) :: bs) → wpList P ops Q rest ⟨(putL l o.dst (.pointer (some ⟨b, 0, none⟩))).toArray, df⟩ W') : wpList P ops Q (o :: rest) ⟨l.toArray, df⟩ W :=
  wpList_plain hgd fun _ hK => by
    unfold Oper.wp execOp
    simp only [ho, evL_eq, putL_eq, hx, Instr.box, newVar, newRow, newObj, Sem.run_bind, Sem.run_pure, Result.andThen_ok]
    exact hK _ _ (by rw [putL_eq]; exact (h _ _ (hown.alloc A T)))

theorem wpl_alloc (hown : Own w0 W bs) (hgd : o.guard = none) (T : TypeId) (ho : o.op = .alloc T) (A : Array Value) (hz : (P.info? T).map (·.zero) = some (some (.agg A)))
    (h : ∀ b W', Own w0 W' ((b, A, T) :: bs) → wpList P ops Q rest ⟨(putL l o.dst (.pointer (some ⟨b, 0, none⟩))).toArray, df⟩ W') : wpList P ops Q (o :: rest) ⟨l.toArray, df⟩ W :=
  wpList_plain hgd fun _ hK => by
    cases hq : P.info? T with
    | none => simp [hq] at hz
    | some i =>
      have hz' : i.zero = some (.agg A) := by simpa [hq] using hz
      have hzv : (zeroValue T).run P W = .ok (.agg A) W := by simp [zeroValue, typeInfo, hq, hz']
      unfold Oper.wp execOp
      simp only [ho, putL_eq, Instr.alloc, newVar, newRow, newObj, Sem.run_bind, Sem.run_pure, Result.andThen_ok, hzv]
      exact hK _ _ (by rw [putL_eq]; exact (h _ _ (hown.alloc A T)))

theorem run_loadAt_cell (ty : TypeId) (d : TypeDesc) (hu : P.underlying ty = some d) (hd : (match d with | .struct _ | .array _ _ => true | _ => false) = false) (ad : Addr) (v : Value) (hv : W.cell? ad = some v) :
    (Instr.loadAt ty (.pointer (some ad))).run P W = .ok v W := by
  have hagg : (isAgg ty).run P W = .ok false W := by
    unfold isAgg
    rw [Sem.run_bind, run_underlying hu W]
    cases d <;> simp_all
  simp [Instr.loadAt, Instr.sureAddr, loadVar, Sem.run_bind, hagg, hv]

theorem wpl_load_cell (hown : Own w0 W bs) (hgd : o.guard = none) (ty : TypeId) (x : Operand) (ho : o.op = .load ty x) (b j : Nat) (hx : evL l x = .pointer (some ⟨b, j, none⟩))
    (d : TypeDesc) (hu : P.underlying ty = some d) (hd : (match d with | .struct _ | .array _ _ => true | _ => false) = false)
    (i : Nat) (A : Array Value) (T : TypeId) (hi : bs[i]? = some (b, A, T)) (v : Value) (hv : A[j]? = some v)
    (h : wpList P ops Q rest ⟨(putL l o.dst v).toArray, df⟩ W) : wpList P ops Q (o :: rest) ⟨l.toArray, df⟩ W :=
  wpList_plain hgd fun _ hK => by
    have hl := run_loadAt_cell (P := P) (W := W) ty d hu hd ⟨b, j, none⟩ v (by rw [hown.cell i hi]; exact hv)
    unfold Oper.wp execOp
    simp only [ho, evL_eq, putL_eq, hx, Sem.run_bind, Sem.run_pure, Result.andThen_ok, hl]
    exact hK _ _ (by rw [putL_eq]; exact h)

theorem wpl_load_row (hown : Own w0 W bs) (hgd : o.guard = none) (ty : TypeId) (x : Operand) (ho : o.op = .load ty x) (b : Nat) (hx : evL l x = .pointer (some ⟨b, 0, none⟩))
    (i : Nat) (A : Array Value) (T : TypeId) (hi : bs[i]? = some (b, A, T))
    (d : TypeDesc) (hu : P.underlying ty = some d) (hd : (match d with | .struct _ | .array _ _ => true | _ => false) = true) (hs : (P.info? ty).map (·.size) = some A.size)
    (h : wpList P ops Q rest ⟨(putL l o.dst (.agg A)).toArray, df⟩ W) : wpList P ops Q (o :: rest) ⟨l.toArray, df⟩ W :=
  wpList_load_row hgd ty x ho b (by rw [evL_eq]; exact hx) T A (0, 0) d (hown.block i hi) hu hd hs (by rw [putL_eq]; exact h)

theorem run_storeAt_cell (ty : TypeId) (hs : (P.info? ty).map (·.size) = some 1) (ad : Addr) (v u : Value) (hv : W.cell? ad = some u) (hf : W.frozen? ad = false) (h1 : v.oneCell' = true) :
    (Instr.storeAt ty (.pointer (some ad)) v).run P W = .ok () (W.setCell ad v) := by
  have hc : v.cells = #[v] := by cases v <;> simp_all [Value.cells, Value.oneCell']
  have h0 : ad.add 0 = ad := by simp [Addr.add]
  cases hq : P.info? ty with
  | none => simp [hq] at hs
  | some i =>
    have hs' : i.size = 1 := by simpa [hq] using hs
    simp [Instr.storeAt, Instr.sureAddr, storeVar, hc, sizeOf, typeInfo, hq, hs', storeCells, Sem.run_bind, h0, run_store P W ad v _ h1, hv, hf]

theorem wpl_store_cell (hown : Own w0 W bs) (hgd : o.guard = none) (ty : TypeId) (x y : Operand) (ho : o.op = .store ty x y) (b j : Nat) (hx : evL l x = .pointer (some ⟨b, j, none⟩))
    (v : Value) (hy : evL l y = v) (h1 : v.oneCell' = true) (hs : (P.info? ty).map (·.size) = some 1)
    (i : Nat) (A : Array Value) (T : TypeId) (hi : bs[i]? = some (b, A, T)) (hj : j < A.size)
    (h : ∀ W', Own w0 W' (bs.set i (b, A.setIfInBounds j v, T)) → wpList P ops Q rest ⟨(putL l o.dst undef).toArray, df⟩ W') : wpList P ops Q (o :: rest) ⟨l.toArray, df⟩ W :=
  wpList_plain hgd fun _ hK => by
    have hl := run_storeAt_cell (P := P) (W := W) ty hs ⟨b, j, none⟩ v A[j] (by rw [hown.cell i hi]; simp [hj]) (hown.free i hi j) h1
    unfold Oper.wp execOp
    simp only [ho, evL_eq, putL_eq, hx, hy, Sem.run_bind, Sem.run_pure, Result.andThen_ok, hl]
    exact hK _ _ (by rw [putL_eq]; exact (h _ (hown.setCell hi j v)))

theorem wpl_store_row (hown : Own w0 W bs) (hgd : o.guard = none) (ty : TypeId) (x y : Operand) (ho : o.op = .store ty x y) (b : Nat) (hx : evL l x = .pointer (some ⟨b, 0, none⟩))
    (A' : Array Value) (hy : evL l y = .agg A') (h1 : A'.all (·.oneCell') = true) (hs : (P.info? ty).map (·.size) = some A'.size)
    (i : Nat) (A : Array Value) (T : TypeId) (hi : bs[i]? = some (b, A, T)) (hsz : A.size = A'.size)
    (h : ∀ W', Own w0 W' (bs.set i (b, A', T)) → wpList P ops Q rest ⟨(putL l o.dst undef).toArray, df⟩ W') : wpList P ops Q (o :: rest) ⟨l.toArray, df⟩ W :=
  wpList_plain hgd fun _ hK => by
    have hl : (Instr.storeAt ty (.pointer (some ⟨b, 0, none⟩)) (.agg A')).run P W = .ok () (W.setRow b A') := by
      simp only [Instr.storeAt, Instr.sureAddr, Sem.run_bind, Sem.run_pure, Result.andThen_ok]
      exact run_storeVar_row W b T ty A A' (hown.block i hi) hs hsz h1
    unfold Oper.wp execOp
    simp only [ho, evL_eq, putL_eq, hx, hy, Sem.run_bind, Sem.run_pure, Result.andThen_ok, hl]
    exact hK _ _ (by rw [putL_eq]; exact (h _ (hown.setRow hi A')))

theorem wpl_load_int (hown : Own w0 W bs) (hgd : o.guard = none) (ty : TypeId) (x : Operand) (ho : o.op = .load ty x) (b j : Nat) (hx : evL l x = .pointer (some ⟨b, j, none⟩))
    (k : IntKind) (hu : P.underlying ty = some (.int k)) (i : Nat) (L : List Int) (T : TypeId) (hi : bs[i]? = some (b, ints k L, T)) (hj : j < L.length)
    (h : wpList P ops Q rest ⟨(putL l o.dst (.int k (gi L j))).toArray, df⟩ W) : wpList P ops Q (o :: rest) ⟨l.toArray, df⟩ W :=
  wpl_load_cell hown hgd ty x ho b j hx (.int k) hu rfl i _ T hi _ (ints_get hj) h

theorem wpl_store_int (hown : Own w0 W bs) (hgd : o.guard = none) (ty : TypeId) (x y : Operand) (ho : o.op = .store ty x y) (b j : Nat) (hx : evL l x = .pointer (some ⟨b, j, none⟩))
    (k : IntKind) (v : Int) (hy : evL l y = .int k v) (hs : (P.info? ty).map (·.size) = some 1)
    (i : Nat) (L : List Int) (T : TypeId) (hi : bs[i]? = some (b, ints k L, T)) (hj : j < L.length)
    (h : ∀ W', Own w0 W' (bs.set i (b, ints k (L.set j v), T)) → wpList P ops Q rest ⟨(putL l o.dst undef).toArray, df⟩ W') : wpList P ops Q (o :: rest) ⟨l.toArray, df⟩ W :=
  wpl_store_cell hown hgd ty x y ho b j hx (.int k v) hy rfl hs i _ T hi (by rw [ints_size]; exact hj) (fun W' hw => h W' (by rw [ints_set] at hw; exact hw))

/-- A result that lies in one of the call's own blocks. -/
theorem results_own (hown : Own w0 W bs) {fn : Func} {p : Tmp} {ty : TypeId} (hr : fn.results = #[.cell p ty]) (b : Nat) (hp : nth l p = .pointer (some ⟨b, 0, none⟩))
    (i : Nat) (A : Array Value) (T : TypeId) (hi : bs[i]? = some (b, A, T))
    (d : TypeDesc) (hu : P.underlying ty = some d) (hd : (match d with | .struct _ | .array _ _ => true | _ => false) = true) (hs : (P.info? ty).map (·.size) = some A.size) :
    (results fn l.toArray).run P W = .ok (.agg A) W :=
  results_cell_row hr l.toArray W b T A (0, 0) d (by simpa [nth_eq] using hp) (hown.block i hi) hu hd hs
end

end Go.Proofs.Ytmchkfganpgheaa
