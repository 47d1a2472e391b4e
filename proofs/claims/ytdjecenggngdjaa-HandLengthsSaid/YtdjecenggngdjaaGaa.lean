/-
  Joined texts: Lib, Mem, GrowM. No conditions.
-/
import Derived.WalkKit
import Derived.WalkSpells
import Derived.WalkLawsBesides
import Derived.Laws.Rows
import Derived.Laws.Tables
import Derived.Deep.WholeRow
import Derived.Deep.Quiet
import Derived.StillTailTactics
import Derived.KernelRfl
import Derived.StillTail
namespace Go.Proofs.Ytdjecenggngdjaa
set_option linter.unusedSimpArgs false
set_option linter.unusedVariables false
set_option maxHeartbeats 16000000
section
open Go Go.RowKit
def ints (k : IntKind) (L : List Int) : Array Value := (L.map (Value.int k)).toArray
def gi (L : List Int) (j : Nat) : Int := L.getD j 0
theorem ints_size (k : IntKind) (L : List Int) : (ints k L).size = L.length := by simp [ints]
theorem sz_eq {k k' : IntKind} {L M : List Int} {n : Nat} (hL : L.length = n) (hM : M.length = n) : (ints k L).size = (ints k' M).size := by rw [ints_size, ints_size, hL, hM]
theorem ints_get {k : IntKind} {L : List Int} {j : Nat} (h : j < L.length) : (ints k L)[j]? = some (.int k (gi L j)) := by
  simp [ints, gi, h]
theorem ints_set (k : IntKind) (L : List Int) (j : Nat) (v : Int) : (ints k L).setIfInBounds j (.int k v) = ints k (L.set j v) := by
  simp [ints, List.map_set]
theorem ints_cell (k : IntKind) (L : List Int) : (ints k L).all (·.oneCell') = true := by
  rw [Array.all_eq_true_iff_forall_mem]
  intro v hv
  simp only [ints, List.mem_toArray, List.mem_map] at hv
  obtain ⟨x, _, rfl⟩ := hv
  rfl
structure Own (w0 W : World) (bs : List (Nat × Array Value × TypeId)) : Prop where
  below : Below w0.heap.size w0 W
  here : ∀ p ∈ bs, w0.heap.size ≤ p.1 ∧ W.heap[p.1]? = some (.cells p.2.1 p.2.2 (0, 0))
  apart : (bs.map (·.1)).Nodup
theorem Own.start (w : World) : Own w w [] := ⟨Below.refl _ _, by simp, by simp⟩
theorem Own.block {w0 W : World} {bs : List (Nat × Array Value × TypeId)} (h : Own w0 W bs) (i : Nat) {b : Nat} {A : Array Value} {T : TypeId} (hi : bs[i]? = some (b, A, T)) :
    W.heap[b]? = some (.cells A T (0, 0)) := (h.here _ (List.mem_of_getElem? hi)).2
theorem Own.base {w0 W : World} {bs : List (Nat × Array Value × TypeId)} (h : Own w0 W bs) (i : Nat) {b : Nat} {A : Array Value} {T : TypeId} (hi : bs[i]? = some (b, A, T)) :
    w0.heap.size ≤ b := (h.here _ (List.mem_of_getElem? hi)).1
theorem Own.lt {w0 W : World} {bs : List (Nat × Array Value × TypeId)} (h : Own w0 W bs) {p : Nat × Array Value × TypeId} (hp : p ∈ bs) : p.1 < W.heap.size := by
  have := (h.here p hp).2
  exact (Array.getElem?_eq_some_iff.1 this).1
theorem Own.grow {w0 W W' : World} {bs : List (Nat × Array Value × TypeId)} (h : Own w0 W bs) (hb : Below W.heap.size W W') : Own w0 W' bs :=
  ⟨h.below.trans (hb.mono h.below.size), fun p hp => ⟨(h.here p hp).1, by rw [hb.block _ (h.lt hp)]; exact (h.here p hp).2⟩, h.apart⟩
theorem Own.drew {w0 W : World} {bs : List (Nat × Array Value × TypeId)} (h : Own w0 W bs) : Own w0 W.drew bs :=
  ⟨h.below.drew, h.here, h.apart⟩
theorem Own.alloc {w0 W : World} {bs : List (Nat × Array Value × TypeId)} (h : Own w0 W bs) (A : Array Value) (T : TypeId) :
    Own w0 (W.alloc (.cells A T)) ((W.heap.size, A, T) :: bs) := by
  refine ⟨h.below.alloc h.below.size _, ?_, ?_⟩
  · intro p hp
    rcases List.mem_cons.1 hp with rfl | hp
    · exact ⟨h.below.size, heap_alloc_new _ _⟩
    · exact ⟨(h.here p hp).1, by rw [Below.heap_alloc _ _ _ (h.lt hp)]; exact (h.here p hp).2⟩
  · simp only [List.map_cons, List.nodup_cons]
    refine ⟨fun hm => ?_, h.apart⟩
    obtain ⟨p, hp, he⟩ := List.mem_map.1 hm
    have := h.lt hp
    omega
theorem nodup_set_same {bs : List (Nat × Array Value × TypeId)} {i : Nat} {b : Nat} {A A' : Array Value} {T : TypeId} (hi : bs[i]? = some (b, A, T)) :
    (bs.set i (b, A', T)).map (·.1) = bs.map (·.1) := by
  apply List.ext_getElem?
  intro j
  by_cases hj : i = j
  · subst hj
    have hlt : i < bs.length := (List.getElem?_eq_some_iff.1 hi).1
    simp [hlt, (List.getElem?_eq_some_iff.1 hi).2]
  · simp [List.getElem?_set, hj]
theorem Own.setRow {w0 W : World} {bs : List (Nat × Array Value × TypeId)} (h : Own w0 W bs) {i : Nat} {b : Nat} {A : Array Value} {T : TypeId} (hi : bs[i]? = some (b, A, T)) (A' : Array Value) :
    Own w0 (W.setRow b A') (bs.set i (b, A', T)) := by
  have hb := h.block i hi
  have hbase := h.base i hi
  refine ⟨h.below.trans ⟨rfl, rfl, rfl, by simp, fun k hk => setRow_other _ _ _ _ (by omega)⟩, ?_, ?_⟩
  · intro p hp
    obtain ⟨j, hj⟩ := List.mem_iff_getElem?.1 hp
    by_cases hij : i = j
    · subst hij
      have hlt : i < bs.length := (List.getElem?_eq_some_iff.1 hi).1
      simp only [List.getElem?_set_self hlt, Option.some.injEq] at hj
      subst hj
      exact ⟨hbase, setRow_heap _ _ _ _ _ _ hb⟩
    · rw [List.getElem?_set_ne hij] at hj
      have hne : p.1 ≠ b := by
        intro he
        have h1 : (bs.map (·.1))[j]? = some p.1 := by simp [hj]
        have h2 : (bs.map (·.1))[i]? = some b := by simp [hi]
        have hi' : i < (bs.map (·.1)).length := (List.getElem?_eq_some_iff.1 h2).1
        exact hij ((List.getElem?_inj hi' h.apart).1 (by rw [h2, h1, he]))
      exact ⟨(h.here p (List.mem_of_getElem? hj)).1, by rw [setRow_other _ _ _ _ hne]; exact (h.here p (List.mem_of_getElem? hj)).2⟩
  · rw [nodup_set_same hi]; exact h.apart
theorem Own.setCell {w0 W : World} {bs : List (Nat × Array Value × TypeId)} (h : Own w0 W bs) {i : Nat} {b : Nat} {A : Array Value} {T : TypeId} (hi : bs[i]? = some (b, A, T)) (j : Nat) (v : Value) :
    Own w0 (W.setCell ⟨b, j, none⟩ v) (bs.set i (b, A.setIfInBounds j v, T)) := by
  rw [setCell_eq_setRow _ _ _ _ _ _ _ (h.block i hi)]
  exact h.setRow hi _
theorem Own.cell {w0 W : World} {bs : List (Nat × Array Value × TypeId)} (h : Own w0 W bs) (i : Nat) {b : Nat} {A : Array Value} {T : TypeId} (hi : bs[i]? = some (b, A, T)) (j : Nat) :
    W.cell? ⟨b, j, none⟩ = A[j]? := cell_of_row _ _ _ _ _ _ (h.block i hi)
theorem Own.free {w0 W : World} {bs : List (Nat × Array Value × TypeId)} (h : Own w0 W bs) (i : Nat) {b : Nat} {A : Array Value} {T : TypeId} (hi : bs[i]? = some (b, A, T)) (j : Nat) :
    W.frozen? ⟨b, j, none⟩ = false := frozen_of_row _ _ _ _ _ (h.block i hi)
def nth : List Value → Nat → Value
  | [], _ => undef
  | x :: _, 0 => x
  | _ :: l, n + 1 => nth l n
def setNth : List Value → Nat → Value → List Value
  | [], _, _ => []
  | _ :: l, 0, v => v :: l
  | x :: l, n + 1, v => x :: setNth l n v
def evL (l : List Value) : Operand → Value
  | .tmp t => nth l t
  | .const v => v
  | .global g => .pointer (some ⟨g, 0, none⟩)
  | .func f => .func (.func f) #[] #[]
def putL (l : List Value) : Option Tmp → Value → List Value
  | none, _ => l
  | some d, v => setNth l d v
theorem nth_eq : ∀ (l : List Value) (n : Nat), (l[n]?).getD undef = nth l n
  | [], _ => rfl
  | _ :: _, 0 => rfl
  | _ :: l, n + 1 => by simpa [nth] using nth_eq l n
theorem setNth_eq : ∀ (l : List Value) (n : Nat) (v : Value), l.set n v = setNth l n v
  | [], _, _ => rfl
  | _ :: _, 0, _ => rfl
  | x :: l, n + 1, v => by simp [setNth, setNth_eq l n v]
theorem evL_eq (l : List Value) (df : List Deferred) (x : Operand) : (⟨l.toArray, df⟩ : Act).eval x = evL l x := by
  cases x <;> simp [Act.eval, evL, nth_eq]
theorem putL_eq (l : List Value) (df : List Deferred) (d : Option Tmp) (v : Value) : (⟨l.toArray, df⟩ : Act).put d v = ⟨(putL l d v).toArray, df⟩ := by
  cases d <;> simp [Act.put, putL, setNth_eq]
section
variable {P : Program} {ops : Array Oper} {Q : Exit → Act → World → Prop} {l : List Value} {df : List Deferred} {w0 W : World} {bs : List (Nat × Array Value × TypeId)} {rest : List Oper} {o : Oper}
theorem wpl_box (hown : Own w0 W bs) (hgd : o.guard = none) (T : TypeId) (x : Operand) (ho : o.op = .box T x) (A : Array Value) (hx : evL l x = .agg A)
    (h : ∀ b W', Own w0 W' ((b, A, T) :: bs) → wpList P ops Q rest ⟨(putL l o.dst (.pointer (some ⟨b, 0, none⟩))).toArray, df⟩ W') : wpList P ops Q (o :: rest) ⟨l.toArray, df⟩ W :=
  wpList_plain hgd fun _ hK => by
    unfold Oper.wp execOp
    simp only [ho, evL_eq, putL_eq, hx, Instr.box, newVar, newRow, newObj, Sem.run_bind, Sem.run_pure, Result.andThen_ok]
    exact hK _ _ (by rw [putL_eq]; exact (h _ _ (hown.alloc A T)))
theorem wpl_alloc (hown : Own w0 W bs) (hgd : o.guard = none) (T : TypeId) (ho : o.op = .alloc T) (A : Array Value) (hz : (P.info? T).map (·.zero) = some (some (.agg A)))
    (h : ∀ b W', Own w0 W' ((b, A, T) :: bs) → wpList P ops Q rest ⟨(putL l o.dst (.pointer (some ⟨b, 0, none⟩))).toArray, df⟩ W') : wpList P ops Q (o :: rest) ⟨l.toArray, df⟩ W :=
  wpList_plain hgd fun _ hK => by
    cases hq : P.info? T with
    | none => simp [hq] at hz
    | some i =>
      have hz' : i.zero = some (.agg A) := by simpa [hq] using hz
      have hzv : (zeroValue T).run P W = .ok (.agg A) W := by simp [zeroValue, typeInfo, hq, hz']
      unfold Oper.wp execOp
      simp only [ho, putL_eq, Instr.alloc, newVar, newRow, newObj, Sem.run_bind, Sem.run_pure, Result.andThen_ok, hzv]
      exact hK _ _ (by rw [putL_eq]; exact (h _ _ (hown.alloc A T)))
theorem run_loadAt_cell (ty : TypeId) (d : TypeDesc) (hu : P.underlying ty = some d) (hd : (match d with | .struct _ | .array _ _ => true | _ => false) = false) (ad : Addr) (v : Value) (hv : W.cell? ad = some v) :
    (Instr.loadAt ty (.pointer (some ad))).run P W = .ok v W := by
  have hagg : (isAgg ty).run P W = .ok false W := by
    unfold isAgg
    rw [Sem.run_bind, run_underlying hu W]
    cases d <;> simp_all
  simp [Instr.loadAt, Instr.sureAddr, loadVar, Sem.run_bind, hagg, hv]
theorem wpl_load_cell (hown : Own w0 W bs) (hgd : o.guard = none) (ty : TypeId) (x : Operand) (ho : o.op = .load ty x) (b j : Nat) (hx : evL l x = .pointer (some ⟨b, j, none⟩))
    (d : TypeDesc) (hu : P.underlying ty = some d) (hd : (match d with | .struct _ | .array _ _ => true | _ => false) = false)
    (i : Nat) (A : Array Value) (T : TypeId) (hi : bs[i]? = some (b, A, T)) (v : Value) (hv : A[j]? = some v)
    (h : wpList P ops Q rest ⟨(putL l o.dst v).toArray, df⟩ W) : wpList P ops Q (o :: rest) ⟨l.toArray, df⟩ W :=
  wpList_plain hgd fun _ hK => by
    have hl := run_loadAt_cell (P := P) (W := W) ty d hu hd ⟨b, j, none⟩ v (by rw [hown.cell i hi]; exact hv)
    unfold Oper.wp execOp
    simp only [ho, evL_eq, putL_eq, hx, Sem.run_bind, Sem.run_pure, Result.andThen_ok, hl]
    exact hK _ _ (by rw [putL_eq]; exact h)
theorem wpl_load_row (hown : Own w0 W bs) (hgd : o.guard = none) (ty : TypeId) (x : Operand) (ho : o.op = .load ty x) (b : Nat) (hx : evL l x = .pointer (some ⟨b, 0, none⟩))
    (i : Nat) (A : Array Value) (T : TypeId) (hi : bs[i]? = some (b, A, T))
    (d : TypeDesc) (hu : P.underlying ty = some d) (hd : (match d with | .struct _ | .array _ _ => true | _ => false) = true) (hs : (P.info? ty).map (·.size) = some A.size)
    (h : wpList P ops Q rest ⟨(putL l o.dst (.agg A)).toArray, df⟩ W) : wpList P ops Q (o :: rest) ⟨l.toArray, df⟩ W :=
  wpList_load_row hgd ty x ho b (by rw [evL_eq]; exact hx) T A (0, 0) d (hown.block i hi) hu hd hs (by rw [putL_eq]; exact h)
theorem run_storeAt_cell (ty : TypeId) (hs : (P.info? ty).map (·.size) = some 1) (ad : Addr) (v u : Value) (hv : W.cell? ad = some u) (hf : W.frozen? ad = false) (h1 : v.oneCell' = true) :
    (Instr.storeAt ty (.pointer (some ad)) v).run P W = .ok () (W.setCell ad v) := by
  have hc : v.cells = #[v] := by cases v <;> simp_all [Value.cells, Value.oneCell']
  have h0 : ad.add 0 = ad := by simp [Addr.add]
  cases hq : P.info? ty with
  | none => simp [hq] at hs
  | some i =>
    have hs' : i.size = 1 := by simpa [hq] using hs
    simp [Instr.storeAt, Instr.sureAddr, storeVar, hc, sizeOf, typeInfo, hq, hs', storeCells, Sem.run_bind, h0, run_store P W ad v _ h1, hv, hf]
theorem wpl_store_cell (hown : Own w0 W bs) (hgd : o.guard = none) (ty : TypeId) (x y : Operand) (ho : o.op = .store ty x y) (b j : Nat) (hx : evL l x = .pointer (some ⟨b, j, none⟩))
    (v : Value) (hy : evL l y = v) (h1 : v.oneCell' = true) (hs : (P.info? ty).map (·.size) = some 1)
    (i : Nat) (A : Array Value) (T : TypeId) (hi : bs[i]? = some (b, A, T)) (hj : j < A.size)
    (h : ∀ W', Own w0 W' (bs.set i (b, A.setIfInBounds j v, T)) → wpList P ops Q rest ⟨(putL l o.dst undef).toArray, df⟩ W') : wpList P ops Q (o :: rest) ⟨l.toArray, df⟩ W :=
  wpList_plain hgd fun _ hK => by
    have hl := run_storeAt_cell (P := P) (W := W) ty hs ⟨b, j, none⟩ v A[j] (by rw [hown.cell i hi]; simp [hj]) (hown.free i hi j) h1
    unfold Oper.wp execOp
    simp only [ho, evL_eq, putL_eq, hx, hy, Sem.run_bind, Sem.run_pure, Result.andThen_ok, hl]
    exact hK _ _ (by rw [putL_eq]; exact (h _ (hown.setCell hi j v)))
theorem wpl_store_row (hown : Own w0 W bs) (hgd : o.guard = none) (ty : TypeId) (x y : Operand) (ho : o.op = .store ty x y) (b : Nat) (hx : evL l x = .pointer (some ⟨b, 0, none⟩))
    (A' : Array Value) (hy : evL l y = .agg A') (h1 : A'.all (·.oneCell') = true) (hs : (P.info? ty).map (·.size) = some A'.size)
    (i : Nat) (A : Array Value) (T : TypeId) (hi : bs[i]? = some (b, A, T)) (hsz : A.size = A'.size)
    (h : ∀ W', Own w0 W' (bs.set i (b, A', T)) → wpList P ops Q rest ⟨(putL l o.dst undef).toArray, df⟩ W') : wpList P ops Q (o :: rest) ⟨l.toArray, df⟩ W :=
  wpList_plain hgd fun _ hK => by
    have hl : (Instr.storeAt ty (.pointer (some ⟨b, 0, none⟩)) (.agg A')).run P W = .ok () (W.setRow b A') := by
      simp only [Instr.storeAt, Instr.sureAddr, Sem.run_bind, Sem.run_pure, Result.andThen_ok]
      exact run_storeVar_row W b T ty A A' (hown.block i hi) hs hsz h1
    unfold Oper.wp execOp
    simp only [ho, evL_eq, putL_eq, hx, hy, Sem.run_bind, Sem.run_pure, Result.andThen_ok, hl]
    exact hK _ _ (by rw [putL_eq]; exact (h _ (hown.setRow hi A')))
theorem wpl_load_int (hown : Own w0 W bs) (hgd : o.guard = none) (ty : TypeId) (x : Operand) (ho : o.op = .load ty x) (b j : Nat) (hx : evL l x = .pointer (some ⟨b, j, none⟩))
    (k : IntKind) (hu : P.underlying ty = some (.int k)) (i : Nat) (L : List Int) (T : TypeId) (hi : bs[i]? = some (b, ints k L, T)) (hj : j < L.length)
    (h : wpList P ops Q rest ⟨(putL l o.dst (.int k (gi L j))).toArray, df⟩ W) : wpList P ops Q (o :: rest) ⟨l.toArray, df⟩ W :=
  wpl_load_cell hown hgd ty x ho b j hx (.int k) hu rfl i _ T hi _ (ints_get hj) h
theorem wpl_store_int (hown : Own w0 W bs) (hgd : o.guard = none) (ty : TypeId) (x y : Operand) (ho : o.op = .store ty x y) (b j : Nat) (hx : evL l x = .pointer (some ⟨b, j, none⟩))
    (k : IntKind) (v : Int) (hy : evL l y = .int k v) (hs : (P.info? ty).map (·.size) = some 1)
    (i : Nat) (L : List Int) (T : TypeId) (hi : bs[i]? = some (b, ints k L, T)) (hj : j < L.length)
    (h : ∀ W', Own w0 W' (bs.set i (b, ints k (L.set j v), T)) → wpList P ops Q rest ⟨(putL l o.dst undef).toArray, df⟩ W') : wpList P ops Q (o :: rest) ⟨l.toArray, df⟩ W :=
  wpl_store_cell hown hgd ty x y ho b j hx (.int k v) hy rfl hs i _ T hi (by rw [ints_size]; exact hj) (fun W' hw => h W' (by rw [ints_set] at hw; exact hw))
theorem results_own (hown : Own w0 W bs) {fn : Func} {p : Tmp} {ty : TypeId} (hr : fn.results = #[.cell p ty]) (b : Nat) (hp : nth l p = .pointer (some ⟨b, 0, none⟩))
    (i : Nat) (A : Array Value) (T : TypeId) (hi : bs[i]? = some (b, A, T))
    (d : TypeDesc) (hu : P.underlying ty = some d) (hd : (match d with | .struct _ | .array _ _ => true | _ => false) = true) (hs : (P.info? ty).map (·.size) = some A.size) :
    (results fn l.toArray).run P W = .ok (.agg A) W :=
  results_cell_row hr l.toArray W b T A (0, 0) d (by simpa [nth_eq] using hp) (hown.block i hi) hu hd hs
end
end
section
open Go Go.RowKit
abbrev Mem := List (Nat × Array Value × TypeId)
structure OwnM (w0 : World) (mu : List Nat) (W : World) (bs : Mem) : Prop where
  os : W.os = w0.os
  tape : W.tape = w0.tape
  output : W.output = w0.output
  size : w0.heap.size ≤ W.heap.size
  rest : ∀ b, b < w0.heap.size → b ∉ mu → W.heap[b]? = w0.heap[b]?
  here : ∀ p ∈ bs, (w0.heap.size ≤ p.1 ∨ p.1 ∈ mu) ∧ W.heap[p.1]? = some (.cells p.2.1 p.2.2 (0, 0))
  apart : (bs.map (·.1)).Nodup
section
variable {w0 W W' : World} {mu : List Nat} {bs : Mem}
theorem OwnM.start (w : World) : OwnM w [] w [] := ⟨rfl, rfl, rfl, Nat.le_refl _, fun _ _ _ => rfl, by simp, by simp⟩
theorem OwnM.start1 (w : World) {b : Nat} {A : Array Value} {T : TypeId} (h : w.heap[b]? = some (.cells A T (0, 0))) : OwnM w [b] w [(b, A, T)] :=
  ⟨rfl, rfl, rfl, Nat.le_refl _, fun _ _ _ => rfl, by simpa using h, by simp⟩
theorem OwnM.start2 (w : World) {b c : Nat} {A B : Array Value} {T U : TypeId} (h : w.heap[b]? = some (.cells A T (0, 0))) (h' : w.heap[c]? = some (.cells B U (0, 0))) (hne : b ≠ c) : OwnM w [b, c] w [(b, A, T), (c, B, U)] :=
  ⟨rfl, rfl, rfl, Nat.le_refl _, fun _ _ _ => rfl, by simp [h, h'], by simp [hne]⟩
theorem OwnM.block (h : OwnM w0 mu W bs) {b : Nat} {A : Array Value} {T : TypeId} (hi : (b, A, T) ∈ bs) : W.heap[b]? = some (.cells A T (0, 0)) := (h.here _ hi).2
theorem OwnM.lt (h : OwnM w0 mu W bs) {p : Nat × Array Value × TypeId} (hp : p ∈ bs) : p.1 < W.heap.size := (Array.getElem?_eq_some_iff.1 (h.here p hp).2).1
theorem OwnM.below (h : OwnM w0 [] W bs) : Below w0.heap.size w0 W := ⟨h.os, h.tape, h.output, h.size, fun k hk => h.rest k hk (by simp)⟩
theorem OwnM.grow (h : OwnM w0 mu W bs) (hb : Below W.heap.size W W') : OwnM w0 mu W' bs :=
  ⟨hb.os.trans h.os, hb.tape.trans h.tape, hb.output.trans h.output, Nat.le_trans h.size hb.size, fun b h1 h2 => by rw [hb.block _ (Nat.lt_of_lt_of_le h1 h.size)]; exact h.rest b h1 h2,
    fun p hp => ⟨(h.here p hp).1, by rw [hb.block _ (h.lt hp)]; exact (h.here p hp).2⟩, h.apart⟩
theorem OwnM.drew (h : OwnM w0 mu W bs) (n : Nat) : OwnM w0 mu { W with drawn := W.drawn + n } bs := ⟨h.os, h.tape, h.output, h.size, h.rest, h.here, h.apart⟩
theorem OwnM.alloc (h : OwnM w0 mu W bs) (A : Array Value) (T : TypeId) : OwnM w0 mu (W.alloc (.cells A T)) ((W.heap.size, A, T) :: bs) := by
  have hb : Below W.heap.size W (W.alloc (.cells A T)) := (Below.refl _ W).alloc (Nat.le_refl _) _
  have h2 := h.grow hb
  refine ⟨h2.os, h2.tape, h2.output, h2.size, h2.rest, ?_, ?_⟩
  · intro p hp
    rcases List.mem_cons.1 hp with rfl | hp
    · exact ⟨.inl h.size, heap_alloc_new _ _⟩
    · exact h2.here p hp
  · simp only [List.map_cons, List.nodup_cons]
    refine ⟨fun hm => ?_, h.apart⟩
    obtain ⟨p, hp, he⟩ := List.mem_map.1 hm
    have := h.lt hp
    omega
theorem OwnM.perm {bs' : Mem} (h : OwnM w0 mu W bs) (hp : bs.Perm bs') : OwnM w0 mu W bs' :=
  ⟨h.os, h.tape, h.output, h.size, h.rest, fun p hm => h.here p (hp.mem_iff.2 hm), (hp.map _).nodup_iff.1 h.apart⟩
theorem OwnM.sub {bs' : Mem} (h : OwnM w0 mu W bs) (hp : bs'.Sublist bs) : OwnM w0 mu W bs' :=
  ⟨h.os, h.tape, h.output, h.size, h.rest, fun p hm => h.here p (hp.subset hm), h.apart.sublist (hp.map _)⟩
theorem OwnM.tail {acc : Mem} (h : OwnM w0 mu W (acc ++ bs)) : OwnM w0 mu W bs := h.sub (List.sublist_append_right _ _)
theorem OwnM.drop1 {p : Nat × Array Value × TypeId} (h : OwnM w0 mu W (p :: bs)) : OwnM w0 mu W bs := h.sub (List.sublist_cons_self _ _)
theorem OwnM.setRow (h : OwnM w0 mu W bs) {i : Nat} {b : Nat} {A : Array Value} {T : TypeId} (hi : bs[i]? = some (b, A, T)) (A' : Array Value) :
    OwnM w0 mu (W.setRow b A') (bs.set i (b, A', T)) := by
  have hm := List.mem_of_getElem? hi
  have hb := h.block hm
  have hbase := (h.here _ hm).1
  refine ⟨h.os, h.tape, h.output, by simpa using h.size, ?_, ?_, ?_⟩
  · intro k hk hmu
    have hne : k ≠ b := by
      rintro rfl
      rcases hbase with h1 | h1
      · exact absurd hk (Nat.not_lt.2 h1)
      · exact hmu h1
    rw [setRow_other _ _ _ _ hne]
    exact h.rest k hk hmu
  · intro p hp
    obtain ⟨j, hj⟩ := List.mem_iff_getElem?.1 hp
    by_cases hij : i = j
    · subst hij
      have hlt : i < bs.length := (List.getElem?_eq_some_iff.1 hi).1
      simp only [List.getElem?_set_self hlt, Option.some.injEq] at hj
      subst hj
      exact ⟨hbase, setRow_heap _ _ _ _ _ _ hb⟩
    · rw [List.getElem?_set_ne hij] at hj
      have hne : p.1 ≠ b := by
        intro he
        have h1 : (bs.map (·.1))[j]? = some p.1 := by simp [hj]
        have h2 : (bs.map (·.1))[i]? = some b := by simp [hi]
        have hi' : i < (bs.map (·.1)).length := (List.getElem?_eq_some_iff.1 h2).1
        exact hij ((List.getElem?_inj hi' h.apart).1 (by rw [h2, h1, he]))
      exact ⟨(h.here p (List.mem_of_getElem? hj)).1, by rw [setRow_other _ _ _ _ hne]; exact (h.here p (List.mem_of_getElem? hj)).2⟩
  · rw [nodup_set_same hi]; exact h.apart
theorem OwnM.call1 (h : OwnM w0 mu W bs) {i : Nat} {b : Nat} {A A' : Array Value} {T : TypeId} (hi : bs[i]? = some (b, A, T)) (h' : OwnM W [b] W' [(b, A', T)]) :
    OwnM w0 mu W' (bs.set i (b, A', T)) := by
  have hm := List.mem_of_getElem? hi
  have hbase := (h.here _ hm).1
  refine ⟨h'.os.trans h.os, h'.tape.trans h.tape, h'.output.trans h.output, Nat.le_trans h.size h'.size, ?_, ?_, ?_⟩
  · intro k hk hmu
    have hne : k ≠ b := by
      rintro rfl
      rcases hbase with h1 | h1
      · exact absurd hk (Nat.not_lt.2 h1)
      · exact hmu h1
    rw [h'.rest k (Nat.lt_of_lt_of_le hk h.size) (by simpa using hne)]
    exact h.rest k hk hmu
  · intro p hp
    obtain ⟨j, hj⟩ := List.mem_iff_getElem?.1 hp
    by_cases hij : i = j
    · subst hij
      have hlt : i < bs.length := (List.getElem?_eq_some_iff.1 hi).1
      simp only [List.getElem?_set_self hlt, Option.some.injEq] at hj
      subst hj
      exact ⟨hbase, h'.block (by simp)⟩
    · rw [List.getElem?_set_ne hij] at hj
      have hpm := List.mem_of_getElem? hj
      have hne : p.1 ≠ b := by
        intro he
        have h1 : (bs.map (·.1))[j]? = some p.1 := by simp [hj]
        have h2 : (bs.map (·.1))[i]? = some b := by simp [hi]
        have hi' : i < (bs.map (·.1)).length := (List.getElem?_eq_some_iff.1 h2).1
        exact hij ((List.getElem?_inj hi' h.apart).1 (by rw [h2, h1, he]))
      exact ⟨(h.here p hpm).1, by rw [h'.rest _ (h.lt hpm) (by simpa using hne)]; exact (h.here p hpm).2⟩
  · rw [nodup_set_same hi]; exact h.apart
theorem OwnM.ne (h : OwnM w0 mu W bs) {i j : Nat} {p q : Nat × Array Value × TypeId} (hi : bs[i]? = some p) (hj : bs[j]? = some q) (hij : i ≠ j) : p.1 ≠ q.1 := by
  intro he
  have h1 : (bs.map (·.1))[i]? = some p.1 := by simp [hi]
  have h2 : (bs.map (·.1))[j]? = some q.1 := by simp [hj]
  have hi' : i < (bs.map (·.1)).length := (List.getElem?_eq_some_iff.1 h1).1
  exact hij (List.getElem?_inj hi' h.apart |>.1 (by rw [h1, h2, he]))
theorem OwnM.call2 (h : OwnM w0 mu W bs) {i j : Nat} {b c : Nat} {A A' B B' : Array Value} {T U : TypeId} (hi : bs[i]? = some (b, A, T)) (hj : bs[j]? = some (c, B, U)) (hij : i ≠ j)
    (h' : OwnM W [b, c] W' [(b, A', T), (c, B', U)]) : OwnM w0 mu W' ((bs.set i (b, A', T)).set j (c, B', U)) := by
  have hmi := List.mem_of_getElem? hi
  have hmj := List.mem_of_getElem? hj
  have hbi := (h.here _ hmi).1
  have hbj := (h.here _ hmj).1
  have hj' : (bs.set i (b, A', T))[j]? = some (c, B, U) := by rw [List.getElem?_set_ne hij]; exact hj
  have hap : (((bs.set i (b, A', T)).set j (c, B', U)).map (·.1)) = bs.map (·.1) := by rw [nodup_set_same hj', nodup_set_same hi]
  refine ⟨h'.os.trans h.os, h'.tape.trans h.tape, h'.output.trans h.output, Nat.le_trans h.size h'.size, ?_, ?_, ?_⟩
  · intro k hk hmu
    have hn1 : k ≠ b := by
      rintro rfl
      rcases hbi with h1 | h1
      · exact absurd hk (Nat.not_lt.2 h1)
      · exact hmu h1
    have hn2 : k ≠ c := by
      rintro rfl
      rcases hbj with h1 | h1
      · exact absurd hk (Nat.not_lt.2 h1)
      · exact hmu h1
    rw [h'.rest k (Nat.lt_of_lt_of_le hk h.size) (by simp [hn1, hn2])]
    exact h.rest k hk hmu
  · intro p hp
    obtain ⟨k, hk⟩ := List.mem_iff_getElem?.1 hp
    by_cases hjk : j = k
    · subst hjk
      have hlt : j < (bs.set i (b, A', T)).length := by simpa using (List.getElem?_eq_some_iff.1 hj).1
      simp only [List.getElem?_set_self hlt, Option.some.injEq] at hk
      subst hk
      exact ⟨hbj, h'.block (by simp)⟩
    · rw [List.getElem?_set_ne hjk] at hk
      by_cases hik : i = k
      · subst hik
        have hlt : i < bs.length := (List.getElem?_eq_some_iff.1 hi).1
        simp only [List.getElem?_set_self hlt, Option.some.injEq] at hk
        subst hk
        exact ⟨hbi, h'.block (by simp)⟩
      · rw [List.getElem?_set_ne hik] at hk
        have hpm := List.mem_of_getElem? hk
        have hn1 := h.ne hk hi (Ne.symm hik)
        have hn2 := h.ne hk hj (Ne.symm hjk)
        exact ⟨(h.here p hpm).1, by rw [h'.rest _ (h.lt hpm) (by simpa using ⟨hn1, hn2⟩)]; exact (h.here p hpm).2⟩
  · rw [hap]; exact h.apart
theorem OwnM.fresh (h : OwnM w0 mu W bs) {b : Nat} {A : Array Value} {T : TypeId} (h' : OwnM W [] W' [(b, A, T)]) : OwnM w0 mu W' ((b, A, T) :: bs) := by
  have h2 := h.grow h'.below
  have hb : W.heap.size ≤ b := by simpa using (h'.here (b, A, T) (by simp)).1
  refine ⟨h2.os, h2.tape, h2.output, h2.size, h2.rest, ?_, ?_⟩
  · intro p hp
    rcases List.mem_cons.1 hp with rfl | hp
    · exact ⟨.inl (Nat.le_trans h.size hb), h'.block (by simp)⟩
    · exact h2.here p hp
  · simp only [List.map_cons, List.nodup_cons]
    refine ⟨fun hm => ?_, h.apart⟩
    obtain ⟨p, hp, he⟩ := List.mem_map.1 hm
    have := h.lt hp
    omega
def RdA (w0 : World) (mu : List Nat) (bs : Mem) (b : Nat) (A : Array Value) : Prop := (∃ T, (b, A, T) ∈ bs) ∨ (b ∉ mu ∧ ∃ T fz, w0.heap[b]? = some (.cells A T fz))
theorem RdA.get (h : OwnM w0 mu W bs) {b : Nat} {A : Array Value} (r : RdA w0 mu bs b A) : ∃ T fz, W.heap[b]? = some (.cells A T fz) := by
  rcases r with ⟨T, hm⟩ | ⟨hmu, T, fz, hb⟩
  · exact ⟨T, _, h.block hm⟩
  · exact ⟨T, fz, by rw [h.rest b (Array.getElem?_eq_some_iff.1 hb).1 hmu]; exact hb⟩
theorem RdA.own {i : Nat} {b : Nat} {A : Array Value} {T : TypeId} (hi : bs[i]? = some (b, A, T)) : RdA w0 mu bs b A := .inl ⟨T, List.mem_of_getElem? hi⟩
theorem RdA.old {b : Nat} {A : Array Value} {T : TypeId} {fz : Nat × Nat} (hb : w0.heap[b]? = some (.cells A T fz)) (hmu : b ∉ mu) : RdA w0 mu bs b A := .inr ⟨hmu, T, fz, hb⟩
end
section
variable {P : Program}
theorem add_off (b off j : Nat) : (⟨b, off, none⟩ : Addr).add j = ⟨b, off + j, none⟩ := by
  unfold Addr.add
  split
  · rename_i h; simp [h]
  · rfl
theorem run_loadPart (w : World) (b off : Nat) (t ty : TypeId) (A : Array Value) (fz : Nat × Nat) (d : TypeDesc) (n : Nat) (hb : w.heap[b]? = some (.cells A t fz)) (hn : off + n ≤ A.size)
    (hu : P.underlying ty = some d) (hd : (match d with | .struct _ | .array _ _ => true | _ => false) = true) (hi : (P.info? ty).map (·.size) = some n) :
    (loadVar ty ⟨b, off, none⟩).run P w = .ok (.agg (A.extract off (off + n))) w := by
  have hl : (loadCells ⟨b, off, none⟩ (A.extract off (off + n)).toList.length).run P w = .ok (A.extract off (off + n)).toList.toArray w :=
    run_loadCells_list (P := P) w ⟨b, off, none⟩ (A.extract off (off + n)).toList (fun j v hv => by
      rw [add_off, cell_of_row w b (off + j) A t fz hb]
      have hj : j < n := by
        have := (List.getElem?_eq_some_iff.1 hv).1
        simp at this
        omega
      have hv' : (A.extract off (off + n))[j]? = some v := by rw [← hv]; simp only [Array.getElem?_toList]
      rw [Array.getElem?_extract] at hv'
      split at hv'
      · exact hv'
      · cases hv')
  have hlen : (A.extract off (off + n)).toList.length = n := by simp; omega
  rw [hlen] at hl
  cases hq : P.info? ty with
  | none => simp [hq] at hi
  | some inf =>
    have hs : inf.size = n := by simpa [hq] using hi
    have hagg : (isAgg ty).run P w = .ok true w := by
      unfold isAgg
      rw [Sem.run_bind, run_underlying hu w]
      cases d <;> simp_all
    rw [Array.toArray_toList] at hl
    simp only [loadVar, Sem.run_bind, hagg, sizeOf, typeInfo, hq, hs, hl, Result.andThen_ok, if_true, Sem.run_pure, run_program]
def putAt (A : Array Value) (off : Nat) : List Value → Array Value
  | [] => A
  | v :: vs => putAt (A.setIfInBounds off v) (off + 1) vs
theorem putAt_get (vs : List Value) (A : Array Value) (off j : Nat) (h : off + vs.length ≤ A.size) : (putAt A off vs)[j]? = if off ≤ j ∧ j < off + vs.length then vs[j - off]? else A[j]? := by
  induction vs generalizing A off with
  | nil => simp [putAt]; omega
  | cons v vs ih =>
    simp only [List.length_cons] at h
    simp only [putAt]
    rw [ih _ _ (by simp; omega)]
    by_cases h1 : off + 1 ≤ j ∧ j < off + 1 + vs.length
    · rw [if_pos h1, if_pos (by simp; omega)]
      have : j - off = (j - (off + 1)) + 1 := by omega
      rw [this]; simp
    · rw [if_neg h1]
      by_cases h2 : off = j
      · subst h2
        rw [if_pos (by simp)]
        simp [show off < A.size by omega]
      · rw [if_neg (by simp; omega)]
        simp [Array.getElem?_setIfInBounds, h2]
theorem setRow_setRow (w : World) (b : Nat) (A A' : Array Value) (hb : ∃ C t, w.heap[b]? = some (.cells C t (0, 0))) : (w.setRow b A).setRow b A' = w.setRow b A' := by
  obtain ⟨C, t, hb⟩ := hb
  have hlt : b < w.heap.size := (Array.getElem?_eq_some_iff.1 hb).1
  have hv : w.heap[b] = .cells C t (0, 0) := (Array.getElem?_eq_some_iff.1 hb).2
  unfold World.setRow
  congr 1
  apply Array.ext (by simp)
  intro i h1 h2
  simp only [Array.getElem_modify]
  by_cases hi : b = i
  · subst hi; simp [hv]
  · simp [hi]
theorem run_storeCells_row (vs : List Value) (h1 : ∀ v ∈ vs, v.oneCell' = true) : ∀ (k : Nat) (w : World) (b off : Nat) (A : Array Value) (t : TypeId) (_ : w.heap[b]? = some (.cells A t (0, 0))) (_ : off + k + vs.length ≤ A.size),
    (storeCells ⟨b, off, none⟩ vs k).run P w = .ok () (w.setRow b (putAt A (off + k) vs)) := by
  induction vs with
  | nil =>
    intro k w b off A t hb _
    have : w.setRow b A = w := by
      have hlt : b < w.heap.size := (Array.getElem?_eq_some_iff.1 hb).1
      have hv : w.heap[b] = .cells A t (0, 0) := (Array.getElem?_eq_some_iff.1 hb).2
      unfold World.setRow
      have : w.heap.modify b (fun o => match o with | .cells _ t f => .cells A t f | o => o) = w.heap := by
        apply Array.ext (by simp)
        intro i h1 h2
        simp only [Array.getElem_modify]
        by_cases hi : b = i
        · subst hi; simp [hv]
        · simp [hi]
      exact congrArg (fun h => { w with heap := h }) this
    simp [storeCells, putAt, this]
  | cons v vs ih =>
    intro k w b off A t hb hsz
    simp only [List.length_cons] at hsz
    have hv := h1 v (by simp)
    have hcell : w.cell? ((⟨b, off, none⟩ : Addr).add k) = some A[off + k] := by
      rw [add_off, cell_of_row w b (off + k) A t (0, 0) hb]
      simp [show off + k < A.size by omega]
    have hfz : w.frozen? ((⟨b, off, none⟩ : Addr).add k) = false := by rw [add_off]; exact frozen_of_row w b _ A t hb
    have hst := run_store P w ((⟨b, off, none⟩ : Addr).add k) v .plain hv
    simp only [hcell, hfz] at hst
    have hset : w.setCell ((⟨b, off, none⟩ : Addr).add k) v = w.setRow b (A.setIfInBounds (off + k) v) := by
      rw [add_off]; exact setCell_eq_setRow w b (off + k) A t (0, 0) v hb
    have hb' : (w.setRow b (A.setIfInBounds (off + k) v)).heap[b]? = some (.cells (A.setIfInBounds (off + k) v) t (0, 0)) := setRow_heap _ _ _ _ _ _ hb
    have hrec := ih (fun u hu => h1 u (by simp [hu])) (k + 1) (w.setRow b (A.setIfInBounds (off + k) v)) b off _ t hb' (by simp; omega)
    rw [setRow_setRow w b _ _ ⟨A, t, hb⟩] at hrec
    simp only [storeCells, Sem.run_bind]
    rw [if_neg (by decide), hset] at hst
    rw [hst, Result.andThen_ok, hrec]
    simp only [putAt, show off + k + 1 = off + (k + 1) by omega]
theorem run_storePart (w : World) (b off : Nat) (t ty : TypeId) (A : Array Value) (v : Value) (hb : w.heap[b]? = some (.cells A t (0, 0))) (hs : (P.info? ty).map (·.size) = some v.cells.size) (hn : off + v.cells.size ≤ A.size)
    (h1 : ∀ u ∈ v.cells.toList, u.oneCell' = true) : (storeVar ty ⟨b, off, none⟩ v).run P w = .ok () (w.setRow b (putAt A off v.cells.toList)) := by
  have h := run_storeCells_row (P := P) v.cells.toList h1 0 w b off A t hb (by simpa using hn)
  cases hq : P.info? ty with
  | none => simp [hq] at hs
  | some inf =>
    have hs' : inf.size = v.cells.size := by simpa [hq] using hs
    simp [storeVar, Sem.run_bind, sizeOf, typeInfo, hq, hs', h]
end
end
section
open Go Go.RowKit
namespace M
section
variable {P : Program} {ops : Array Oper} {md : Region.Mode} {w0 : World} {mu : List Nat} {bs : Mem}
def growUpon (P : Program) (w : World) (v : Value) : Result Next → Prop
  | .ok (.value u) w' => w' = w ∧ u = v
  | .ok .skip w' => w' = w ∧ v = undef
  | .ok (.enter f args) w' => w' = w ∧ Calls P f args w (fun e w'' => e = .returned v ∧ Below w.heap.size w w'')
  | .ok (.row row args) w' => w' = w ∧ Rows P row args w (fun u w'' => u = v ∧ Below w.heap.size w w'')
  | _ => False
def growAtM (P : Program) (w0 : World) (mu : List Nat) (bs : Mem) (o : Oper) (a : Act) (v : Value) : Prop :=
  ∀ w, OwnM w0 mu w bs → growUpon P w v ((execOp a.eval o).run P w)
def freshM : Op → Option TypeId
  | .alloc T => some T
  | _ => none
abbrev Acc := Mem
def vOp (P : Program) (ops : Array Oper) (w0 : World) (mu : List Nat) (bs : Acc) (i : Nat) (K : Act → Acc → Prop) (a : Act) (acc : Acc) : Prop :=
  match ops[i]? with
  | none => False
  | some o =>
    match freshM o.op with
    | some T => o.guard = none ∧ ∃ A, (P.info? T).map (·.zero) = some (some (.agg A)) ∧ ∀ b, K (a.put o.dst (.pointer (some ⟨b, 0, none⟩))) ((b, A, T) :: acc)
    | none => if Region.wanted o (yielded ops a.tmps) then ∃ v, growAtM P w0 mu bs o a v ∧ K (a.put o.dst v) acc else K (a.put o.dst undef) acc
theorem vOp_mono {i : Nat} {K K' : Act → Acc → Prop} {a : Act} {acc : Acc} (h : ∀ a acc, K a acc → K' a acc) (hh : vOp P ops w0 mu bs i K a acc) : vOp P ops w0 mu bs i K' a acc := by
  unfold vOp at *
  split
  · rename_i ho; simp only [ho] at hh
  · rename_i o ho
    simp only [ho] at hh
    split
    · rename_i T hT
      simp only [hT] at hh
      obtain ⟨hg, A, hz, hk⟩ := hh
      exact ⟨hg, A, hz, fun b => h _ _ (hk b)⟩
    · rename_i hT
      simp only [hT] at hh
      split
      · rename_i hw
        simp only [hw, if_true] at hh
        obtain ⟨v, hv, hk⟩ := hh
        exact ⟨v, hv, h _ _ hk⟩
      · rename_i hw
        simp only [hw] at hh
        exact h _ _ hh
theorem wpOp_of_vOp {i : Nat} {a : Act} {acc : Acc} {w : World} {K : Act → Acc → Prop} {K' : Act → World → Prop} {Q' : Exit → Act → World → Prop}
    (hw : OwnM w0 mu w (acc ++ bs)) (hK : ∀ a' acc' w', OwnM w0 mu w' (acc' ++ bs) → K a' acc' → K' a' w') (h : vOp P ops w0 mu bs i K a acc) : wpOp P ops Q' i K' a w := by
  unfold vOp at h
  unfold wpOp
  split
  · rename_i ho; simp only [ho] at h
  · rename_i o ho
    simp only [ho] at h
    split at h
    · rename_i T hT
      obtain ⟨hg, A, hz, hk⟩ := h
      have hop : o.op = .alloc T := by
        cases hop : o.op <;> simp [hop, freshM] at hT
        rw [hT]
      rw [if_pos (by simp [Region.wanted, hg])]
      refine .inl ?_
      cases hq : P.info? T with
      | none => simp [hq] at hz
      | some inf =>
        have hz' : inf.zero = some (.agg A) := by simpa [hq] using hz
        have hzv : (zeroValue T).run P w = .ok (.agg A) w := by simp [zeroValue, typeInfo, hq, hz']
        unfold Oper.wp execOp
        simp only [hop, Instr.alloc, newVar, newRow, newObj, Sem.run_bind, Sem.run_pure, Result.andThen_ok, hzv]
        exact hK _ ((w.heap.size, A, T) :: acc) _ (hw.alloc A T) (hk _)
    · split
      · rename_i hwant
        simp only [hwant, if_true] at h
        obtain ⟨v, hv, hk⟩ := h
        refine .inl ?_
        have h3 := hv w hw.tail
        unfold Oper.wp
        generalize (execOp a.eval o).run P w = r at h3
        cases r with
        | ok nx w' =>
          cases nx <;> simp only [growUpon] at h3 <;> simp only [Oper.upon]
          case value u =>
            obtain ⟨e1, e2⟩ := h3
            rw [e1, e2]
            exact hK _ _ _ hw hk
          case skip =>
            obtain ⟨e1, e2⟩ := h3
            rw [e1, ← e2]
            exact hK _ _ _ hw hk
          case enter f args =>
            obtain ⟨e1, hc⟩ := h3
            rw [e1]
            exact hc.mono fun e w'' ⟨he, hw''⟩ => by subst he; exact hK _ _ _ (hw.grow hw'') hk
          case row row args =>
            obtain ⟨e1, hc⟩ := h3
            rw [e1]
            exact hc.mono fun u w'' ⟨he, hw''⟩ => by subst he; exact hK _ _ _ (hw.grow hw'') hk
        | halt x w' => simp only [growUpon] at h3
      · rename_i hwant
        simp only [hwant] at h
        exact hK _ _ _ hw h
def wpAnyV (P : Program) (md : Region.Mode) (ops : Array Oper) (w0 : World) (mu : List Nat) (bs : Acc) (n : Nat) (L : Array Bool → Act → Acc → Prop) : Nat → Array Bool → Act → Acc → Prop
  | 0, listed, a, acc => L listed a acc
  | f + 1, listed, a, acc =>
    Region.ready md ops listed ≠ [] ∧ ∀ i ∈ Region.ready md ops listed, i < n ∧ vOp P ops w0 mu bs i (wpAnyV P md ops w0 mu bs n L f (listed.setIfInBounds i true)) a acc
theorem wpAny_of_V {n g : Nat} {L : Array Bool → Act → Acc → Prop} {Q' : Exit → Act → World → Prop}
    (hL : ∀ listed a acc w, OwnM w0 mu w (acc ++ bs) → L listed a acc → wpAny P md ops Q' g listed a w) :
    ∀ (f : Nat) (listed : Array Bool) (a : Act) (acc : Acc) (w : World), OwnM w0 mu w (acc ++ bs) → wpAnyV P md ops w0 mu bs n L f listed a acc → wpAny P md ops Q' (f + g) listed a w
  | 0, listed, a, acc, w, hw, h => by rw [Nat.zero_add]; exact hL _ _ _ _ hw h
  | f + 1, listed, a, acc, w, hw, h => by
    rw [show f + 1 + g = (f + g) + 1 by omega]
    exact ⟨fun h0 => absurd h0 h.1, fun i hi => wpOp_of_vOp hw (fun a' acc' w' hw' h' => wpAny_of_V hL f _ a' acc' w' hw' h') (h.2 i hi).2⟩
theorem wpAnyV_perm {n : Nat} {L : Array Bool → Act → Acc → Prop} (hL : ∀ listed a acc acc', acc.Perm acc' → L listed a acc → L listed a acc') :
    ∀ (f : Nat) (listed : Array Bool) (a : Act) (acc acc' : Acc), acc.Perm acc' → wpAnyV P md ops w0 mu bs n L f listed a acc → wpAnyV P md ops w0 mu bs n L f listed a acc'
  | 0, _, _, _, _, hp, h => hL _ _ _ _ hp h
  | f + 1, listed, a, acc, acc', hp, h => ⟨h.1, fun i hi => ⟨(h.2 i hi).1, by
      have h2 := (h.2 i hi).2
      have ih := wpAnyV_perm (n := n) hL f (listed.setIfInBounds i true)
      unfold vOp at *
      split
      · rename_i ho; simp only [ho] at h2
      · rename_i o ho
        simp only [ho] at h2
        split
        · rename_i T hT
          simp only [hT] at h2
          obtain ⟨hg, A, hz, hk⟩ := h2
          exact ⟨hg, A, hz, fun b => ih _ _ _ (hp.cons _) (hk b)⟩
        · rename_i hT
          simp only [hT] at h2
          split
          · rename_i hw
            simp only [hw, if_true] at h2
            obtain ⟨v, hv, hk⟩ := h2
            exact ⟨v, hv, ih _ _ _ hp hk⟩
          · rename_i hw
            simp only [hw] at h2
            exact ih _ _ _ hp h2⟩⟩
def YieldsV (P : Program) (ops : Array Oper) (w0 : World) (mu : List Nat) (bs : Acc) (o : Oper) (v : Value) (a : Act) : Prop :=
  (Region.wanted o (yielded ops a.tmps) = true ∧ growAtM P w0 mu bs o a v) ∨ (Region.wanted o (yielded ops a.tmps) = false ∧ v = undef)
theorem YieldsV.vOp {i : Nat} {o : Oper} {v : Value} {a : Act} {acc : Acc} (hi : ops[i]? = some o) (hf : freshM o.op = none) (hy : YieldsV P ops w0 mu bs o v a) {K : Act → Acc → Prop} (h : K (a.put o.dst v) acc) :
    vOp P ops w0 mu bs i K a acc := by
  unfold Go.Proofs.Ytdjecenggngdjaa.M.vOp
  simp only [hi, hf]
  rcases hy with ⟨hw, hv⟩ | ⟨hw, rfl⟩
  · rw [if_pos hw]; exact ⟨v, hv, h⟩
  · rw [if_neg (by rw [hw]; exact Bool.false_ne_true)]; exact h
theorem YieldsV.of_same {o : Oper} {v : Value} {a a' : Act} (hy : YieldsV P ops w0 mu bs o v a) (he : execOp a'.eval o = execOp a.eval o)
    (hw : Region.wanted o (yielded ops a'.tmps) = Region.wanted o (yielded ops a.tmps)) : YieldsV P ops w0 mu bs o v a' := by
  unfold YieldsV growAtM at *
  rw [he, hw]
  exact hy
theorem vOp_put {j : Nat} {oi oj : Oper} {v : Value} (hj : ops[j]? = some oj) (hap : oi.apart ops oj = true)
    (hsi : ∀ cs b, oi.op ≠ .select cs b) (hsj : ∀ cs b, oj.op ≠ .select cs b) {K : Act → Acc → Prop} {a : Act} {acc : Acc}
    (hy : YieldsV P ops w0 mu bs oi v a) (h : vOp P ops w0 mu bs j K (a.put oi.dst v) acc) :
    vOp P ops w0 mu bs j (fun a' acc' => YieldsV P ops w0 mu bs oi v a' ∧ K (a'.put oi.dst v) acc') a acc := by
  obtain ⟨h1, h2, h3⟩ := Oper.apart_spec hap
  have keep : ∀ u, YieldsV P ops w0 mu bs oi v (a.put oj.dst u) := fun u =>
    hy.of_same (execOp_put oi hsi a oj.dst u h3) (wanted_put oi a oj.dst u h3)
  unfold vOp at *
  simp only [hj] at *
  split
  · rename_i T hT
    simp only [hT] at h
    obtain ⟨hg, A, hz, hk⟩ := h
    exact ⟨hg, A, hz, fun b => ⟨keep _, by rw [← Act.put_comm a v _ h2]; exact hk b⟩⟩
  · rename_i hT
    simp only [hT] at h
    rw [wanted_put oj a oi.dst v h1] at h
    split
    · rename_i hw
      simp only [hw, if_true] at h
      obtain ⟨u, hu, hk⟩ := h
      refine ⟨u, fun w hw' => ?_, keep u, by rw [← Act.put_comm a v u h2]; exact hk⟩
      have := hu w hw'
      rwa [execOp_put oj hsj a oi.dst v h1] at this
    · rename_i hw
      simp only [hw] at h
      exact ⟨keep _, by rw [← Act.put_comm a v undef h2]; exact h⟩
def TailWaits (md : Region.Mode) (ops : Array Oper) (n : Nat) : Prop :=
  ∀ (listed : Array Bool), HeadInv md ops n listed → ∀ i, i < n → listed.getD i true = false → ∀ t, n ≤ t → t ∉ Region.ready md ops listed
theorem wpAnyV_first {n i : Nat} {oi : Oper} {v : Value} {L : Array Bool → Act → Acc → Prop} (hi : ops[i]? = some oi) (hfr : freshM oi.op = none) (hsel : ∀ (j : Nat) (o : Oper) cs b, ops[j]? = some o → o.op ≠ .select cs b)
    (htail : TailWaits md ops n) (hin : i < n)
    (hdone : ∀ listed a acc, L listed a acc → ∀ j ∈ Region.ready md ops listed, n ≤ j) :
    ∀ (f : Nat) (listed : Array Bool) (a : Act) (acc : Acc), HeadInv md ops n listed →
      (∀ j oj, ops[j]? = some oj → j ≠ i → listed.getD j true = false → (∀ e ∈ oj.after, Region.binds md e = true → e.on ≠ i) → oi.apart ops oj = true) →
      i ∈ Region.ready md ops listed → YieldsV P ops w0 mu bs oi v a →
      wpAnyV P md ops w0 mu bs n L f (listed.setIfInBounds i true) (a.put oi.dst v) acc → wpAnyV P md ops w0 mu bs n L (f + 1) listed a acc := by
  intro f
  induction f with
  | zero =>
    intro listed a acc inv _ hr hy H
    have hun := (mem_ready.1 hr).1
    refine ⟨fun h => (by rw [h] at hr; cases hr), fun j hj => ?_⟩
    have hjn : j < n := by
      rcases Nat.lt_or_ge j n with h | h
      · exact h
      · exact absurd hj (htail _ inv i hin hun j h)
    refine ⟨hjn, ?_⟩
    by_cases hji : j = i
    · subst hji; exact hy.vOp hi hfr H
    · have := hdone _ _ _ H j (ready_mono hj hji)
      omega
  | succ f ih =>
    intro listed a acc inv hfree hr hy H
    have hun := (mem_ready.1 hr).1
    refine ⟨fun h => (by rw [h] at hr; cases hr), fun j hj => ?_⟩
    have hjn : j < n := by
      rcases Nat.lt_or_ge j n with h | h
      · exact h
      · exact absurd hj (htail _ inv i hin hun j h)
    refine ⟨hjn, ?_⟩
    by_cases hji : j = i
    · subst hji; exact hy.vOp hi hfr H
    · have h1 := (H.2 j (ready_mono hj hji)).2
      obtain ⟨hjun, oj, hoj, hall⟩ := mem_ready.1 hj
      have hnot : ∀ e ∈ oj.after, Region.binds md e = true → e.on ≠ i := fun e he hb heq => by
        have h1 := hall e he hb
        rw [heq, getD_both hun] at h1
        cases h1
      have h2 := vOp_put hoj (hfree j oj hoj hji hjun hnot) (fun cs b => hsel i oi cs b hi) (fun cs b => hsel j oj cs b hoj) hy h1
      have hfree' : ∀ k ok, ops[k]? = some ok → k ≠ i → (listed.setIfInBounds j true).getD k true = false →
          (∀ e ∈ ok.after, Region.binds md e = true → e.on ≠ i) → oi.apart ops ok = true := fun k ok hk hki hun hno => by
        refine hfree k ok hk hki ?_ hno
        by_cases hjk : j = k
        · subst hjk; exact hjun
        · rw [getD_set_ne true hjk] at hun; exact hun
      refine vOp_mono (fun a' acc' h3 => ih (listed.setIfInBounds j true) a' acc' (inv.set hj hjn) hfree' (ready_mono hr (Ne.symm hji)) h3.1 ?_) h2
      rw [Array.setIfInBounds_comm _ _ hji]
      exact h3.2
theorem wpAnyV_fresh {n i : Nat} {oi : Oper} {T : TypeId} {A : Array Value} {L : Array Bool → Act → Acc → Prop} (hi : ops[i]? = some oi) (hT : freshM oi.op = some T) (hg : oi.guard = none)
    (hz : (P.info? T).map (·.zero) = some (some (.agg A)))
    (htail : TailWaits md ops n) (hin : i < n)
    (hdone : ∀ listed a acc, L listed a acc → ∀ j ∈ Region.ready md ops listed, n ≤ j) (hperm : ∀ listed a acc acc', acc.Perm acc' → L listed a acc → L listed a acc') :
    ∀ (f : Nat) (listed : Array Bool) (a : Act) (acc : Acc), HeadInv md ops n listed →
      (∀ j oj, ops[j]? = some oj → j ≠ i → listed.getD j true = false → (∀ e ∈ oj.after, Region.binds md e = true → e.on ≠ i) → oi.apart ops oj = true) →
      (∀ j oj, ops[j]? = some oj → j < n → listed.getD j true = false → (freshM oj.op).isSome = true) →
      i ∈ Region.ready md ops listed →
      (∀ b, wpAnyV P md ops w0 mu bs n L f (listed.setIfInBounds i true) (a.put oi.dst (.pointer (some ⟨b, 0, none⟩))) ((b, A, T) :: acc)) → wpAnyV P md ops w0 mu bs n L (f + 1) listed a acc := by
  have here : ∀ (K : Act → Acc → Prop) (a : Act) (acc : Acc), (∀ b, K (a.put oi.dst (.pointer (some ⟨b, 0, none⟩))) ((b, A, T) :: acc)) → vOp P ops w0 mu bs i K a acc := by
    intro K a acc h
    unfold vOp
    simp only [hi, hT]
    exact ⟨hg, A, hz, h⟩
  intro f
  induction f with
  | zero =>
    intro listed a acc inv _ _ hr H
    have hun := (mem_ready.1 hr).1
    refine ⟨fun h => (by rw [h] at hr; cases hr), fun j hj => ?_⟩
    have hjn : j < n := by
      rcases Nat.lt_or_ge j n with h | h
      · exact h
      · exact absurd hj (htail _ inv i hin hun j h)
    refine ⟨hjn, ?_⟩
    by_cases hji : j = i
    · subst hji; exact here _ _ _ H
    · have := hdone _ _ _ (H 0) j (ready_mono hj hji)
      omega
  | succ f ih =>
    intro listed a acc inv hfree hall0 hr H
    have hun := (mem_ready.1 hr).1
    refine ⟨fun h => (by rw [h] at hr; cases hr), fun j hj => ?_⟩
    have hjn : j < n := by
      rcases Nat.lt_or_ge j n with h | h
      · exact h
      · exact absurd hj (htail _ inv i hin hun j h)
    refine ⟨hjn, ?_⟩
    by_cases hji : j = i
    · subst hji; exact here _ _ _ H
    · obtain ⟨hjun, oj, hoj, hall⟩ := mem_ready.1 hj
      have hnot : ∀ e ∈ oj.after, Region.binds md e = true → e.on ≠ i := fun e he hb heq => by
        have h1 := hall e he hb
        rw [heq, getD_both hun] at h1
        cases h1
      obtain ⟨h1a, h2a, h3a⟩ := Oper.apart_spec (hfree j oj hoj hji hjun hnot)
      have hfree' : ∀ k ok, ops[k]? = some ok → k ≠ i → (listed.setIfInBounds j true).getD k true = false →
          (∀ e ∈ ok.after, Region.binds md e = true → e.on ≠ i) → oi.apart ops ok = true := fun k ok hk hki hun hno => by
        refine hfree k ok hk hki ?_ hno
        by_cases hjk : j = k
        · subst hjk; exact hjun
        · rw [getD_set_ne true hjk] at hun; exact hun
      have hall' : ∀ k ok, ops[k]? = some ok → k < n → (listed.setIfInBounds j true).getD k true = false → (freshM ok.op).isSome = true := fun k ok hk hkn hun => by
        refine hall0 k ok hk hkn ?_
        by_cases hjk : j = k
        · subst hjk; exact hjun
        · rw [getD_set_ne true hjk] at hun; exact hun
      obtain ⟨Tj, hTj⟩ := Option.isSome_iff_exists.1 (hall0 j oj hoj hjn hjun)
      have hH := fun b => ((H b).2 j (ready_mono hj hji)).2
      unfold vOp at hH ⊢
      simp only [hoj, hTj] at hH ⊢
      obtain ⟨hgj, Aj, hzj, _⟩ := hH 0
      refine ⟨hgj, Aj, hzj, fun b' => ih (listed.setIfInBounds j true) _ _ (inv.set hj hjn) hfree' hall' (ready_mono hr (Ne.symm hji)) fun b => ?_⟩
      obtain ⟨_, Aj', hzj', hk⟩ := hH b
      have hA : Aj' = Aj := by
        rw [hzj] at hzj'
        simpa using hzj'.symm
      subst hA
      have := hk b'
      rw [Array.setIfInBounds_comm _ _ (Ne.symm hji), Act.put_comm a _ _ h2a] at this
      exact wpAnyV_perm hperm _ _ _ _ _ (List.Perm.swap _ _ _) this
def wpV (P : Program) (ops : Array Oper) (w0 : World) (mu : List Nat) (bs : Acc) (F : Act → Acc → Prop) : List Oper → Act → Acc → Prop
  | [], a, acc => F a acc
  | o :: rest, a, acc =>
    match freshM o.op with
    | some T => o.guard = none ∧ ∃ A, (P.info? T).map (·.zero) = some (some (.agg A)) ∧ ∀ b, wpV P ops w0 mu bs F rest (a.put o.dst (.pointer (some ⟨b, 0, none⟩))) ((b, A, T) :: acc)
    | none => if Region.wanted o (yielded ops a.tmps) then ∃ v, growAtM P w0 mu bs o a v ∧ wpV P ops w0 mu bs F rest (a.put o.dst v) acc else wpV P ops w0 mu bs F rest (a.put o.dst undef) acc
def isFresh (ops : Array Oper) (i : Nat) : Bool := ((ops[i]?).bind fun o => freshM o.op).isSome
def ordB (md : Region.Mode) (ops : Array Oper) (n : Nat) (fin : Array Bool → Bool) : List Nat → Array Bool → Bool
  | [], listed => fin listed
  | i :: rest, listed => decide (i < n) && (Region.ready md ops listed).contains i && Region.free md ops listed i &&
      (!isFresh ops i || (List.range n).all fun j => listed.getD j true || isFresh ops j) && ordB md ops n fin rest (listed.setIfInBounds i true)
theorem wpAnyV_ord {n : Nat} {fin : Array Bool → Bool} {F : Act → Acc → Prop} (hF : ∀ a acc acc', acc.Perm acc' → F a acc → F a acc') (hsel : Region.noSelect ops = true) (htail : TailWaits md ops n)
    (hfin : ∀ listed, fin listed = true → ∀ j ∈ Region.ready md ops listed, n ≤ j) :
    ∀ (ord : List Nat) (listed : Array Bool) (a : Act) (acc : Acc) (l : List Oper), l.map some = ord.map (fun i => ops[i]?) → HeadInv md ops n listed → ordB md ops n fin ord listed = true → wpV P ops w0 mu bs F l a acc →
    wpAnyV P md ops w0 mu bs n (fun listed' a' acc' => fin listed' = true ∧ F a' acc') ord.length listed a acc
  | [], listed, a, acc, l, hl, _, hB, h => by
    cases l with
    | nil => exact ⟨hB, h⟩
    | cons o l => simp at hl
  | i :: ord, listed, a, acc, l, hl, inv, hB, h => by
    cases l with
    | nil => simp at hl
    | cons o l =>
      simp only [List.map_cons, List.cons.injEq] at hl
      obtain ⟨ho, hl⟩ := hl
      have ho := ho.symm
      simp only [ordB, Bool.and_eq_true, decide_eq_true_eq] at hB
      obtain ⟨⟨⟨⟨hin, hr⟩, hf⟩, hfr⟩, hB'⟩ := hB
      have hr' : i ∈ Region.ready md ops listed := by simpa using hr
      have hdone : ∀ (listed' : Array Bool) (a' : Act) (acc' : Acc), (fin listed' = true ∧ F a' acc') → ∀ j ∈ Region.ready md ops listed', n ≤ j :=
        fun listed' a' acc' hL => hfin _ hL.1
      simp only [wpV] at h
      split at h
      · rename_i T hT
        obtain ⟨hg, A, hz, hk⟩ := h
        refine wpAnyV_fresh ho hT hg hz htail hin hdone (fun _ _ _ _ hp hL => ⟨hL.1, hF _ _ _ hp hL.2⟩) _ listed a acc inv (Region.free_spec ho hf) ?_ hr'
          fun b => wpAnyV_ord hF hsel htail hfin ord _ _ _ l hl (inv.set hr' hin) hB' (hk b)
        intro j oj hj hjn hun
        simp only [isFresh, ho, Option.bind_some, hT, Option.isSome_some, Bool.not_true, Bool.false_or, List.all_eq_true, List.mem_range] at hfr
        have := hfr j hjn
        rw [hun] at this
        simpa [hj] using this
      · rename_i hT
        split at h
        · rename_i hw
          obtain ⟨v, hv, hk⟩ := h
          exact wpAnyV_first ho hT (Region.noSelect_spec hsel) htail hin hdone _ listed a acc inv (Region.free_spec ho hf) hr' (.inl ⟨hw, hv⟩)
            (wpAnyV_ord hF hsel htail hfin ord _ _ _ l hl (inv.set hr' hin) hB' hk)
        · rename_i hw
          exact wpAnyV_first ho hT (Region.noSelect_spec hsel) htail hin hdone _ listed a acc inv (Region.free_spec ho hf) hr' (.inr ⟨by simpa using hw, rfl⟩)
            (wpAnyV_ord hF hsel htail hfin ord _ _ _ l hl (inv.set hr' hin) hB' h)
def growB (ops : Array Oper) (n : Nat) (ord : List Nat) : Bool :=
  Region.noSelect ops && decide (n < ops.size) && Region.sinkB .any ops n && Region.chainB .any ops n && decide (ord.length = n) &&
    ordB .any ops n (Region.seqB .any ops (ops.size - n) n) ord (Array.replicate ops.size false)
theorem ordB_lt {n : Nat} {fin : Array Bool → Bool} : ∀ (ord : List Nat) (listed : Array Bool), ordB md ops n fin ord listed = true → ∀ i ∈ ord, i < n
  | [], _, _, i, hi => by simp at hi
  | j :: ord, listed, h, i, hi => by
    simp only [ordB, Bool.and_eq_true, decide_eq_true_eq] at h
    rcases List.mem_cons.1 hi with rfl | hi
    · exact h.1.1.1.1
    · exact ordB_lt ord _ h.2 i hi
theorem map_filterMap {l : List Oper} : ∀ (ord : List Nat), (∀ i ∈ ord, i < l.length) → (ord.filterMap fun i => l[i]?).map some = ord.map fun i => l.toArray[i]?
  | [], _ => rfl
  | i :: ord, h => by
    have hi := h i (by simp)
    have ih := map_filterMap ord (fun j hj => h j (by simp [hj]))
    simp only [List.map_cons, List.getElem?_toArray]
    rw [List.filterMap_cons, List.getElem?_eq_getElem hi]
    simp only [List.map_cons, List.cons.injEq, true_and]
    simpa using ih
theorem wp_region_grow {id : Nat} {Q : Exit → Act → World → Prop} {a : Act} {W : World} {l : List Oper} (n : Nat) (ord : List Nat) (hm : P.follows .mixedOrders = true) (hB : growB l.toArray n ord = true)
    (hown : OwnM w0 mu W bs)
    (h : wpV P l.toArray w0 mu bs (fun a' acc => ∀ W', OwnM w0 mu W' (acc ++ bs) → wpList P l.toArray Q (l.drop n) a' W') (ord.filterMap fun i => l[i]?) a []) : (Code.region id l.toArray true).wp P Q a W := by
  simp only [growB, Bool.and_eq_true, decide_eq_true_eq] at hB
  obtain ⟨⟨⟨⟨⟨hsel, hn⟩, hs⟩, hc⟩, hlen⟩, hord⟩ := hB
  have hdl : (l.drop n).length = l.toArray.size - n := by simp
  have inv0 : HeadInv .any l.toArray n (Array.replicate l.toArray.size false) :=
    ⟨by simp, fun j oj _ hl => (by rw [getD_replicate_false] at hl; cases hl), fun t _ ht => getD_in (by simpa using ht) (getD_replicate_false _ _)⟩
  have H := wpAnyV_ord (md := .any) (fin := Region.seqB .any l.toArray (l.toArray.size - n) n) (F := fun a' acc => ∀ W', OwnM w0 mu W' (acc ++ bs) → wpList P l.toArray Q (l.drop n) a' W')
    (fun a' acc acc' hp hF W' hw' => hF W' (hw'.perm (hp.symm.append_right _))) hsel (fun listed inv i hi hun t ht => tail_waits hs hc hn inv _ i rfl hi hun t ht) (fun _ h => seqB_ready h) ord _ a [] _ (map_filterMap ord fun i hi => Nat.lt_trans (ordB_lt ord _ hord i hi) (by simpa using hn)) inv0 hord h
  refine wp_region_any hm ?_
  have hown' : OwnM w0 mu ({ W with drawn := W.drawn + 1 } : World) ([] ++ bs) := hown.drew 1
  have := wpAny_of_V (Q' := Q) (g := l.toArray.size - n) (fun listed a' acc w hw hL => by
    have := wpAny_of_seq (md := .any) (Q' := Q) (l.drop n) n listed a' w (fun j => by simp [List.getElem?_drop]) (by rw [hdl]; exact hL.1) (hL.2 w hw)
    rwa [hdl] at this) _ _ _ _ _ hown' H
  rw [hlen, show n + (l.toArray.size - n) = l.toArray.size by omega] at this
  exact this
theorem wpV_nil {F : Act → Acc → Prop} {a : Act} {acc : Acc} (h : F a acc) : wpV P ops w0 mu bs F [] a acc := h
theorem wpV_step {F : Act → Acc → Prop} {lf : List Value} {df : List Deferred} {acc : Acc} {o : Oper} {rest : List Oper} (hg : o.guard = none) (hf : freshM o.op = none) (v : Value) (hv : growAtM P w0 mu bs o ⟨lf.toArray, df⟩ v)
    (h : wpV P ops w0 mu bs F rest ⟨(putL lf o.dst v).toArray, df⟩ acc) : wpV P ops w0 mu bs F (o :: rest) ⟨lf.toArray, df⟩ acc := by
  simp only [wpV, hf]
  rw [if_pos (by simp [Region.wanted, hg])]
  exact ⟨v, hv, by rw [putL_eq]; exact h⟩
theorem wpV_skip {F : Act → Acc → Prop} {lf : List Value} {df : List Deferred} {acc : Acc} {o : Oper} {rest : List Oper} (hg : Region.wanted o (yielded ops lf.toArray) = false) (hf : freshM o.op = none)
    (h : wpV P ops w0 mu bs F rest ⟨(putL lf o.dst undef).toArray, df⟩ acc) : wpV P ops w0 mu bs F (o :: rest) ⟨lf.toArray, df⟩ acc := by
  simp only [wpV, hf]
  rw [if_neg (by rw [hg]; exact Bool.false_ne_true), putL_eq]
  exact h
theorem wpV_alloc {F : Act → Acc → Prop} {lf : List Value} {df : List Deferred} {acc : Acc} {o : Oper} {rest : List Oper} (hg : o.guard = none) (T : TypeId) (hf : freshM o.op = some T) (A : Array Value)
    (hz : (P.info? T).map (·.zero) = some (some (.agg A)))
    (h : ∀ b, wpV P ops w0 mu bs F rest ⟨(putL lf o.dst (.pointer (some ⟨b, 0, none⟩))).toArray, df⟩ ((b, A, T) :: acc)) : wpV P ops w0 mu bs F (o :: rest) ⟨lf.toArray, df⟩ acc := by
  simp only [wpV, hf]
  exact ⟨hg, A, hz, fun b => by rw [putL_eq]; exact h b⟩
section
variable {lf : List Value} {df : List Deferred} {o : Oper}
theorem growAt_move (x : Operand) (ho : o.op = .move x) (v : Value) (hx : evL lf x = v) : growAtM P w0 mu bs o ⟨lf.toArray, df⟩ v := by
  intro w _
  unfold execOp
  simp only [ho, evL_eq, hx, Sem.run_pure]
  exact ⟨rfl, rfl⟩
theorem growAt_assign (x : Operand) (ho : o.op = .assign x) (v : Value) (hx : evL lf x = v) : growAtM P w0 mu bs o ⟨lf.toArray, df⟩ v := by
  intro w _
  unfold execOp
  simp only [ho, evL_eq, hx, Sem.run_pure]
  exact ⟨rfl, rfl⟩
theorem growAt_pure {a : Act} {v : Value} (h : ∀ w, (execOp a.eval o).run P w = .ok (.value v) w) : growAtM P w0 mu bs o a v := by
  intro w _
  rw [h w]
  exact ⟨rfl, rfl⟩
theorem growAt_bin (op : BinOp) (t : TypeId) (x y : Operand) (t' : TypeId) (ho : o.op = .binOp op t x y t') (vx vy : Value) (hx : evL lf x = vx) (hy : evL lf y = vy) (v : Value)
    (h : ∀ w, (do eqGuard op t x y vx vy; binOp op t vx vy).run P w = .ok v w) : growAtM P w0 mu bs o ⟨lf.toArray, df⟩ v := by
  refine growAt_pure fun w => ?_
  unfold execOp
  simp only [ho, evL_eq, hx, hy]
  rw [Sem.run_bind, h w]
  rfl
theorem growAt_bits (op : BinOp) (t : TypeId) (x y : Operand) (t' : TypeId) (ho : o.op = .binOp op t x y t') (hop : op = .and ∨ op = .or ∨ op = .xor ∨ op = .andNot) (k : IntKind) (a b : Int) (hx : evL lf x = .int k a) (hy : evL lf y = .int k b) :
    growAtM P w0 mu bs o ⟨lf.toArray, df⟩ (.int k (bits op k a b)) := by
  refine growAt_bin op t x y t' ho _ _ hx hy _ fun w => ?_
  rcases hop with rfl | rfl | rfl | rfl <;> (simp only [go_sem]; rfl)
theorem growAt_un (op : UnOp) (t : TypeId) (x : Operand) (ho : o.op = .unOp op t x) (vx : Value) (hx : evL lf x = vx) (v : Value)
    (h : ∀ w, (Op.unary op vx).run P w = .ok v w) : growAtM P w0 mu bs o ⟨lf.toArray, df⟩ v := by
  refine growAt_pure fun w => ?_
  unfold execOp
  simp only [ho, evL_eq, hx, Sem.run_bind, h w, Result.andThen_ok, Sem.run_pure]
theorem growAt_conv (s d : TypeId) (x : Operand) (ho : o.op = .convert s d x) (vx : Value) (hx : evL lf x = vx) (v : Value)
    (h : ∀ w, (convert s d vx).run P w = .ok v w) : growAtM P w0 mu bs o ⟨lf.toArray, df⟩ v := by
  refine growAt_pure fun w => ?_
  unfold execOp
  simp only [ho, evL_eq, hx, Sem.run_bind, h w, Result.andThen_ok, Sem.run_pure]
theorem growAt_idx (t : TypeId) (x y : Operand) (ho : o.op = .indexAddr t x y) (vx vy : Value) (hx : evL lf x = vx) (hy : evL lf y = vy) (v : Value)
    (h : ∀ w, (Instr.indexAt t vx vy).run P w = .ok v w) : growAtM P w0 mu bs o ⟨lf.toArray, df⟩ v := by
  refine growAt_pure fun w => ?_
  unfold execOp
  simp only [ho, evL_eq, hx, hy, Sem.run_bind, h w, Result.andThen_ok, Sem.run_pure]
theorem run_indexAt_arr (w : World) (t e : TypeId) (n s : Nat) (hu : P.underlying t = some (.array n e)) (hs : (P.info? e).map (·.size) = some s) (b off : Nat) (j : IntKind) (i : Int) (h0 : 0 ≤ i) (h1 : i < n) (m : Nat) (hm : off + i.toNat * s = m) :
    (Instr.indexAt t (.pointer (some ⟨b, off, none⟩)) (.int j i)).run P w = .ok (.pointer (some ⟨b, m, none⟩)) w := by
  cases hq : P.info? e with
  | none => simp [hq] at hs
  | some inf =>
    have hs' : inf.size = s := by simpa [hq] using hs
    have hadd : (⟨b, off, none⟩ : Addr).add (i.toNat * s) = ⟨b, m, none⟩ := by
      unfold Addr.add
      split
      · rename_i h
        rw [h] at hm
        simp [← hm]
      · simp [hm]
    simp [Instr.indexAt, asIntOf, Instr.sureAddr, Sem.run_bind, run_underlying hu, h0, h1, sizeOf, typeInfo, hq, hs', hadd]
theorem growAt_idxA (t : TypeId) (x y : Operand) (ho : o.op = .indexAddr t x y) (b off : Nat) (hx : evL lf x = .pointer (some ⟨b, off, none⟩)) (j : IntKind) (i : Int) (hy : evL lf y = .int j i)
    (n : Nat) (e : TypeId) (hu : P.underlying t = some (.array n e)) (s : Nat) (hs : (P.info? e).map (·.size) = some s) (h0 : 0 ≤ i) (h1 : i < n) (m : Nat) (hm : off + i.toNat * s = m) : growAtM P w0 mu bs o ⟨lf.toArray, df⟩ (.pointer (some ⟨b, m, none⟩)) :=
  growAt_idx t x y ho _ _ hx hy _ fun w => run_indexAt_arr w t e n s hu hs b off j i h0 h1 m hm
theorem growAt_fld (t : TypeId) (x : Operand) (i : Nat) (ho : o.op = .fieldAddr t x i) (vx : Value) (hx : evL lf x = vx) (v : Value)
    (h : ∀ w, (Instr.fieldAt t vx i).run P w = .ok v w) : growAtM P w0 mu bs o ⟨lf.toArray, df⟩ v := by
  refine growAt_pure fun w => ?_
  unfold execOp
  simp only [ho, evL_eq, hx, Sem.run_bind, h w, Result.andThen_ok, Sem.run_pure]
theorem growAt_extract (x : Operand) (i : Nat) (ho : o.op = .extract x i) (vs : List Value) (hx : evL lf x = .tuple vs.toArray) (v : Value) (hv : vs[i]? = some v) : growAtM P w0 mu bs o ⟨lf.toArray, df⟩ v := by
  refine growAt_pure fun w => ?_
  unfold execOp
  simp [ho, evL_eq, hx, Instr.extract, hv]
theorem growAt_pick (c x y : Operand) (ho : o.op = .pick c x y) (b : Bool) (hc : evL lf c = .bool b) (vx vy : Value) (hx : evL lf x = vx) (hy : evL lf y = vy) : growAtM P w0 mu bs o ⟨lf.toArray, df⟩ (if b then vx else vy) := by
  refine growAt_pure fun w => ?_
  unfold execOp
  simp [ho, evL_eq, hc, hx, hy, asBool]
end
end
end M
end
end Go.Proofs.Ytdjecenggngdjaa
