/-
  Own small library: rows of integers, blocks that a call owns, steps of the walk over them.
-/
import Derived.WalkKit
import Derived.WalkSpells
import Derived.WalkLawsBesides
import Derived.Laws.Rows
import Derived.Laws.Tables
import Derived.Deep.WholeRow
import Derived.Deep.Quiet
import Derived.StillTailTactics
import Derived.KernelRfl
namespace Go.Proofs.Ythbmlpiplfbehaa
set_option linter.unusedSimpArgs false
set_option linter.unusedVariables false
open Go Go.RowKit

/-- A row of integers of one kind, as values. -/
def ints (k : IntKind) (L : List Int) : Array Value := (L.map (Value.int k)).toArray

/-- The integer at a place of a list (0 behind its end). -/
def gi (L : List Int) (j : Nat) : Int := L.getD j 0
theorem ints_size (k : IntKind) (L : List Int) : (ints k L).size = L.length := by simp [ints]
theorem ints_get {k : IntKind} {L : List Int} {j : Nat} (h : j < L.length) : (ints k L)[j]? = some (.int k (gi L j)) := by
  simp [ints, gi, h]
theorem ints_set (k : IntKind) (L : List Int) (j : Nat) (v : Int) : (ints k L).setIfInBounds j (.int k v) = ints k (L.set j v) := by
  simp [ints, List.map_set]
/-- What the call owns: from the world w0 (its beginning) to W nothing old has turned, and these blocks hold these rows. -/
structure Own (w0 W : World) (bs : List (Nat × Array Value × TypeId)) : Prop where
  below : Below w0.heap.size w0 W
  here : ∀ p ∈ bs, w0.heap.size ≤ p.1 ∧ W.heap[p.1]? = some (.cells p.2.1 p.2.2 (0, 0))
  apart : (bs.map (·.1)).Nodup

theorem Own.start (w : World) : Own w w [] := ⟨Below.refl _ _, by simp, by simp⟩
theorem Own.block {w0 W : World} {bs : List (Nat × Array Value × TypeId)} (h : Own w0 W bs) (i : Nat) {b : Nat} {A : Array Value} {T : TypeId} (hi : bs[i]? = some (b, A, T)) :
    W.heap[b]? = some (.cells A T (0, 0)) := (h.here _ (List.mem_of_getElem? hi)).2
theorem Own.base {w0 W : World} {bs : List (Nat × Array Value × TypeId)} (h : Own w0 W bs) (i : Nat) {b : Nat} {A : Array Value} {T : TypeId} (hi : bs[i]? = some (b, A, T)) :
    w0.heap.size ≤ b := (h.here _ (List.mem_of_getElem? hi)).1
theorem Own.lt {w0 W : World} {bs : List (Nat × Array Value × TypeId)} (h : Own w0 W bs) {p : Nat × Array Value × TypeId} (hp : p ∈ bs) : p.1 < W.heap.size := by
  have := (h.here p hp).2
  exact (Array.getElem?_eq_some_iff.1 this).1
theorem Own.grow {w0 W W' : World} {bs : List (Nat × Array Value × TypeId)} (h : Own w0 W bs) (hb : Below W.heap.size W W') : Own w0 W' bs :=
  ⟨h.below.trans (hb.mono h.below.size), fun p hp => ⟨(h.here p hp).1, by rw [hb.block _ (h.lt hp)]; exact (h.here p hp).2⟩, h.apart⟩
theorem Own.drew {w0 W : World} {bs : List (Nat × Array Value × TypeId)} (h : Own w0 W bs) : Own w0 W.drew bs :=
  ⟨h.below.drew, h.here, h.apart⟩
theorem Own.alloc {w0 W : World} {bs : List (Nat × Array Value × TypeId)} (h : Own w0 W bs) (A : Array Value) (T : TypeId) :
    Own w0 (W.alloc (.cells A T)) ((W.heap.size, A, T) :: bs) := by
  refine ⟨h.below.alloc h.below.size _, ?_, ?_⟩
  · intro p hp
    rcases List.mem_cons.1 hp with rfl | hp
    · exact ⟨h.below.size, heap_alloc_new _ _⟩
    · exact ⟨(h.here p hp).1, by rw [Below.heap_alloc _ _ _ (h.lt hp)]; exact (h.here p hp).2⟩
  · simp only [List.map_cons, List.nodup_cons]
    refine ⟨fun hm => ?_, h.apart⟩
    obtain ⟨p, hp, he⟩ := List.mem_map.1 hm
    have := h.lt hp
    omega
theorem nodup_set_same {bs : List (Nat × Array Value × TypeId)} {i : Nat} {b : Nat} {A A' : Array Value} {T : TypeId} (hi : bs[i]? = some (b, A, T)) :
    (bs.set i (b, A', T)).map (·.1) = bs.map (·.1) := by
  apply List.ext_getElem?
  intro j
  by_cases hj : i = j
  · subst hj
    have hlt : i < bs.length := (List.getElem?_eq_some_iff.1 hi).1
    simp [hlt, (List.getElem?_eq_some_iff.1 hi).2]
  · simp [List.getElem?_set, hj]
theorem Own.setRow {w0 W : World} {bs : List (Nat × Array Value × TypeId)} (h : Own w0 W bs) {i : Nat} {b : Nat} {A : Array Value} {T : TypeId} (hi : bs[i]? = some (b, A, T)) (A' : Array Value) :
    Own w0 (W.setRow b A') (bs.set i (b, A', T)) := by
  have hb := h.block i hi
  have hbase := h.base i hi
  refine ⟨h.below.trans ⟨rfl, rfl, rfl, by simp, fun k hk => setRow_other _ _ _ _ (by omega)⟩, ?_, ?_⟩
  · intro p hp
    obtain ⟨j, hj⟩ := List.mem_iff_getElem?.1 hp
    by_cases hij : i = j
    · subst hij
      have hlt : i < bs.length := (List.getElem?_eq_some_iff.1 hi).1
      simp only [List.getElem?_set_self hlt, Option.some.injEq] at hj
      subst hj
      exact ⟨hbase, setRow_heap _ _ _ _ _ _ hb⟩
    · rw [List.getElem?_set_ne hij] at hj
      have hne : p.1 ≠ b := by
        intro he
        have h1 : (bs.map (·.1))[j]? = some p.1 := by simp [hj]
        have h2 : (bs.map (·.1))[i]? = some b := by simp [hi]
        have hi' : i < (bs.map (·.1)).length := (List.getElem?_eq_some_iff.1 h2).1
        exact hij ((List.getElem?_inj hi' h.apart).1 (by rw [h2, h1, he]))
      exact ⟨(h.here p (List.mem_of_getElem? hj)).1, by rw [setRow_other _ _ _ _ hne]; exact (h.here p (List.mem_of_getElem? hj)).2⟩
  · rw [nodup_set_same hi]; exact h.apart
theorem Own.setCell {w0 W : World} {bs : List (Nat × Array Value × TypeId)} (h : Own w0 W bs) {i : Nat} {b : Nat} {A : Array Value} {T : TypeId} (hi : bs[i]? = some (b, A, T)) (j : Nat) (v : Value) :
    Own w0 (W.setCell ⟨b, j, none⟩ v) (bs.set i (b, A.setIfInBounds j v, T)) := by
  rw [setCell_eq_setRow _ _ _ _ _ _ _ (h.block i hi)]
  exact h.setRow hi _
theorem Own.cell {w0 W : World} {bs : List (Nat × Array Value × TypeId)} (h : Own w0 W bs) (i : Nat) {b : Nat} {A : Array Value} {T : TypeId} (hi : bs[i]? = some (b, A, T)) (j : Nat) :
    W.cell? ⟨b, j, none⟩ = A[j]? := cell_of_row _ _ _ _ _ _ (h.block i hi)
theorem Own.free {w0 W : World} {bs : List (Nat × Array Value × TypeId)} (h : Own w0 W bs) (i : Nat) {b : Nat} {A : Array Value} {T : TypeId} (hi : bs[i]? = some (b, A, T)) (j : Nat) :
    W.frozen? ⟨b, j, none⟩ = false := frozen_of_row _ _ _ _ _ (h.block i hi)

/-! ### Frames as lists: read and written by structure -/
def nth : List Value → Nat → Value
  | [], _ => undef
  | x :: _, 0 => x
  | _ :: l, n + 1 => nth l n
def setNth : List Value → Nat → Value → List Value
  | [], _, _ => []
  | _ :: l, 0, v => v :: l
  | x :: l, n + 1, v => x :: setNth l n v
def evL (l : List Value) : Operand → Value
  | .tmp t => nth l t
  | .const v => v
  | .global g => .pointer (some ⟨g, 0, none⟩)
  | .func f => .func (.func f) #[] #[]
def putL (l : List Value) : Option Tmp → Value → List Value
  | none, _ => l
  | some d, v => setNth l d v
theorem nth_eq : ∀ (l : List Value) (n : Nat), (l[n]?).getD undef = nth l n
  | [], _ => rfl
  | _ :: _, 0 => rfl
  | _ :: l, n + 1 => by simpa [nth] using nth_eq l n
theorem setNth_eq : ∀ (l : List Value) (n : Nat) (v : Value), l.set n v = setNth l n v
  | [], _, _ => rfl
  | _ :: _, 0, _ => rfl
  | x :: l, n + 1, v => by simp [setNth, setNth_eq l n v]
theorem evL_eq (l : List Value) (df : List Deferred) (x : Operand) : (⟨l.toArray, df⟩ : Act).eval x = evL l x := by
  cases x <;> simp [Act.eval, evL, nth_eq]
theorem putL_eq (l : List Value) (df : List Deferred) (d : Option Tmp) (v : Value) : (⟨l.toArray, df⟩ : Act).put d v = ⟨(putL l d v).toArray, df⟩ := by
  cases d <;> simp [Act.put, putL, setNth_eq]

/-! ### Steps of the walk over what the call owns -/
section
variable {P : Program} {ops : Array Oper} {Q : Exit → Act → World → Prop} {l : List Value} {df : List Deferred} {w0 W : World} {bs : List (Nat × Array Value × TypeId)} {rest : List Oper} {o : Oper}

theorem run_loadAt_cell (ty : TypeId) (d : TypeDesc) (hu : P.underlying ty = some d) (hd : (match d with | .struct _ | .array _ _ => true | _ => false) = false) (ad : Addr) (v : Value) (hv : W.cell? ad = some v) :
    (Instr.loadAt ty (.pointer (some ad))).run P W = .ok v W := by
  have hagg : (isAgg ty).run P W = .ok false W := by
    unfold isAgg
    rw [Sem.run_bind, run_underlying hu W]
    cases d <;> simp_all
  simp [Instr.loadAt, Instr.sureAddr, loadVar, Sem.run_bind, hagg, hv]

end

end Go.Proofs.Ythbmlpiplfbehaa
