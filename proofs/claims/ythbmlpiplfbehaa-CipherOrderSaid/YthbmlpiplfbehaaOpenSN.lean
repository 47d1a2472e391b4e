/-
  Arguments that are slices of slices of bytes: opened.
  Arguments that are slices of integers: opened.
-/
import Derived.Test.YthbmlpiplfbehaaOpenS
namespace Go.Proofs.Ythbmlpiplfbehaa
set_option linter.unusedSimpArgs false
set_option linter.unusedVariables false
open Go Go.ChangeShapes Go.WideShapes Go.ChangeAt Go.RowKit Sp M

section
variable {H : Type} {enc : TypeId × Value → H} {P : Program} {w : World} {base : Nat} {spare : Nat → Bool} {held : Bool}
/-- The cells behind an address that has one: a row. -/
theorem row_of_cell {a : Addr} {n : Nat} {V : Nat → Value} (h0 : 0 < n) (h : ∀ i, i < n → w.cell? (a.add i) = some (V i)) :
    ∃ b off A T fz, a = ⟨b, off, none⟩ ∧ w.heap[b]? = some (.cells A T fz) ∧ ∀ i, i < n → A[off + i]? = some (V i) := by
  have h0' := h 0 h0
  have hspot := World.cell?_spot h0'
  obtain ⟨blk, off, spot⟩ := a
  have hsp : spot = none := by simpa [Addr.add] using hspot
  subst hsp
  unfold World.cell? at h0'
  cases hh : w.heap[((⟨blk, off, none⟩ : Addr).add 0).block]? with
  | none => rw [hh] at h0'; cases h0'
  | some o =>
    rw [hh] at h0'
    cases o with
    | cells A T fz =>
      have hh' : w.heap[blk]? = some (.cells A T fz) := by simpa [Addr.add] using hh
      refine ⟨blk, off, A, T, fz, rfl, hh', fun j hj => ?_⟩
      have h1 := h j hj
      rwa [add_off, cell_of_row w blk (off + j) A T fz hh'] at h1
    | map _ _ => cases h0'
    | chan _ _ _ _ _ _ => cases h0'
    | _ => cases h0'
/-- One slice of bytes that lies in a cell. -/
theorem open_cell_bytes {t e : TypeId} {fuel : Nat} {v : Value} {x : DataW H × List MemPlace} (hu : P.underlying t = some (.slice e)) (hue : P.underlying e = some (.int .u8)) (hce : P.cellsOf e = 1)
    (hf : DataW.trod enc P w base spare held fuel t [v] = some x) : ∃ (q : Option Addr) (n c : Nat) (B : List Int), v = .slice q n c ∧ Sl w q n c B ∧ Byts B := by
  rcases Go.Deep.open_slice1 hu hce hf with ⟨he, _⟩ | ⟨a', len', cap', m, n, V, D, Pl, he, hb, hl, hm, hmm, hx, hc⟩
  · simp only [List.cons.injEq, and_true] at he
    exact ⟨none, 0, 0, [], he, Sl.nil w none 0, fun j => by simp [gi]⟩
  · simp only [List.cons.injEq, and_true] at he
    have hlen : len' ≤ m := by rw [hmm]; split <;> omega
    have hV : ∀ i, i < len' → ∃ z : Int, V i = .int .u8 z ∧ (Lit.int .u8 z).wf = true := by
      intro i hi
      obtain ⟨z, h1, _, h3⟩ := DataW.trod_int hue (hc i (by omega)).2
      exact ⟨z, by simpa using h1, h3⟩
    refine ⟨some a', len', cap', (List.range len').map fun i => intOf (V i), he, ⟨by simp, hl, fun h0 => ?_⟩, byts_of ?_⟩
    · obtain ⟨b, off, A, T, fz, rfl, hh, hA⟩ := row_of_cell h0 (fun i hi => (hc i (by omega)).1)
      refine ⟨b, off, A, T, fz, rfl, hh, fun j hj => ?_⟩
      simp at hj
      obtain ⟨z, hz, _⟩ := hV j hj
      rw [hA j hj, hz]
      simp [gi, hj, hz, intOf]
    · intro x hx'
      obtain ⟨i, hi, rfl⟩ := List.mem_map.1 hx'
      obtain ⟨z, hz, hw⟩ := hV i (by simpa using hi)
      rw [hz]
      exact hw
/-- A slice of slices of bytes. -/
structure Sls (w : World) (p : Option Addr) (n c : Nat) (q : Nat → Option Addr) (ln cp : Nat → Nat) (B : Nat → List Int) : Prop where
  cap : n ≤ c
  at_ : 0 < n → ∃ b off A T fz, p = some ⟨b, off, none⟩ ∧ w.heap[b]? = some (.cells A T fz) ∧ ∀ i, i < n → A[off + i]? = some (.slice (q i) (ln i) (cp i))
  el : ∀ i, i < n → Sl w (q i) (ln i) (cp i) (B i)
  byts : ∀ i, Byts (B i)
theorem open_slices {r : Reach} {b0 : Nat} {t t2 e : TypeId} {v : Value} {d : DataW H} {p : List MemPlace} (hu : P.underlying t = some (.slice t2)) (hu2 : P.underlying t2 = some (.slice e)) (hue : P.underlying e = some (.int .u8)) (hc2 : P.cellsOf t2 = 1) (hce : P.cellsOf e = 1)
    (hv : Value.okWide P w r b0 t v) (h : DataW.Trod enc P w base spare held t v d p) :
    ∃ (p : Option Addr) (n c : Nat) (q : Nat → Option Addr) (len cap : Nat → Nat) (B : Nat → List Int), v = .slice p n c ∧ Sls w p n c q len cap B := by
  obtain ⟨a, len, cap, rfl⟩ := okWide_slice hu hv
  obtain ⟨fuel, hf⟩ := h
  rcases Go.Deep.open_slice1 hu hc2 hf with ⟨he, _⟩ | ⟨a', len', cap', m, n, V, D, Pl, he, hb, hl, hm, hmm, hx, hc⟩
  · simp only [Value.cells, Array.toList, List.cons.injEq, Value.slice.injEq, and_true] at he
    obtain ⟨rfl, rfl, rfl⟩ := he
    exact ⟨none, 0, 0, fun _ => none, fun _ => 0, fun _ => 0, fun _ => [], rfl, by omega, fun h => by omega, fun i hi => by omega, fun i j => by simp [gi]⟩
  · simp only [Value.cells, Array.toList, List.cons.injEq, Value.slice.injEq, and_true] at he
    obtain ⟨rfl, rfl, rfl⟩ := he
    have hlen : len ≤ m := by rw [hmm]; split <;> omega
    have hex : ∀ i, ∃ s : Option Addr × Nat × Nat × List Int, i < len → V i = .slice s.1 s.2.1 s.2.2.1 ∧ Sl w s.1 s.2.1 s.2.2.1 s.2.2.2 ∧ Byts s.2.2.2 := by
      intro i
      by_cases hi : i < len
      · obtain ⟨q, n, c, B, h1, h2, h3⟩ := open_cell_bytes hu2 hue hce (hc i (by omega)).2
        exact ⟨(q, n, c, B), fun _ => ⟨h1, h2, h3⟩⟩
      · exact ⟨(none, 0, 0, []), fun h => absurd h hi⟩
    obtain ⟨s, hs⟩ := Classical.axiomOfChoice hex
    refine ⟨some a', len, cap, fun i => (s i).1, fun i => (s i).2.1, fun i => (s i).2.2.1, fun i => if i < len then (s i).2.2.2 else [], rfl, hl, fun h0 => ?_, fun i hi => ?_, fun i => ?_⟩
    · obtain ⟨b, off, A, T, fz, rfl, hh, hA⟩ := row_of_cell h0 (fun i hi => (hc i (by omega)).1)
      exact ⟨b, off, A, T, fz, rfl, hh, fun i hi => by rw [hA i hi, (hs i hi).1]⟩
    · simp only [if_pos hi]
      exact (hs i hi).2.1
    · split
      · next hi => exact (hs i hi).2.2
      · intro j; simp [gi]
end
end Go.Proofs.Ythbmlpiplfbehaa

namespace Go.Proofs.Ythbmlpiplfbehaa
set_option linter.unusedSimpArgs false
set_option linter.unusedVariables false
open Go Go.ChangeShapes Go.WideShapes Go.ChangeAt Go.RowKit Sp M
/-- A slice of integers. -/
structure SlI (k : IntKind) (w : World) (p : Option Addr) (n c : Nat) (L : List Int) : Prop where
  len : L.length = n
  at_ : 0 < n → ∃ b off A T fz, p = some ⟨b, off, none⟩ ∧ w.heap[b]? = some (.cells A T fz) ∧ ∀ j, j < n → A[off + j]? = some (.int k (gi L j))
theorem SlI.old {k : IntKind} {w w' : World} {p : Option Addr} {n c : Nat} {L : List Int} (h : SlI k w p n c L) (hb : Below w.heap.size w w') : SlI k w' p n c L :=
  ⟨h.len, fun h0 => by
    obtain ⟨b, off, A, T, fz, rfl, hh, hA⟩ := h.at_ h0
    exact ⟨b, off, A, T, fz, rfl, by rw [hb.block _ (Array.getElem?_eq_some_iff.1 hh).1]; exact hh, hA⟩⟩
section
variable {H : Type} {enc : TypeId × Value → H} {P : Program} {w : World} {base : Nat} {spare : Nat → Bool} {held : Bool}
theorem open_ints {k : IntKind} {r : Reach} {b0 : Nat} {t e : TypeId} {v : Value} {d : DataW H} {p : List MemPlace} (hu : P.underlying t = some (.slice e)) (hue : P.underlying e = some (.int k)) (hce : P.cellsOf e = 1)
    (hv : Value.okWide P w r b0 t v) (h : DataW.Trod enc P w base spare held t v d p) :
    ∃ (q : Option Addr) (n c : Nat) (L : List Int), v = .slice q n c ∧ SlI k w q n c L ∧ ∀ x ∈ L, (Lit.int k x).wf = true := by
  obtain ⟨a, len, cap, rfl⟩ := okWide_slice hu hv
  obtain ⟨fuel, hf⟩ := h
  rcases Go.Deep.open_slice1 hu hce hf with ⟨he, _⟩ | ⟨a', len', cap', m, n, V, D, Pl, he, hb, hl, hm, hmm, hx, hc⟩
  · simp only [Value.cells, Array.toList, List.cons.injEq, Value.slice.injEq, and_true] at he
    obtain ⟨rfl, rfl, rfl⟩ := he
    exact ⟨none, 0, 0, [], rfl, ⟨rfl, fun h => absurd h (Nat.lt_irrefl 0)⟩, fun x hx => by cases hx⟩
  · simp only [Value.cells, Array.toList, List.cons.injEq, Value.slice.injEq, and_true] at he
    obtain ⟨rfl, rfl, rfl⟩ := he
    have hlen : len ≤ m := by rw [hmm]; split <;> omega
    have hV : ∀ i, i < len → ∃ z : Int, V i = .int k z ∧ (Lit.int k z).wf = true := by
      intro i hi
      obtain ⟨z, h1, _, h3⟩ := DataW.trod_int hue (hc i (by omega)).2
      exact ⟨z, by simpa using h1, h3⟩
    refine ⟨some a', len, cap, (List.range len).map fun i => intOf (V i), rfl, ⟨by simp, fun h0 => ?_⟩, ?_⟩
    · obtain ⟨b, off, A, T, fz, rfl, hh, hA⟩ := row_of_cell h0 (fun i hi => (hc i (by omega)).1)
      refine ⟨b, off, A, T, fz, rfl, hh, fun j hj => ?_⟩
      obtain ⟨z, hz, _⟩ := hV j hj
      rw [hA j hj, hz]
      simp [gi, hj, hz, intOf]
    · intro x hx'
      obtain ⟨i, hi, rfl⟩ := List.mem_map.1 hx'
      obtain ⟨z, hz, hw⟩ := hV i (by simpa using hi)
      rw [hz]
      exact hw
end
end Go.Proofs.Ythbmlpiplfbehaa
