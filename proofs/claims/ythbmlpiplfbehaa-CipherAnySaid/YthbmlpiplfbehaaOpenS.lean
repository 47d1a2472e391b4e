/-
  Arguments that are slices of bytes: opened.
-/
import Derived.Test.YthbmlpiplfbehaaOpen
import Derived.Test.YthbmlpiplfbehaaSl
import Derived.Deep.Slices
import Derived.SizedLaws
namespace Go.Proofs.Ythbmlpiplfbehaa
set_option linter.unusedSimpArgs false
set_option linter.unusedVariables false
open Go Go.ChangeShapes Go.WideShapes Go.ChangeAt Go.RowKit Sp M

section
variable {H : Type} {enc : TypeId × Value → H} {P : Program} {w : World} {base : Nat} {spare : Nat → Bool} {held : Bool}
theorem trod_lt' {t : TypeId} {v : Value} {d : DataW H} {ps : List MemPlace} (h : DataW.Trod enc P w base spare held t v d ps) : ∀ x ∈ ps, x.block < w.heap.size := by
  obtain ⟨n, h⟩ := h
  exact DataW.trod_lt n t _ _ h
theorem byts_of {L : List Int} (h : ∀ x ∈ L, (Lit.int .u8 x).wf = true) : Byts L := by
  intro j
  unfold gi
  rw [List.getD_eq_getElem?_getD]
  cases hj : L[j]? with
  | none => simp
  | some x =>
    have := h x (List.mem_of_getElem? hj)
    simp only [Lit.wf, Bool.and_eq_true, decide_eq_true_eq] at this
    have h1 : (0 : Int) ≤ x := this.1
    have h2 : x ≤ 255 := this.2
    show 0 ≤ x ∧ x < 256
    omega
theorem open_bytes {r : Reach} {b0 : Nat} {t e : TypeId} {v : Value} {d : DataW H} {p : List MemPlace} (hu : P.underlying t = some (.slice e)) (hue : P.underlying e = some (.int .u8)) (hce : P.cellsOf e = 1)
    (hv : Value.okWide P w r b0 t v) (h : DataW.Trod enc P w base spare held t v d p) (hsz : ∀ elems sp, d = .slice elems sp → (elems.length + sp.length) * 1 ≤ reachBytes) :
    ∃ (q : Option Addr) (n c : Nat) (B : List Int), v = .slice q n c ∧ Sl w q n c B ∧ Byts B ∧ n ≤ 140737488351232 ∧ ((q = none ∧ c = 0) ∨ ∃ b off, q = some ⟨b, off, none⟩) := by
  obtain ⟨a, len, cap, rfl⟩ := okWide_slice hu hv
  obtain ⟨fuel, hf⟩ := h
  rcases Go.Deep.open_slice1 hu hce hf with ⟨he, _⟩ | ⟨a', len', cap', m, n, V, D, Pl, he, hb, hl, hm, hmm, hx, hc⟩
  · simp only [Value.cells, Array.toList, List.cons.injEq, Value.slice.injEq, and_true] at he
    obtain ⟨rfl, rfl, rfl⟩ := he
    exact ⟨none, 0, 0, [], rfl, Sl.nil w none 0, fun j => by simp [gi], by omega, .inl ⟨rfl, rfl⟩⟩
  · simp only [Value.cells, Array.toList, List.cons.injEq, Value.slice.injEq, and_true] at he
    obtain ⟨rfl, rfl, rfl⟩ := he
    simp only [Prod.mk.injEq] at hx
    have hlen : len ≤ m := by rw [hmm]; split <;> omega
    have hs := hsz _ _ hx.1
    simp only [List.length_map, List.length_range] at hs
    have hn : len ≤ 140737488351232 := by
      have e : reachBytes = 140737488351232 := by decide
      rw [e] at hs
      omega
    have hV : ∀ i, i < len → ∃ z : Int, V i = .int .u8 z ∧ (Lit.int .u8 z).wf = true := by
      intro i hi
      obtain ⟨z, h1, _, h3⟩ := DataW.trod_int hue (hc i (by omega)).2
      exact ⟨z, by simpa using h1, h3⟩
    have hget : ∀ i, i < len → ((List.range len).map fun i => intOf (V i))[i]? = some (intOf (V i)) := fun i hi => by simp [hi]
    refine ⟨some a', len, cap, (List.range len).map fun i => intOf (V i), rfl, ⟨by simp, hl, fun h0 => ?_⟩, byts_of ?_, hn, .inr ?_⟩
    · have h0' := (hc 0 (by omega)).1
      have hspot := World.cell?_spot h0'
      obtain ⟨blk, off, spot⟩ := a'
      have hsp : spot = none := by simpa [Addr.add] using hspot
      subst hsp
      unfold World.cell? at h0'
      cases hh : w.heap[((⟨blk, off, none⟩ : Addr).add 0).block]? with
      | none => rw [hh] at h0'; cases h0'
      | some o =>
        rw [hh] at h0'
        cases o with
        | cells A T fz =>
          have hh' : w.heap[blk]? = some (.cells A T fz) := by simpa [Addr.add] using hh
          refine ⟨blk, off, A, T, fz, rfl, hh', fun j hj => ?_⟩
          simp at hj
          have h1 := (hc j (by omega)).1
          rw [add_off, cell_of_row w blk (off + j) A T fz hh'] at h1
          rw [h1]
          obtain ⟨z, hz, _⟩ := hV j hj
          rw [hz]
          simp [gi, hj, hz, intOf]
        | map _ _ => cases h0'
        | chan _ _ _ _ _ _ => cases h0'
        | _ => cases h0'
    · intro x hx'
      obtain ⟨i, hi, rfl⟩ := List.mem_map.1 hx'
      obtain ⟨z, hz, hw⟩ := hV i (by simpa using hi)
      rw [hz]
      exact hw
    · have hs' : a'.spot = none := by
        simp only [Value.okWide, hu, Cell.okWide, Cell.ok] at hv
        exact hv.2.2.2.1
      obtain ⟨blk, off, spot⟩ := a'
      exact ⟨blk, off, by rw [show spot = none from hs']⟩
end
end Go.Proofs.Ythbmlpiplfbehaa
