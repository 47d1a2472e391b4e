/-
  Arguments that are arrays of integers: opened.
-/
import Derived.Test.YtmchkfganpgheaaLib
import Derived.ProofKit
import Derived.OpenShut
namespace Go.Proofs.Ytmchkfganpgheaa
set_option linter.unusedSimpArgs false
set_option linter.unusedVariables false
open Go Go.ChangeShapes Go.WideShapes Go.ChangeAt Go.RowKit

section
variable {H : Type} {enc : TypeId × Value → H} {P : Program} {w : World} {base : Nat} {spare : Nat → Bool} {held : Bool}

theorem open_arr {r : Reach} {b0 : Nat} {t e : TypeId} {n : Nat} {k : IntKind} {v : Value} {d : DataW H} {p : List MemPlace} (hu : P.underlying t = some (.array n e)) (hue : P.underlying e = some (.int k))
    (hce : P.cellsOf e = 1) (hct : P.cellsOf t = n) (hv : Value.okWide P w r b0 t v) (h : DataW.Trod enc P w base spare held t v d p) :
    ∃ L : List Int, v = .agg (ints k L) ∧ L.length = n ∧ (∀ x ∈ L, (Lit.int k x).wf = true) ∧ p = [] := by
  simp only [Value.okWide, hu] at hv
  obtain ⟨cs, rfl, hsz, _⟩ := hv
  rw [hct] at hsz
  obtain ⟨fuel, hf⟩ := h
  obtain ⟨xs, m, _, hx, _, hxl, hxs⟩ := DataW.trod_array hu hf
  simp only [Prod.mk.injEq] at hx
  have key : ∀ i, i < n → ∃ z : Int, cs[i]? = some (.int k z) ∧ (Lit.int k z).wf = true ∧ (xs[i]?).map (·.2) = some [] := by
    intro i hi
    have h1 := hxs i hi
    rw [hce, Nat.mul_one] at h1
    have hlt : i < cs.toList.length := by simp [hsz, hi]
    have h2 : (cs.toList.drop i).take 1 = [cs.toList[i]] := by
      rw [List.drop_eq_getElem_cons hlt]
      rfl
    simp only [Value.cells] at h1
    rw [h2] at h1
    have hsome : xs[i]? = some xs[i] := by simp [hxl, hi]
    rw [hsome] at h1
    obtain ⟨z, h3, h4, h5⟩ := DataW.trod_int hue h1
    refine ⟨z, ?_, h5, ?_⟩
    · simp only [List.cons.injEq, and_true] at h3
      rw [← h3]
      simp [hsz, hi]
    · rw [hsome]
      simp [h4]
  refine ⟨cs.toList.map intOf, ?_, by simp [hsz], ?_, ?_⟩
  · congr 1
    apply Array.ext_getElem?
    intro i
    by_cases hi : i < n
    · obtain ⟨z, h1, _, _⟩ := key i hi
      have h1' : cs.toList[i]? = some (.int k z) := by simpa using h1
      simp [ints, h1, intOf]
    · rw [Array.getElem?_eq_none (by omega), Array.getElem?_eq_none (by simp [ints_size]; omega)]
  · intro x hx'
    obtain ⟨v, hv, rfl⟩ := List.mem_map.1 hx'
    obtain ⟨i, hi⟩ := List.mem_iff_getElem?.1 hv
    have hlt : i < n := by
      have := (List.getElem?_eq_some_iff.1 hi).1
      simpa [hsz] using this
    obtain ⟨z, h1, h2, _⟩ := key i hlt
    have h1' : cs.toList[i]? = some (.int k z) := by simpa using h1
    rw [hi] at h1'
    have : v = .int k z := by simpa using h1'
    subst this
    exact h2
  · rw [hx.2]
    rw [List.flatMap_eq_nil_iff]
    intro y hy
    obtain ⟨i, hi⟩ := List.mem_iff_getElem?.1 hy
    have hlt : i < n := by
      have := (List.getElem?_eq_some_iff.1 hi).1
      omega
    obtain ⟨_, _, _, h3⟩ := key i hlt
    rw [hi] at h3
    simpa using h3
end
end Go.Proofs.Ytmchkfganpgheaa
