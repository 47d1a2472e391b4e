/-
  Arguments that are an In: opened.
-/
import Derived.Test.YtpighhoehhilkaaOpenS
import Derived.Test.YtpighhoehhilkaaOpenSS
import Derived.Test.YtpighhoehhilkaaSlX
import Derived.Lib.SmallJoins
namespace Go.Proofs.Ytpighhoehhilkaa
set_option linter.unusedSimpArgs false
set_option linter.unusedVariables false
open Go Go.ChangeShapes Go.WideShapes Go.ChangeAt Go.RowKit Sp M

section
variable {H : Type} {enc : TypeId × Value → H} {P : Program} {w : World} {base : Nat} {spare : Nat → Bool} {held : Bool}
/-- Cells that are an array of bytes. -/
theorem open_cells_arr {t e : TypeId} {n fuel : Nat} {cs : List Value} {x : DataW H × List MemPlace} (hu : P.underlying t = some (.array n e)) (hue : P.underlying e = some (.int .u8)) (hce : P.cellsOf e = 1) (hl : cs.length = n)
    (hf : DataW.trod enc P w base spare held fuel t cs = some x) : ∃ L : List Int, cs = L.map (Value.int .u8) ∧ L.length = n ∧ Byts L := by
  obtain ⟨xs, m, _, hx, _, hxl, hxs⟩ := DataW.trod_array hu hf
  have key : ∀ i, i < n → ∃ z : Int, cs[i]? = some (.int .u8 z) ∧ (Lit.int .u8 z).wf = true := by
    intro i hi
    have h1 := hxs i hi
    rw [hce, Nat.mul_one] at h1
    have hlt : i < cs.length := by omega
    have h2 : (cs.drop i).take 1 = [cs[i]] := by
      rw [List.drop_eq_getElem_cons hlt]
      rfl
    rw [h2] at h1
    have hsome : xs[i]? = some xs[i] := by simp [hxl, hi]
    rw [hsome] at h1
    obtain ⟨z, h3, h4, h5⟩ := DataW.trod_int hue h1
    refine ⟨z, ?_, h5⟩
    simp only [List.cons.injEq, and_true] at h3
    rw [← h3]
    simp [hlt]
  refine ⟨cs.map intOf, ?_, by simp [hl], byts_of ?_⟩
  · apply List.ext_getElem?
    intro i
    by_cases hi : i < n
    · obtain ⟨z, h1, _⟩ := key i hi
      simp [h1, intOf]
    · rw [List.getElem?_eq_none (by omega), List.getElem?_eq_none (by simp; omega)]
  · intro x hx'
    obtain ⟨v, hv, rfl⟩ := List.mem_map.1 hx'
    obtain ⟨i, hi⟩ := List.mem_iff_getElem?.1 hv
    have hlt : i < n := by
      have := (List.getElem?_eq_some_iff.1 hi).1
      omega
    obtain ⟨z, h1, h2⟩ := key i hlt
    rw [hi] at h1
    obtain rfl := Option.some.inj h1
    exact h2
/-- One slice of bytes that lies in a cell, of a length that a machine has. -/
theorem open_cell_sized {t e : TypeId} {fuel : Nat} {v : Value} {x : DataW H × List MemPlace} (hu : P.underlying t = some (.slice e)) (hue : P.underlying e = some (.int .u8)) (hce : P.cellsOf e = 1)
    (hf : DataW.trod enc P w base spare held fuel t [v] = some x) (hsz : ∀ elems sp, x.1 = .slice elems sp → (elems.length + sp.length) * 1 ≤ reachBytes) :
    ∃ (q : Option Addr) (n c : Nat) (B : List Int), v = .slice q n c ∧ Sl w q n c B ∧ Byts B ∧ n ≤ 140737488351232 := by
  obtain ⟨q, n, c, B, rfl, hS, hB⟩ := open_cell_bytes hu hue hce hf
  refine ⟨q, n, c, B, rfl, hS, hB, ?_⟩
  rcases Go.Deep.open_slice1 hu hce hf with ⟨he, _⟩ | ⟨a', len', cap', m, n', V, D, Pl, he, hb, hl, hm, hmm, hx, hc⟩
  · simp only [List.cons.injEq, Value.slice.injEq, and_true] at he
    obtain ⟨rfl, rfl, rfl⟩ := he
    omega
  · simp only [List.cons.injEq, Value.slice.injEq, and_true] at he
    obtain ⟨rfl, rfl, rfl⟩ := he
    have hlen : n ≤ m := by rw [hmm]; split <;> omega
    have hs := hsz _ _ (by rw [hx])
    simp only [List.length_map, List.length_range] at hs
    have e : reachBytes = 140737488351232 := by decide
    rw [e] at hs
    omega
theorem sized_in {ts : List TypeId} {ds : List (DataW H)} (h : (DataW.weightsEach P ts ds).all (· ≤ reachBytes) = true) {j i : Nat} {t s e : TypeId} {fs : Array Field} {parts : List (DataW H)} {elems sp : List (DataW H)} (ht : ts[j]? = some t) (hd : ds[j]? = some (.agg parts))
    (hu : P.underlying t = some (.struct fs)) (hs : (fs.toList.map (·.type))[i]? = some s) (hp : parts[i]? = some (.slice elems sp)) (hus : P.underlying s = some (.slice e)) : (elems.length + sp.length) * P.bytesOf e ≤ reachBytes := by
  have h1 : ∀ wt ∈ DataW.weightsEach P (fs.toList.map (·.type)) parts, wt ≤ reachBytes := fun wt hwt => by
    have := List.all_eq_true.1 h _ (DataW.weights_mem_each ht hd wt (by simpa [DataW.weights, hu] using hwt))
    simpa using this
  exact h1 _ (DataW.weights_mem_each hs hp _ (by simp [DataW.weights, hus]))
theorem open_in {r : Reach} {b0 : Nat} {t e8 : TypeId} {f0 f1 f2 f3 : Field} {v : Value} {d : DataW H} {p : List MemPlace} (hs : P.underlying t = some (.struct #[f0, f1, f2, f3])) (hc : P.cellsOf t = 46)
    (h0 : P.underlying f0.type = some (.array 32 e8)) (h1 : P.underlying f1.type = some (.array 12 e8)) (h2 : P.underlying f2.type = some (.slice e8)) (h3 : P.underlying f3.type = some (.slice e8)) (hue : P.underlying e8 = some (.int .u8)) (hce : P.cellsOf e8 = 1)
    (hc0 : P.cellsOf f0.type = 32) (hc1 : P.cellsOf f1.type = 12) (hc2 : P.cellsOf f2.type = 1) (hc3 : P.cellsOf f3.type = 1) (ho : f0.offset = 0 ∧ f1.offset = 32 ∧ f2.offset = 44 ∧ f3.offset = 45)
    (hv : Value.okWide P w r b0 t v) (h : DataW.Trod enc P w base spare held t v d p) (hsz : ∀ parts i elems sp, d = .agg parts → 2 ≤ i → i < 4 → parts[i]? = some (.slice elems sp) → (elems.length + sp.length) * 1 ≤ reachBytes) :
    ∃ (K N : List Int) (p q : Option Addr) (n c m dd : Nat) (A B : List Int), v = .agg (inRow K N (.slice p n c) (.slice q m dd)) ∧ K.length = 32 ∧ N.length = 12 ∧ Byts K ∧ Byts N ∧ Sl w p n c A ∧ Sl w q m dd B ∧ Byts A ∧ Byts B ∧ n ≤ 140737488351232 ∧ m ≤ 140737488351232 := by
  obtain ⟨cs, rfl, hcs⟩ := okWide_struct hs hv
  rw [hc] at hcs
  obtain ⟨fuel, hf⟩ := h
  obtain ⟨y0, y1, y2, y3, k, hx, _, t0, t1, t2, t3⟩ := Go.Joins.trod_struct4 hs hf
  obtain ⟨o0, o1, o2, o3⟩ := ho
  rw [o0, hc0] at t0
  rw [o1, hc1] at t1
  rw [o2, hc2] at t2
  rw [o3, hc3] at t3
  simp only [Value.cells] at t0 t1 t2 t3
  have hl : cs.toList.length = 46 := by simpa using hcs
  obtain ⟨K, eK, lK, bK⟩ := open_cells_arr h0 hue hce (by simp [hcs]) t0
  obtain ⟨N, eN, lN, bN⟩ := open_cells_arr h1 hue hce (by simp [hcs]) t1
  have e2 : (cs.toList.drop 44).take 1 = [cs.toList[44]] := by
    rw [List.drop_eq_getElem_cons (by omega)]
    rfl
  have e3 : (cs.toList.drop 45).take 1 = [cs.toList[45]] := by
    rw [List.drop_eq_getElem_cons (by omega)]
    rfl
  rw [e2] at t2
  rw [e3] at t3
  have hd : d = .agg [y0.1, y1.1, y2.1, y3.1] := congrArg Prod.fst hx
  obtain ⟨p', n, c, A, hA, SA, bA, mA⟩ := open_cell_sized h2 hue hce t2 (fun es sp he => hsz _ 2 es sp hd (by decide) (by decide) (by simp [he]))
  obtain ⟨q', m, dd, B, hB, SB, bB, mB⟩ := open_cell_sized h3 hue hce t3 (fun es sp he => hsz _ 3 es sp hd (by decide) (by decide) (by simp [he]))
  refine ⟨K, N, p', q', n, c, m, dd, A, B, ?_, lK, lN, bK, bN, SA, SB, bA, bB, mA, mB⟩
  congr 1
  unfold inRow
  apply Array.ext'
  have hsplit : cs.toList = (cs.toList.drop 0).take 32 ++ ((cs.toList.drop 32).take 12 ++ ((cs.toList.drop 44).take 1 ++ (cs.toList.drop 45).take 1)) := by
    apply List.ext_getElem?
    intro i
    by_cases h1 : i < 32
    · rw [List.getElem?_append_left (by simp; omega)]; simp [h1]
    · have l32 : ((cs.toList.drop 0).take 32).length = 32 := by simp [hcs]
      have l12 : ((cs.toList.drop 32).take 12).length = 12 := by simp [hcs]
      rw [List.getElem?_append_right (by rw [l32]; omega), l32]
      by_cases h2 : i < 44
      · rw [List.getElem?_append_left (by rw [l12]; omega), List.getElem?_take, if_pos (by omega), List.getElem?_drop]
        congr 1
        omega
      · rw [List.getElem?_append_right (by rw [l12]; omega), l12]
        by_cases h3 : i < 45
        · obtain rfl : i = 44 := by omega
          simp [hcs]
        · by_cases h4 : i < 46
          · obtain rfl : i = 45 := by omega
            simp [hcs]
          · rw [List.getElem?_eq_none (by omega), List.getElem?_eq_none (by simp; omega)]
  rw [hsplit, eK, eN, e2, e3, hA, hB]
  simp [ints]
end
end Go.Proofs.Ytpighhoehhilkaa
