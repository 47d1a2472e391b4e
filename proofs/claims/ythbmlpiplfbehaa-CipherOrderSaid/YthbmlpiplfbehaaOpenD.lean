/-
  Arguments that are slices of slices of bytes, or slices of structs of two numbers and two slices: opened, with lengths that a machine has.
-/
import Derived.Test.YthbmlpiplfbehaaOpenSN
import Derived.Lib.SmallJoins
namespace Go.Proofs.Ythbmlpiplfbehaa
set_option linter.unusedSimpArgs false
set_option linter.unusedVariables false
open Go Go.ChangeShapes Go.WideShapes Go.ChangeAt Go.RowKit Sp M
/-- Two numbers and two slices. -/
structure DoV where
  (k m : Int) (p q : Option Addr) (la ca lb cb : Nat) (A B : List Int)
def DoV.row (d : DoV) : Array Value := #[.int .i64 d.k, .int .i64 d.m, .slice d.p d.la d.ca, .slice d.q d.lb d.cb]
def DoV.ok (w : World) (d : DoV) : Prop := Sl w d.p d.la d.ca d.A ∧ Sl w d.q d.lb d.cb d.B ∧ Byts d.A ∧ Byts d.B ∧ d.la ≤ 140737488351232 ∧ d.lb ≤ 140737488351232 ∧ (Lit.int .i64 d.k).wf = true ∧ (Lit.int .i64 d.m).wf = true
/-- A slice of such. -/
structure Dos (w : World) (p : Option Addr) (n c : Nat) (D : Nat → DoV) : Prop where
  at_ : 0 < n → ∃ b off X T fz, p = some ⟨b, off, none⟩ ∧ w.heap[b]? = some (.cells X T fz) ∧ ∀ i, i < n → off + i * 4 + 4 ≤ X.size ∧ X.extract (off + i * 4) (off + i * 4 + 4) = (D i).row
  el : ∀ i, i < n → (D i).ok w
section
variable {H : Type} {enc : TypeId × Value → H} {P : Program} {w : World} {base : Nat} {spare : Nat → Bool} {held : Bool}
/-- One slice of bytes that lies in a cell, of a length that a machine has. -/
theorem open_cell_sized {t e : TypeId} {fuel : Nat} {v : Value} {x : DataW H × List MemPlace} (hu : P.underlying t = some (.slice e)) (hue : P.underlying e = some (.int .u8)) (hce : P.cellsOf e = 1)
    (hf : DataW.trod enc P w base spare held fuel t [v] = some x) (hsz : ∀ elems sp, x.1 = .slice elems sp → (elems.length + sp.length) * 1 ≤ reachBytes) :
    ∃ (q : Option Addr) (n c : Nat) (B : List Int), v = .slice q n c ∧ Sl w q n c B ∧ Byts B ∧ n ≤ 140737488351232 := by
  obtain ⟨q, n, c, B, rfl, hS, hB⟩ := open_cell_bytes hu hue hce hf
  refine ⟨q, n, c, B, rfl, hS, hB, ?_⟩
  rcases Go.Deep.open_slice1 hu hce hf with ⟨he, _⟩ | ⟨a', len', cap', m, n', V, D, Pl, he, hb, hl, hm, hmm, hx, hc⟩
  · simp only [List.cons.injEq, Value.slice.injEq, and_true] at he
    obtain ⟨rfl, rfl, rfl⟩ := he
    omega
  · simp only [List.cons.injEq, Value.slice.injEq, and_true] at he
    obtain ⟨rfl, rfl, rfl⟩ := he
    have hlen : n ≤ m := by rw [hmm]; split <;> omega
    have hs := hsz _ _ (by rw [hx])
    simp only [List.length_map, List.length_range] at hs
    have e : reachBytes = 140737488351232 := by decide
    rw [e] at hs
    omega
theorem weightsAll_mem {e : TypeId} {n : Nat} : ∀ {l : List (DataW H)} {d : DataW H}, d ∈ l → n ∈ d.weights P e → n ∈ DataW.weightsAll P e l
  | x :: l, d, hd, hn => by
    unfold DataW.weightsAll
    rcases List.mem_cons.1 hd with rfl | hd
    · exact List.mem_append_left _ hn
    · exact List.mem_append_right _ (weightsAll_mem hd hn)
/-- What an element of a slice holds is bounded. -/
theorem sized_el {ts : List TypeId} {ds : List (DataW H)} (h : (DataW.weightsEach P ts ds).all (· ≤ reachBytes) = true) {j : Nat} {t e : TypeId} {elems sp : List (DataW H)} (ht : ts[j]? = some t) (hd : ds[j]? = some (.slice elems sp)) (hu : P.underlying t = some (.slice e))
    {x : DataW H} (hx : x ∈ elems) : ∀ wt ∈ x.weights P e, wt ≤ reachBytes := fun wt hwt => by
  have := List.all_eq_true.1 h wt (DataW.weights_mem_each ht hd wt (by simp only [DataW.weights, hu, List.mem_cons, List.mem_append]; exact .inr (.inl (weightsAll_mem hx hwt))))
  simpa using this
theorem sized_ss {ts : List TypeId} {ds : List (DataW H)} (h : (DataW.weightsEach P ts ds).all (· ≤ reachBytes) = true) {j : Nat} {t s e : TypeId} {elems sp es sp' : List (DataW H)} (ht : ts[j]? = some t) (hd : ds[j]? = some (.slice elems sp)) (hu : P.underlying t = some (.slice s)) (hus : P.underlying s = some (.slice e))
    (hx : DataW.slice es sp' ∈ elems) : (es.length + sp'.length) * P.bytesOf e ≤ reachBytes := sized_el h ht hd hu hx _ (by simp [DataW.weights, hus])
theorem sized_sd {ts : List TypeId} {ds : List (DataW H)} (h : (DataW.weightsEach P ts ds).all (· ≤ reachBytes) = true) {j i : Nat} {t s u e : TypeId} {fs : Array Field} {elems sp parts es sp' : List (DataW H)} (ht : ts[j]? = some t) (hd : ds[j]? = some (.slice elems sp)) (hu : P.underlying t = some (.slice s)) (hus : P.underlying s = some (.struct fs))
    (hx : DataW.agg parts ∈ elems) (hs : (fs.toList.map (·.type))[i]? = some u) (hp : parts[i]? = some (.slice es sp')) (huu : P.underlying u = some (.slice e)) : (es.length + sp'.length) * P.bytesOf e ≤ reachBytes :=
  sized_el h ht hd hu hx _ (by simp only [DataW.weights, hus]; exact DataW.weights_mem_each hs hp _ (by simp [DataW.weights, huu]))
theorem open_slices2 {r : Reach} {b0 : Nat} {t t2 e : TypeId} {v : Value} {d : DataW H} {p : List MemPlace} (hu : P.underlying t = some (.slice t2)) (hu2 : P.underlying t2 = some (.slice e)) (hue : P.underlying e = some (.int .u8)) (hc2 : P.cellsOf t2 = 1) (hce : P.cellsOf e = 1)
    (hv : Value.okWide P w r b0 t v) (h : DataW.Trod enc P w base spare held t v d p) (hsz : ∀ elems sp es sp', d = .slice elems sp → DataW.slice es sp' ∈ elems → (es.length + sp'.length) * 1 ≤ reachBytes) :
    ∃ (p : Option Addr) (n c : Nat) (q : Nat → Option Addr) (len cap : Nat → Nat) (B : Nat → List Int), v = .slice p n c ∧ Sls w p n c q len cap B ∧ ∀ i, i < n → len i ≤ 140737488351232 := by
  obtain ⟨a, len, cap, rfl⟩ := okWide_slice hu hv
  obtain ⟨fuel, hf⟩ := h
  rcases Go.Deep.open_slice1 hu hc2 hf with ⟨he, _⟩ | ⟨a', len', cap', m, n, V, D, Pl, he, hb, hl, hm, hmm, hx, hc⟩
  · simp only [Value.cells, Array.toList, List.cons.injEq, Value.slice.injEq, and_true] at he
    obtain ⟨rfl, rfl, rfl⟩ := he
    exact ⟨none, 0, 0, fun _ => none, fun _ => 0, fun _ => 0, fun _ => [], rfl, ⟨by omega, fun h => by omega, fun i hi => by omega, fun i j => by simp [gi]⟩, fun i hi => by omega⟩
  · simp only [Value.cells, Array.toList, List.cons.injEq, Value.slice.injEq, and_true] at he
    obtain ⟨rfl, rfl, rfl⟩ := he
    have hlen : len ≤ m := by rw [hmm]; split <;> omega
    have hd : d = .slice ((List.range len).map D) ((List.range (m - len)).map fun j => D (len + j)) := congrArg Prod.fst hx
    have hex : ∀ i, ∃ s : Option Addr × Nat × Nat × List Int, i < len → V i = .slice s.1 s.2.1 s.2.2.1 ∧ Sl w s.1 s.2.1 s.2.2.1 s.2.2.2 ∧ Byts s.2.2.2 ∧ s.2.1 ≤ 140737488351232 := by
      intro i
      by_cases hi : i < len
      · obtain ⟨q, n, c, B, h1, h2, h3, h4⟩ := open_cell_sized hu2 hue hce (hc i (by omega)).2 (fun es sp' he => hsz _ _ es sp' hd (List.mem_map.2 ⟨i, by simpa using hi, he⟩))
        exact ⟨(q, n, c, B), fun _ => ⟨h1, h2, h3, h4⟩⟩
      · exact ⟨(none, 0, 0, []), fun h => absurd h hi⟩
    obtain ⟨s, hs⟩ := Classical.axiomOfChoice hex
    refine ⟨some a', len, cap, fun i => (s i).1, fun i => (s i).2.1, fun i => (s i).2.2.1, fun i => if i < len then (s i).2.2.2 else [], rfl, ⟨hl, fun h0 => ?_, fun i hi => ?_, fun i => ?_⟩, fun i hi => (hs i hi).2.2.2⟩
    · obtain ⟨b, off, A, T, fz, rfl, hh, hA⟩ := row_of_cell h0 (fun i hi => (hc i (by omega)).1)
      exact ⟨b, off, A, T, fz, rfl, hh, fun i hi => by rw [hA i hi, (hs i hi).1]⟩
    · simp only [if_pos hi]
      exact (hs i hi).2.1
    · split
      · next hi => exact (hs i hi).2.2.1
      · intro j; simp [gi]
end
end Go.Proofs.Ythbmlpiplfbehaa
