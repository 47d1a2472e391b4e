/-
  Arguments that are slices of slices of bytes: opened.
  Arguments that are slices of integers: opened.
  Arguments that are slices of slices of bytes, or slices of structs of two numbers and two slices: opened, with lengths that a machine has.
  Arguments that are slices of structs of two numbers and two slices: opened.
-/
import Derived.Test.YthbmlpiplfbehaaOpenS
import Derived.Lib.SmallJoins
namespace Go.Proofs.Ythbmlpiplfbehaa
set_option linter.unusedSimpArgs false
set_option linter.unusedVariables false
open Go Go.ChangeShapes Go.WideShapes Go.ChangeAt Go.RowKit Sp M

section
variable {H : Type} {enc : TypeId × Value → H} {P : Program} {w : World} {base : Nat} {spare : Nat → Bool} {held : Bool}
/-- The cells behind an address that has one: a row. -/
theorem row_of_cell {a : Addr} {n : Nat} {V : Nat → Value} (h0 : 0 < n) (h : ∀ i, i < n → w.cell? (a.add i) = some (V i)) :
    ∃ b off A T fz, a = ⟨b, off, none⟩ ∧ w.heap[b]? = some (.cells A T fz) ∧ ∀ i, i < n → A[off + i]? = some (V i) := by
  have h0' := h 0 h0
  have hspot := World.cell?_spot h0'
  obtain ⟨blk, off, spot⟩ := a
  have hsp : spot = none := by simpa [Addr.add] using hspot
  subst hsp
  unfold World.cell? at h0'
  cases hh : w.heap[((⟨blk, off, none⟩ : Addr).add 0).block]? with
  | none => rw [hh] at h0'; cases h0'
  | some o =>
    rw [hh] at h0'
    cases o with
    | cells A T fz =>
      have hh' : w.heap[blk]? = some (.cells A T fz) := by simpa [Addr.add] using hh
      refine ⟨blk, off, A, T, fz, rfl, hh', fun j hj => ?_⟩
      have h1 := h j hj
      rwa [add_off, cell_of_row w blk (off + j) A T fz hh'] at h1
    | map _ _ => cases h0'
    | chan _ _ _ _ _ _ => cases h0'
    | _ => cases h0'
/-- One slice of bytes that lies in a cell. -/
theorem open_cell_bytes {t e : TypeId} {fuel : Nat} {v : Value} {x : DataW H × List MemPlace} (hu : P.underlying t = some (.slice e)) (hue : P.underlying e = some (.int .u8)) (hce : P.cellsOf e = 1)
    (hf : DataW.trod enc P w base spare held fuel t [v] = some x) : ∃ (q : Option Addr) (n c : Nat) (B : List Int), v = .slice q n c ∧ Sl w q n c B ∧ Byts B := by
  rcases Go.Deep.open_slice1 hu hce hf with ⟨he, _⟩ | ⟨a', len', cap', m, n, V, D, Pl, he, hb, hl, hm, hmm, hx, hc⟩
  · simp only [List.cons.injEq, and_true] at he
    exact ⟨none, 0, 0, [], he, Sl.nil w none 0, fun j => by simp [gi]⟩
  · simp only [List.cons.injEq, and_true] at he
    have hlen : len' ≤ m := by rw [hmm]; split <;> omega
    have hV : ∀ i, i < len' → ∃ z : Int, V i = .int .u8 z ∧ (Lit.int .u8 z).wf = true := by
      intro i hi
      obtain ⟨z, h1, _, h3⟩ := DataW.trod_int hue (hc i (by omega)).2
      exact ⟨z, by simpa using h1, h3⟩
    refine ⟨some a', len', cap', (List.range len').map fun i => intOf (V i), he, ⟨by simp, hl, fun h0 => ?_⟩, byts_of ?_⟩
    · obtain ⟨b, off, A, T, fz, rfl, hh, hA⟩ := row_of_cell h0 (fun i hi => (hc i (by omega)).1)
      refine ⟨b, off, A, T, fz, rfl, hh, fun j hj => ?_⟩
      simp at hj
      obtain ⟨z, hz, _⟩ := hV j hj
      rw [hA j hj, hz]
      simp [gi, hj, hz, intOf]
    · intro x hx'
      obtain ⟨i, hi, rfl⟩ := List.mem_map.1 hx'
      obtain ⟨z, hz, hw⟩ := hV i (by simpa using hi)
      rw [hz]
      exact hw
/-- A slice of slices of bytes. -/
structure Sls (w : World) (p : Option Addr) (n c : Nat) (q : Nat → Option Addr) (ln cp : Nat → Nat) (B : Nat → List Int) : Prop where
  cap : n ≤ c
  at_ : 0 < n → ∃ b off A T fz, p = some ⟨b, off, none⟩ ∧ w.heap[b]? = some (.cells A T fz) ∧ ∀ i, i < n → A[off + i]? = some (.slice (q i) (ln i) (cp i))
  el : ∀ i, i < n → Sl w (q i) (ln i) (cp i) (B i)
  byts : ∀ i, Byts (B i)
theorem open_slices {r : Reach} {b0 : Nat} {t t2 e : TypeId} {v : Value} {d : DataW H} {p : List MemPlace} (hu : P.underlying t = some (.slice t2)) (hu2 : P.underlying t2 = some (.slice e)) (hue : P.underlying e = some (.int .u8)) (hc2 : P.cellsOf t2 = 1) (hce : P.cellsOf e = 1)
    (hv : Value.okWide P w r b0 t v) (h : DataW.Trod enc P w base spare held t v d p) :
    ∃ (p : Option Addr) (n c : Nat) (q : Nat → Option Addr) (len cap : Nat → Nat) (B : Nat → List Int), v = .slice p n c ∧ Sls w p n c q len cap B := by
  obtain ⟨a, len, cap, rfl⟩ := okWide_slice hu hv
  obtain ⟨fuel, hf⟩ := h
  rcases Go.Deep.open_slice1 hu hc2 hf with ⟨he, _⟩ | ⟨a', len', cap', m, n, V, D, Pl, he, hb, hl, hm, hmm, hx, hc⟩
  · simp only [Value.cells, Array.toList, List.cons.injEq, Value.slice.injEq, and_true] at he
    obtain ⟨rfl, rfl, rfl⟩ := he
    exact ⟨none, 0, 0, fun _ => none, fun _ => 0, fun _ => 0, fun _ => [], rfl, by omega, fun h => by omega, fun i hi => by omega, fun i j => by simp [gi]⟩
  · simp only [Value.cells, Array.toList, List.cons.injEq, Value.slice.injEq, and_true] at he
    obtain ⟨rfl, rfl, rfl⟩ := he
    have hlen : len ≤ m := by rw [hmm]; split <;> omega
    have hex : ∀ i, ∃ s : Option Addr × Nat × Nat × List Int, i < len → V i = .slice s.1 s.2.1 s.2.2.1 ∧ Sl w s.1 s.2.1 s.2.2.1 s.2.2.2 ∧ Byts s.2.2.2 := by
      intro i
      by_cases hi : i < len
      · obtain ⟨q, n, c, B, h1, h2, h3⟩ := open_cell_bytes hu2 hue hce (hc i (by omega)).2
        exact ⟨(q, n, c, B), fun _ => ⟨h1, h2, h3⟩⟩
      · exact ⟨(none, 0, 0, []), fun h => absurd h hi⟩
    obtain ⟨s, hs⟩ := Classical.axiomOfChoice hex
    refine ⟨some a', len, cap, fun i => (s i).1, fun i => (s i).2.1, fun i => (s i).2.2.1, fun i => if i < len then (s i).2.2.2 else [], rfl, hl, fun h0 => ?_, fun i hi => ?_, fun i => ?_⟩
    · obtain ⟨b, off, A, T, fz, rfl, hh, hA⟩ := row_of_cell h0 (fun i hi => (hc i (by omega)).1)
      exact ⟨b, off, A, T, fz, rfl, hh, fun i hi => by rw [hA i hi, (hs i hi).1]⟩
    · simp only [if_pos hi]
      exact (hs i hi).2.1
    · split
      · next hi => exact (hs i hi).2.2
      · intro j; simp [gi]
end
end Go.Proofs.Ythbmlpiplfbehaa

namespace Go.Proofs.Ythbmlpiplfbehaa
set_option linter.unusedSimpArgs false
set_option linter.unusedVariables false
open Go Go.ChangeShapes Go.WideShapes Go.ChangeAt Go.RowKit Sp M
/-- A slice of integers. -/
structure SlI (k : IntKind) (w : World) (p : Option Addr) (n c : Nat) (L : List Int) : Prop where
  len : L.length = n
  at_ : 0 < n → ∃ b off A T fz, p = some ⟨b, off, none⟩ ∧ w.heap[b]? = some (.cells A T fz) ∧ ∀ j, j < n → A[off + j]? = some (.int k (gi L j))
theorem SlI.old {k : IntKind} {w w' : World} {p : Option Addr} {n c : Nat} {L : List Int} (h : SlI k w p n c L) (hb : Below w.heap.size w w') : SlI k w' p n c L :=
  ⟨h.len, fun h0 => by
    obtain ⟨b, off, A, T, fz, rfl, hh, hA⟩ := h.at_ h0
    exact ⟨b, off, A, T, fz, rfl, by rw [hb.block _ (Array.getElem?_eq_some_iff.1 hh).1]; exact hh, hA⟩⟩
section
variable {H : Type} {enc : TypeId × Value → H} {P : Program} {w : World} {base : Nat} {spare : Nat → Bool} {held : Bool}
theorem open_ints {k : IntKind} {r : Reach} {b0 : Nat} {t e : TypeId} {v : Value} {d : DataW H} {p : List MemPlace} (hu : P.underlying t = some (.slice e)) (hue : P.underlying e = some (.int k)) (hce : P.cellsOf e = 1)
    (hv : Value.okWide P w r b0 t v) (h : DataW.Trod enc P w base spare held t v d p) :
    ∃ (q : Option Addr) (n c : Nat) (L : List Int), v = .slice q n c ∧ SlI k w q n c L ∧ ∀ x ∈ L, (Lit.int k x).wf = true := by
  obtain ⟨a, len, cap, rfl⟩ := okWide_slice hu hv
  obtain ⟨fuel, hf⟩ := h
  rcases Go.Deep.open_slice1 hu hce hf with ⟨he, _⟩ | ⟨a', len', cap', m, n, V, D, Pl, he, hb, hl, hm, hmm, hx, hc⟩
  · simp only [Value.cells, Array.toList, List.cons.injEq, Value.slice.injEq, and_true] at he
    obtain ⟨rfl, rfl, rfl⟩ := he
    exact ⟨none, 0, 0, [], rfl, ⟨rfl, fun h => absurd h (Nat.lt_irrefl 0)⟩, fun x hx => by cases hx⟩
  · simp only [Value.cells, Array.toList, List.cons.injEq, Value.slice.injEq, and_true] at he
    obtain ⟨rfl, rfl, rfl⟩ := he
    have hlen : len ≤ m := by rw [hmm]; split <;> omega
    have hV : ∀ i, i < len → ∃ z : Int, V i = .int k z ∧ (Lit.int k z).wf = true := by
      intro i hi
      obtain ⟨z, h1, _, h3⟩ := DataW.trod_int hue (hc i (by omega)).2
      exact ⟨z, by simpa using h1, h3⟩
    refine ⟨some a', len, cap, (List.range len).map fun i => intOf (V i), rfl, ⟨by simp, fun h0 => ?_⟩, ?_⟩
    · obtain ⟨b, off, A, T, fz, rfl, hh, hA⟩ := row_of_cell h0 (fun i hi => (hc i (by omega)).1)
      refine ⟨b, off, A, T, fz, rfl, hh, fun j hj => ?_⟩
      obtain ⟨z, hz, _⟩ := hV j hj
      rw [hA j hj, hz]
      simp [gi, hj, hz, intOf]
    · intro x hx'
      obtain ⟨i, hi, rfl⟩ := List.mem_map.1 hx'
      obtain ⟨z, hz, hw⟩ := hV i (by simpa using hi)
      rw [hz]
      exact hw
end
end Go.Proofs.Ythbmlpiplfbehaa

namespace Go.Proofs.Ythbmlpiplfbehaa
set_option linter.unusedSimpArgs false
set_option linter.unusedVariables false
open Go Go.ChangeShapes Go.WideShapes Go.ChangeAt Go.RowKit Sp M
/-- Two numbers and two slices. -/
structure DoV where
  (k m : Int) (p q : Option Addr) (la ca lb cb : Nat) (A B : List Int)
def DoV.row (d : DoV) : Array Value := #[.int .i64 d.k, .int .i64 d.m, .slice d.p d.la d.ca, .slice d.q d.lb d.cb]
def DoV.ok (w : World) (d : DoV) : Prop := Sl w d.p d.la d.ca d.A ∧ Sl w d.q d.lb d.cb d.B ∧ Byts d.A ∧ Byts d.B ∧ d.la ≤ 140737488351232 ∧ d.lb ≤ 140737488351232 ∧ (Lit.int .i64 d.k).wf = true ∧ (Lit.int .i64 d.m).wf = true
/-- A slice of such. -/
structure Dos (w : World) (p : Option Addr) (n c : Nat) (D : Nat → DoV) : Prop where
  at_ : 0 < n → ∃ b off X T fz, p = some ⟨b, off, none⟩ ∧ w.heap[b]? = some (.cells X T fz) ∧ ∀ i, i < n → off + i * 4 + 4 ≤ X.size ∧ X.extract (off + i * 4) (off + i * 4 + 4) = (D i).row
  el : ∀ i, i < n → (D i).ok w
section
variable {H : Type} {enc : TypeId × Value → H} {P : Program} {w : World} {base : Nat} {spare : Nat → Bool} {held : Bool}
/-- One slice of bytes that lies in a cell, of a length that a machine has. -/
theorem open_cell_sized {t e : TypeId} {fuel : Nat} {v : Value} {x : DataW H × List MemPlace} (hu : P.underlying t = some (.slice e)) (hue : P.underlying e = some (.int .u8)) (hce : P.cellsOf e = 1)
    (hf : DataW.trod enc P w base spare held fuel t [v] = some x) (hsz : ∀ elems sp, x.1 = .slice elems sp → (elems.length + sp.length) * 1 ≤ reachBytes) :
    ∃ (q : Option Addr) (n c : Nat) (B : List Int), v = .slice q n c ∧ Sl w q n c B ∧ Byts B ∧ n ≤ 140737488351232 := by
  obtain ⟨q, n, c, B, rfl, hS, hB⟩ := open_cell_bytes hu hue hce hf
  refine ⟨q, n, c, B, rfl, hS, hB, ?_⟩
  rcases Go.Deep.open_slice1 hu hce hf with ⟨he, _⟩ | ⟨a', len', cap', m, n', V, D, Pl, he, hb, hl, hm, hmm, hx, hc⟩
  · simp only [List.cons.injEq, Value.slice.injEq, and_true] at he
    obtain ⟨rfl, rfl, rfl⟩ := he
    omega
  · simp only [List.cons.injEq, Value.slice.injEq, and_true] at he
    obtain ⟨rfl, rfl, rfl⟩ := he
    have hlen : n ≤ m := by rw [hmm]; split <;> omega
    have hs := hsz _ _ (by rw [hx])
    simp only [List.length_map, List.length_range] at hs
    have e : reachBytes = 140737488351232 := by decide
    rw [e] at hs
    omega
theorem weightsAll_mem {e : TypeId} {n : Nat} : ∀ {l : List (DataW H)} {d : DataW H}, d ∈ l → n ∈ d.weights P e → n ∈ DataW.weightsAll P e l
  | x :: l, d, hd, hn => by
    unfold DataW.weightsAll
    rcases List.mem_cons.1 hd with rfl | hd
    · exact List.mem_append_left _ hn
    · exact List.mem_append_right _ (weightsAll_mem hd hn)
/-- What an element of a slice holds is bounded. -/
theorem sized_el {ts : List TypeId} {ds : List (DataW H)} (h : (DataW.weightsEach P ts ds).all (· ≤ reachBytes) = true) {j : Nat} {t e : TypeId} {elems sp : List (DataW H)} (ht : ts[j]? = some t) (hd : ds[j]? = some (.slice elems sp)) (hu : P.underlying t = some (.slice e))
    {x : DataW H} (hx : x ∈ elems) : ∀ wt ∈ x.weights P e, wt ≤ reachBytes := fun wt hwt => by
  have := List.all_eq_true.1 h wt (DataW.weights_mem_each ht hd wt (by simp only [DataW.weights, hu, List.mem_cons, List.mem_append]; exact .inr (.inl (weightsAll_mem hx hwt))))
  simpa using this
theorem sized_ss {ts : List TypeId} {ds : List (DataW H)} (h : (DataW.weightsEach P ts ds).all (· ≤ reachBytes) = true) {j : Nat} {t s e : TypeId} {elems sp es sp' : List (DataW H)} (ht : ts[j]? = some t) (hd : ds[j]? = some (.slice elems sp)) (hu : P.underlying t = some (.slice s)) (hus : P.underlying s = some (.slice e))
    (hx : DataW.slice es sp' ∈ elems) : (es.length + sp'.length) * P.bytesOf e ≤ reachBytes := sized_el h ht hd hu hx _ (by simp [DataW.weights, hus])
theorem sized_sd {ts : List TypeId} {ds : List (DataW H)} (h : (DataW.weightsEach P ts ds).all (· ≤ reachBytes) = true) {j i : Nat} {t s u e : TypeId} {fs : Array Field} {elems sp parts es sp' : List (DataW H)} (ht : ts[j]? = some t) (hd : ds[j]? = some (.slice elems sp)) (hu : P.underlying t = some (.slice s)) (hus : P.underlying s = some (.struct fs))
    (hx : DataW.agg parts ∈ elems) (hs : (fs.toList.map (·.type))[i]? = some u) (hp : parts[i]? = some (.slice es sp')) (huu : P.underlying u = some (.slice e)) : (es.length + sp'.length) * P.bytesOf e ≤ reachBytes :=
  sized_el h ht hd hu hx _ (by simp only [DataW.weights, hus]; exact DataW.weights_mem_each hs hp _ (by simp [DataW.weights, huu]))
theorem open_slices2 {r : Reach} {b0 : Nat} {t t2 e : TypeId} {v : Value} {d : DataW H} {p : List MemPlace} (hu : P.underlying t = some (.slice t2)) (hu2 : P.underlying t2 = some (.slice e)) (hue : P.underlying e = some (.int .u8)) (hc2 : P.cellsOf t2 = 1) (hce : P.cellsOf e = 1)
    (hv : Value.okWide P w r b0 t v) (h : DataW.Trod enc P w base spare held t v d p) (hsz : ∀ elems sp es sp', d = .slice elems sp → DataW.slice es sp' ∈ elems → (es.length + sp'.length) * 1 ≤ reachBytes) :
    ∃ (p : Option Addr) (n c : Nat) (q : Nat → Option Addr) (len cap : Nat → Nat) (B : Nat → List Int), v = .slice p n c ∧ Sls w p n c q len cap B ∧ ∀ i, i < n → len i ≤ 140737488351232 := by
  obtain ⟨a, len, cap, rfl⟩ := okWide_slice hu hv
  obtain ⟨fuel, hf⟩ := h
  rcases Go.Deep.open_slice1 hu hc2 hf with ⟨he, _⟩ | ⟨a', len', cap', m, n, V, D, Pl, he, hb, hl, hm, hmm, hx, hc⟩
  · simp only [Value.cells, Array.toList, List.cons.injEq, Value.slice.injEq, and_true] at he
    obtain ⟨rfl, rfl, rfl⟩ := he
    exact ⟨none, 0, 0, fun _ => none, fun _ => 0, fun _ => 0, fun _ => [], rfl, ⟨by omega, fun h => by omega, fun i hi => by omega, fun i j => by simp [gi]⟩, fun i hi => by omega⟩
  · simp only [Value.cells, Array.toList, List.cons.injEq, Value.slice.injEq, and_true] at he
    obtain ⟨rfl, rfl, rfl⟩ := he
    have hlen : len ≤ m := by rw [hmm]; split <;> omega
    have hd : d = .slice ((List.range len).map D) ((List.range (m - len)).map fun j => D (len + j)) := congrArg Prod.fst hx
    have hex : ∀ i, ∃ s : Option Addr × Nat × Nat × List Int, i < len → V i = .slice s.1 s.2.1 s.2.2.1 ∧ Sl w s.1 s.2.1 s.2.2.1 s.2.2.2 ∧ Byts s.2.2.2 ∧ s.2.1 ≤ 140737488351232 := by
      intro i
      by_cases hi : i < len
      · obtain ⟨q, n, c, B, h1, h2, h3, h4⟩ := open_cell_sized hu2 hue hce (hc i (by omega)).2 (fun es sp' he => hsz _ _ es sp' hd (List.mem_map.2 ⟨i, by simpa using hi, he⟩))
        exact ⟨(q, n, c, B), fun _ => ⟨h1, h2, h3, h4⟩⟩
      · exact ⟨(none, 0, 0, []), fun h => absurd h hi⟩
    obtain ⟨s, hs⟩ := Classical.axiomOfChoice hex
    refine ⟨some a', len, cap, fun i => (s i).1, fun i => (s i).2.1, fun i => (s i).2.2.1, fun i => if i < len then (s i).2.2.2 else [], rfl, ⟨hl, fun h0 => ?_, fun i hi => ?_, fun i => ?_⟩, fun i hi => (hs i hi).2.2.2⟩
    · obtain ⟨b, off, A, T, fz, rfl, hh, hA⟩ := row_of_cell h0 (fun i hi => (hc i (by omega)).1)
      exact ⟨b, off, A, T, fz, rfl, hh, fun i hi => by rw [hA i hi, (hs i hi).1]⟩
    · simp only [if_pos hi]
      exact (hs i hi).2.1
    · split
      · next hi => exact (hs i hi).2.2.1
      · intro j; simp [gi]
end
end Go.Proofs.Ythbmlpiplfbehaa

namespace Go.Proofs.Ythbmlpiplfbehaa
set_option linter.unusedSimpArgs false
set_option linter.unusedVariables false
open Go Go.ChangeShapes Go.WideShapes Go.ChangeAt Go.RowKit Sp M
section
variable {H : Type} {enc : TypeId × Value → H} {P : Program} {w : World} {base : Nat} {spare : Nat → Bool} {held : Bool}
theorem open_do {t e8 : TypeId} {f0 f1 f2 f3 : Field} {fuel : Nat} {cs : List Value} {x : DataW H × List MemPlace} (hs : P.underlying t = some (.struct #[f0, f1, f2, f3])) (hc : P.cellsOf t = 4)
    (h0 : P.underlying f0.type = some (.int .i64)) (h1 : P.underlying f1.type = some (.int .i64)) (h2 : P.underlying f2.type = some (.slice e8)) (h3 : P.underlying f3.type = some (.slice e8)) (hue : P.underlying e8 = some (.int .u8)) (hce : P.cellsOf e8 = 1)
    (hc0 : P.cellsOf f0.type = 1) (hc1 : P.cellsOf f1.type = 1) (hc2 : P.cellsOf f2.type = 1) (hc3 : P.cellsOf f3.type = 1) (ho : f0.offset = 0 ∧ f1.offset = 1 ∧ f2.offset = 2 ∧ f3.offset = 3)
    (hf : DataW.trod enc P w base spare held fuel t cs = some x) (hsz : ∀ parts i elems sp, x.1 = .agg parts → 2 ≤ i → i < 4 → parts[i]? = some (.slice elems sp) → (elems.length + sp.length) * 1 ≤ reachBytes) :
    ∃ s : DoV, cs = s.row.toList ∧ s.ok w := by
  obtain ⟨y0, y1, y2, y3, k, hx, hl, t0, t1, t2, t3⟩ := Go.Joins.trod_struct4 hs hf
  obtain ⟨o0, o1, o2, o3⟩ := ho
  rw [o0, hc0] at t0
  rw [o1, hc1] at t1
  rw [o2, hc2] at t2
  rw [o3, hc3] at t3
  rw [hc] at hl
  match cs, hl with
  | [c0, c1, c2, c3], _ =>
    obtain ⟨z0, e0, _, w0⟩ := DataW.trod_int h0 (show DataW.trod enc P w base spare held k f0.type [c0] = some y0 from t0)
    obtain ⟨z1, e1, _, w1⟩ := DataW.trod_int h1 (show DataW.trod enc P w base spare held k f1.type [c1] = some y1 from t1)
    have hd : x.1 = .agg [y0.1, y1.1, y2.1, y3.1] := congrArg Prod.fst hx
    obtain ⟨p', n, c, A, hA, SA, bA, mA⟩ := open_cell_sized h2 hue hce (show DataW.trod enc P w base spare held k f2.type [c2] = some y2 from t2) (fun es sp he => hsz _ 2 es sp hd (by decide) (by decide) (by simp [he]))
    obtain ⟨q', m, dd, B, hB, SB, bB, mB⟩ := open_cell_sized h3 hue hce (show DataW.trod enc P w base spare held k f3.type [c3] = some y3 from t3) (fun es sp he => hsz _ 3 es sp hd (by decide) (by decide) (by simp [he]))
    simp only [List.cons.injEq, and_true] at e0 e1
    exact ⟨⟨z0, z1, p', q', n, c, m, dd, A, B⟩, by rw [e0, e1, hA, hB]; rfl, SA, SB, bA, bB, mA, mB, w0, w1⟩
theorem open_dos {r : Reach} {b0 : Nat} {t t1 e8 : TypeId} {f0 f1 f2 f3 : Field} {v : Value} {d : DataW H} {p : List MemPlace} (hu : P.underlying t = some (.slice t1)) (hs : P.underlying t1 = some (.struct #[f0, f1, f2, f3])) (hc : P.cellsOf t1 = 4)
    (h0 : P.underlying f0.type = some (.int .i64)) (h1 : P.underlying f1.type = some (.int .i64)) (h2 : P.underlying f2.type = some (.slice e8)) (h3 : P.underlying f3.type = some (.slice e8)) (hue : P.underlying e8 = some (.int .u8)) (hce : P.cellsOf e8 = 1)
    (hc0 : P.cellsOf f0.type = 1) (hc1 : P.cellsOf f1.type = 1) (hc2 : P.cellsOf f2.type = 1) (hc3 : P.cellsOf f3.type = 1) (ho : f0.offset = 0 ∧ f1.offset = 1 ∧ f2.offset = 2 ∧ f3.offset = 3)
    (hv : Value.okWide P w r b0 t v) (h : DataW.Trod enc P w base spare held t v d p) (hsz : ∀ els sp0 parts i elems sp, d = .slice els sp0 → DataW.agg parts ∈ els → 2 ≤ i → i < 4 → parts[i]? = some (.slice elems sp) → (elems.length + sp.length) * 1 ≤ reachBytes) :
    ∃ (p : Option Addr) (n c : Nat) (D : Nat → DoV), v = .slice p n c ∧ Dos w p n c D := by
  obtain ⟨a, len, cap, rfl⟩ := okWide_slice hu hv
  obtain ⟨fuel, hf⟩ := h
  rcases Go.Deep.open_slice hu hf with ⟨he, _⟩ | ⟨a', len', cap', m, n, D, Pl, he, hb, hl, hm, hmm, hx, hcel⟩
  · simp only [Value.cells, Array.toList, List.cons.injEq, Value.slice.injEq, and_true] at he
    obtain ⟨rfl, rfl, rfl⟩ := he
    exact ⟨none, 0, 0, fun _ => ⟨0, 0, none, none, 0, 0, 0, 0, [], []⟩, rfl, ⟨fun h => by omega, fun i hi => by omega⟩⟩
  · simp only [Value.cells, Array.toList, List.cons.injEq, Value.slice.injEq, and_true] at he
    obtain ⟨rfl, rfl, rfl⟩ := he
    have hlen : len ≤ m := by rw [hmm]; split <;> omega
    have hd : d = .slice ((List.range len).map D) ((List.range (m - len)).map fun j => D (len + j)) := congrArg Prod.fst hx
    have hex : ∀ i, ∃ s : DoV, i < len → (∀ j, j < 4 → w.cell? (a'.add (i * 4 + j)) = s.row[j]?) ∧ s.ok w := by
      intro i
      by_cases hi : i < len
      · obtain ⟨cs, c1, c2⟩ := hcel i (by omega)
        rw [hc] at c1
        obtain ⟨_, hcl, hcc⟩ := World.cells?_some c1
        obtain ⟨s, hcs, hok⟩ := open_do hs hc h0 h1 h2 h3 hue hce hc0 hc1 hc2 hc3 ho c2 (fun parts j es sp hpa h2 h4 hp => hsz _ _ parts j es sp hd (List.mem_map.2 ⟨i, by simpa using hi, hpa⟩) h2 h4 hp)
        refine ⟨s, fun _ => ⟨fun j hj => ?_, hok⟩⟩
        have h5 := hcc j hj
        rw [Addr.add_add] at h5
        rw [h5, hcs, Array.getElem?_toList]
      · exact ⟨⟨0, 0, none, none, 0, 0, 0, 0, [], []⟩, fun h => absurd h hi⟩
    obtain ⟨s, hs'⟩ := Classical.axiomOfChoice hex
    refine ⟨some a', len, cap, s, rfl, ⟨fun h0 => ?_, fun i hi => (hs' i hi).2⟩⟩
    have hcell : ∀ k, k < len * 4 → w.cell? (a'.add k) = some (((s (k / 4)).row[k % 4]?).getD undef) := by
      intro k hk
      have h6 := (hs' (k / 4) (by omega)).1 (k % 4) (by omega)
      rw [show k / 4 * 4 + k % 4 = k by omega] at h6
      have h7 : k % 4 < (s (k / 4)).row.size := by show k % 4 < 4; omega
      rw [h6, Array.getElem?_eq_getElem h7]
      rfl
    obtain ⟨b, off, A, T, fz, rfl, hh, hA⟩ := row_of_cell (n := len * 4) (by omega) hcell
    refine ⟨b, off, A, T, fz, rfl, hh, fun i hi => ?_⟩
    have hlast := hA (i * 4 + 3) (by omega)
    have hsz' := (Array.getElem?_eq_some_iff.1 hlast).1
    refine ⟨by omega, ?_⟩
    refine Array.ext_getElem? fun j => ?_
    by_cases hj : j < 4
    · rw [Array.getElem?_extract, if_pos (by omega), Nat.add_assoc, hA (i * 4 + j) (by omega), show (i * 4 + j) / 4 = i by omega, show (i * 4 + j) % 4 = j by omega]
      have h7 : j < (s i).row.size := by show j < 4; omega
      rw [Array.getElem?_eq_getElem h7]
      rfl
    · rw [Array.getElem?_eq_none (by simp; omega), Array.getElem?_eq_none (by show 4 ≤ j; omega)]
end
end Go.Proofs.Ythbmlpiplfbehaa
