/-
  What a call owns and what it may change: blocks of its own, blocks that were handed to it, all else as it was.
-/
import Derived.Test.YtmchkfganpgheaaLib
import Derived.StillTail
namespace Go.Proofs.Ytmchkfganpgheaa
set_option linter.unusedSimpArgs false
set_option linter.unusedVariables false
open Go Go.RowKit

abbrev Mem := List (Nat × Array Value × TypeId)

/-- From the world w0 (a call's beginning) to W nothing old has turned but the blocks mu; the blocks bs (new ones, or of mu) hold these rows. -/
structure OwnM (w0 : World) (mu : List Nat) (W : World) (bs : Mem) : Prop where
  os : W.os = w0.os
  tape : W.tape = w0.tape
  output : W.output = w0.output
  size : w0.heap.size ≤ W.heap.size
  rest : ∀ b, b < w0.heap.size → b ∉ mu → W.heap[b]? = w0.heap[b]?
  here : ∀ p ∈ bs, (w0.heap.size ≤ p.1 ∨ p.1 ∈ mu) ∧ W.heap[p.1]? = some (.cells p.2.1 p.2.2 (0, 0))
  apart : (bs.map (·.1)).Nodup

section
variable {w0 W W' : World} {mu : List Nat} {bs : Mem}
theorem OwnM.start (w : World) : OwnM w [] w [] := ⟨rfl, rfl, rfl, Nat.le_refl _, fun _ _ _ => rfl, by simp, by simp⟩
theorem OwnM.start1 (w : World) {b : Nat} {A : Array Value} {T : TypeId} (h : w.heap[b]? = some (.cells A T (0, 0))) : OwnM w [b] w [(b, A, T)] :=
  ⟨rfl, rfl, rfl, Nat.le_refl _, fun _ _ _ => rfl, by simpa using h, by simp⟩
theorem OwnM.start2 (w : World) {b c : Nat} {A B : Array Value} {T U : TypeId} (h : w.heap[b]? = some (.cells A T (0, 0))) (h' : w.heap[c]? = some (.cells B U (0, 0))) (hne : b ≠ c) : OwnM w [b, c] w [(b, A, T), (c, B, U)] :=
  ⟨rfl, rfl, rfl, Nat.le_refl _, fun _ _ _ => rfl, by simp [h, h'], by simp [hne]⟩
theorem OwnM.block (h : OwnM w0 mu W bs) {b : Nat} {A : Array Value} {T : TypeId} (hi : (b, A, T) ∈ bs) : W.heap[b]? = some (.cells A T (0, 0)) := (h.here _ hi).2
theorem OwnM.lt (h : OwnM w0 mu W bs) {p : Nat × Array Value × TypeId} (hp : p ∈ bs) : p.1 < W.heap.size := (Array.getElem?_eq_some_iff.1 (h.here p hp).2).1
theorem OwnM.below (h : OwnM w0 [] W bs) : Below w0.heap.size w0 W := ⟨h.os, h.tape, h.output, h.size, fun k hk => h.rest k hk (by simp)⟩
theorem OwnM.grow (h : OwnM w0 mu W bs) (hb : Below W.heap.size W W') : OwnM w0 mu W' bs :=
  ⟨hb.os.trans h.os, hb.tape.trans h.tape, hb.output.trans h.output, Nat.le_trans h.size hb.size, fun b h1 h2 => by rw [hb.block _ (Nat.lt_of_lt_of_le h1 h.size)]; exact h.rest b h1 h2,
    fun p hp => ⟨(h.here p hp).1, by rw [hb.block _ (h.lt hp)]; exact (h.here p hp).2⟩, h.apart⟩
theorem OwnM.drew (h : OwnM w0 mu W bs) (n : Nat) : OwnM w0 mu { W with drawn := W.drawn + n } bs := ⟨h.os, h.tape, h.output, h.size, h.rest, h.here, h.apart⟩
theorem OwnM.alloc (h : OwnM w0 mu W bs) (A : Array Value) (T : TypeId) : OwnM w0 mu (W.alloc (.cells A T)) ((W.heap.size, A, T) :: bs) := by
  have hb : Below W.heap.size W (W.alloc (.cells A T)) := (Below.refl _ W).alloc (Nat.le_refl _) _
  have h2 := h.grow hb
  refine ⟨h2.os, h2.tape, h2.output, h2.size, h2.rest, ?_, ?_⟩
  · intro p hp
    rcases List.mem_cons.1 hp with rfl | hp
    · exact ⟨.inl h.size, heap_alloc_new _ _⟩
    · exact h2.here p hp
  · simp only [List.map_cons, List.nodup_cons]
    refine ⟨fun hm => ?_, h.apart⟩
    obtain ⟨p, hp, he⟩ := List.mem_map.1 hm
    have := h.lt hp
    omega
theorem OwnM.perm {bs' : Mem} (h : OwnM w0 mu W bs) (hp : bs.Perm bs') : OwnM w0 mu W bs' :=
  ⟨h.os, h.tape, h.output, h.size, h.rest, fun p hm => h.here p (hp.mem_iff.2 hm), (hp.map _).nodup_iff.1 h.apart⟩
theorem OwnM.sub {bs' : Mem} (h : OwnM w0 mu W bs) (hp : bs'.Sublist bs) : OwnM w0 mu W bs' :=
  ⟨h.os, h.tape, h.output, h.size, h.rest, fun p hm => h.here p (hp.subset hm), h.apart.sublist (hp.map _)⟩
theorem OwnM.tail {acc : Mem} (h : OwnM w0 mu W (acc ++ bs)) : OwnM w0 mu W bs := h.sub (List.sublist_append_right _ _)
theorem OwnM.drop1 {p : Nat × Array Value × TypeId} (h : OwnM w0 mu W (p :: bs)) : OwnM w0 mu W bs := h.sub (List.sublist_cons_self _ _)

/-- A block of the frame, at its place in the list. -/
theorem OwnM.setRow (h : OwnM w0 mu W bs) {i : Nat} {b : Nat} {A : Array Value} {T : TypeId} (hi : bs[i]? = some (b, A, T)) (A' : Array Value) :
    OwnM w0 mu (W.setRow b A') (bs.set i (b, A', T)) := by
  have hm := List.mem_of_getElem? hi
  have hb := h.block hm
  have hbase := (h.here _ hm).1
  refine ⟨h.os, h.tape, h.output, by simpa using h.size, ?_, ?_, ?_⟩
  · intro k hk hmu
    have hne : k ≠ b := by
      rintro rfl
      rcases hbase with h1 | h1
      · exact absurd hk (Nat.not_lt.2 h1)
      · exact hmu h1
    rw [setRow_other _ _ _ _ hne]
    exact h.rest k hk hmu
  · intro p hp
    obtain ⟨j, hj⟩ := List.mem_iff_getElem?.1 hp
    by_cases hij : i = j
    · subst hij
      have hlt : i < bs.length := (List.getElem?_eq_some_iff.1 hi).1
      simp only [List.getElem?_set_self hlt, Option.some.injEq] at hj
      subst hj
      exact ⟨hbase, setRow_heap _ _ _ _ _ _ hb⟩
    · rw [List.getElem?_set_ne hij] at hj
      have hne : p.1 ≠ b := by
        intro he
        have h1 : (bs.map (·.1))[j]? = some p.1 := by simp [hj]
        have h2 : (bs.map (·.1))[i]? = some b := by simp [hi]
        have hi' : i < (bs.map (·.1)).length := (List.getElem?_eq_some_iff.1 h2).1
        exact hij ((List.getElem?_inj hi' h.apart).1 (by rw [h2, h1, he]))
      exact ⟨(h.here p (List.mem_of_getElem? hj)).1, by rw [setRow_other _ _ _ _ hne]; exact (h.here p (List.mem_of_getElem? hj)).2⟩
  · rw [nodup_set_same hi]; exact h.apart

/-- A call that was handed the blocks of the places is, and hands them back with other rows. -/
theorem OwnM.call1 (h : OwnM w0 mu W bs) {i : Nat} {b : Nat} {A A' : Array Value} {T : TypeId} (hi : bs[i]? = some (b, A, T)) (h' : OwnM W [b] W' [(b, A', T)]) :
    OwnM w0 mu W' (bs.set i (b, A', T)) := by
  have hm := List.mem_of_getElem? hi
  have hbase := (h.here _ hm).1
  refine ⟨h'.os.trans h.os, h'.tape.trans h.tape, h'.output.trans h.output, Nat.le_trans h.size h'.size, ?_, ?_, ?_⟩
  · intro k hk hmu
    have hne : k ≠ b := by
      rintro rfl
      rcases hbase with h1 | h1
      · exact absurd hk (Nat.not_lt.2 h1)
      · exact hmu h1
    rw [h'.rest k (Nat.lt_of_lt_of_le hk h.size) (by simpa using hne)]
    exact h.rest k hk hmu
  · intro p hp
    obtain ⟨j, hj⟩ := List.mem_iff_getElem?.1 hp
    by_cases hij : i = j
    · subst hij
      have hlt : i < bs.length := (List.getElem?_eq_some_iff.1 hi).1
      simp only [List.getElem?_set_self hlt, Option.some.injEq] at hj
      subst hj
      exact ⟨hbase, h'.block (by simp)⟩
    · rw [List.getElem?_set_ne hij] at hj
      have hpm := List.mem_of_getElem? hj
      have hne : p.1 ≠ b := by
        intro he
        have h1 : (bs.map (·.1))[j]? = some p.1 := by simp [hj]
        have h2 : (bs.map (·.1))[i]? = some b := by simp [hi]
        have hi' : i < (bs.map (·.1)).length := (List.getElem?_eq_some_iff.1 h2).1
        exact hij ((List.getElem?_inj hi' h.apart).1 (by rw [h2, h1, he]))
      exact ⟨(h.here p hpm).1, by rw [h'.rest _ (h.lt hpm) (by simpa using hne)]; exact (h.here p hpm).2⟩
  · rw [nodup_set_same hi]; exact h.apart

theorem OwnM.ne (h : OwnM w0 mu W bs) {i j : Nat} {p q : Nat × Array Value × TypeId} (hi : bs[i]? = some p) (hj : bs[j]? = some q) (hij : i ≠ j) : p.1 ≠ q.1 := by
  intro he
  have h1 : (bs.map (·.1))[i]? = some p.1 := by simp [hi]
  have h2 : (bs.map (·.1))[j]? = some q.1 := by simp [hj]
  have hi' : i < (bs.map (·.1)).length := (List.getElem?_eq_some_iff.1 h1).1
  exact hij (List.getElem?_inj hi' h.apart |>.1 (by rw [h1, h2, he]))

theorem OwnM.call2 (h : OwnM w0 mu W bs) {i j : Nat} {b c : Nat} {A A' B B' : Array Value} {T U : TypeId} (hi : bs[i]? = some (b, A, T)) (hj : bs[j]? = some (c, B, U)) (hij : i ≠ j)
    (h' : OwnM W [b, c] W' [(b, A', T), (c, B', U)]) : OwnM w0 mu W' ((bs.set i (b, A', T)).set j (c, B', U)) := by
  have hmi := List.mem_of_getElem? hi
  have hmj := List.mem_of_getElem? hj
  have hbi := (h.here _ hmi).1
  have hbj := (h.here _ hmj).1
  have hj' : (bs.set i (b, A', T))[j]? = some (c, B, U) := by rw [List.getElem?_set_ne hij]; exact hj
  have hap : (((bs.set i (b, A', T)).set j (c, B', U)).map (·.1)) = bs.map (·.1) := by rw [nodup_set_same hj', nodup_set_same hi]
  refine ⟨h'.os.trans h.os, h'.tape.trans h.tape, h'.output.trans h.output, Nat.le_trans h.size h'.size, ?_, ?_, ?_⟩
  · intro k hk hmu
    have hn1 : k ≠ b := by
      rintro rfl
      rcases hbi with h1 | h1
      · exact absurd hk (Nat.not_lt.2 h1)
      · exact hmu h1
    have hn2 : k ≠ c := by
      rintro rfl
      rcases hbj with h1 | h1
      · exact absurd hk (Nat.not_lt.2 h1)
      · exact hmu h1
    rw [h'.rest k (Nat.lt_of_lt_of_le hk h.size) (by simp [hn1, hn2])]
    exact h.rest k hk hmu
  · intro p hp
    obtain ⟨k, hk⟩ := List.mem_iff_getElem?.1 hp
    by_cases hjk : j = k
    · subst hjk
      have hlt : j < (bs.set i (b, A', T)).length := by simpa using (List.getElem?_eq_some_iff.1 hj).1
      simp only [List.getElem?_set_self hlt, Option.some.injEq] at hk
      subst hk
      exact ⟨hbj, h'.block (by simp)⟩
    · rw [List.getElem?_set_ne hjk] at hk
      by_cases hik : i = k
      · subst hik
        have hlt : i < bs.length := (List.getElem?_eq_some_iff.1 hi).1
        simp only [List.getElem?_set_self hlt, Option.some.injEq] at hk
        subst hk
        exact ⟨hbi, h'.block (by simp)⟩
      · rw [List.getElem?_set_ne hik] at hk
        have hpm := List.mem_of_getElem? hk
        have hn1 := h.ne hk hi (Ne.symm hik)
        have hn2 := h.ne hk hj (Ne.symm hjk)
        exact ⟨(h.here p hpm).1, by rw [h'.rest _ (h.lt hpm) (by simpa using ⟨hn1, hn2⟩)]; exact (h.here p hpm).2⟩
  · rw [hap]; exact h.apart

/-- A call that makes a block and hands it out. -/
theorem OwnM.fresh (h : OwnM w0 mu W bs) {b : Nat} {A : Array Value} {T : TypeId} (h' : OwnM W [] W' [(b, A, T)]) : OwnM w0 mu W' ((b, A, T) :: bs) := by
  have h2 := h.grow h'.below
  have hb : W.heap.size ≤ b := by simpa using (h'.here (b, A, T) (by simp)).1
  refine ⟨h2.os, h2.tape, h2.output, h2.size, h2.rest, ?_, ?_⟩
  · intro p hp
    rcases List.mem_cons.1 hp with rfl | hp
    · exact ⟨.inl (Nat.le_trans h.size hb), h'.block (by simp)⟩
    · exact h2.here p hp
  · simp only [List.map_cons, List.nodup_cons]
    refine ⟨fun hm => ?_, h.apart⟩
    obtain ⟨p, hp, he⟩ := List.mem_map.1 hm
    have := h.lt hp
    omega

/-- A block that can be read: one of the frame, or an old one that stays. -/
def RdA (w0 : World) (mu : List Nat) (bs : Mem) (b : Nat) (A : Array Value) : Prop := (∃ T, (b, A, T) ∈ bs) ∨ (b ∉ mu ∧ ∃ T fz, w0.heap[b]? = some (.cells A T fz))
theorem RdA.get (h : OwnM w0 mu W bs) {b : Nat} {A : Array Value} (r : RdA w0 mu bs b A) : ∃ T fz, W.heap[b]? = some (.cells A T fz) := by
  rcases r with ⟨T, hm⟩ | ⟨hmu, T, fz, hb⟩
  · exact ⟨T, _, h.block hm⟩
  · exact ⟨T, fz, by rw [h.rest b (Array.getElem?_eq_some_iff.1 hb).1 hmu]; exact hb⟩
theorem RdA.own {i : Nat} {b : Nat} {A : Array Value} {T : TypeId} (hi : bs[i]? = some (b, A, T)) : RdA w0 mu bs b A := .inl ⟨T, List.mem_of_getElem? hi⟩
theorem RdA.old {b : Nat} {A : Array Value} {T : TypeId} {fz : Nat × Nat} (hb : w0.heap[b]? = some (.cells A T fz)) (hmu : b ∉ mu) : RdA w0 mu bs b A := .inr ⟨hmu, T, fz, hb⟩
end

/-! ### Parts of rows: read and written -/
section
variable {P : Program}
theorem add_off (b off j : Nat) : (⟨b, off, none⟩ : Addr).add j = ⟨b, off + j, none⟩ := by
  unfold Addr.add
  split
  · rename_i h; simp [h]
  · rfl
theorem run_loadPart (w : World) (b off : Nat) (t ty : TypeId) (A : Array Value) (fz : Nat × Nat) (d : TypeDesc) (n : Nat) (hb : w.heap[b]? = some (.cells A t fz)) (hn : off + n ≤ A.size)
    (hu : P.underlying ty = some d) (hd : (match d with | .struct _ | .array _ _ => true | _ => false) = true) (hi : (P.info? ty).map (·.size) = some n) :
    (loadVar ty ⟨b, off, none⟩).run P w = .ok (.agg (A.extract off (off + n))) w := by
  have hl : (loadCells ⟨b, off, none⟩ (A.extract off (off + n)).toList.length).run P w = .ok (A.extract off (off + n)).toList.toArray w :=
    run_loadCells_list (P := P) w ⟨b, off, none⟩ (A.extract off (off + n)).toList (fun j v hv => by
      rw [add_off, cell_of_row w b (off + j) A t fz hb]
      have hj : j < n := by
        have := (List.getElem?_eq_some_iff.1 hv).1
        simp at this
        omega
      have hv' : (A.extract off (off + n))[j]? = some v := by rw [← hv]; simp only [Array.getElem?_toList]
      rw [Array.getElem?_extract] at hv'
      split at hv'
      · exact hv'
      · cases hv')
  have hlen : (A.extract off (off + n)).toList.length = n := by simp; omega
  rw [hlen] at hl
  cases hq : P.info? ty with
  | none => simp [hq] at hi
  | some inf =>
    have hs : inf.size = n := by simpa [hq] using hi
    have hagg : (isAgg ty).run P w = .ok true w := by
      unfold isAgg
      rw [Sem.run_bind, run_underlying hu w]
      cases d <;> simp_all
    rw [Array.toArray_toList] at hl
    simp only [loadVar, Sem.run_bind, hagg, sizeOf, typeInfo, hq, hs, hl, Result.andThen_ok, if_true, Sem.run_pure, run_program]

/-- A row with other cells from a place on. -/
def putAt (A : Array Value) (off : Nat) : List Value → Array Value
  | [] => A
  | v :: vs => putAt (A.setIfInBounds off v) (off + 1) vs
theorem putAt_size (A : Array Value) (off : Nat) (vs : List Value) : (putAt A off vs).size = A.size := by
  induction vs generalizing A off with
  | nil => rfl
  | cons v vs ih => simp [putAt, ih]
theorem putAt_get (vs : List Value) (A : Array Value) (off j : Nat) (h : off + vs.length ≤ A.size) : (putAt A off vs)[j]? = if off ≤ j ∧ j < off + vs.length then vs[j - off]? else A[j]? := by
  induction vs generalizing A off with
  | nil => simp [putAt]; omega
  | cons v vs ih =>
    simp only [List.length_cons] at h
    simp only [putAt]
    rw [ih _ _ (by simp; omega)]
    by_cases h1 : off + 1 ≤ j ∧ j < off + 1 + vs.length
    · rw [if_pos h1, if_pos (by simp; omega)]
      have : j - off = (j - (off + 1)) + 1 := by omega
      rw [this]; simp
    · rw [if_neg h1]
      by_cases h2 : off = j
      · subst h2
        rw [if_pos (by simp)]
        simp [show off < A.size by omega]
      · rw [if_neg (by simp; omega)]
        simp [Array.getElem?_setIfInBounds, h2]
theorem setRow_setRow (w : World) (b : Nat) (A A' : Array Value) (hb : ∃ C t, w.heap[b]? = some (.cells C t (0, 0))) : (w.setRow b A).setRow b A' = w.setRow b A' := by
  obtain ⟨C, t, hb⟩ := hb
  have hlt : b < w.heap.size := (Array.getElem?_eq_some_iff.1 hb).1
  have hv : w.heap[b] = .cells C t (0, 0) := (Array.getElem?_eq_some_iff.1 hb).2
  unfold World.setRow
  congr 1
  apply Array.ext (by simp)
  intro i h1 h2
  simp only [Array.getElem_modify]
  by_cases hi : b = i
  · subst hi; simp [hv]
  · simp [hi]
theorem run_storeCells_row (vs : List Value) (h1 : ∀ v ∈ vs, v.oneCell' = true) : ∀ (k : Nat) (w : World) (b off : Nat) (A : Array Value) (t : TypeId) (_ : w.heap[b]? = some (.cells A t (0, 0))) (_ : off + k + vs.length ≤ A.size),
    (storeCells ⟨b, off, none⟩ vs k).run P w = .ok () (w.setRow b (putAt A (off + k) vs)) := by
  induction vs with
  | nil =>
    intro k w b off A t hb _
    have : w.setRow b A = w := by
      have hlt : b < w.heap.size := (Array.getElem?_eq_some_iff.1 hb).1
      have hv : w.heap[b] = .cells A t (0, 0) := (Array.getElem?_eq_some_iff.1 hb).2
      unfold World.setRow
      have : w.heap.modify b (fun o => match o with | .cells _ t f => .cells A t f | o => o) = w.heap := by
        apply Array.ext (by simp)
        intro i h1 h2
        simp only [Array.getElem_modify]
        by_cases hi : b = i
        · subst hi; simp [hv]
        · simp [hi]
      exact congrArg (fun h => { w with heap := h }) this
    simp [storeCells, putAt, this]
  | cons v vs ih =>
    intro k w b off A t hb hsz
    simp only [List.length_cons] at hsz
    have hv := h1 v (by simp)
    have hcell : w.cell? ((⟨b, off, none⟩ : Addr).add k) = some A[off + k] := by
      rw [add_off, cell_of_row w b (off + k) A t (0, 0) hb]
      simp [show off + k < A.size by omega]
    have hfz : w.frozen? ((⟨b, off, none⟩ : Addr).add k) = false := by rw [add_off]; exact frozen_of_row w b _ A t hb
    have hst := run_store P w ((⟨b, off, none⟩ : Addr).add k) v .plain hv
    simp only [hcell, hfz] at hst
    have hset : w.setCell ((⟨b, off, none⟩ : Addr).add k) v = w.setRow b (A.setIfInBounds (off + k) v) := by
      rw [add_off]; exact setCell_eq_setRow w b (off + k) A t (0, 0) v hb
    have hb' : (w.setRow b (A.setIfInBounds (off + k) v)).heap[b]? = some (.cells (A.setIfInBounds (off + k) v) t (0, 0)) := setRow_heap _ _ _ _ _ _ hb
    have hrec := ih (fun u hu => h1 u (by simp [hu])) (k + 1) (w.setRow b (A.setIfInBounds (off + k) v)) b off _ t hb' (by simp; omega)
    rw [setRow_setRow w b _ _ ⟨A, t, hb⟩] at hrec
    simp only [storeCells, Sem.run_bind]
    rw [if_neg (by decide), hset] at hst
    rw [hst, Result.andThen_ok, hrec]
    simp only [putAt, show off + k + 1 = off + (k + 1) by omega]
theorem run_storePart (w : World) (b off : Nat) (t ty : TypeId) (A : Array Value) (v : Value) (hb : w.heap[b]? = some (.cells A t (0, 0))) (hs : (P.info? ty).map (·.size) = some v.cells.size) (hn : off + v.cells.size ≤ A.size)
    (h1 : ∀ u ∈ v.cells.toList, u.oneCell' = true) : (storeVar ty ⟨b, off, none⟩ v).run P w = .ok () (w.setRow b (putAt A off v.cells.toList)) := by
  have h := run_storeCells_row (P := P) v.cells.toList h1 0 w b off A t hb (by simpa using hn)
  cases hq : P.info? ty with
  | none => simp [hq] at hs
  | some inf =>
    have hs' : inf.size = v.cells.size := by simpa [hq] using hs
    simp [storeVar, Sem.run_bind, sizeOf, typeInfo, hq, hs', h]
end
end Go.Proofs.Ytmchkfganpgheaa
