/-
  Joined texts: Hin, OpenS, OpenSN, OpenPr, LawS. No conditions.
-/
import Derived.Test.YtdjecenggngdjaaGae
import Derived.Test.YtdjecenggngdjaaGaf
import Derived.Test.YtdjecenggngdjaaGah
import Derived.Test.YtdjecenggngdjaaGaj
import Derived.Test.YtdjecenggngdjaaGaz
import Derived.Deep.Slices
import Derived.SizedLaws
import Derived.Lib.SmallJoins
namespace Go.Proofs.Ytdjecenggngdjaa
set_option linter.unusedSimpArgs false
set_option linter.unusedVariables false
set_option maxHeartbeats 16000000
section
open Go Go.RowKit
namespace Sp
open F
structure PIn (w : World) (p : PR) (q0 q1 q2 : Option Addr) (n0 c0 n1 c1 n2 c2 : Nat) (P F S : List Int) : Prop where
  ok : p.Ok
  A : Byts p.A
  B : Byts p.B
  oa : Byts p.oa
  ob : Byts p.ob
  pv : p.pv = .slice q0 n0 c0
  f : p.f = .slice q1 n1 c1
  s : p.s = .slice q2 n2 c2
  S0 : Sl w q0 n0 c0 P
  b0 : Byts P
  m0 : n0 ≤ 140737488351232
  S1 : Sl w q1 n1 c1 F
  b1 : Byts F
  m1 : n1 ≤ 140737488351232
  S2 : Sl w q2 n2 c2 S
  b2 : Byts S
  m2 : n2 ≤ 140737488351232
def mkP (p : PR) (q1 q2 : Option Addr) (n1 c1 n2 c2 : Nat) : PR := {p with kind := 1 + p.kind % 2, f := .slice q1 (min n1 4096) c1, s := .slice q2 (min n2 4096) c2}
theorem Sl.fr {w : World} {q : Option Addr} {n c k : Nat} {B : List Int} (h : Sl w q n c B) (hk : k ≤ n) : Sl w q k c (B.take k) := by
  have hl := h.len
  have hc := h.cap
  by_cases h0 : k = 0
  · subst h0; rw [List.take_zero]; exact Sl.nil w q c
  · obtain ⟨b, off, A, T, fz, rfl, hb, hA⟩ := h.at_ (by omega)
    exact h.take hk
section
variable {w : World} {p : PR} {q0 q1 q2 : Option Addr} {n0 c0 n1 c1 n2 c2 : Nat} {P F S : List Int}
theorem PIn.pk (h : PIn w p q0 q1 q2 n0 c0 n1 c1 n2 c2 P F S) : PK (mkP p q1 q2 n1 c1 n2 c2) :=
  ⟨((h.ok.kind_ _).f_ rfl).s_ rfl, b32_of h.ok.A h.A, b32_of h.ok.B h.B, b32_of h.ok.oa h.oa, b32_of h.ok.ob h.ob, by show 1 + p.kind % 2 = 1 ∨ 1 + p.kind % 2 = 2; omega⟩
theorem PIn.s1 (h : PIn w p q0 q1 q2 n0 c0 n1 c1 n2 c2 P F S) : Sl w q1 (min n1 4096) c1 (F.take (min n1 4096)) := h.S1.fr (Nat.min_le_left _ _)
theorem PIn.s2 (h : PIn w p q0 q1 q2 n0 c0 n1 c1 n2 c2 P F S) : Sl w q2 (min n2 4096) c2 (S.take (min n2 4096)) := h.S2.fr (Nat.min_le_left _ _)
end
def lowK (o : Bool) : List Int := if o then 1 :: List.replicate 31 0 else List.replicate 32 0
theorem lowK_U (o : Bool) : PP ∣ v32 (lowK o) % H255 ∨ PP ∣ (v32 (lowK o) % H255) * (v32 (lowK o) % H255) - 1 := by
  cases o
  · exact .inl (Int.dvd_of_emod_eq_zero (by unfold lowK; decide +kernel))
  · exact .inr (Int.dvd_of_emod_eq_zero (by unfold lowK; decide +kernel))
theorem lowK_shN {a : List Int} (h : Bytes32 a) (o : Bool) : Low.shN a (lowK o) = 30 := by
  have e : Low.shX a (lowK o) = List.replicate 32 0 := by
    unfold Low.shX
    rw [low_zero h.1 (h.2 0 (by decide)) (Low.byt_clamp h) (lowK_U o)]
    decide +kernel
  unfold Low.shN
  rw [if_pos e]
end Sp
end
section
open Go Go.ChangeShapes Go.WideShapes Go.ChangeAt Go.RowKit Sp M
section
variable {H : Type} {enc : TypeId × Value → H} {P : Program} {w : World} {base : Nat} {spare : Nat → Bool} {held : Bool}
theorem trod_lt' {t : TypeId} {v : Value} {d : DataW H} {ps : List MemPlace} (h : DataW.Trod enc P w base spare held t v d ps) : ∀ x ∈ ps, x.block < w.heap.size := by
  obtain ⟨n, h⟩ := h
  exact DataW.trod_lt n t _ _ h
theorem byts_of {L : List Int} (h : ∀ x ∈ L, (Lit.int .u8 x).wf = true) : Byts L := by
  intro j
  unfold gi
  rw [List.getD_eq_getElem?_getD]
  cases hj : L[j]? with
  | none => simp
  | some x =>
    have := h x (List.mem_of_getElem? hj)
    simp only [Lit.wf, Bool.and_eq_true, decide_eq_true_eq] at this
    have h1 : (0 : Int) ≤ x := this.1
    have h2 : x ≤ 255 := this.2
    show 0 ≤ x ∧ x < 256
    omega
end
end
section
open Go Go.ChangeShapes Go.WideShapes Go.ChangeAt Go.RowKit Sp M
section
variable {H : Type} {enc : TypeId × Value → H} {P : Program} {w : World} {base : Nat} {spare : Nat → Bool} {held : Bool}
theorem row_of_cell {a : Addr} {n : Nat} {V : Nat → Value} (h0 : 0 < n) (h : ∀ i, i < n → w.cell? (a.add i) = some (V i)) :
    ∃ b off A T fz, a = ⟨b, off, none⟩ ∧ w.heap[b]? = some (.cells A T fz) ∧ ∀ i, i < n → A[off + i]? = some (V i) := by
  have h0' := h 0 h0
  have hspot := World.cell?_spot h0'
  obtain ⟨blk, off, spot⟩ := a
  have hsp : spot = none := by simpa [Addr.add] using hspot
  subst hsp
  unfold World.cell? at h0'
  cases hh : w.heap[((⟨blk, off, none⟩ : Addr).add 0).block]? with
  | none => rw [hh] at h0'; cases h0'
  | some o =>
    rw [hh] at h0'
    cases o with
    | cells A T fz =>
      have hh' : w.heap[blk]? = some (.cells A T fz) := by simpa [Addr.add] using hh
      refine ⟨blk, off, A, T, fz, rfl, hh', fun j hj => ?_⟩
      have h1 := h j hj
      rwa [add_off, cell_of_row w blk (off + j) A T fz hh'] at h1
    | map _ _ => cases h0'
    | chan _ _ _ _ _ _ => cases h0'
    | _ => cases h0'
theorem open_cell_bytes {t e : TypeId} {fuel : Nat} {v : Value} {x : DataW H × List MemPlace} (hu : P.underlying t = some (.slice e)) (hue : P.underlying e = some (.int .u8)) (hce : P.cellsOf e = 1)
    (hf : DataW.trod enc P w base spare held fuel t [v] = some x) : ∃ (q : Option Addr) (n c : Nat) (B : List Int), v = .slice q n c ∧ Sl w q n c B ∧ Byts B := by
  rcases Go.Deep.open_slice1 hu hce hf with ⟨he, _⟩ | ⟨a', len', cap', m, n, V, D, Pl, he, hb, hl, hm, hmm, hx, hc⟩
  · simp only [List.cons.injEq, and_true] at he
    exact ⟨none, 0, 0, [], he, Sl.nil w none 0, fun j => by simp [gi]⟩
  · simp only [List.cons.injEq, and_true] at he
    have hlen : len' ≤ m := by rw [hmm]; split <;> omega
    have hV : ∀ i, i < len' → ∃ z : Int, V i = .int .u8 z ∧ (Lit.int .u8 z).wf = true := by
      intro i hi
      obtain ⟨z, h1, _, h3⟩ := DataW.trod_int hue (hc i (by omega)).2
      exact ⟨z, by simpa using h1, h3⟩
    refine ⟨some a', len', cap', (List.range len').map fun i => intOf (V i), he, ⟨by simp, hl, fun h0 => ?_⟩, byts_of ?_⟩
    · obtain ⟨b, off, A, T, fz, rfl, hh, hA⟩ := row_of_cell h0 (fun i hi => (hc i (by omega)).1)
      refine ⟨b, off, A, T, fz, rfl, hh, fun j hj => ?_⟩
      simp at hj
      obtain ⟨z, hz, _⟩ := hV j hj
      rw [hA j hj, hz]
      simp [gi, hj, hz, intOf]
    · intro x hx'
      obtain ⟨i, hi, rfl⟩ := List.mem_map.1 hx'
      obtain ⟨z, hz, hw⟩ := hV i (by simpa using hi)
      rw [hz]
      exact hw
end
end
section
open Go Go.ChangeShapes Go.WideShapes Go.ChangeAt Go.RowKit Sp M
structure SlI (k : IntKind) (w : World) (p : Option Addr) (n c : Nat) (L : List Int) : Prop where
  len : L.length = n
  at_ : 0 < n → ∃ b off A T fz, p = some ⟨b, off, none⟩ ∧ w.heap[b]? = some (.cells A T fz) ∧ ∀ j, j < n → A[off + j]? = some (.int k (gi L j))
theorem SlI.old {k : IntKind} {w w' : World} {p : Option Addr} {n c : Nat} {L : List Int} (h : SlI k w p n c L) (hb : Below w.heap.size w w') : SlI k w' p n c L :=
  ⟨h.len, fun h0 => by
    obtain ⟨b, off, A, T, fz, rfl, hh, hA⟩ := h.at_ h0
    exact ⟨b, off, A, T, fz, rfl, by rw [hb.block _ (Array.getElem?_eq_some_iff.1 hh).1]; exact hh, hA⟩⟩
section
variable {H : Type} {enc : TypeId × Value → H} {P : Program} {w : World} {base : Nat} {spare : Nat → Bool} {held : Bool}
end
end
section
open Go Go.ChangeShapes Go.WideShapes Go.ChangeAt Go.RowKit Sp M
structure DoV where
  (k m : Int) (p q : Option Addr) (la ca lb cb : Nat) (A B : List Int)
def DoV.row (d : DoV) : Array Value := #[.int .i64 d.k, .int .i64 d.m, .slice d.p d.la d.ca, .slice d.q d.lb d.cb]
def DoV.ok (w : World) (d : DoV) : Prop := Sl w d.p d.la d.ca d.A ∧ Sl w d.q d.lb d.cb d.B ∧ Byts d.A ∧ Byts d.B ∧ d.la ≤ 140737488351232 ∧ d.lb ≤ 140737488351232 ∧ (Lit.int .i64 d.k).wf = true ∧ (Lit.int .i64 d.m).wf = true
section
variable {H : Type} {enc : TypeId × Value → H} {P : Program} {w : World} {base : Nat} {spare : Nat → Bool} {held : Bool}
theorem open_cell_sized {t e : TypeId} {fuel : Nat} {v : Value} {x : DataW H × List MemPlace} (hu : P.underlying t = some (.slice e)) (hue : P.underlying e = some (.int .u8)) (hce : P.cellsOf e = 1)
    (hf : DataW.trod enc P w base spare held fuel t [v] = some x) (hsz : ∀ elems sp, x.1 = .slice elems sp → (elems.length + sp.length) * 1 ≤ reachBytes) :
    ∃ (q : Option Addr) (n c : Nat) (B : List Int), v = .slice q n c ∧ Sl w q n c B ∧ Byts B ∧ n ≤ 140737488351232 := by
  obtain ⟨q, n, c, B, rfl, hS, hB⟩ := open_cell_bytes hu hue hce hf
  refine ⟨q, n, c, B, rfl, hS, hB, ?_⟩
  rcases Go.Deep.open_slice1 hu hce hf with ⟨he, _⟩ | ⟨a', len', cap', m, n', V, D, Pl, he, hb, hl, hm, hmm, hx, hc⟩
  · simp only [List.cons.injEq, Value.slice.injEq, and_true] at he
    obtain ⟨rfl, rfl, rfl⟩ := he
    omega
  · simp only [List.cons.injEq, Value.slice.injEq, and_true] at he
    obtain ⟨rfl, rfl, rfl⟩ := he
    have hlen : n ≤ m := by rw [hmm]; split <;> omega
    have hs := hsz _ _ (by rw [hx])
    simp only [List.length_map, List.length_range] at hs
    have e : reachBytes = 140737488351232 := by decide
    rw [e] at hs
    omega
end
end
section
open Go Go.ChangeShapes Go.WideShapes Go.ChangeAt Go.RowKit Sp M
section
variable {H : Type} {enc : TypeId × Value → H} {P : Program} {w : World} {base : Nat} {spare : Nat → Bool} {held : Bool}
end
end
section
open Go Go.ChangeShapes Go.WideShapes Go.ChangeAt Go.RowKit Sp M
section
variable {H : Type} {enc : TypeId × Value → H} {P : Program} {w : World} {base : Nat} {spare : Nat → Bool} {held : Bool}
theorem open_cells_arr {t e : TypeId} {n fuel : Nat} {cs : List Value} {x : DataW H × List MemPlace} (hu : P.underlying t = some (.array n e)) (hue : P.underlying e = some (.int .u8)) (hce : P.cellsOf e = 1) (hl : cs.length = n)
    (hf : DataW.trod enc P w base spare held fuel t cs = some x) : ∃ L : List Int, cs = L.map (Value.int .u8) ∧ L.length = n ∧ Byts L := by
  obtain ⟨xs, m, _, hx, _, hxl, hxs⟩ := DataW.trod_array hu hf
  have key : ∀ i, i < n → ∃ z : Int, cs[i]? = some (.int .u8 z) ∧ (Lit.int .u8 z).wf = true := by
    intro i hi
    have h1 := hxs i hi
    rw [hce, Nat.mul_one] at h1
    have hlt : i < cs.length := by omega
    have h2 : (cs.drop i).take 1 = [cs[i]] := by
      rw [List.drop_eq_getElem_cons hlt]
      rfl
    rw [h2] at h1
    have hsome : xs[i]? = some xs[i] := by simp [hxl, hi]
    rw [hsome] at h1
    obtain ⟨z, h3, h4, h5⟩ := DataW.trod_int hue h1
    refine ⟨z, ?_, h5⟩
    simp only [List.cons.injEq, and_true] at h3
    rw [← h3]
    simp [hlt]
  refine ⟨cs.map intOf, ?_, by simp [hl], byts_of ?_⟩
  · apply List.ext_getElem?
    intro i
    by_cases hi : i < n
    · obtain ⟨z, h1, _⟩ := key i hi
      simp [h1, intOf]
    · rw [List.getElem?_eq_none (by omega), List.getElem?_eq_none (by simp; omega)]
  · intro x hx'
    obtain ⟨v, hv, rfl⟩ := List.mem_map.1 hx'
    obtain ⟨i, hi⟩ := List.mem_iff_getElem?.1 hv
    have hlt : i < n := by
      have := (List.getElem?_eq_some_iff.1 hi).1
      omega
    obtain ⟨z, h1, h2⟩ := key i hlt
    rw [hi] at h1
    obtain rfl := Option.some.inj h1
    exact h2
theorem sized_in {ts : List TypeId} {ds : List (DataW H)} (h : (DataW.weightsEach P ts ds).all (· ≤ reachBytes) = true) {j i : Nat} {t s e : TypeId} {fs : Array Field} {parts : List (DataW H)} {elems sp : List (DataW H)} (ht : ts[j]? = some t) (hd : ds[j]? = some (.agg parts))
    (hu : P.underlying t = some (.struct fs)) (hs : (fs.toList.map (·.type))[i]? = some s) (hp : parts[i]? = some (.slice elems sp)) (hus : P.underlying s = some (.slice e)) : (elems.length + sp.length) * P.bytesOf e ≤ reachBytes := by
  have h1 : ∀ wt ∈ DataW.weightsEach P (fs.toList.map (·.type)) parts, wt ≤ reachBytes := fun wt hwt => by
    have := List.all_eq_true.1 h _ (DataW.weights_mem_each ht hd wt (by simpa [DataW.weights, hu] using hwt))
    simpa using this
  exact h1 _ (DataW.weights_mem_each hs hp _ (by simp [DataW.weights, hus]))
theorem pr_seg {α : Type} (l : List α) (a n : Nat) : l.drop a = (l.drop a).take n ++ l.drop (a + n) := by rw [← List.drop_drop, List.take_append_drop]
theorem open_pair {r : Reach} {b0 : Nat} {t e8 : TypeId} {f0 f1 f2 f3 f4 f5 f6 f7 f8 : Field} {v : Value} {d : DataW H} {p : List MemPlace} (hs : P.underlying t = some (.struct #[f0, f1, f2, f3, f4, f5, f6, f7, f8])) (hc : P.cellsOf t = 164)
    (h0 : P.underlying f0.type = some (.int .i64)) (h1 : P.underlying f1.type = some (.array 32 e8)) (h2 : P.underlying f2.type = some (.array 32 e8)) (h3 : P.underlying f3.type = some (.slice e8)) (h4 : P.underlying f4.type = some (.array 32 e8)) (h5 : P.underlying f5.type = some (.array 32 e8)) (h6 : P.underlying f6.type = some (.array 32 e8)) (h7 : P.underlying f7.type = some (.slice e8)) (h8 : P.underlying f8.type = some (.slice e8)) (hue : P.underlying e8 = some (.int .u8)) (hce : P.cellsOf e8 = 1)
    (hc0 : P.cellsOf f0.type = 1) (hc1 : P.cellsOf f1.type = 32) (hc2 : P.cellsOf f2.type = 32) (hc3 : P.cellsOf f3.type = 1) (hc4 : P.cellsOf f4.type = 32) (hc5 : P.cellsOf f5.type = 32) (hc6 : P.cellsOf f6.type = 32) (hc7 : P.cellsOf f7.type = 1) (hc8 : P.cellsOf f8.type = 1) (ho : f0.offset = 0 ∧ f1.offset = 1 ∧ f2.offset = 33 ∧ f3.offset = 65 ∧ f4.offset = 66 ∧ f5.offset = 98 ∧ f6.offset = 130 ∧ f7.offset = 162 ∧ f8.offset = 163)
    (hv : Value.okWide P w r b0 t v) (h : DataW.Trod enc P w base spare held t v d p) (hsz : ∀ parts i elems sp, d = .agg parts → (i = 3 ∨ i = 7 ∨ i = 8) → parts[i]? = some (.slice elems sp) → (elems.length + sp.length) * 1 ≤ reachBytes) :
    ∃ (k : Int) (A B s a b : List Int) (q0 q1 q2 : Option Addr) (n0 c0 n1 c1 n2 c2 : Nat) (P0 F0 S0 : List Int), v = .agg (prRow ⟨k, A, B, .slice q0 n0 c0, s, a, b, .slice q1 n1 c1, .slice q2 n2 c2⟩) ∧ (A.length = 32 ∧ B.length = 32 ∧ s.length = 32 ∧ a.length = 32 ∧ b.length = 32) ∧ (Byts A ∧ Byts B ∧ Byts s ∧ Byts a ∧ Byts b) ∧ (Sl w q0 n0 c0 P0 ∧ Byts P0 ∧ n0 ≤ 140737488351232) ∧ (Sl w q1 n1 c1 F0 ∧ Byts F0 ∧ n1 ≤ 140737488351232) ∧ (Sl w q2 n2 c2 S0 ∧ Byts S0 ∧ n2 ≤ 140737488351232) := by
  obtain ⟨cs, rfl, hcs⟩ := okWide_struct hs hv
  rw [hc] at hcs
  obtain ⟨fuel, hf⟩ := h
  obtain ⟨xs, n, _, hx, hl0, hlen, hg⟩ := DataW.trod_struct hs hf
  obtain ⟨o0, o1, o2, o3, o4, o5, o6, o7, o8⟩ := ho
  have hl : cs.toList.length = 164 := by simpa using hcs
  simp only [Value.cells] at hg
  match xs, hlen with
  | [y0, y1, y2, y3, y4, y5, y6, y7, y8], _ =>
    have t0 := hg 0 f0 rfl
    rw [o0, hc0] at t0
    simp only [List.getElem?_cons_zero, List.getElem?_cons_succ] at t0
    have t1 := hg 1 f1 rfl
    rw [o1, hc1] at t1
    simp only [List.getElem?_cons_zero, List.getElem?_cons_succ] at t1
    have t2 := hg 2 f2 rfl
    rw [o2, hc2] at t2
    simp only [List.getElem?_cons_zero, List.getElem?_cons_succ] at t2
    have t3 := hg 3 f3 rfl
    rw [o3, hc3] at t3
    simp only [List.getElem?_cons_zero, List.getElem?_cons_succ] at t3
    have t4 := hg 4 f4 rfl
    rw [o4, hc4] at t4
    simp only [List.getElem?_cons_zero, List.getElem?_cons_succ] at t4
    have t5 := hg 5 f5 rfl
    rw [o5, hc5] at t5
    simp only [List.getElem?_cons_zero, List.getElem?_cons_succ] at t5
    have t6 := hg 6 f6 rfl
    rw [o6, hc6] at t6
    simp only [List.getElem?_cons_zero, List.getElem?_cons_succ] at t6
    have t7 := hg 7 f7 rfl
    rw [o7, hc7] at t7
    simp only [List.getElem?_cons_zero, List.getElem?_cons_succ] at t7
    have t8 := hg 8 f8 rfl
    rw [o8, hc8] at t8
    simp only [List.getElem?_cons_zero, List.getElem?_cons_succ] at t8
    have hd : d = .agg [y0.1, y1.1, y2.1, y3.1, y4.1, y5.1, y6.1, y7.1, y8.1] := by have := congrArg Prod.fst hx; simpa using this
    have g0 : (cs.toList.drop 0).take 1 = [cs.toList[0]] := by rw [List.drop_eq_getElem_cons (by omega)]; rfl
    rw [g0] at t0
    obtain ⟨z, i1, i2, i3⟩ := DataW.trod_int h0 t0
    simp only [List.cons.injEq, and_true] at i1
    obtain ⟨L1, e1, l1, b1⟩ := open_cells_arr h1 hue hce (by simp [hcs]) t1
    obtain ⟨L2, e2, l2, b2⟩ := open_cells_arr h2 hue hce (by simp [hcs]) t2
    have g3 : (cs.toList.drop 65).take 1 = [cs.toList[65]] := by rw [List.drop_eq_getElem_cons (by omega)]; rfl
    rw [g3] at t3
    obtain ⟨q0, n0, c0, B0, e3, S0, b0', m0⟩ := open_cell_sized h3 hue hce t3 (fun es sp he => hsz _ 3 es sp hd (by decide) (by simp [he]))
    obtain ⟨L4, e4, l4, b4⟩ := open_cells_arr h4 hue hce (by simp [hcs]) t4
    obtain ⟨L5, e5, l5, b5⟩ := open_cells_arr h5 hue hce (by simp [hcs]) t5
    obtain ⟨L6, e6, l6, b6⟩ := open_cells_arr h6 hue hce (by simp [hcs]) t6
    have g7 : (cs.toList.drop 162).take 1 = [cs.toList[162]] := by rw [List.drop_eq_getElem_cons (by omega)]; rfl
    rw [g7] at t7
    obtain ⟨q1, n1, c1, B1, e7, S1, b1', m1⟩ := open_cell_sized h7 hue hce t7 (fun es sp he => hsz _ 7 es sp hd (by decide) (by simp [he]))
    have g8 : (cs.toList.drop 163).take 1 = [cs.toList[163]] := by rw [List.drop_eq_getElem_cons (by omega)]; rfl
    rw [g8] at t8
    obtain ⟨q2, n2, c2, B2, e8, S2, b2', m2⟩ := open_cell_sized h8 hue hce t8 (fun es sp he => hsz _ 8 es sp hd (by decide) (by simp [he]))
    refine ⟨z, L1, L2, L4, L5, L6, q0, q1, q2, n0, c0, n1, c1, n2, c2, B0, B1, B2, ?_, ⟨l1, l2, l4, l5, l6⟩, ⟨b1, b2, b4, b5, b6⟩, ⟨S0, b0', m0⟩, ⟨S1, b1', m1⟩, ⟨S2, b2', m2⟩⟩
    congr 1
    unfold prRow
    apply Array.ext'
    have hsp : cs.toList = (cs.toList.drop 0).take 1 ++ ((cs.toList.drop 1).take 32 ++ ((cs.toList.drop 33).take 32 ++ ((cs.toList.drop 65).take 1 ++ ((cs.toList.drop 66).take 32 ++ ((cs.toList.drop 98).take 32 ++ ((cs.toList.drop 130).take 32 ++ ((cs.toList.drop 162).take 1 ++ ((cs.toList.drop 163).take 1 ++ [])))))))) := by
      have s0 := pr_seg cs.toList 0 1
      have s1 := pr_seg cs.toList 1 32
      have s2 := pr_seg cs.toList 33 32
      have s3 := pr_seg cs.toList 65 1
      have s4 := pr_seg cs.toList 66 32
      have s5 := pr_seg cs.toList 98 32
      have s6 := pr_seg cs.toList 130 32
      have s7 := pr_seg cs.toList 162 1
      have s8 := pr_seg cs.toList 163 1
      have s9 : cs.toList.drop 164 = [] := List.drop_eq_nil_of_le (by omega)
      simp only [Nat.reduceAdd] at s0 s1 s2 s3 s4 s5 s6 s7 s8
      rw [s9] at s8
      rw [← s8, ← s7, ← s6, ← s5, ← s4, ← s3, ← s2, ← s1, ← s0]
      rfl
    rw [hsp, g0, e1, e2, g3, e4, e5, e6, g7, g8, i1, e3, e7, e8]
    simp only [cat, Array.toList_append, ints]
end
end
section
open Go Go.RowKit
open Go.ChangeShapes Go.WideShapes Go.ChangeAt in
end
end Go.Proofs.Ytdjecenggngdjaa
