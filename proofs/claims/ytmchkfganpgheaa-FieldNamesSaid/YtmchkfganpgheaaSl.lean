/-
  Slices of bytes in the walk: what lies in a row, appends, made and built slices.
-/
import Derived.Test.YtmchkfganpgheaaSh
import Derived.Deep.AppendSrc
import Derived.Laws.AppendOwn
import Derived.Laws.MakeOwn
import Derived.Great.BuildSlice
import Derived.Lib.SlBytesConst
namespace Go.Proofs.Ytmchkfganpgheaa
set_option linter.unusedSimpArgs false
set_option linter.unusedVariables false
open Go Go.RowKit
namespace Sp
open M

/-- These are bytes. -/
def Byts (L : List Int) : Prop := ∀ j, 0 ≤ gi L j ∧ gi L j < 256
/-- These bytes lie in a row from a place on. -/
def Lies (A : Array Value) (o : Nat) (B : List Int) : Prop := ∀ j, j < B.length → A[o + j]? = some (.int .u8 (gi B j))
theorem Lies.extract {A : Array Value} {o : Nat} {B : List Int} (h : Lies A o B) {m : Nat} (hm : m ≤ B.length) : A.extract o (o + m) = ints .u8 (B.take m) := by
  apply Array.ext_getElem?
  intro j
  rw [Array.getElem?_extract]
  by_cases hj : j < m
  · have h1 := h j (by omega)
    have hs : o + j < A.size := (Array.getElem?_eq_some_iff.1 h1).1
    rw [if_pos (by omega), h1, ints_get (by simp; omega)]
    simp [gi, List.getElem?_take, hj]
  · rw [if_neg (by omega), Array.getElem?_eq_none (by simp [ints]; omega)]
theorem Lies.row (B J : List Int) : Lies (ints .u8 (B ++ J)) 0 B := by
  intro j hj
  rw [Nat.zero_add, ints_get (by simp; omega)]
  simp [gi, List.getElem?_append, hj]
theorem Lies.whole (B : List Int) : Lies (ints .u8 B) 0 B := by
  intro j hj
  rw [Nat.zero_add, ints_get hj]
theorem Lies.part (L : List Int) (o n : Nat) (h : o + n ≤ L.length) : Lies (ints .u8 L) o ((L.drop o).take n) := by
  intro j hj
  simp at hj
  have e : ((L.drop o).take n)[j]? = L[o + j]? := by rw [List.getElem?_take, if_pos (by omega), List.getElem?_drop]
  rw [ints_get (by omega)]
  unfold gi
  rw [List.getD_eq_getElem?_getD, List.getD_eq_getElem?_getD, e]
theorem Lies.cut {A : Array Value} {o : Nat} {B : List Int} (h : Lies A o B) (a n : Nat) : Lies A (o + a) ((B.drop a).take n) := by
  intro j hj
  simp at hj
  have := h (a + j) (by omega)
  have e : ((B.drop a).take n)[j]? = B[a + j]? := by rw [List.getElem?_take, if_pos (by omega), List.getElem?_drop]
  rw [Nat.add_assoc, this]
  unfold gi
  rw [List.getD_eq_getElem?_getD, List.getD_eq_getElem?_getD, e]
theorem Lies.drop {A : Array Value} {o : Nat} {B : List Int} (h : Lies A o B) (a : Nat) : Lies A (o + a) (B.drop a) := by
  intro j hj
  simp at hj
  have := h (a + j) (by omega)
  rw [Nat.add_assoc, this]
  simp [gi, List.getElem?_drop]
theorem Lies.size {A : Array Value} {o : Nat} {B : List Int} (h : Lies A o B) {m : Nat} (hm : m ≤ B.length) (h0 : 0 < m) : o + m ≤ A.size := by
  have h1 := h (m - 1) (by omega)
  have := (Array.getElem?_eq_some_iff.1 h1).1
  omega
/-- A slice of bytes, as a call is handed it: without bytes, or a part of a row. -/
structure Sl (w : World) (p : Option Addr) (n c : Nat) (B : List Int) : Prop where
  len : B.length = n
  cap : n ≤ c
  at_ : 0 < n → ∃ sb off A T fz, p = some ⟨sb, off, none⟩ ∧ w.heap[sb]? = some (.cells A T fz) ∧ Lies A off B
theorem Sl.nil (w : World) (p : Option Addr) (c : Nat) : Sl w p 0 c [] := ⟨rfl, Nat.zero_le _, fun h => absurd h (Nat.lt_irrefl 0)⟩
theorem Sl.mk' {w : World} {sb off c : Nat} {A : Array Value} {T : TypeId} {fz : Nat × Nat} {B : List Int} (hb : w.heap[sb]? = some (.cells A T fz)) (hA : Lies A off B) (hc : B.length ≤ c) : Sl w (some ⟨sb, off, none⟩) B.length c B :=
  ⟨rfl, hc, fun _ => ⟨sb, off, A, T, fz, rfl, hb, hA⟩⟩
theorem Sl.old {w w' : World} {p : Option Addr} {n c : Nat} {B : List Int} (h : Sl w p n c B) (hb : Below w.heap.size w w') : Sl w' p n c B :=
  ⟨h.len, h.cap, fun h0 => by
    obtain ⟨sb, off, A, T, fz, e, hh, hl⟩ := h.at_ h0
    exact ⟨sb, off, A, T, fz, e, by rw [hb.block _ (Array.getElem?_eq_some_iff.1 hh).1]; exact hh, hl⟩⟩

theorem Sl.take {w : World} {b off n c k : Nat} {B : List Int} (h : Sl w (some ⟨b, off, none⟩) n c B) (hk : k ≤ n) : Sl w (some ⟨b, off, none⟩) k c (B.take k) :=
  ⟨by rw [List.length_take, h.len]; omega, Nat.le_trans hk h.cap, fun h0 => by
    obtain ⟨sb, o, A, T, fz, e, hh, hl⟩ := h.at_ (by omega)
    exact ⟨sb, o, A, T, fz, e, hh, by have := hl.cut 0 k; simpa using this⟩⟩
theorem Sl.drop {w : World} {b off n c k : Nat} {B : List Int} (h : Sl w (some ⟨b, off, none⟩) n c B) (hk : k ≤ n) : Sl w (some ⟨b, off + k, none⟩) (n - k) (c - k) (B.drop k) :=
  ⟨by rw [List.length_drop, h.len], by have := h.cap; omega, fun h0 => by
    obtain ⟨sb, o, A, T, fz, e, hh, hl⟩ := h.at_ (by omega)
    simp only [Option.some.injEq, Addr.mk.injEq, and_true] at e
    obtain ⟨rfl, rfl⟩ := e
    exact ⟨_, _, A, T, fz, rfl, hh, hl.drop k⟩⟩
theorem Sl.apart {w0 W : World} {bs : Mem} {q : Option Addr} {k d pb : Nat} {D : List Int} {A : Array Value} {T : TypeId} (hS : Sl w0 q k d D) (hw : OwnM w0 [] W bs) (hm : (pb, A, T) ∈ bs) : 0 < k → ∀ sb off, q = some ⟨sb, off, none⟩ → sb ≠ pb := fun h0 sb off he => by
  obtain ⟨sb', off', A', T', fz', e', hh, _⟩ := hS.at_ h0
  rw [he] at e'
  have h1 := (hw.here _ hm).1
  have h2 := (Array.getElem?_eq_some_iff.1 hh).1
  simp at h1 e'
  omega
theorem zeroCells_int (k : IntKind) (n : Nat) : Builtin.zeroCells (Value.cells (.int k 0)) n = ints k (List.replicate n 0) := by
  apply Array.ext_getElem?
  intro j
  have e : Value.cells (.int k 0) = #[.int k 0] := rfl
  rw [e]
  by_cases hj : j < n
  · rw [ints_get (by simpa using hj)]
    simp [Builtin.zeroCells, hj, gi, Nat.mod_one]
  · rw [Array.getElem?_eq_none (by simp [Builtin.zeroCells]; omega), Array.getElem?_eq_none (by simp [ints]; omega)]
theorem ints_append (k : IntKind) (L M : List Int) : ints k (L ++ M) = ints k L ++ ints k M := by simp [ints]
theorem madeCells_int (k : IntKind) (n : Nat) : madeCells (Value.cells (.int k 0)) n = ints k (List.replicate n 0) := by
  apply Array.ext_getElem?
  intro j
  have e : Value.cells (.int k 0) = #[.int k 0] := rfl
  rw [e]
  by_cases hj : j < n
  · rw [ints_get (by simpa using hj)]
    simp [madeCells, hj, gi, Nat.mod_one]
  · rw [Array.getElem?_eq_none (by simp [madeCells]; omega), Array.getElem?_eq_none (by simp [ints]; omega)]
section
variable {P : Program} {tab : Tab} {w0 : World} {mu : List Nat} {bs : Mem} {l l' : List Value} {ops : Array Oper} {rest : List Oper} {Q : ExitP}
variable {dst : Option Tmp} {op : Op} {ty : TypeId} {pos : String} {af : Array Edge}
theorem Sl.of {w : World} {b off n c : Nat} {A : Array Value} {B : List Int} (hw : OwnM w0 mu w bs) (hr : RdA w0 mu bs b A) (hA : Lies A off B) (hn : B.length = n) (hc : n ≤ c) : Sl w (some ⟨b, off, none⟩) n c B := by
  subst hn
  obtain ⟨T, fz, hb⟩ := hr.get hw
  exact Sl.mk' hb hA hc
theorem src_of {w : World} {tx e' : TypeId} (hk : P.underlying tx = some (.slice e')) {b off c : Nat} {A : Array Value} {B : List Int} (hw : OwnM w0 mu w bs) (hr : RdA w0 mu bs b A) (hA : Lies A off B) :
    Src P 1 tx (.slice (some ⟨b, off, none⟩) B.length c) B.length (B.map (Value.int .u8)) w := by
  obtain ⟨T, fz, hb⟩ := hr.get hw
  refine Src.ofSlice w hk ⟨b, off, none⟩ B.length c _ (by simp) (fun j u hu => ?_) (by simp [Value.oneCell'])
  rw [List.getElem?_map] at hu
  have hj : j < B.length := by
    cases h : B[j]? with
    | none => simp [h] at hu
    | some x => exact (List.getElem?_eq_some_iff.1 h).1
  have h1 := hA j hj
  rw [add_off, cell_of_row w b (off + j) A T fz hb, h1, ← hu]
  simp [gi, hj]
theorem run_call_append {w : World} {s x : Operand} {t tx : TypeId} {gd : Option (Nat × Bool)} {sv xv : Value} (hs : evL l s = sv) (hx : evL l x = xv) :
    (execOp (⟨l.toArray, []⟩ : Act).eval ⟨dst, .call { callee := .builtin .append, args := #[s, x], argTypes := #[t, tx] }, ty, pos, af, gd⟩).run P w = ((Builtin.append_ #[t, tx] ty #[sv, xv]).run P w).andThen fun v w' => .ok (.value v) w' := by
  unfold execOp
  have ha : (#[s, x].map (⟨l.toArray, []⟩ : Act).eval) = #[sv, xv] := by simp [evL_eq, hs, hx]
  simp only [resolve, Sem.run_bind, Sem.run_pure, Result.andThen_ok, invoke, builtin, ha]
/-- A general effect: a value, and another memory. -/
theorem SL.eff {R : Value → Mem → Prop} (hr : ∀ w, OwnM w0 mu w bs → ∃ v w' bs', (execOp (⟨l.toArray, []⟩ : Act).eval ⟨dst, op, ty, pos, af, none⟩).run P w = .ok (.value v) w' ∧ R v bs' ∧ OwnM w0 mu w' bs')
    (h : ∀ v bs', R v bs' → SL P ops w0 mu rest Q (putL l dst v) bs') : SL P ops w0 mu (⟨dst, op, ty, pos, af, none⟩ :: rest) Q l bs := by
  refine ⟨fun W Q' hw hA => ?_⟩
  refine wpList_plain rfl fun K hK => ?_
  obtain ⟨v, w', bs', he, hR, hw'⟩ := hr W hw
  unfold Oper.wp
  rw [he]
  exact hK _ _ (by rw [putL_eq]; exact (h v bs' hR).run _ _ hw' hA)
theorem run_append_none {w : World} {t tx e : TypeId} {ty : TypeId} {i : TypeInfo} (ht : P.underlying t = some (.slice e)) (hi : P.info? e = some i) {x : Value} (hs : Src P i.size tx x 0 [] w) (base : Option Addr) (n c : Nat) (hc : n ≤ c) :
    (Builtin.append_ #[t, tx] ty #[.slice base n c, x]).run P w = .ok (.slice base n c) w := by
  have hst : ∀ a : Addr, (storeCells a ([] : List Value) 0).run P w = .ok () w := fun a => rfl
  rcases hs.kind with ⟨e', hk⟩ | hk <;> cases base <;> simp [Builtin.append_, run_underlying ht, run_underlying hk, sizeOf, typeInfo, hi, hs.len, hc, hs.cells, hst]
/-- Nothing is appended to nothing. -/
theorem SL.app00 (ht : TabOk P tab) {s x : Operand} {t tx e e' by_ by' sz sz' c : Nat} {p : Option Addr} (h : SL P ops w0 mu rest Q l' bs) (hs : evL l s = .slice none 0 0 := by rfl) (hx : evL l x = .slice p 0 c := by rfl)
    (hl : look tab t = some (.sl e 1 by_, sz) := by rfl) (hl' : look tab tx = some (.sl e' 1 by', sz') := by rfl) (hp : putL l dst (.slice none 0 0) = l' := by first | (dsimp only [putL, setNth]; done) | (dsimp only [putL, setNth]; rfl)) :
    SL P ops w0 mu (⟨dst, .call { callee := .builtin .append, args := #[s, x], argTypes := #[t, tx] }, ty, pos, af, none⟩ :: rest) Q l bs := by
  subst hp
  refine SL.eff (R := fun v bs' => v = .slice none 0 0 ∧ bs' = bs) (fun w hw => ?_) (by rintro v bs' ⟨rfl, rfl⟩; exact h)
  obtain ⟨hu, hsz, _⟩ := td_sl (look_ok ht hl)
  obtain ⟨hu', _, _⟩ := td_sl (look_ok ht hl')
  cases hq : P.info? e with
  | none => simp [hq] at hsz
  | some inf =>
    have hs1 : inf.size = 1 := by simpa [hq] using hsz
    have hsrc : Src P inf.size tx (.slice p 0 c) 0 [] w := by
      rw [hs1]
      cases p with
      | none => exact Src.ofNil w hu' c
      | some a => exact Src.ofSlice w hu' a 0 c [] (by simp) (fun j u hj => by simp at hj) (fun u hm => by cases hm)
    rw [run_call_append hs hx, run_append_none hu hq hsrc none 0 0 (Nat.le_refl _)]
    exact ⟨_, _, _, rfl, ⟨rfl, rfl⟩, hw⟩
/-- Bytes are appended to nothing: a new row. -/
theorem SL.app0 (ht : TabOk P tab) {s x : Operand} {t tx e e' by' sz sz' : Nat} {b off n c : Nat} {A : Array Value} {B : List Int} (hA : Lies A off B) (h0 : 0 < B.length) (hmax : B.length ≤ 140737488355328)
    {l' : Nat → Nat → List Value} (h : ∀ nb cap, B.length ≤ cap → SL P ops w0 mu rest Q (l' nb cap) ((nb, ints .u8 (B ++ List.replicate (cap - B.length) 0), e) :: bs))
    (hz : (P.info? e).map (·.zero) = some (some (.int .u8 0))) (hB : B.length = n := by first | rfl | assumption) (hs : evL l s = .slice none 0 0 := by rfl) (hx : evL l x = .slice (some ⟨b, off, none⟩) n c := by rfl)
    (hl : look tab t = some (.sl e 1 1, sz) := by rfl) (hl' : look tab tx = some (.sl e' 1 by', sz') := by rfl)
    (hr : RdA w0 mu bs b A := by first | exact RdA.own g0 | exact RdA.own g1 | exact RdA.own g2 | exact RdA.own g3 | exact RdA.own g4 | exact RdA.own g5 | exact RdA.old (by assumption) (by first | simp | assumption))
    (hp : ∀ nb cap, putL l dst (.slice (some ⟨nb, 0, none⟩) n cap) = l' nb cap := by intro _ _; first | (dsimp only [putL, setNth]; done) | (dsimp only [putL, setNth]; rfl)) :
    SL P ops w0 mu (⟨dst, .call { callee := .builtin .append, args := #[s, x], argTypes := #[t, tx] }, ty, pos, af, none⟩ :: rest) Q l bs := by
  subst hB
  refine SL.eff (R := fun v bs' => ∃ nb cap, B.length ≤ cap ∧ v = .slice (some ⟨nb, 0, none⟩) B.length cap ∧ bs' = (nb, ints .u8 (B ++ List.replicate (cap - B.length) 0), e) :: bs) (fun w hw => ?_) (by rintro v bs' ⟨nb, cap, hc, rfl, rfl⟩; rw [hp]; exact h nb cap hc)
  obtain ⟨hu, hsz, hby⟩ := td_sl (look_ok ht hl)
  obtain ⟨hu', _, _⟩ := td_sl (look_ok ht hl')
  cases hq : P.info? e with
  | none => simp [hq] at hsz
  | some inf =>
    have hs1 : inf.size = 1 := by simpa [hq] using hsz
    have hb1 : inf.bytes = 1 := by simpa [hq] using hby
    have hz1 : inf.zero = some (.int .u8 0) := by simpa [hq] using hz
    have hsrc : Src P inf.size tx (.slice (some ⟨b, off, none⟩) B.length c) B.length (B.map (Value.int .u8)) w := by rw [hs1]; exact src_of hu' hw hr hA
    have hg := grownCap_ge w B.length 0 e
    have hcap : Builtin.nextslicecap (0 + B.length) 0 * inf.bytes ≤ 281474976710656 := by
      have := nextslicecap_le (need := 0 + B.length) (old := 0) (by omega)
      rw [hb1]; omega
    have hrun := run_append_grow_src (P := P) w t tx ty e inf _ hu hq hz1 none 0 0 [] (run_firstCells_none w.drew _ 0 0 0) (.slice (some ⟨b, off, none⟩) B.length c) B.length _ hsrc (by omega) (by omega) hcap
    rw [run_call_append hs hx, hrun]
    simp only [List.nil_append, Nat.zero_add, Result.andThen_ok]
    refine ⟨_, _, _, rfl, ⟨w.heap.size, grownCap w B.length 0 e, hg, rfl, rfl⟩, ?_⟩
    have := (hw.drew 1).alloc (ints .u8 (B ++ List.replicate (grownCap w B.length 0 e - B.length) 0)) e
    rw [zeroCells_int, show (List.map (Value.int .u8) B).toArray = ints .u8 B from rfl, ← ints_append]
    exact this
/-- A made slice of noughts. -/
theorem SL.made (ht : TabOk P tab) {x y : Operand} {t e sz n : Nat} {k : IntKind} {kl kc : IntKind} (hz : (P.info? e).map (·.zero) = some (some (.int k 0))) (hmax : n ≤ 281474976710656)
    {l' : Nat → List Value} (h : ∀ nb, SL P ops w0 mu rest Q (l' nb) ((nb, ints k (List.replicate n 0), e) :: bs)) (hx : evL l x = .int kl (n : Int) := by rfl) (hy : evL l y = .int kc (n : Int) := by rfl)
    (hl : look tab t = some (.sl e 1 1, sz) := by rfl)
    (hp : ∀ nb, putL l dst (.slice (some ⟨nb, 0, none⟩) n n) = l' nb := by intro _; first | (dsimp only [putL, setNth]; done) | (dsimp only [putL, setNth]; rfl)) :
    SL P ops w0 mu (⟨dst, .makeSlice t x y, ty, pos, af, none⟩ :: rest) Q l bs := by
  refine SL.eff (R := fun v bs' => ∃ nb, v = .slice (some ⟨nb, 0, none⟩) n n ∧ bs' = (nb, ints k (List.replicate n 0), e) :: bs) (fun w hw => ?_) (by rintro v bs' ⟨nb, rfl, rfl⟩; rw [hp]; exact h nb)
  obtain ⟨hu, hsz, hby⟩ := td_sl (look_ok ht hl)
  cases hq : P.info? e with
  | none => simp [hq] at hsz
  | some inf =>
    have hs1 : inf.size = 1 := by simpa [hq] using hsz
    have hb1 : inf.bytes = 1 := by simpa [hq] using hby
    have hz1 : inf.zero = some (.int k 0) := by simpa [hq] using hz
    have hrun := run_make (P := P) w t e inf _ hu hq hz1 kl kc (n : Int) (n : Int) (by omega) (Int.le_refl _) (by rw [hb1]; omega) (by omega)
    have hex : (execOp (⟨l.toArray, []⟩ : Act).eval ⟨dst, .makeSlice t x y, ty, pos, af, none⟩).run P w = .ok (.value (.slice (some ⟨w.heap.size, 0, none⟩) n n)) (w.alloc (.cells (ints k (List.replicate n 0)) e)) := by
      rw [Int.toNat_natCast, hs1, Nat.mul_one, madeCells_int] at hrun
      unfold execOp
      simp only [evL_eq, hx, hy, Sem.run_bind, hrun, Result.andThen_ok, Sem.run_pure]
    exact ⟨_, _, _, hex, ⟨w.heap.size, rfl, rfl⟩, hw.alloc (ints k (List.replicate n 0)) e⟩
theorem SP.forget {c : Code} (pre : Mem) (h : SP P w0 mu c Q l bs) : SP P w0 mu c Q l (pre ++ bs) := ⟨fun W Q' hw hA => h.run W Q' hw.tail hA⟩
theorem SL.buildSlice {t e : TypeId} {n : Nat} {parts : Array (Nat × Operand)} {cells : Array Value} {ie : TypeInfo} {z : Value} (hu : P.underlying t = some (.slice e)) (hie : P.info? e = some ie) (hz : ie.zero = some z)
    (hsmall : ¬ n * ie.size > 2 ^ 24) (hpos : ¬ n * ie.size = 0) {vals : List (Nat × Value)} (hv : parts.toList.map (fun p => (p.1, evL l p.2)) = vals)
    (hf : Instr.fill (fun i => some (i * ie.size, ie.size)) ((Array.range (n * ie.size)).map (z.cells[· % z.cells.size]!)) vals = some cells)
    {l' : Nat → List Value} (hp : ∀ b, putL l dst (.slice (some ⟨b, 0, none⟩) n n) = l' b) (h : ∀ b, SL P ops w0 mu rest Q (l' b) ((b, cells, e) :: bs)) :
    SL P ops w0 mu (⟨dst, .buildSlice t n parts, ty, pos, af, none⟩ :: rest) Q l bs := by
  subst hv
  refine ⟨fun W Q' hw hA => ?_⟩
  refine wpList_plain rfl fun K hK => ?_
  refine wp_buildSlice t e n parts rfl cells ie z hu hie hz hsmall hpos ?_ ?_
  · rw [Array.toList_map, ← hf]
    simp only [evL_eq]
  · exact hK _ _ (by rw [putL_eq, hp]; exact (h _).run _ _ (hw.alloc _ e) hA)

/-- A frame within a frame. -/
theorem OwnM.comp {w1 W : World} {bs1 bs2 : Mem} (h1 : OwnM w0 mu w1 bs1) (h2 : OwnM w1 (bs1.map (·.1) ++ mu) W bs2) : OwnM w0 mu W bs2 := by
  have hm : ∀ b, b ∈ bs1.map (·.1) ++ mu → w0.heap.size ≤ b ∨ b ∈ mu := by
    intro b hb
    rcases List.mem_append.1 hb with h | h
    · obtain ⟨p, hp, rfl⟩ := List.mem_map.1 h
      exact (h1.here p hp).1
    · exact .inr h
  refine ⟨h2.os.trans h1.os, h2.tape.trans h1.tape, h2.output.trans h1.output, Nat.le_trans h1.size h2.size, ?_, ?_, h2.apart⟩
  · intro b hb hmu
    rw [h2.rest b (Nat.lt_of_lt_of_le hb h1.size) (fun h => by rcases hm b h with h | h; omega; exact hmu h)]
    exact h1.rest b hb hmu
  · intro p hp
    refine ⟨?_, (h2.here p hp).2⟩
    rcases (h2.here p hp).1 with h | h
    · exact .inl (Nat.le_trans h1.size h)
    · exact hm _ h
/-- The run goes on from the world that it has come to. -/
theorem SL.rebase (h : ∀ w1, OwnM w0 mu w1 bs → SL P ops w1 (bs.map (·.1) ++ mu) rest Q l bs) : SL P ops w0 mu rest Q l bs :=
  ⟨fun W Q' hw hA => (h W hw).run W Q' ⟨rfl, rfl, rfl, Nat.le_refl _, fun _ _ _ => rfl, fun p hp => ⟨.inr (List.mem_append_left _ (List.mem_map_of_mem hp)), (hw.here p hp).2⟩, hw.apart⟩ fun e l bs' W' hQ hw' => hA e l bs' W' hQ (OwnM.comp hw hw')⟩
/-- The bytes of a constant string: a row that nobody may change. -/
theorem SL.bytesC (ht : TabOk P tab) {t e n by_ sz : Nat} {parts : Array (Nat × Operand)} {cells : Array Value} {d1 : Nat} {dst2 : Option Tmp} {ty2 : TypeId} {pos2 : String} {af2 : Array Edge}
    (hl : look tab t = some (.sl e 1 by_, sz)) (hle : look tab e = some (.int .u8, 1)) (hz : (P.info? e).map (·.zero) = some (some (.int .u8 0))) (hn : 0 < n) (hs : n ≤ 16777216)
    {vals : List (Nat × Value)} (hv : parts.toList.map (fun p => (p.1, evL l p.2)) = vals)
    (hf : Instr.fill (fun i => some (i * 1, 1)) ((Array.range (n * 1)).map ((Value.cells (.int .u8 0))[· % (Value.cells (.int .u8 0)).size]!)) vals = some cells)
    {l1 l' : Nat → List Value} (hp : ∀ b, putL l (some d1) (.slice (some ⟨b, 0, none⟩) n n) = l1 b) (hx : ∀ b, evL (l1 b) (.tmp d1) = .slice (some ⟨b, 0, none⟩) n n) (hp2 : ∀ b, putL (l1 b) dst2 (.slice (some ⟨b, 0, none⟩) n n) = l' b)
    (h : ∀ w1 b fz, OwnM w0 [] w1 bs → w1.heap[b]? = some (.cells cells e fz) → b ∉ bs.map (·.1) ++ [] → SL P ops w1 (bs.map (·.1) ++ []) rest Q (l' b) bs) :
    SL P ops w0 [] (⟨some d1, .buildSlice t n parts, ty, pos, af, none⟩ :: ⟨dst2, .convert t t (.tmp d1), ty2, pos2, af2, none⟩ :: rest) Q l bs := by
  subst hv
  obtain ⟨hu, hsz, _⟩ := td_sl (look_ok ht hl)
  have hue := td_int (look_ok ht hle)
  refine ⟨fun W Q' hw hA => ?_⟩
  cases hq : P.info? e with
  | none => simp [hq] at hsz
  | some inf =>
    have hs1 : inf.size = 1 := by simpa [hq] using hsz
    have hz1 : inf.zero = some (.int .u8 0) := by simpa [hq] using hz
    refine wpList_plain rfl fun K hK => ?_
    refine wp_buildSlice t e n parts rfl cells inf _ hu hq hz1 (by rw [hs1]; omega) (by rw [hs1]; omega) ?_ ?_
    · rw [Array.toList_map, ← hf, hs1]
      simp only [evL_eq]
    · refine hK _ _ ?_
      rw [putL_eq, hp]
      refine wpList_plain rfl fun K hK => ?_
      have hc := Go.Lib.run_convert_bytes_const (P := P) W t e cells n n hu hue
      unfold Oper.wp execOp
      simp only [evL_eq, hx, Sem.run_bind, hc, Result.andThen_ok, Sem.run_pure]
      refine hK _ _ ?_
      rw [putL_eq, hp2]
      have hw1 : OwnM w0 [] (W.alloc (.cells cells e (cells.size, cells.size + 1))) bs := hw.grow ((Below.refl _ W).alloc (Nat.le_refl _) _)
      have hb : (W.alloc (.cells cells e (cells.size, cells.size + 1))).heap[W.heap.size]? = some (.cells cells e (cells.size, cells.size + 1)) := heap_alloc_new _ _
      have hnb : W.heap.size ∉ bs.map (·.1) ++ [] := by
        intro hm
        rw [List.append_nil] at hm
        obtain ⟨p, hp', he⟩ := List.mem_map.1 hm
        have := hw.lt hp'
        omega
      exact (h _ _ _ hw1 hb hnb).run _ Q' ⟨rfl, rfl, rfl, Nat.le_refl _, fun _ _ _ => rfl, fun p hp => ⟨.inr (List.mem_append_left _ (List.mem_map_of_mem hp)), (hw1.here p hp).2⟩, hw1.apart⟩ fun e l bs' W' hQ hw' => hA e l bs' W' hQ (OwnM.comp hw1 hw')

/-- A call that makes a row, of a place and a capacity that nobody knows. -/
theorem SL.clN2 {f : FuncId} {args : List Operand} {ats : Array TypeId} (hent : ∀ (A : Array Value) (w : World), (callFunc f A).run P w = .ok (.enter f A) w) {vals : List Value} (hv : args.map (evL l) = vals)
    {T : TypeId} {V : Nat → Nat → Value} {A : Nat → Nat → Array Value} {φ : Nat → Nat → Prop} {l' : Nat → Nat → List Value}
    (hc : ∀ w, OwnM w0 mu w bs → Calls P f vals.toArray w fun e w' => ∃ b c, φ b c ∧ e = .returned (V b c) ∧ OwnM w [] w' [(b, A b c, T)])
    (h : ∀ b c, φ b c → SL P ops w0 mu rest Q (l' b c) ((b, A b c, T) :: bs)) (hp : ∀ b c, putL l dst (V b c) = l' b c := by intro _ _; first | (dsimp only [putL, setNth]; done) | (dsimp only [putL, setNth]; rfl)) :
    SL P ops w0 mu (⟨dst, .call { callee := .value (.func f), args := args.toArray, argTypes := ats }, ty, pos, af, none⟩ :: rest) Q l bs := by
  refine SL.callG hent hv (R := fun v' bs' => ∃ b c, φ b c ∧ v' = V b c ∧ bs' = (b, A b c, T) :: bs) (fun w hw => (hc w hw).mono fun e w' hx => ?_) (by rintro v' bs' ⟨b, c, hφ, rfl, rfl⟩; rw [hp]; exact h b c hφ)
  obtain ⟨b, c, hφ, rfl, hw'⟩ := hx
  exact ⟨_, _, rfl, ⟨b, c, hφ, rfl, rfl⟩, hw.fresh hw'⟩
end
section
variable {P : Program} {tab : Tab} {w0 : World} {mu : List Nat} {bs : Mem} {l : List Value} {dst : Option Tmp} {ty : TypeId} {pos : String} {af : Array Edge} {gd : Option (Nat × Bool)}
theorem run_equalIn_bool (w : World) (d t : Nat) (a b : Bool) (h : P.underlying t = some .bool) : (Op.equalIn (d + 1) t (.bool a) (.bool b)).run P w = .ok (a == b) w := by
  simp [Op.equalIn, run_underlying h]
/-- Truths compared. -/
theorem ValO.eqB (ht : TabOk P tab) {t t' : TypeId} {x y : Operand} {a b r : Bool} {sz : Nat} (hl : look tab t = some (.bool, sz)) (hx : evL l x = .bool a) (hy : evL l y = .bool b) (hr : (a == b) = r) :
    ValO P w0 mu bs l ⟨dst, .binOp .eql t x y t', ty, pos, af, gd⟩ (.bool r) := by
  subst hr
  have hu := td_bool (look_ok ht hl)
  refine ⟨M.growAt_pure fun w => ?_⟩
  unfold execOp
  simp only [evL_eq, hx, hy]
  have h1 : (eqGuard .eql t x y (.bool a) (.bool b)).run P w = .ok () w := by simp [eqGuard]
  have h2 := run_equalIn_bool (P := P) w 9999 t a b hu
  have h3 : (binOp .eql t (.bool a) (.bool b)).run P w = .ok (.bool (a == b)) w := by
    simp only [binOp]
    simp [Op.equal, Op.maxDepth, h2]
  rw [Sem.run_bind, Sem.run_bind, h1, Result.andThen_ok, h3]
  rfl
/-- A cut of nothing. -/
theorem ValO.cutN (ht : TabOk P tab) {t : TypeId} {x : Operand} {lo hi : Option Operand} {e esz by_ sz : Nat} (hx : evL l x = .slice none 0 0) (hl : look tab t = some (.sl e esz by_, sz))
    (hlo : bnd (lo.map (evL l)) 0 0) (hhi : bnd (hi.map (evL l)) 0 0) : ValO P w0 mu bs l ⟨dst, .slice t x lo hi none, ty, pos, af, gd⟩ (.slice none 0 0) := by
  obtain ⟨hu, hs, _⟩ := td_sl (look_ok ht hl)
  refine ⟨M.growAt_pure fun w => ?_⟩
  cases hq : P.info? e with
  | none => simp [hq] at hs
  | some inf =>
    have hs' : inf.size = esz := by simpa [hq] using hs
    have hb := run_bounds (P := P) w true 0 0 0 0 _ _ hlo hhi (Nat.le_refl _) (Nat.le_refl _)
    unfold execOp
    simp only [evL_eq, hx]
    simp only [opt_eval, Instr.sliceAt, Instr.slice, Sem.run_bind, run_underlying hu, Result.andThen_ok, Sem.run_pure, Option.map_none, hb, sizeOf, typeInfo, run_program, hq, hs', Option.map_some]
    simp
end
theorem eqlT {P : Program} {w0 : World} {mu : List Nat} {bs : Mem} {l : List Value} {dst : Option Tmp} {ty : TypeId} {pos : String} {af : Array Edge} {gd : Option (Nat × Bool)} {tab : Tab} (ht : TabOk P tab) {t t' : TypeId} {x y : Operand} {k : IntKind} {L L' : List Int} {n e sz : Nat} (hl : look tab t = some (.arr n e 1, sz)) {k' : IntKind} {sz' : Nat} (hle : look tab e = some (.int k', sz')) (hx : evL l x = .agg (ints k L)) (hy : evL l y = .agg (ints k L'))
    (hg : P.eqGuardType P.depth t = false) (hL : L.length = n) (hM : L'.length = n) (e : L = L') : ValO P w0 mu bs l ⟨dst, .binOp .eql t x y t', ty, pos, af, gd⟩ (.bool true) := by
  have h := ValO.eqlI (mu := mu) (dst := dst) (t' := t') (ty := ty) (pos := pos) (af := af) (gd := gd) (w0 := w0) (bs := bs) ht hl hle hx hy hg hL hM
  rwa [decide_eq_true e] at h
end Sp
end Go.Proofs.Ytmchkfganpgheaa
