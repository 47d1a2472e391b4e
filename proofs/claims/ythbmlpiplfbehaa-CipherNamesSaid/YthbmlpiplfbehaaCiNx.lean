/-
  Seams within a region's list of operations.
  Regions that draw their order, among them new rows (constant strings): walked in no order at all; each operation yields what the last frame holds.
  States that are none: what their calls answer.
-/
import Derived.Test.YthbmlpiplfbehaaSlX
import Derived.Orders
import Derived.Test.YthbmlpiplfbehaaAny
import Derived.Test.YthbmlpiplfbehaaCiG
namespace Go.Proofs.Ythbmlpiplfbehaa
set_option linter.unusedSimpArgs false
set_option linter.unusedVariables false
open Go Go.RowKit
namespace Sp
open F M
section
variable {P : Program} {ops : Array Oper} {X : Exit → Act → World → Prop} {ys : List Oper}
theorem wpList_app : ∀ (xs : List Oper) (a : Act) (w : World), wpList P ops (Exit.then (wpList P ops X ys) X) xs a w → wpList P ops X (xs ++ ys) a w
  | [], _, _, h => h
  | o :: xs, a, w, h => by
    show wpList P ops X (o :: (xs ++ ys)) a w
    unfold wpList at h ⊢
    split
    · rename_i hw
      rw [if_pos hw] at h
      rcases h with h | ⟨h1, h2⟩
      · refine .inl ?_
        have h2 := Oper.wp_mono (K' := wpList P ops X (xs ++ ys)) (fun a w h => wpList_app xs a w h) h
        unfold Oper.wp at h2 ⊢
        revert h2
        generalize (execOp a.eval o).run P w = r
        intro h2
        cases r with
        | ok nx w' => cases nx <;> exact h2
        | halt x w' => cases x <;> exact h2
      · exact .inr ⟨h1, h2⟩
    · rename_i hw
      rw [if_neg hw] at h
      exact wpList_app xs _ _ h
theorem rawL_chunk {w0 W : World} {mu : List Nat} {bs : Mem} {l : List Value} {xs : List Oper} (hw : OwnM w0 mu W bs) (hx : ∀ K : List Value → Mem → Prop, (∀ l bs, (∀ W', OwnM w0 mu W' bs → wpList P ops X ys ⟨l.toArray, []⟩ W') → K l bs) → SL P ops w0 mu xs (fun e l bs => e = .normal ∧ K l bs) l bs) :
    wpList P ops X (xs ++ ys) ⟨l.toArray, []⟩ W :=
  wpList_app xs _ _ ((hx _ fun _ _ h => h).run W _ hw (by rintro e l' bs' W' ⟨rfl, hR⟩ hw'; exact hR W' hw'))
/-- The bytes of a constant string, at any place of a region. -/
theorem rawL_bytesC {tab : Tab} (ht : TabOk P tab) {w0 W : World} {mu : List Nat} {bs : Mem} {l : List Value} {t e n by_ sz : Nat} {parts : Array (Nat × Operand)} {cells : Array Value} {d1 : Nat} {dst2 : Option Tmp} {ty ty2 : TypeId} {pos pos2 : String} {af af2 : Array Edge} (hw : OwnM w0 mu W bs)
    (hl : look tab t = some (.sl e 1 by_, sz)) (hle : look tab e = some (.int .u8, 1)) (hz : (P.info? e).map (·.zero) = some (some (.int .u8 0))) (hn : 0 < n) (hs : n ≤ 16777216)
    {vals : List (Nat × Value)} (hv : parts.toList.map (fun p => (p.1, evL l p.2)) = vals)
    (hf : Instr.fill (fun i => some (i * 1, 1)) ((Array.range (n * 1)).map ((Value.cells (.int .u8 0))[· % (Value.cells (.int .u8 0)).size]!)) vals = some cells)
    {l1 l' : Nat → List Value} (hp : ∀ b, putL l (some d1) (.slice (some ⟨b, 0, none⟩) n n) = l1 b) (hx : ∀ b, evL (l1 b) (.tmp d1) = .slice (some ⟨b, 0, none⟩) n n) (hp2 : ∀ b, putL (l1 b) dst2 (.slice (some ⟨b, 0, none⟩) n n) = l' b)
    (h : ∀ w1 b fz, OwnM w0 mu w1 bs → Below W.heap.size W w1 → w1.heap[b]? = some (.cells cells e fz) → b ∉ bs.map (·.1) → W.heap.size ≤ b → wpList P ops X ys ⟨(l' b).toArray, []⟩ w1) :
    wpList P ops X (⟨some d1, .buildSlice t n parts, ty, pos, af, none⟩ :: ⟨dst2, .convert t t (.tmp d1), ty2, pos2, af2, none⟩ :: ys) ⟨l.toArray, []⟩ W := by
  subst hv
  obtain ⟨hu, hsz, _⟩ := td_sl (look_ok ht hl)
  have hue := td_int (look_ok ht hle)
  cases hq : P.info? e with
  | none => simp [hq] at hsz
  | some inf =>
    have hs1 : inf.size = 1 := by simpa [hq] using hsz
    have hz1 : inf.zero = some (.int .u8 0) := by simpa [hq] using hz
    refine wpList_plain rfl fun K hK => ?_
    refine wp_buildSlice t e n parts rfl cells inf _ hu hq hz1 (by rw [hs1]; omega) (by rw [hs1]; omega) ?_ ?_
    · rw [Array.toList_map, ← hf, hs1]
      simp only [evL_eq]
    · refine hK _ _ ?_
      rw [putL_eq, hp]
      refine wpList_plain rfl fun K hK => ?_
      have hc := Go.Lib.run_convert_bytes_const (P := P) W t e cells n n hu hue
      unfold Oper.wp execOp
      simp only [evL_eq, hx, Sem.run_bind, hc, Result.andThen_ok, Sem.run_pure]
      refine hK _ _ ?_
      rw [putL_eq, hp2]
      have hbl : Below W.heap.size W (W.alloc (.cells cells e (cells.size, cells.size + 1))) := (Below.refl _ W).alloc (Nat.le_refl _) _
      refine h _ _ _ (hw.grow hbl) hbl (heap_alloc_new _ _) (fun hm => ?_) (Nat.le_refl _)
      obtain ⟨p, hp', he⟩ := List.mem_map.1 hm
      have := hw.lt hp'
      omega
end
end Sp
end Go.Proofs.Ythbmlpiplfbehaa

namespace Go.Proofs.Ythbmlpiplfbehaa
set_option linter.unusedSimpArgs false
set_option linter.unusedVariables false
open Go Go.RowKit
namespace Sp
open M F
/-- A row that an operation of the region makes, and the conversion that marks it. -/
structure Born where
  at_ : Nat
  mark : Option Nat
  V : Nat → Value
  cells : Array Value
  T : TypeId
def Born.fz (z : Born) (marked : Bool) : Nat × Nat := if marked then (z.cells.size, z.cells.size + 1) else (0, 0)
def Born.last (z : Born) : Nat := z.mark.getD z.at_
def up (β : Nat → Nat) (k b : Nat) : Nat → Nat := fun j => if j = k then b else β j
theorem up_same (β : Nat → Nat) (k b : Nat) : up β k b k = b := by simp [up]
theorem up_other (β : Nat → Nat) {k j : Nat} (b : Nat) (h : j ≠ k) : up β k b j = β j := by simp [up, h]
def setObj (w : World) (b : Nat) (o : Obj) : World := { w with heap := w.heap.setIfInBounds b o }
def actL (l : List Value) : Act := ⟨l.toArray, []⟩
def drwB (ops : Array Oper) (n : Nat) (Z : List Born) : Bool :=
  ((List.range ops.size).all fun i => match ops[i]? with
    | none => false
    | some o => o.guard.isNone && (match o.op with | .select _ _ => false | _ => true) && (match o.dst with | none => false | some d => decide (d < n)) &&
      (o.after.all fun e => !Region.binds .any e || decide (e.on < i)) &&
      ((List.range ops.size).all fun j => match ops[j]? with
        | none => false
        | some p => (i == j || o.dst != p.dst) && (match p.dst with | none => false | some t => !(o.looksAt ops).contains t || (o.after.any fun e => Region.binds .any e && e.on == j)))) &&
  ((List.range Z.length).all fun k => match Z[k]? with
    | none => false
    | some z => decide (z.at_ < ops.size) && z.mark != some z.at_ && (z.mark.all fun c => decide (c < ops.size)) && (List.range Z.length).all fun k' => match Z[k']? with
      | none => false
      | some z' => k == k' || (z.at_ != z'.at_ && z'.mark != some z.at_ && (z.mark.isNone || z.mark != z'.mark)))
section
variable {P : Program} {w0 : World} {mu : List Nat} {m : Mem} {L : List Oper} {ops : Array Oper} {l : List Value} {F : (Nat → Nat) → List Value} {Z : List Born}
structure DInv (ops : Array Oper) (w0 : World) (mu : List Nat) (m : Mem) (l : List Value) (F : (Nat → Nat) → List Value) (Z : List Born) (listed : Array Bool) (a : Act) (w : World) (β : Nat → Nat) : Prop where
  inv : HeadInv .any ops ops.size listed
  defers : a.defers = []
  size : a.tmps.size = l.length
  agree : ∀ t, (∀ (j : Nat) (oj : Oper), ops[j]? = some oj → oj.dst = some t → listed.getD j false = true) → a.tmps[t]? = (F β)[t]?
  own : OwnM w0 mu w m
  rows : ∀ (k : Nat) (z : Born), Z[k]? = some z → listed.getD z.at_ false = true → w0.heap.size ≤ β k ∧ β k ∉ m.map (·.1) ∧ w.heap[β k]? = some (.cells z.cells z.T (z.fz (z.mark.any fun c => listed.getD c false)))
  apart : ∀ (k k' : Nat) (z z' : Born), Z[k]? = some z → Z[k']? = some z' → k ≠ k' → listed.getD z.at_ false = true → listed.getD z'.at_ false = true → β k ≠ β k'
/-- What is known of the rows that an operation waits for. -/
def Rows' (w0 : World) (Z : List Born) (o : Oper) (β : Nat → Nat) (w : World) : Prop := ∀ (k : Nat) (z : Born), Z[k]? = some z → (∃ e ∈ o.after, Region.binds .any e = true ∧ e.on = z.last) → w0.heap.size ≤ β k ∧ w.heap[β k]? = some (.cells z.cells z.T (z.fz z.mark.isSome))
inductive DOk (P : Program) (w0 : World) (mu : List Nat) (m : Mem) (F : (Nat → Nat) → List Value) (Z : List Born) (i : Nat) (o : Oper) : Prop where
  | birth (k : Nat) (z : Born) (hz : Z[k]? = some z) (hi : z.at_ = i) (h : ∀ β, ∃ d, o.dst = some d ∧ (F β)[d]? = some (z.V (β k)) ∧ ∀ w, (execOp (actL (F β)).eval o).run P w = .ok (.value (z.V w.heap.size)) (w.alloc (.cells z.cells z.T)))
  | mark (k : Nat) (z : Born) (hz : Z[k]? = some z) (hi : z.mark = some i) (ha : ∃ e ∈ o.after, Region.binds .any e = true ∧ e.on = z.at_) (h : ∀ β, ∃ d, o.dst = some d ∧ (F β)[d]? = some (z.V (β k)) ∧ ∀ w, w.heap[β k]? = some (.cells z.cells z.T (0, 0)) → (execOp (actL (F β)).eval o).run P w = .ok (.value (z.V (β k))) (setObj w (β k) (.cells z.cells z.T (z.cells.size, z.cells.size + 1))))
  | val (hi : ∀ z ∈ Z, z.at_ ≠ i ∧ z.mark ≠ some i) (h : ∀ β, ∃ d v, o.dst = some d ∧ (F β)[d]? = some v ∧ ∀ w, OwnM w0 mu w m → Rows' w0 Z o β w → M.growUpon P w v ((execOp (actL (F β)).eval o).run P w))

structure Drw (P : Program) (ops : Array Oper) (w0 : World) (mu : List Nat) (m : Mem) (l : List Value) (F : (Nat → Nat) → List Value) (Z : List Born) : Prop where
  B : drwB ops l.length Z = true
  len : ∀ β, (F β).length = l.length
  still : ∀ β t, (∀ (j : Nat) (oj : Oper), ops[j]? = some oj → oj.dst ≠ some t) → (F β)[t]? = l[t]?
  dep_ : ∀ (k : Nat) (z : Born) β b t, Z[k]? = some z → (∃ (j : Nat) (oj : Oper), ops[j]? = some oj ∧ oj.dst = some t ∧ (j = z.at_ ∨ dep .any ops ops.size j z.at_ = true)) ∨ (F (up β k b))[t]? = (F β)[t]?
  ok : ∀ (i : Nat) (o : Oper), ops[i]? = some o → DOk P w0 mu m F Z i o
theorem Drw.op (D : Drw P ops w0 mu m l F Z) {i : Nat} {o : Oper} (ho : ops[i]? = some o) : o.guard = none ∧ (∀ cs b, o.op ≠ .select cs b) ∧ (∃ d, o.dst = some d ∧ d < l.length) ∧ (∀ e ∈ o.after, Region.binds .any e = true → e.on < i) ∧
    ∀ (j : Nat) (p : Oper), ops[j]? = some p → (i ≠ j → o.dst ≠ p.dst) ∧ ∀ t, p.dst = some t → t ∈ o.looksAt ops → ∃ e ∈ o.after, Region.binds .any e = true ∧ e.on = j := by
  have hB := D.B
  unfold drwB at hB
  rw [Bool.and_eq_true] at hB
  have hlt : i < ops.size := (Array.getElem?_eq_some_iff.1 ho).1
  have h := List.all_eq_true.1 hB.1 i (List.mem_range.2 hlt)
  simp only [ho, Bool.and_eq_true] at h
  obtain ⟨⟨⟨⟨h1, h2⟩, h3⟩, h4⟩, h5⟩ := h
  refine ⟨by simpa using h1, fun cs b he => (by rw [he] at h2; cases h2), ?_, fun e he hb => ?_, fun j p hj => ?_⟩
  · cases hd : o.dst with
    | none => rw [hd] at h3; cases h3
    | some d => rw [hd] at h3; exact ⟨d, rfl, by simpa using h3⟩
  · have h6 := Array.all_eq_true_iff_forall_mem.1 h4 e he
    rw [hb] at h6
    simpa using h6
  · have hltj : j < ops.size := (Array.getElem?_eq_some_iff.1 hj).1
    have h6 := List.all_eq_true.1 h5 j (List.mem_range.2 hltj)
    simp only [hj, Bool.and_eq_true] at h6
    refine ⟨fun hne => ?_, fun t ht hm => ?_⟩
    · have := h6.1
      simp only [Bool.or_eq_true, beq_iff_eq, bne_iff_ne] at this
      exact this.resolve_left hne
    · have := h6.2
      simp only [ht, Bool.or_eq_true, Bool.not_eq_true'] at this
      rcases this with h7 | h7
      · have : (o.looksAt ops).contains t = true := by simpa using hm
        rw [this] at h7; cases h7
      · obtain ⟨e, he, hb⟩ := Array.any_eq_true'.1 h7
        simp only [Bool.and_eq_true, beq_iff_eq] at hb
        exact ⟨e, he, hb.1, hb.2⟩
theorem Drw.born (D : Drw P ops w0 mu m l F Z) {k : Nat} {z : Born} (hz : Z[k]? = some z) : z.at_ < ops.size ∧ (z.mark ≠ some z.at_ ∧ ∀ c, z.mark = some c → c < ops.size) ∧ ∀ (k' : Nat) (z' : Born), Z[k']? = some z' → k ≠ k' → z.at_ ≠ z'.at_ ∧ z'.mark ≠ some z.at_ ∧ (z.mark = none ∨ z.mark ≠ z'.mark) := by
  have hB := D.B
  unfold drwB at hB
  rw [Bool.and_eq_true] at hB
  have hlt : k < Z.length := (List.getElem?_eq_some_iff.1 hz).1
  have h := List.all_eq_true.1 hB.2 k (List.mem_range.2 hlt)
  simp only [hz, Bool.and_eq_true, decide_eq_true_eq, bne_iff_ne] at h
  refine ⟨h.1.1.1, ⟨h.1.1.2, fun c hc => by have := h.1.2; rw [hc] at this; simpa using this⟩, fun k' z' hz' hne => ?_⟩
  have hlt' : k' < Z.length := (List.getElem?_eq_some_iff.1 hz').1
  have h2 := List.all_eq_true.1 h.2 k' (List.mem_range.2 hlt')
  simp only [hz', Bool.or_eq_true, beq_iff_eq, Bool.and_eq_true, bne_iff_ne, Option.isNone_iff_eq_none] at h2
  have h3 := h2.resolve_left hne
  exact ⟨h3.1.1, h3.1.2, h3.2⟩
theorem DInv.exec (D : Drw P ops w0 mu m l F Z) {listed : Array Bool} {a : Act} {w : World} {β : Nat → Nat} (I : DInv ops w0 mu m l F Z listed a w β) {i : Nat} {o : Oper} (ho : ops[i]? = some o) (hr : i ∈ Region.ready .any ops listed) :
    execOp a.eval o = execOp (actL (F β)).eval o := by
  obtain ⟨_, hsel, _, _, hc⟩ := D.op ho
  refine execOp_congr o hsel fun x hx => ?_
  cases x with
  | tmp t =>
    have hm : t ∈ o.looksAt ops := List.mem_append_left _ (List.mem_filterMap.2 ⟨.tmp t, by simpa using hx, rfl⟩)
    have h := I.agree t fun j oj hj hd => by
      obtain ⟨e, he, hb, rfl⟩ := (hc j oj hj).2 t hd hm
      obtain ⟨_, o', ho', hall⟩ := mem_ready.1 hr
      obtain rfl : o' = o := Option.some.inj (ho'.symm.trans ho)
      exact hall e he hb
    show a.tmps.getD t undef = (F β).toArray.getD t undef
    rw [Array.getD_eq_getD_getElem?, Array.getD_eq_getD_getElem?, h, List.getElem?_toArray]
  | const v => rfl
  | global g => rfl
  | func f => rfl
theorem getD_set_self {listed : Array Bool} {i : Nat} (h : i < listed.size) (d : Bool) : (listed.setIfInBounds i true).getD i d = true := by simp [h]
theorem put_get {a : Act} {d t : Nat} {v : Value} (h : d < a.tmps.size) : (a.put (some d) v).tmps[t]? = if t = d then some v else a.tmps[t]? := by
  show (a.tmps.setIfInBounds d v)[t]? = _
  rw [Array.getElem?_setIfInBounds]
  by_cases htd : t = d
  · subst htd; simp [h]
  · rw [if_neg (Ne.symm htd), if_neg htd]
/-- The frame when an operation has put what the last frame holds. -/
theorem DInv.agree_set (D : Drw P ops w0 mu m l F Z) {listed : Array Bool} {a : Act} {w : World} {β : Nat → Nat} (I : DInv ops w0 mu m l F Z listed a w β) {i : Nat} {o : Oper} {d : Nat} (ho : ops[i]? = some o) (hd : o.dst = some d) {v : Value} (hv : (F β)[d]? = some v) :
    ∀ t, (∀ (j : Nat) (oj : Oper), ops[j]? = some oj → oj.dst = some t → (listed.setIfInBounds i true).getD j false = true) → (a.put o.dst v).tmps[t]? = (F β)[t]? := by
  intro t ht
  obtain ⟨_, _, ⟨d', hd', hdl⟩, _, hc⟩ := D.op ho
  obtain rfl : d = d' := Option.some.inj (hd.symm.trans hd')
  rw [hd, put_get (by rw [I.size]; exact hdl)]
  by_cases htd : t = d
  · subst htd; rw [if_pos rfl, hv]
  · rw [if_neg htd]
    refine I.agree t fun j oj hj hjd => ?_
    have h1 := ht j oj hj hjd
    by_cases hij : i = j
    · subst hij
      obtain rfl : oj = o := Option.some.inj (hj.symm.trans ho)
      exact absurd (Option.some.inj (hjd.symm.trans hd)) htd
    · rwa [getD_set_ne false hij] at h1
theorem DInv.put_size {listed : Array Bool} {a : Act} {w : World} {β : Nat → Nat} (I : DInv ops w0 mu m l F Z listed a w β) (dst : Option Tmp) (v : Value) : (a.put dst v).tmps.size = l.length ∧ (a.put dst v).defers = [] := by
  cases dst with
  | none => exact ⟨I.size, I.defers⟩
  | some d => exact ⟨by simp [Act.put, I.size], I.defers⟩
/-- A value's operation. -/
theorem DInv.val (D : Drw P ops w0 mu m l F Z) {listed : Array Bool} {a : Act} {w w' : World} {β : Nat → Nat} (I : DInv ops w0 mu m l F Z listed a w β) {i : Nat} {o : Oper} {d : Nat} (ho : ops[i]? = some o) (hr : i ∈ Region.ready .any ops listed) (hi : ∀ z ∈ Z, z.at_ ≠ i ∧ z.mark ≠ some i) (hd : o.dst = some d) {v : Value} (hv : (F β)[d]? = some v) (hb : Below w.heap.size w w') :
    DInv ops w0 mu m l F Z (listed.setIfInBounds i true) (a.put o.dst v) w' β := by
  have hlt : i < ops.size := (Array.getElem?_eq_some_iff.1 ho).1
  have hs := I.put_size o.dst v
  have back : ∀ (k : Nat) (z : Born), Z[k]? = some z → (listed.setIfInBounds i true).getD z.at_ false = true → listed.getD z.at_ false = true := fun k z hz h => by
    rwa [getD_set_ne false (Ne.symm (hi z (List.mem_of_getElem? hz)).1)] at h
  refine ⟨I.inv.set hr hlt, hs.2, hs.1, I.agree_set D ho hd hv, I.own.grow hb, fun k z hz hl => ?_, fun k k' z z' hz hz' hne h1 h2 => I.apart k k' z z' hz hz' hne (back k z hz h1) (back k' z' hz' h2)⟩
  obtain ⟨h1, h2, h3⟩ := I.rows k z hz (back k z hz hl)
  refine ⟨h1, h2, ?_⟩
  rw [hb.block _ (Array.getElem?_eq_some_iff.1 h3).1, h3]
  cases hm : z.mark with
  | none => rfl
  | some c =>
    have hci : i ≠ c := fun he => (hi z (List.mem_of_getElem? hz)).2 (by rw [hm, he])
    simp only [Option.any_some, getD_set_ne false hci]
/-- A row is made. -/
theorem DInv.birth (D : Drw P ops w0 mu m l F Z) {listed : Array Bool} {a : Act} {w : World} {β : Nat → Nat} (I : DInv ops w0 mu m l F Z listed a w β) {i : Nat} {o : Oper} {d k : Nat} {z : Born} (ho : ops[i]? = some o) (hr : i ∈ Region.ready .any ops listed) (hz : Z[k]? = some z) (hi : z.at_ = i) (hd : o.dst = some d)
    (hv : (F (up β k w.heap.size))[d]? = some (z.V w.heap.size)) : DInv ops w0 mu m l F Z (listed.setIfInBounds i true) (a.put o.dst (z.V w.heap.size)) (w.alloc (.cells z.cells z.T)) (up β k w.heap.size) := by
  subst hi
  have hlt : z.at_ < ops.size := (Array.getElem?_eq_some_iff.1 ho).1
  have hb : Below w.heap.size w (w.alloc (.cells z.cells z.T)) := (Below.refl _ w).alloc (Nat.le_refl _) _
  have hs := I.put_size o.dst (z.V w.heap.size)
  obtain ⟨_, ⟨hmk, hmc⟩, hall⟩ := D.born hz
  have hun : listed.getD z.at_ true = false := (mem_ready.1 hr).1
  obtain ⟨_, _, ⟨d', hd', hdl⟩, _, hc⟩ := D.op ho
  obtain rfl : d = d' := Option.some.inj (hd.symm.trans hd')
  refine ⟨I.inv.set hr hlt, hs.2, hs.1, fun t ht => ?_, I.own.grow hb, fun k' z' hz' hl => ?_, fun k1 k2 z1 z2 hz1 hz2 hne h1 h2 => ?_⟩
  · rw [hd, put_get (by rw [I.size]; exact hdl)]
    by_cases htd : t = d
    · subst htd; rw [if_pos rfl, hv]
    · rw [if_neg htd]
      rcases D.dep_ k z β w.heap.size t hz with ⟨j, oj, hj, hjd, hdep⟩ | he
      · have h1 := ht j oj hj hjd
        rcases hdep with rfl | hdep
        · obtain rfl : oj = o := Option.some.inj (hj.symm.trans ho)
          exact absurd (Option.some.inj (hjd.symm.trans hd)) htd
        · by_cases hij : z.at_ = j
          · subst hij
            obtain rfl : oj = o := Option.some.inj (hj.symm.trans ho)
            exact absurd (Option.some.inj (hjd.symm.trans hd)) htd
          · rw [getD_set_ne false hij, (dep_unlisted I.inv hun _ _ hdep).1] at h1
            cases h1
      · rw [he]
        refine I.agree t fun j oj hj hjd => ?_
        have h1 := ht j oj hj hjd
        by_cases hij : z.at_ = j
        · subst hij
          obtain rfl : oj = o := Option.some.inj (hj.symm.trans ho)
          exact absurd (Option.some.inj (hjd.symm.trans hd)) htd
        · rwa [getD_set_ne false hij] at h1
  · by_cases hk : k' = k
    · subst hk
      obtain rfl : z' = z := Option.some.inj (hz'.symm.trans hz)
      rw [up_same]
      refine ⟨I.own.size, fun hm => ?_, ?_⟩
      · obtain ⟨p, hp, he⟩ := List.mem_map.1 hm
        have := I.own.lt hp
        omega
      · have hn : (w.alloc (.cells z'.cells z'.T)).heap[w.heap.size]? = some (.cells z'.cells z'.T) := heap_alloc_new _ _
        rw [hn]
        cases hm : z'.mark with
        | none => rfl
        | some c =>
          have hci : z'.at_ ≠ c := fun he => hmk (by rw [hm, he])
          have hcu : listed.getD c false = false := by
            cases hl2 : listed.getD c false with
            | false => rfl
            | true =>
              exfalso
              have hcl : c < ops.size := by
                rw [← I.inv.size]
                rcases Nat.lt_or_ge c listed.size with h' | h'
                · exact h'
                · simp [Array.getElem?_eq_none h'] at hl2
              obtain ⟨oc, hoc⟩ : ∃ oc, ops[c]? = some oc := ⟨_, Array.getElem?_eq_getElem hcl⟩
              cases D.ok c oc hoc with
              | birth k1 z1 hz1 hi1 h1 =>
                by_cases hkk : k' = k1
                · subst hkk
                  obtain rfl : z1 = z' := Option.some.inj (hz1.symm.trans hz)
                  exact hmk (by rw [hm, hi1])
                · have := ((D.born hz1).2.2 k' z' hz (Ne.symm hkk)).2.1
                  rw [hm, hi1] at this
                  exact this rfl
              | mark k1 z1 hz1 hi1 ha1 h1 =>
                obtain ⟨e, he, hbd, hon⟩ := ha1
                by_cases hkk : k' = k1
                · subst hkk
                  obtain rfl : z1 = z' := Option.some.inj (hz1.symm.trans hz)
                  have h5 := I.inv.closed c oc hoc hl2 e he hbd
                  rw [hon, getD_both hun] at h5
                  cases h5
                · rcases (hall k1 z1 hz1 hkk).2.2 with h6 | h6
                  · rw [hm] at h6; cases h6
                  · exact h6 (by rw [hm, hi1])
              | val hi1 h1 => exact (hi1 z' (List.mem_of_getElem? hz)).2 (by rw [hm])
          simp only [Option.any_some, getD_set_ne false hci, hcu, Born.fz]
          rfl
    · rw [up_other _ _ hk]
      have hne := (hall k' z' hz' (Ne.symm hk))
      have hl2 : listed.getD z'.at_ false = true := by rwa [getD_set_ne false hne.1] at hl
      obtain ⟨h1, h2, h3⟩ := I.rows k' z' hz' hl2
      refine ⟨h1, h2, ?_⟩
      rw [hb.block _ (Array.getElem?_eq_some_iff.1 h3).1, h3]
      cases hm : z'.mark with
      | none => rfl
      | some c =>
        have hci : z.at_ ≠ c := fun he => hne.2.1 (by rw [hm, he])
        simp only [Option.any_some, getD_set_ne false hci]
  · have old : ∀ k3 z3, Z[k3]? = some z3 → k3 ≠ k → (listed.setIfInBounds z.at_ true).getD z3.at_ false = true → listed.getD z3.at_ false = true ∧ β k3 < w.heap.size := fun k3 z3 hz3 hk3 hl3 => by
      have h5 : listed.getD z3.at_ false = true := by rwa [getD_set_ne false (hall k3 z3 hz3 (Ne.symm hk3)).1] at hl3
      exact ⟨h5, (Array.getElem?_eq_some_iff.1 (I.rows k3 z3 hz3 h5).2.2).1⟩
    by_cases hk1 : k1 = k
    · subst hk1
      have hk2 : k2 ≠ k1 := Ne.symm hne
      rw [up_same, up_other _ _ hk2]
      have := (old k2 z2 hz2 hk2 h2).2
      omega
    · by_cases hk2 : k2 = k
      · subst hk2
        rw [up_same, up_other _ _ hk1]
        have := (old k1 z1 hz1 hk1 h1).2
        omega
      · rw [up_other _ _ hk1, up_other _ _ hk2]
        exact I.apart k1 k2 z1 z2 hz1 hz2 hne (old k1 z1 hz1 hk1 h1).1 (old k2 z2 hz2 hk2 h2).1
theorem setObj_own {w : World} {b : Nat} {o : Obj} (h : OwnM w0 mu w m) (h1 : w0.heap.size ≤ b) (h2 : b ∉ m.map (·.1)) : OwnM w0 mu (setObj w b o) m := by
  refine ⟨h.os, h.tape, h.output, by simpa [setObj] using h.size, fun c hc hm => ?_, fun p hp => ⟨(h.here p hp).1, ?_⟩, h.apart⟩
  · have hne : b ≠ c := by omega
    simp only [setObj, Array.getElem?_setIfInBounds_ne hne]
    exact h.rest c hc hm
  · have hne : b ≠ p.1 := fun he => h2 (he ▸ List.mem_map_of_mem hp)
    simp only [setObj, Array.getElem?_setIfInBounds_ne hne]
    exact (h.here p hp).2
/-- A row is marked. -/
theorem DInv.marked (D : Drw P ops w0 mu m l F Z) {listed : Array Bool} {a : Act} {w : World} {β : Nat → Nat} (I : DInv ops w0 mu m l F Z listed a w β) {i : Nat} {o : Oper} {d k : Nat} {z : Born} (ho : ops[i]? = some o) (hr : i ∈ Region.ready .any ops listed) (hz : Z[k]? = some z) (hi : z.mark = some i) (ha : listed.getD z.at_ false = true) (hd : o.dst = some d)
    (hv : (F β)[d]? = some (z.V (β k))) : DInv ops w0 mu m l F Z (listed.setIfInBounds i true) (a.put o.dst (z.V (β k))) (setObj w (β k) (.cells z.cells z.T (z.cells.size, z.cells.size + 1))) β := by
  have hlt : i < ops.size := (Array.getElem?_eq_some_iff.1 ho).1
  have hs := I.put_size o.dst (z.V (β k))
  obtain ⟨hat, ⟨hmk, hmc⟩, hall⟩ := D.born hz
  obtain ⟨g1, g2, g3⟩ := I.rows k z hz ha
  have hbl := (Array.getElem?_eq_some_iff.1 g3).1
  have hia : ∀ (k' : Nat) (z' : Born), Z[k']? = some z' → i ≠ z'.at_ := fun k' z' hz' he => by
    by_cases hk : k' = k
    · subst hk
      obtain rfl : z' = z := Option.some.inj (hz'.symm.trans hz)
      exact hmk (by rw [hi, he])
    · exact ((D.born hz').2.2 k z hz hk).2.1 (by rw [hi, he])
  refine ⟨I.inv.set hr hlt, hs.2, hs.1, I.agree_set D ho hd hv, setObj_own I.own g1 g2, fun k' z' hz' hl => ?_, fun k1 k2 z1 z2 hz1 hz2 hne h1 h2 => I.apart k1 k2 z1 z2 hz1 hz2 hne (by rwa [getD_set_ne false (hia k1 z1 hz1)] at h1) (by rwa [getD_set_ne false (hia k2 z2 hz2)] at h2)⟩
  have hl2 : listed.getD z'.at_ false = true := by rwa [getD_set_ne false (hia k' z' hz')] at hl
  obtain ⟨h1, h2, h3⟩ := I.rows k' z' hz' hl2
  refine ⟨h1, h2, ?_⟩
  by_cases hk : k' = k
  · subst hk
    obtain rfl : z' = z := Option.some.inj (hz'.symm.trans hz)
    simp only [setObj, Array.getElem?_setIfInBounds_self_of_lt hbl, hi, Option.any_some, getD_set_self (by rw [I.inv.size]; exact hlt), Born.fz, if_true]
  · have hne : β k ≠ β k' := I.apart k k' z z' hz hz' (Ne.symm hk) ha hl2
    simp only [setObj, Array.getElem?_setIfInBounds_ne hne]
    rw [h3]
    cases hm : z'.mark with
    | none => rfl
    | some c =>
      have hci : i ≠ c := fun he => by
        rcases (hall k' z' hz' (Ne.symm hk)).2.2 with h6 | h6
        · rw [hi] at h6; cases h6
        · exact h6 (by rw [hi, hm, he])
      simp only [Option.any_some, getD_set_ne false hci]
theorem DInv.step (D : Drw P ops w0 mu m l F Z) {listed : Array Bool} {a : Act} {w : World} {β : Nat → Nat} (I : DInv ops w0 mu m l F Z listed a w β) {i : Nat} (hr : i ∈ Region.ready .any ops listed) {K : Act → World → Prop} {Q' : Exit → Act → World → Prop}
    (hK : ∀ a' w' β', DInv ops w0 mu m l F Z (listed.setIfInBounds i true) a' w' β' → K a' w') : wpOp P ops Q' i K a w := by
  obtain ⟨hun, o, ho, hall⟩ := mem_ready.1 hr
  obtain ⟨hg, _, _, _, _⟩ := D.op ho
  have hx := I.exec D ho hr
  unfold wpOp
  simp only [ho]
  rw [if_pos (by simp [Region.wanted, hg])]
  refine .inl ?_
  unfold Oper.wp
  cases D.ok i o ho with
  | birth k z hz hi h =>
    rw [hx]
    obtain ⟨d, hd, _, hrun⟩ := h β
    obtain ⟨d', hd', hv, _⟩ := h (up β k w.heap.size)
    obtain rfl : d = d' := Option.some.inj (hd.symm.trans hd')
    rw [hrun w]
    rw [up_same] at hv
    exact hK _ _ _ (I.birth D ho hr hz hi hd hv)
  | mark k z hz hi ha h =>
    rw [hx]
    obtain ⟨d, hd, hv, hrun⟩ := h β
    obtain ⟨e, he, hb, hon⟩ := ha
    have hal : listed.getD z.at_ false = true := by rw [← hon]; exact hall e he hb
    obtain ⟨g1, g2, g3⟩ := I.rows k z hz hal
    simp only [hi, Option.any_some, getD_both hun, Born.fz] at g3
    rw [hrun w g3]
    exact hK _ _ _ (I.marked D ho hr hz hi hal hd hv)
  | val hi h =>
    rw [hx]
    obtain ⟨d, v, hd, hv, hrun⟩ := h β
    have hrow : Rows' w0 Z o β w := fun k z hz ⟨e, he, hb, hon⟩ => by
      have hl := hall e he hb
      rw [hon] at hl
      have hat : listed.getD z.at_ false = true := by
        cases hm : z.mark with
        | none => simpa [Born.last, hm] using hl
        | some c =>
          have hlc : listed.getD c false = true := by simpa [Born.last, hm] using hl
          have hcl : c < ops.size := by
            rw [← I.inv.size]
            rcases Nat.lt_or_ge c listed.size with h' | h'
            · exact h'
            · simp [Array.getElem?_eq_none h'] at hlc
          obtain ⟨oc, hoc⟩ : ∃ oc, ops[c]? = some oc := ⟨_, Array.getElem?_eq_getElem hcl⟩
          cases D.ok c oc hoc with
          | birth k1 z1 hz1 hi1 h1 =>
            exfalso
            by_cases hkk : k = k1
            · subst hkk
              obtain rfl : z1 = z := Option.some.inj (hz1.symm.trans hz)
              exact (D.born hz).2.1.1 (by rw [hm, hi1])
            · have := ((D.born hz1).2.2 k z hz (Ne.symm hkk)).2.1
              rw [hm, hi1] at this
              exact this rfl
          | mark k1 z1 hz1 hi1 ha1 h1 =>
            obtain ⟨e1, he1, hbd, hon1⟩ := ha1
            by_cases hkk : k = k1
            · subst hkk
              obtain rfl : z1 = z := Option.some.inj (hz1.symm.trans hz)
              have h5 := I.inv.closed c oc hoc hlc e1 he1 hbd
              rwa [hon1] at h5
            · exfalso
              rcases ((D.born hz).2.2 k1 z1 hz1 hkk).2.2 with h6 | h6
              · rw [hm] at h6; cases h6
              · exact h6 (by rw [hm, hi1])
          | val hi1 h1 => exact absurd hm (hi1 z (List.mem_of_getElem? hz)).2
      obtain ⟨g1, _, g3⟩ := I.rows k z hz hat
      refine ⟨g1, ?_⟩
      rw [g3]
      cases hm : z.mark with
      | none => rfl
      | some c =>
        have hlc : listed.getD c false = true := by simpa [Born.last, hm] using hl
        simp only [Option.any_some, hlc, Option.isSome_some]
    have h3 := hrun w I.own hrow
    generalize (execOp (actL (F β)).eval o).run P w = r at h3
    cases r with
    | ok nx w' =>
      cases nx <;> simp only [M.growUpon] at h3 <;> simp only [Oper.upon]
      case value u =>
        obtain ⟨e1, e2⟩ := h3
        rw [e1, e2]
        exact hK _ _ _ (I.val D ho hr hi hd hv (Below.refl _ w))
      case skip =>
        obtain ⟨e1, e2⟩ := h3
        rw [e1, ← e2]
        exact hK _ _ _ (I.val D ho hr hi hd hv (Below.refl _ w))
      case enter f args =>
        obtain ⟨e1, hc⟩ := h3
        rw [e1]
        exact hc.mono fun e w'' ⟨he, hw''⟩ => by subst he; exact hK _ _ _ (I.val D ho hr hi hd hv hw'')
      case row row args =>
        obtain ⟨e1, hc⟩ := h3
        rw [e1]
        exact hc.mono fun u w'' ⟨he, hw''⟩ => by subst he; exact hK _ _ _ (I.val D ho hr hi hd hv hw'')
    | halt x w' => simp only [M.growUpon] at h3
/-- How many are not listed yet. -/
def unl (listed : Array Bool) : Nat → Nat
  | 0 => 0
  | n + 1 => unl listed n + (if listed.getD n false then 0 else 1)
theorem unl_out {listed : Array Bool} {i : Nat} : ∀ n, n ≤ i → unl (listed.setIfInBounds i true) n = unl listed n
  | 0, _ => rfl
  | n + 1, h => by rw [unl, unl, unl_out n (by omega), getD_set_ne false (by omega)]
theorem unl_in {listed : Array Bool} {i : Nat} (hl : listed.getD i false = false) (hi : i < listed.size) : ∀ n, i < n → unl (listed.setIfInBounds i true) n + 1 = unl listed n
  | 0, h => absurd h (Nat.not_lt_zero _)
  | n + 1, h => by
    by_cases hn : i = n
    · subst hn
      rw [unl, unl, unl_out i (Nat.le_refl _), getD_set_self hi, hl]
      rfl
    · have := unl_in hl hi n (by omega)
      rw [unl, unl, getD_set_ne false hn]
      omega
theorem unl_zero {listed : Array Bool} : ∀ n, unl listed n = 0 → ∀ j, j < n → listed.getD j false = true
  | 0, _, _, h => absurd h (Nat.not_lt_zero _)
  | n + 1, h, j, hj => by
    rw [unl] at h
    by_cases hn : j = n
    · subst hn
      cases hl : listed.getD j false with
      | true => rfl
      | false => rw [hl] at h; simp at h
    · exact unl_zero n (by omega) j (by omega)
theorem all_listed (D : Drw P ops w0 mu m l F Z) {listed : Array Bool} (inv : HeadInv .any ops ops.size listed) (hr : Region.ready .any ops listed = []) : ∀ j, j < ops.size → listed.getD j false = true := by
  intro j
  induction j using Nat.strongRecOn with
  | _ j ih =>
    intro hj
    cases hl : listed.getD j false with
    | true => rfl
    | false =>
      exfalso
      have hmem : j ∈ Region.ready .any ops listed := mem_ready.2 ⟨getD_in (by rw [inv.size]; exact hj) hl, _, Array.getElem?_eq_getElem hj, fun e he hb => by
        have h := (D.op (Array.getElem?_eq_getElem hj)).2.2.2.1 e he hb
        exact ih e.on h (by omega)⟩
      rw [hr] at hmem
      cases hmem
theorem DInv.wpAny (D : Drw P ops w0 mu m l F Z) {Q' : Exit → Act → World → Prop} (hQ : ∀ β W, OwnM w0 mu W m → (∀ (k : Nat) (z : Born), Z[k]? = some z → w0.heap.size ≤ β k ∧ β k ∉ m.map (·.1) ∧ W.heap[β k]? = some (.cells z.cells z.T (z.fz z.mark.isSome))) → (∀ (k k' : Nat) (z z' : Born), Z[k]? = some z → Z[k']? = some z' → k ≠ k' → β k ≠ β k') → Q' .normal (actL (F β)) W) :
    ∀ (fuel : Nat) (listed : Array Bool) (a : Act) (w : World) (β : Nat → Nat), unl listed ops.size ≤ fuel → DInv ops w0 mu m l F Z listed a w β → Go.wpAny P .any ops Q' fuel listed a w := by
  have fin : ∀ (listed : Array Bool) (a : Act) (w : World) (β : Nat → Nat), (∀ j, j < ops.size → listed.getD j false = true) → DInv ops w0 mu m l F Z listed a w β → Q' .normal a w := by
    intro listed a w β hall I
    have ha : a = actL (F β) := by
      obtain ⟨tm, df⟩ := a
      have h1 : df = [] := I.defers
      have h2 : tm = (F β).toArray := by
        have hs : tm.size = l.length := I.size
        refine Array.ext (by rw [hs, List.size_toArray, D.len]) fun t h1 h2 => ?_
        have h3 : tm[t]? = (F β)[t]? := I.agree t fun j oj hj _ => hall j (Array.getElem?_eq_some_iff.1 hj).1
        rw [← List.getElem?_toArray, Array.getElem?_eq_getElem h1, Array.getElem?_eq_getElem h2] at h3
        exact Option.some.inj h3
      rw [h1, h2]; rfl
    rw [ha]
    refine hQ β w I.own (fun k z hz => ?_) (fun k k' z z' hz hz' hne => I.apart k k' z z' hz hz' hne (hall _ (D.born hz).1) (hall _ (D.born hz').1))
    obtain ⟨g1, g2, g3⟩ := I.rows k z hz (hall _ (D.born hz).1)
    refine ⟨g1, g2, ?_⟩
    rw [g3]
    cases hm : z.mark with
    | none => rfl
    | some c =>
      have hcl : c < ops.size := (D.born hz).2.1.2 c hm
      simp only [Option.any_some, hall c hcl, Option.isSome_some]
  intro fuel
  induction fuel with
  | zero =>
    intro listed a w β hf I
    have hall := unl_zero ops.size (Nat.le_zero.1 hf)
    refine ⟨?_, fin listed a w β hall I⟩
    cases hrd : Region.ready .any ops listed with
    | nil => rfl
    | cons x xs =>
      exfalso
      have hx : x ∈ Region.ready .any ops listed := by rw [hrd]; exact List.mem_cons_self
      obtain ⟨hun, o, ho, _⟩ := mem_ready.1 hx
      have := hall x (Array.getElem?_eq_some_iff.1 ho).1
      rw [getD_both hun] at this
      cases this
  | succ fuel ih =>
    intro listed a w β hf I
    refine ⟨fun hr => fin listed a w β (all_listed D I.inv hr) I, fun i hi => I.step D hi fun a' w' β' I' => ih _ a' w' β' ?_ I'⟩
    obtain ⟨hun, o, ho, _⟩ := mem_ready.1 hi
    have hlt := (Array.getElem?_eq_some_iff.1 ho).1
    have := unl_in (getD_both hun) (by rw [I.inv.size]; exact hlt) ops.size hlt
    omega
/-- The operations one by one. -/
structure DL (P : Program) (w0 : World) (mu : List Nat) (m : Mem) (F : (Nat → Nat) → List Value) (Z : List Born) (rest : List Oper) (i : Nat) : Prop where
  run : ∀ (j : Nat) (o : Oper), rest[j]? = some o → DOk P w0 mu m F Z (i + j) o
def setsL : List Value → List (Nat × Value) → List Value
  | l, [] => l
  | l, p :: ps => setsL (l.set p.1 p.2) ps
theorem setsL_length : ∀ (ps : List (Nat × Value)) (l : List Value), (setsL l ps).length = l.length
  | [], _ => rfl
  | p :: ps, l => by rw [setsL, setsL_length ps, List.length_set]
theorem setsL_not : ∀ (ps : List (Nat × Value)) (l : List Value) (t : Nat), t ∉ ps.map (·.1) → (setsL l ps)[t]? = l[t]?
  | [], _, _, _ => rfl
  | p :: ps, l, t, h => by
    simp only [List.map_cons, List.mem_cons, not_or] at h
    rw [setsL, setsL_not ps _ t h.2, List.getElem?_set_ne (Ne.symm h.1)]
theorem setsL_at : ∀ (ps : List (Nat × Value)) (l : List Value) (j t : Nat) (v : Value), ps[j]? = some (t, v) → t < l.length → (∀ (j' : Nat) (p : Nat × Value), ps[j']? = some p → j' ≠ j → p.1 ≠ t) → (setsL l ps)[t]? = some v
  | [], _, _, _, _, h, _, _ => by simp at h
  | p :: ps, l, 0, t, v, h, hlt, hn => by
    simp only [List.getElem?_cons_zero, Option.some.injEq] at h
    subst h
    rw [setsL, setsL_not ps _ t fun hm => ?_]
    · simp [hlt]
    · obtain ⟨q, hq, he⟩ := List.mem_map.1 hm
      obtain ⟨j, hj⟩ := List.mem_iff_getElem?.1 hq
      exact hn (j + 1) q (by simpa using hj) (by omega) he
  | p :: ps, l, j + 1, t, v, h, hlt, hn => by
    rw [setsL]
    exact setsL_at ps _ j t v (by simpa using h) (by simpa using hlt) fun j' q hq hne => hn (j' + 1) q (by simpa using hq) (by omega)
def maskEq : List Bool → List (Nat × Value) → List (Nat × Value) → Prop
  | true :: bs, x :: xs, y :: ys => x = y ∧ maskEq bs xs ys
  | false :: bs, _ :: xs, _ :: ys => maskEq bs xs ys
  | _, _, _ => True
theorem maskEq_at : ∀ {bs : List Bool} {xs ys : List (Nat × Value)} {j : Nat}, maskEq bs xs ys → xs.length = ys.length → bs[j]? = some true → xs[j]? = ys[j]?
  | [], _, _, _, _, _, h => by simp at h
  | b :: bs, [], [], _, _, _, _ => rfl
  | b :: bs, [], y :: ys, _, _, h, _ => by simp at h
  | b :: bs, x :: xs, [], _, _, h, _ => by simp at h
  | true :: bs, x :: xs, y :: ys, 0, h, _, _ => by rw [h.1]; rfl
  | false :: bs, x :: xs, y :: ys, 0, _, _, hb => by simp at hb
  | true :: bs, x :: xs, y :: ys, j + 1, h, hl, hb => by
    simp only [List.getElem?_cons_succ] at hb ⊢
    exact maskEq_at h.2 (by simpa using hl) hb
  | false :: bs, x :: xs, y :: ys, j + 1, h, hl, hb => by
    simp only [List.getElem?_cons_succ] at hb ⊢
    exact maskEq_at (bs := bs) h (by simpa using hl) hb
def depAll (ps : (Nat → Nat) → List (Nat × Value)) (β : Nat → Nat) (b : Nat) : List (List Bool) → Nat → Prop
  | [], _ => True
  | mk :: rest, k => maskEq mk (ps (up β k b)) (ps β) ∧ depAll ps β b rest (k + 1)
theorem depAll_at {ps : (Nat → Nat) → List (Nat × Value)} {β : Nat → Nat} {b : Nat} : ∀ {M : List (List Bool)} {k0 k : Nat} {mk : List Bool}, depAll ps β b M k0 → M[k]? = some mk → maskEq mk (ps (up β (k0 + k) b)) (ps β)
  | [], _, _, _, _, h => by simp at h
  | m0 :: M, k0, 0, mk, h, hk => by
    simp only [List.getElem?_cons_zero, Option.some.injEq] at hk
    subst hk
    exact h.1
  | m0 :: M, k0, k + 1, mk, h, hk => by
    simp only [List.getElem?_cons_succ] at hk
    have := depAll_at (k := k) h.2 hk
    rwa [show k0 + 1 + k = k0 + (k + 1) by omega] at this
def masks (ops : Array Oper) (Z : List Born) : List (List Bool) := Z.map fun z => (List.range ops.size).map fun j => !(j == z.at_ || dep .any ops ops.size j z.at_)
theorem drw_mk (ps : (Nat → Nat) → List (Nat × Value)) (hF : ∀ β, setsL l (ps β) = F β) (hB : drwB L.toArray l.length Z = true) (hd : ∀ β, (ps β).map (fun p => some p.1) = L.map (·.dst)) {M : List (List Bool)} (hM : masks L.toArray Z = M) (hdep : ∀ β b, depAll ps β b M 0)
    (h : DL P w0 mu m F Z L 0) : Drw P L.toArray w0 mu m l F Z := by
  have hlen : ∀ β, (F β).length = l.length := fun β => by rw [← hF, setsL_length]
  have hat : ∀ β (j : Nat) (o : Oper), L[j]? = some o → ∃ p, (ps β)[j]? = some p ∧ o.dst = some p.1 := fun β j o ho => by
    have h1 : (L.map (·.dst))[j]? = some o.dst := by rw [List.getElem?_map, ho]; rfl
    rw [← hd β, List.getElem?_map] at h1
    cases hp : (ps β)[j]? with
    | none => rw [hp] at h1; cases h1
    | some p => rw [hp] at h1; exact ⟨p, rfl, (Option.some.inj h1).symm⟩
  have hatP : ∀ β (j : Nat) (p : Nat × Value), (ps β)[j]? = some p → ∃ o, L[j]? = some o ∧ o.dst = some p.1 := fun β j p hp => by
    have h1 : ((ps β).map fun p => some p.1)[j]? = some (some p.1) := by rw [List.getElem?_map, hp]; rfl
    rw [hd β, List.getElem?_map] at h1
    cases ho : L[j]? with
    | none => rw [ho] at h1; cases h1
    | some o => rw [ho] at h1; exact ⟨o, rfl, Option.some.inj h1⟩
  have D0 : Drw P L.toArray w0 mu m l (fun _ => l) [] → True := fun _ => trivial
  have hne : ∀ (i j : Nat) (o p : Oper), L[i]? = some o → L[j]? = some p → i ≠ j → o.dst ≠ p.dst := fun i j o p ho hp hij => by
    have hB' := hB
    unfold drwB at hB'
    rw [Bool.and_eq_true] at hB'
    have hlt : i < L.toArray.size := by simpa using (List.getElem?_eq_some_iff.1 ho).1
    have hltj : j < L.toArray.size := by simpa using (List.getElem?_eq_some_iff.1 hp).1
    have h1 := List.all_eq_true.1 hB'.1 i (List.mem_range.2 hlt)
    rw [List.getElem?_toArray, ho] at h1
    simp only [Bool.and_eq_true] at h1
    have h6 := List.all_eq_true.1 h1.2 j (List.mem_range.2 hltj)
    rw [List.getElem?_toArray, hp] at h6
    simp only [Bool.and_eq_true, Bool.or_eq_true, beq_iff_eq, bne_iff_ne] at h6
    exact h6.1.resolve_left hij
  refine ⟨hB, hlen, fun β t ht => ?_, fun k z β b t hz => ?_, fun i o ho => ?_⟩
  · rw [← hF]
    refine setsL_not _ _ _ fun hm => ?_
    obtain ⟨p, hp, rfl⟩ := List.mem_map.1 hm
    obtain ⟨j, hj⟩ := List.mem_iff_getElem?.1 hp
    obtain ⟨o, ho, hod⟩ := hatP β j p hj
    exact ht j o (by rw [List.getElem?_toArray]; exact ho) hod
  · by_cases hin : ∃ (j : Nat) (o : Oper), L[j]? = some o ∧ o.dst = some t
    · obtain ⟨j, o, ho, hot⟩ := hin
      have hlt : j < L.toArray.size := by simpa using (List.getElem?_eq_some_iff.1 ho).1
      by_cases hdp : (j == z.at_ || dep .any L.toArray L.toArray.size j z.at_) = true
      · left
        refine ⟨j, o, by rw [List.getElem?_toArray]; exact ho, hot, ?_⟩
        simpa only [Bool.or_eq_true, beq_iff_eq] using hdp
      · right
        have hmk : ∃ mk, M[k]? = some mk ∧ mk[j]? = some true := by
          refine ⟨(List.range L.toArray.size).map fun j => !(j == z.at_ || dep .any L.toArray L.toArray.size j z.at_), ?_, ?_⟩
          · rw [← hM, masks, List.getElem?_map, hz]; rfl
          · have hf : (j == z.at_ || dep .any L.toArray L.toArray.size j z.at_) = false := by simpa using hdp
            rw [List.getElem?_map, List.getElem?_range hlt, Option.map_some, hf]; rfl
        obtain ⟨mk, hmk1, hmk2⟩ := hmk
        have hm1 := depAll_at (hdep β b) hmk1
        rw [Nat.zero_add] at hm1
        have hl : (ps (up β k b)).length = (ps β).length := by
          have h1 := congrArg List.length (hd (up β k b))
          have h2 := congrArg List.length (hd β)
          simp only [List.length_map] at h1 h2
          rw [h1, h2]
        have he := maskEq_at hm1 hl hmk2
        obtain ⟨p, hp, hpd⟩ := hat β j o ho
        obtain rfl : t = p.1 := Option.some.inj (hot.symm.trans hpd)
        have hltt : p.1 < l.length := by
          have hB' := hB
          unfold drwB at hB'
          rw [Bool.and_eq_true] at hB'
          have h1 := List.all_eq_true.1 hB'.1 j (List.mem_range.2 hlt)
          rw [List.getElem?_toArray, ho] at h1
          simp only [Bool.and_eq_true, hot, decide_eq_true_eq] at h1
          exact h1.1.1.2
        have fresh : ∀ γ, ∀ (j' : Nat) (q : Nat × Value), (ps γ)[j']? = some q → j' ≠ j → q.1 ≠ p.1 := fun γ j' q hq hjj he => by
          obtain ⟨o', ho', hod'⟩ := hatP γ j' q hq
          exact hne j' j o' o ho' ho hjj (by rw [hod', hot, he])
        rw [← hF, ← hF, setsL_at _ _ j p.1 p.2 (by rw [he, hp]) hltt (fresh _), setsL_at _ _ j p.1 p.2 hp hltt (fresh _)]
    · right
      have hno : ∀ γ, t ∉ (ps γ).map (·.1) := fun γ hm => by
        obtain ⟨p, hp, rfl⟩ := List.mem_map.1 hm
        obtain ⟨j, hj⟩ := List.mem_iff_getElem?.1 hp
        obtain ⟨o, ho, hod⟩ := hatP γ j p hj
        exact hin ⟨j, o, ho, hod⟩
      rw [← hF, ← hF, setsL_not _ _ _ (hno _), setsL_not _ _ _ (hno _)]
  · rw [List.getElem?_toArray] at ho
    have := h.run i o ho
    rwa [Nat.zero_add] at this
/-- The region, with what is known of its rows behind it. -/
theorem raw_drw {id : Nat} (ps : (Nat → Nat) → List (Nat × Value)) (Z : List Born) {M : List (List Bool)} (hm : P.follows .mixedOrders = true) (hB : drwB L.toArray l.length Z = true) (hM : masks L.toArray Z = M) {W : World} {Post : Exit → Act → World → Prop} (hw : OwnM w0 mu W m) (hF : ∀ β, setsL l (ps β) = F β)
    (hd : ∀ β, (ps β).map (fun p => some p.1) = L.map (·.dst)) (hdep : ∀ β b, depAll ps β b M 0) (h : DL P w0 mu m F Z L 0)
    (hQ : ∀ β W', OwnM w0 mu W' m → (∀ (k : Nat) (z : Born), Z[k]? = some z → w0.heap.size ≤ β k ∧ β k ∉ m.map (·.1) ∧ W'.heap[β k]? = some (.cells z.cells z.T (z.fz z.mark.isSome))) → (∀ (k k' : Nat) (z z' : Born), Z[k]? = some z → Z[k']? = some z' → k ≠ k' → β k ≠ β k') → Post .normal (actL (F β)) W') :
    (Code.region id L.toArray true).wp P Post (actL l) W := by
  have D := drw_mk (P := P) (w0 := w0) (mu := mu) (m := m) ps hF hB hd hM hdep h
  have hn : ∀ j : Nat, (Array.replicate L.toArray.size false).getD j false = false := fun j => getD_replicate_false _ j
  refine wp_region_any hm (DInv.wpAny D hQ L.toArray.size _ _ _ (fun _ => 0) ?_ ⟨⟨by simp, fun j oj _ hl => (by rw [hn] at hl; cases hl), fun t h1 h2 => absurd h2 (Nat.not_lt.2 h1)⟩, rfl, by simp [actL], fun t ht => ?_, hw.drew 1, fun k z hz hl => (by rw [hn] at hl; cases hl), fun k k' z z' hz hz' hne h1 h2 => (by rw [hn] at h1; cases h1)⟩)
  · have : ∀ n, unl (Array.replicate L.toArray.size false) n = n := fun n => by
      induction n with
      | zero => rfl
      | succ n ih => rw [unl, ih, hn]; rfl
    rw [this]
    exact Nat.le_refl _
  · have h2 := D.still (fun _ => 0) t fun j oj hj hd => (by have := ht j oj hj hd; rw [hn] at this; cases this)
    show l.toArray[t]? = _
    rw [List.getElem?_toArray, h2]
theorem SP_drw {id : Nat} {Q : ExitP} (ps : (Nat → Nat) → List (Nat × Value)) (Z : List Born) {M : List (List Bool)} (hm : P.follows .mixedOrders = true) (hB : drwB L.toArray l.length Z = true) (hM : masks L.toArray Z = M) (hF : ∀ β, setsL l (ps β) = F β)
    (hd : ∀ β, (ps β).map (fun p => some p.1) = L.map (·.dst)) (hdep : ∀ β b, depAll ps β b M 0) (h : DL P w0 mu m F Z L 0) (hQ : ∀ β, Q .normal (F β) m) : SP P w0 mu (.region id L.toArray true) Q l m :=
  ⟨fun W Q' hw hA => raw_drw ps Z hm hB hM hw hF hd hdep h fun β W' hw' _ _ => hA _ _ _ _ (hQ β) hw'⟩
section
variable {dst : Option Tmp} {d : Nat} {op : Op} {ty : TypeId} {pos : String} {af : Array Edge} {gd : Option (Nat × Bool)} {rest : List Oper} {i : Nat} {o : Oper} {tab : Tab}
theorem DL.nil : DL P w0 mu m F Z [] i := ⟨fun j o h => by simp at h⟩
theorem DL.cons (h1 : DOk P w0 mu m F Z i o) (h : DL P w0 mu m F Z rest (i + 1)) : DL P w0 mu m F Z (o :: rest) i :=
  ⟨fun j p hp => by
    cases j with
    | zero => simp only [List.getElem?_cons_zero, Option.some.injEq] at hp; subst hp; exact h1
    | succ j =>
      have := h.run j p (by simpa using hp)
      rwa [show i + 1 + j = i + (j + 1) by omega] at this⟩
theorem noBorn {Z : List Born} {i : Nat} (h : (Z.all fun z => z.at_ != i && z.mark != some i) = true) : ∀ z ∈ Z, z.at_ ≠ i ∧ z.mark ≠ some i := fun z hz => by
  have := List.all_eq_true.1 h z hz
  simpa only [Bool.and_eq_true, bne_iff_ne] using this
theorem DL.v {v : (Nat → Nat) → Value} (hv : ∀ β, ValO P w0 mu m (F β) ⟨some d, op, ty, pos, af, gd⟩ (v β)) (h : DL P w0 mu m F Z rest (i + 1)) (hF : ∀ β, (F β)[d]? = some (v β) := by intro _; rfl) (hi : (Z.all fun z => z.at_ != i && z.mark != some i) = true := by rfl) :
    DL P w0 mu m F Z (⟨some d, op, ty, pos, af, gd⟩ :: rest) i :=
  DL.cons (.val (noBorn hi) fun β => ⟨d, v β, rfl, hF β, fun w hw _ => (hv β).out w hw⟩) h
theorem DL.e (ht : TabOk P tab) {v : (Nat → Nat) → Value} (h : DL P w0 mu m F Z rest (i + 1)) (hev : ∀ β, evF tab (F β) op = some (v β) := by intro _; rfl) (hF : ∀ β, (F β)[d]? = some (v β) := by intro _; rfl) (hi : (Z.all fun z => z.at_ != i && z.mark != some i) = true := by rfl) :
    DL P w0 mu m F Z (⟨some d, op, ty, pos, af, gd⟩ :: rest) i := DL.v (fun β => ValO.ev ht (hev β)) h hF hi
/-- A call that looks at rows of the region. -/
theorem DL.call {f : FuncId} {args : List Operand} {ats : Array TypeId} (hent : ∀ (A : Array Value) (w : World), (callFunc f A).run P w = .ok (.enter f A) w) {vals : (Nat → Nat) → List Value} (hv : ∀ β, args.map (evL (F β)) = vals β) {v : (Nat → Nat) → Value}
    (hc : ∀ β w1, OwnM w0 mu w1 m → (∀ (k : Nat) (z : Born), Z[k]? = some z → (∃ e ∈ af, Region.binds .any e = true ∧ e.on = z.last) → w0.heap.size ≤ β k ∧ w1.heap[β k]? = some (.cells z.cells z.T (z.fz z.mark.isSome))) → Calls P f (vals β).toArray w1 fun e w' => e = .returned (v β) ∧ Below w1.heap.size w1 w')
    (h : DL P w0 mu m F Z rest (i + 1)) (hF : ∀ β, (F β)[d]? = some (v β) := by intro _; rfl) (hi : (Z.all fun z => z.at_ != i && z.mark != some i) = true := by rfl) :
    DL P w0 mu m F Z (⟨some d, .call { callee := .value (.func f), args := args.toArray, argTypes := ats }, ty, pos, af, gd⟩ :: rest) i :=
  DL.cons (.val (noBorn hi) fun β => ⟨d, v β, rfl, hF β, fun w hw hr => by
    unfold actL
    rw [run_call_fn (args_map args), hv, hent]
    exact ⟨rfl, hc β w hw hr⟩⟩) h
/-- A slice of constants is built. -/
theorem DL.row (ht : TabOk P tab) {t e n by_ sz : Nat} {parts : Array (Nat × Operand)} (k : Nat) {z : Born} {c : Option Nat} {cells : Array Value} (hZ : Z[k]? = some z) (hz : z = ⟨i, c, fun b => .slice (some ⟨b, 0, none⟩) n n, cells, e⟩) (hl : look tab t = some (.sl e 1 by_, sz)) (hz0 : (P.info? e).map (·.zero) = some (some (.int .u8 0))) (hn : 0 < n) (hs : n ≤ 16777216)
    {vals : (Nat → Nat) → List (Nat × Value)} (hv : ∀ β, parts.toList.map (fun p => (p.1, evL (F β) p.2)) = vals β) (hf : ∀ β, Instr.fill (fun i => some (i * 1, 1)) ((Array.range (n * 1)).map ((Value.cells (.int .u8 0))[· % (Value.cells (.int .u8 0)).size]!)) (vals β) = some cells)
    (h : DL P w0 mu m F Z rest (i + 1)) (hF : ∀ β, (F β)[d]? = some (.slice (some ⟨β k, 0, none⟩) n n) := by intro _; rfl) :
    DL P w0 mu m F Z (⟨some d, .buildSlice t n parts, ty, pos, af, gd⟩ :: rest) i := by
  subst hz
  refine DL.cons (.birth k _ hZ rfl fun β => ⟨d, rfl, hF β, fun w => ?_⟩) h
  obtain ⟨hu, hsz, _⟩ := td_sl (look_ok ht hl)
  cases hq : P.info? e with
  | none => simp [hq] at hsz
  | some inf =>
    have hs1 : inf.size = 1 := by simpa [hq] using hsz
    have hz1 : inf.zero = some (.int .u8 0) := by simpa [hq] using hz0
    have hf' : Instr.fill (fun i => some (i * inf.size, inf.size)) ((Array.range (n * inf.size)).map ((Value.cells (.int .u8 0))[· % (Value.cells (.int .u8 0)).size]!)) ((parts.map fun (i, x) => (i, (actL (F β)).eval x)).toList) = some cells := by
      rw [Array.toList_map, ← hf β, hs1, ← hv β]
      unfold actL
      simp only [evL_eq]
    unfold execOp
    simp only [Sem.run_bind, run_buildSlice w t e n _ cells inf _ hu hq hz1 (by rw [hs1]; omega) (by rw [hs1]; omega) hf', Result.andThen_ok]
    rfl
theorem run_convert_mark (w : World) (t e : TypeId) (C : Array Value) (b n c : Nat) (ht : P.underlying t = some (.slice e)) (he : P.underlying e = some (.int .u8)) (hb : w.heap[b]? = some (.cells C e (0, 0))) :
    (convert t t (.slice (some ⟨b, 0, none⟩) n c)).run P w = .ok (.slice (some ⟨b, 0, none⟩) n c) (setObj w b (.cells C e (C.size, C.size + 1))) := by
  have hsh : w.shape? b = some (e, C.size) := by unfold World.shape?; rw [hb]
  have hfr : ∀ (k : Nat), w.freeze ⟨b, k, none⟩ 1 = setObj w b (.cells C e (k, k + 1)) := fun k => by
    unfold World.freeze setObj
    rw [if_neg (by decide)]
    congr 1
    obtain ⟨hlt, hx⟩ := Array.getElem?_eq_some_iff.1 hb
    apply Array.ext
    · simp
    · intro j h1 h2
      simp only [Array.getElem_modify, Array.getElem_setIfInBounds]
      by_cases hj : b = j
      · subst hj
        simp [hx]
      · rw [Array.getElem_setIfInBounds_ne (by simpa using h1) hj]
        simp [hj]
  simp [convert, run_underlying ht, run_underlying he, markStringish, hsh]
  exact hfr _
/-- A constant string's bytes are marked. -/
theorem DL.mark (ht : TabOk P tab) {t e n by_ sz : Nat} {d1 : Nat} (k : Nat) {z : Born} {cells : Array Value} (hZ : Z[k]? = some z) {at_ : Nat} (hz : z = ⟨at_, some i, fun b => .slice (some ⟨b, 0, none⟩) n n, cells, e⟩) (hl : look tab t = some (.sl e 1 by_, sz)) (hle : look tab e = some (.int .u8, 1))
    (haf : (af.any fun x => Region.binds .any x && x.on == at_) = true) (h : DL P w0 mu m F Z rest (i + 1)) (hx : ∀ β, evL (F β) (.tmp d1) = .slice (some ⟨β k, 0, none⟩) n n := by intro _; rfl) (hF : ∀ β, (F β)[d]? = some (.slice (some ⟨β k, 0, none⟩) n n) := by intro _; rfl) :
    DL P w0 mu m F Z (⟨some d, .convert t t (.tmp d1), ty, pos, af, gd⟩ :: rest) i := by
  subst hz
  obtain ⟨hu, _, _⟩ := td_sl (look_ok ht hl)
  have hue := td_int (look_ok ht hle)
  obtain ⟨x, hxm, hxb⟩ := Array.any_eq_true'.1 haf
  simp only [Bool.and_eq_true, beq_iff_eq] at hxb
  refine DL.cons (.mark k _ hZ rfl ⟨x, hxm, hxb.1, hxb.2⟩ fun β => ⟨d, rfl, hF β, fun w hw => ?_⟩) h
  unfold execOp actL
  simp only [evL_eq, hx, Sem.run_bind, run_convert_mark w t e cells (β k) n n hu hue hw, Result.andThen_ok]
  rfl
end
end
end Sp
end Go.Proofs.Ythbmlpiplfbehaa

namespace Go.Proofs.Ythbmlpiplfbehaa
set_option linter.unusedSimpArgs false
set_option linter.unusedVariables false
open Go Go.RowKit

namespace Sp
open F M
/-- A state that is none. -/
def NoSt (w : World) (p : Value) : Prop := ∀ w1, Below w.heap.size w w1 → Calls Try.prog 35 #[p] w1 fun e w' => e = .returned (.bool true) ∧ Below w1.heap.size w1 w'
theorem NoSt.grow {w w1 : World} {p : Value} (h : NoSt w p) (hb : Below w.heap.size w w1) : NoSt w1 p := fun w2 hb2 => h w2 ⟨hb2.os.trans hb.os, hb2.tape.trans hb.tape, hb2.output.trans hb.output, Nat.le_trans hb.size hb2.size, fun k hk => by rw [hb2.block k (Nat.lt_of_lt_of_le hk hb.size), hb.block k hk]⟩

set_option maxRecDepth 20000 in
theorem noSt_nil (w : World) : NoSt w (.pointer none) := fun w1 _ => by
  refine pureE Try.func35 Try.ntmps35 Try.results35 ?_
  repeat (first | ((with_reducible refine SP.region (id := 0) ?_); refine SL.e tabOk ?_; (with_reducible refine SL.nil ?_)) | ((with_reducible refine SP.region (id := 1) ?_); refine SL.e tabOk ?_; (first | (refine SL.v (ValO.ptrNil tabOk rfl rfl rfl) ?_) | (refine SL.v (ValO.ptrNilT tabOk rfl rfl rfl) ?_)); refine SL.e tabOk ?_; (first | (refine SL.gT ?_; refine SL.e tabOk ?_) | refine SL.gF ?_); (first | (refine SL.gT ?_; refine SL.nc ?_) | refine SL.gF ?_); (first | (refine SL.gT ?_; refine SL.e tabOk ?_) | refine SL.gF ?_); (first | (refine SL.gT ?_; refine SL.ldC tabOk ?_) | refine SL.gF ?_); (first | (refine SL.gT ?_; refine SL.e tabOk ?_) | refine SL.gF ?_); refine SL.e tabOk ?_; refine SL.e tabOk ?_; (with_reducible refine SL.nil ?_)) | ((with_reducible refine SP.seqK ?_); intro _ _) | (with_reducible refine thenK_normal ?_) | (refine useK (by assumption) ?_) | (with_reducible refine SP.block ?_) | (with_reducible refine thenK_exit ?_) | (with_reducible refine thenK_ret ?_) | (with_reducible refine blockK_normal ?_) | (with_reducible refine blockK_ret ?_) | (with_reducible refine blockK_eq ?_) | (with_reducible refine blockK_ne rfl ?_) | (with_reducible refine SP.skip ?_) | (with_reducible refine SP.ret ?_) | (with_reducible refine SP.exit ?_) | ((with_reducible show SP _ _ _ (Code.cond _ _ _) _ _ _); first | (refine SP.condT rfl (by first | rfl | (simp only [decide_eq_true_eq, beq_iff_eq, bne_iff_ne]; first | done | omega)) ?_) | (refine SP.condF rfl (by first | rfl | (simp only [decide_eq_false_iff_not, beq_eq_false_iff_ne, bne_eq_false_iff_eq]; first | done | omega)) ?_)))
  exact doneK.mk rfl (ResO.tmp rfl) rfl

set_option maxRecDepth 20000 in
theorem noSt_zero (b : Nat) (K : List Int) (n : Int) (w : World) {T : TypeId} {fz : Nat × Nat} (hb : w.heap[b]? = some (.cells (stRow false K n) T fz)) : NoSt w (.pointer (some ⟨b, 0, none⟩)) := fun w1 hw => by
  have hb2 : w1.heap[b]? = some (.cells (stRow false K n) T fz) := by rw [hw.block b (Array.getElem?_eq_some_iff.1 hb).1]; exact hb
  refine pureE Try.func35 Try.ntmps35 Try.results35 ?_
  repeat (first | ((with_reducible refine SP.region (id := 0) ?_); refine SL.e tabOk ?_; (with_reducible refine SL.nil ?_)) | ((with_reducible refine SP.region (id := 1) ?_); refine SL.e tabOk ?_; (first | (refine SL.v (ValO.ptrNil tabOk rfl rfl rfl) ?_) | (refine SL.v (ValO.ptrNilT tabOk rfl rfl rfl) ?_)); refine SL.e tabOk ?_; (first | (refine SL.gT ?_; refine SL.e tabOk ?_) | refine SL.gF ?_); (first | (refine SL.gT ?_; refine SL.nc ?_) | refine SL.gF ?_); (first | (refine SL.gT ?_; refine SL.e tabOk ?_) | refine SL.gF ?_); (first | (refine SL.gT ?_; refine SL.ldC tabOk ?_ (hr := RdA.old hb2 (by simp)) (hv := st_g)) | refine SL.gF ?_); (first | (refine SL.gT ?_; refine SL.e tabOk ?_) | refine SL.gF ?_); refine SL.e tabOk ?_; refine SL.e tabOk ?_; (with_reducible refine SL.nil ?_)) | ((with_reducible refine SP.seqK ?_); intro _ _) | (with_reducible refine thenK_normal ?_) | (refine useK (by assumption) ?_) | (with_reducible refine SP.block ?_) | (with_reducible refine thenK_exit ?_) | (with_reducible refine thenK_ret ?_) | (with_reducible refine blockK_normal ?_) | (with_reducible refine blockK_ret ?_) | (with_reducible refine blockK_eq ?_) | (with_reducible refine blockK_ne rfl ?_) | (with_reducible refine SP.skip ?_) | (with_reducible refine SP.ret ?_) | (with_reducible refine SP.exit ?_) | ((with_reducible show SP _ _ _ (Code.cond _ _ _) _ _ _); first | (refine SP.condT rfl (by first | rfl | (simp only [decide_eq_true_eq, beq_iff_eq, bne_iff_ne]; first | done | omega)) ?_) | (refine SP.condF rfl (by first | rfl | (simp only [decide_eq_false_iff_not, beq_eq_false_iff_ne, bne_eq_false_iff_eq]; first | done | omega)) ?_)))
  exact doneK.mk rfl (ResO.tmp rfl) rfl

set_option maxRecDepth 20000 in
theorem once_none (p : Value) (F A B : Value) (w : World) (hN : NoSt w p) : Calls Try.prog 32 #[p, F, A, B] w fun e w' => e = .returned (.tuple #[.slice none 0 0, .int .i64 1]) ∧ Below w.heap.size w w' := by
  refine pureE Try.func32 Try.ntmps32 Try.results32 ?_
  repeat (first | ((with_reducible refine SP.region (id := 0) ?_); refine SL.e tabOk ?_; refine SL.e tabOk ?_; (with_reducible refine SL.nil ?_)) | ((with_reducible refine SP.region (id := 1) ?_); refine SL.e tabOk ?_; refine SL.v (ValO.call ent_35 _ rfl _ (fun w1 hw1 => hN w1 hw1.below)) ?_; refine SL.e tabOk ?_; (with_reducible refine SL.nil ?_)) | ((with_reducible refine SP.region (id := 2) ?_); refine SL.e tabOk ?_; refine SL.e tabOk ?_; (with_reducible refine SL.nil ?_)) | ((with_reducible refine SP.seqK ?_); intro _ _) | (with_reducible refine thenK_normal ?_) | (refine useK (by assumption) ?_) | (with_reducible refine SP.block ?_) | (with_reducible refine thenK_exit ?_) | (with_reducible refine thenK_ret ?_) | (with_reducible refine blockK_normal ?_) | (with_reducible refine blockK_ret ?_) | (with_reducible refine blockK_eq ?_) | (with_reducible refine blockK_ne rfl ?_) | (with_reducible refine SP.skip ?_) | (with_reducible refine SP.ret ?_) | (with_reducible refine SP.exit ?_) | ((with_reducible show SP _ _ _ (Code.cond _ _ _) _ _ _); first | (refine SP.condT rfl (by first | rfl | (simp only [decide_eq_true_eq, beq_iff_eq, bne_iff_ne]; first | done | omega)) ?_) | (refine SP.condF rfl (by first | rfl | (simp only [decide_eq_false_iff_not, beq_eq_false_iff_ne, bne_eq_false_iff_eq]; first | done | omega)) ?_)))
  exact doneK.mk rfl (ResO.tmp2 rfl rfl) rfl

set_option maxRecDepth 20000 in
theorem seal_none (p : Value) (A B : Value) (w : World) (hN : NoSt w p) : Calls Try.prog 14 #[p, A, B] w fun e w' => e = .returned (.tuple #[.slice none 0 0, .int .i64 1]) ∧ Below w.heap.size w w' := by
  refine pureE Try.func14 Try.ntmps14 Try.results14 ?_
  repeat (first | ((with_reducible refine SP.region (id := 0) ?_); refine SL.e tabOk ?_; refine SL.e tabOk ?_; (with_reducible refine SL.nil ?_)) | ((with_reducible refine SP.region (id := 1) ?_); refine SL.e tabOk ?_; refine SL.e tabOk ?_; refine SL.e tabOk ?_; refine SL.v (ValO.call ent_32 _ rfl _ (fun w1 hw1 => once_none p _ A B w1 (hN.grow hw1.below))) ?_; refine SL.e tabOk ?_; refine SL.e tabOk ?_; refine SL.e tabOk ?_; refine SL.e tabOk ?_; (with_reducible refine SL.nil ?_)) | ((with_reducible refine SP.seqK ?_); intro _ _) | (with_reducible refine thenK_normal ?_) | (refine useK (by assumption) ?_) | (with_reducible refine SP.block ?_) | (with_reducible refine thenK_exit ?_) | (with_reducible refine thenK_ret ?_) | (with_reducible refine blockK_normal ?_) | (with_reducible refine blockK_ret ?_) | (with_reducible refine blockK_eq ?_) | (with_reducible refine blockK_ne rfl ?_) | (with_reducible refine SP.skip ?_) | (with_reducible refine SP.ret ?_) | (with_reducible refine SP.exit ?_) | ((with_reducible show SP _ _ _ (Code.cond _ _ _) _ _ _); first | (refine SP.condT rfl (by first | rfl | (simp only [decide_eq_true_eq, beq_iff_eq, bne_iff_ne]; first | done | omega)) ?_) | (refine SP.condF rfl (by first | rfl | (simp only [decide_eq_false_iff_not, beq_eq_false_iff_ne, bne_eq_false_iff_eq]; first | done | omega)) ?_)))
  exact doneK.mk rfl (ResO.tmp2 rfl rfl) rfl

set_option maxRecDepth 20000 in
theorem open_none (p : Value) (A B : Value) (w : World) (hN : NoSt w p) : Calls Try.prog 21 #[p, A, B] w fun e w' => e = .returned (.tuple #[.slice none 0 0, .int .i64 1]) ∧ Below w.heap.size w w' := by
  refine pureE Try.func21 Try.ntmps21 Try.results21 ?_
  repeat (first | ((with_reducible refine SP.region (id := 0) ?_); refine SL.e tabOk ?_; refine SL.e tabOk ?_; (with_reducible refine SL.nil ?_)) | ((with_reducible refine SP.region (id := 1) ?_); refine SL.e tabOk ?_; refine SL.e tabOk ?_; refine SL.e tabOk ?_; refine SL.v (ValO.call ent_32 _ rfl _ (fun w1 hw1 => once_none p _ A B w1 (hN.grow hw1.below))) ?_; refine SL.e tabOk ?_; refine SL.e tabOk ?_; refine SL.e tabOk ?_; refine SL.e tabOk ?_; (with_reducible refine SL.nil ?_)) | ((with_reducible refine SP.seqK ?_); intro _ _) | (with_reducible refine thenK_normal ?_) | (refine useK (by assumption) ?_) | (with_reducible refine SP.block ?_) | (with_reducible refine thenK_exit ?_) | (with_reducible refine thenK_ret ?_) | (with_reducible refine blockK_normal ?_) | (with_reducible refine blockK_ret ?_) | (with_reducible refine blockK_eq ?_) | (with_reducible refine blockK_ne rfl ?_) | (with_reducible refine SP.skip ?_) | (with_reducible refine SP.ret ?_) | (with_reducible refine SP.exit ?_) | ((with_reducible show SP _ _ _ (Code.cond _ _ _) _ _ _); first | (refine SP.condT rfl (by first | rfl | (simp only [decide_eq_true_eq, beq_iff_eq, bne_iff_ne]; first | done | omega)) ?_) | (refine SP.condF rfl (by first | rfl | (simp only [decide_eq_false_iff_not, beq_eq_false_iff_ne, bne_eq_false_iff_eq]; first | done | omega)) ?_)))
  exact doneK.mk rfl (ResO.tmp2 rfl rfl) rfl

set_option maxRecDepth 20000 in
theorem openAt_none (p : Value) (m : Int) (A B : Value) (w : World) (hN : NoSt w p) : Calls Try.prog 23 #[p, .int .i64 m, A, B] w fun e w' => e = .returned (.tuple #[.slice none 0 0, .int .i64 1]) ∧ Below w.heap.size w w' := by
  refine pureE Try.func23 Try.ntmps23 Try.results23 ?_
  repeat (first | ((with_reducible refine SP.region (id := 0) ?_); refine SL.e tabOk ?_; refine SL.e tabOk ?_; (with_reducible refine SL.nil ?_)) | ((with_reducible refine SP.region (id := 1) ?_); refine SL.e tabOk ?_; refine SL.v (ValO.call ent_35 _ rfl _ (fun w1 hw1 => hN w1 hw1.below)) ?_; refine SL.e tabOk ?_; (with_reducible refine SL.nil ?_)) | ((with_reducible refine SP.region (id := 2) ?_); refine SL.e tabOk ?_; refine SL.e tabOk ?_; (with_reducible refine SL.nil ?_)) | ((with_reducible refine SP.seqK ?_); intro _ _) | (with_reducible refine thenK_normal ?_) | (refine useK (by assumption) ?_) | (with_reducible refine SP.block ?_) | (with_reducible refine thenK_exit ?_) | (with_reducible refine thenK_ret ?_) | (with_reducible refine blockK_normal ?_) | (with_reducible refine blockK_ret ?_) | (with_reducible refine blockK_eq ?_) | (with_reducible refine blockK_ne rfl ?_) | (with_reducible refine SP.skip ?_) | (with_reducible refine SP.ret ?_) | (with_reducible refine SP.exit ?_) | ((with_reducible show SP _ _ _ (Code.cond _ _ _) _ _ _); first | (refine SP.condT rfl (by first | rfl | (simp only [decide_eq_true_eq, beq_iff_eq, bne_iff_ne]; first | done | omega)) ?_) | (refine SP.condF rfl (by first | rfl | (simp only [decide_eq_false_iff_not, beq_eq_false_iff_ne, bne_eq_false_iff_eq]; first | done | omega)) ?_)))
  exact doneK.mk rfl (ResO.tmp2 rfl rfl) rfl

set_option maxRecDepth 20000 in
theorem next_none (p : Value) (w : World) (hN : NoSt w p) : Calls Try.prog 17 #[p] w fun e w' => e = .returned (.int .i64 0) ∧ Below w.heap.size w w' := by
  refine pureE Try.func17 Try.ntmps17 Try.results17 ?_
  repeat (first | ((with_reducible refine SP.region (id := 0) ?_); refine SL.e tabOk ?_; (with_reducible refine SL.nil ?_)) | ((with_reducible refine SP.region (id := 1) ?_); refine SL.e tabOk ?_; refine SL.v (ValO.call ent_35 _ rfl _ (fun w1 hw1 => hN w1 hw1.below)) ?_; (with_reducible refine SL.nil ?_)) | ((with_reducible refine SP.region (id := 2) ?_); refine SL.e tabOk ?_; (with_reducible refine SL.nil ?_)) | ((with_reducible refine SP.seqK ?_); intro _ _) | (with_reducible refine thenK_normal ?_) | (refine useK (by assumption) ?_) | (with_reducible refine SP.block ?_) | (with_reducible refine thenK_exit ?_) | (with_reducible refine thenK_ret ?_) | (with_reducible refine blockK_normal ?_) | (with_reducible refine blockK_ret ?_) | (with_reducible refine blockK_eq ?_) | (with_reducible refine blockK_ne rfl ?_) | (with_reducible refine SP.skip ?_) | (with_reducible refine SP.ret ?_) | (with_reducible refine SP.exit ?_) | ((with_reducible show SP _ _ _ (Code.cond _ _ _) _ _ _); first | (refine SP.condT rfl (by first | rfl | (simp only [decide_eq_true_eq, beq_iff_eq, bne_iff_ne]; first | done | omega)) ?_) | (refine SP.condF rfl (by first | rfl | (simp only [decide_eq_false_iff_not, beq_eq_false_iff_ne, bne_eq_false_iff_eq]; first | done | omega)) ?_)))
  exact doneK.mk rfl (ResO.tmp rfl) rfl

set_option maxRecDepth 20000 in
theorem skip_none (p : Value) (m : Int) (w : World) (hN : NoSt w p) : Calls Try.prog 24 #[p, .int .i64 m] w fun e w' => e = .returned (.int .i64 1) ∧ Below w.heap.size w w' := by
  refine pureE Try.func24 Try.ntmps24 Try.results24 ?_
  repeat (first | ((with_reducible refine SP.region (id := 0) ?_); refine SL.e tabOk ?_; (with_reducible refine SL.nil ?_)) | ((with_reducible refine SP.region (id := 1) ?_); refine SL.e tabOk ?_; refine SL.v (ValO.call ent_35 _ rfl _ (fun w1 hw1 => hN w1 hw1.below)) ?_; refine SL.e tabOk ?_; (with_reducible refine SL.nil ?_)) | ((with_reducible refine SP.region (id := 2) ?_); refine SL.e tabOk ?_; (with_reducible refine SL.nil ?_)) | ((with_reducible refine SP.seqK ?_); intro _ _) | (with_reducible refine thenK_normal ?_) | (refine useK (by assumption) ?_) | (with_reducible refine SP.block ?_) | (with_reducible refine thenK_exit ?_) | (with_reducible refine thenK_ret ?_) | (with_reducible refine blockK_normal ?_) | (with_reducible refine blockK_ret ?_) | (with_reducible refine blockK_eq ?_) | (with_reducible refine blockK_ne rfl ?_) | (with_reducible refine SP.skip ?_) | (with_reducible refine SP.ret ?_) | (with_reducible refine SP.exit ?_) | ((with_reducible show SP _ _ _ (Code.cond _ _ _) _ _ _); first | (refine SP.condT rfl (by first | rfl | (simp only [decide_eq_true_eq, beq_iff_eq, bne_iff_ne]; first | done | omega)) ?_) | (refine SP.condF rfl (by first | rfl | (simp only [decide_eq_false_iff_not, beq_eq_false_iff_ne, bne_eq_false_iff_eq]; first | done | omega)) ?_)))
  exact doneK.mk rfl (ResO.tmp rfl) rfl

set_option maxRecDepth 20000 in
theorem rekey_none (p : Value) (w : World) (hN : NoSt w p) : Calls Try.prog 27 #[p] w fun e w' => e = .returned (.int .i64 1) ∧ Below w.heap.size w w' := by
  refine pureE Try.func27 Try.ntmps27 Try.results27 ?_
  repeat (first | ((with_reducible refine SP.region (id := 0) ?_); refine SL.e tabOk ?_; (with_reducible refine SL.nil ?_)) | ((with_reducible refine SP.region (id := 1) ?_); refine SL.e tabOk ?_; refine SL.v (ValO.call ent_35 _ rfl _ (fun w1 hw1 => hN w1 hw1.below)) ?_; (with_reducible refine SL.nil ?_)) | ((with_reducible refine SP.region (id := 2) ?_); refine SL.e tabOk ?_; (with_reducible refine SL.nil ?_)) | ((with_reducible refine SP.seqK ?_); intro _ _) | (with_reducible refine thenK_normal ?_) | (refine useK (by assumption) ?_) | (with_reducible refine SP.block ?_) | (with_reducible refine thenK_exit ?_) | (with_reducible refine thenK_ret ?_) | (with_reducible refine blockK_normal ?_) | (with_reducible refine blockK_ret ?_) | (with_reducible refine blockK_eq ?_) | (with_reducible refine blockK_ne rfl ?_) | (with_reducible refine SP.skip ?_) | (with_reducible refine SP.ret ?_) | (with_reducible refine SP.exit ?_) | ((with_reducible show SP _ _ _ (Code.cond _ _ _) _ _ _); first | (refine SP.condT rfl (by first | rfl | (simp only [decide_eq_true_eq, beq_iff_eq, bne_iff_ne]; first | done | omega)) ?_) | (refine SP.condF rfl (by first | rfl | (simp only [decide_eq_false_iff_not, beq_eq_false_iff_ne, bne_eq_false_iff_eq]; first | done | omega)) ?_)))
  exact doneK.mk rfl (ResO.tmp rfl) rfl

end Sp

end Go.Proofs.Ythbmlpiplfbehaa
