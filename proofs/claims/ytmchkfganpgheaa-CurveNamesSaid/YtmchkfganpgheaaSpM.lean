/-
  More rules of the walk: comparisons that are decided, nil checks, cuts of arrays and slices, copies, values put together.
-/
import Derived.Test.YtmchkfganpgheaaSpC
import Derived.Test.YtmchkfganpgheaaEq
namespace Go.Proofs.Ytmchkfganpgheaa
set_option linter.unusedSimpArgs false
set_option linter.unusedVariables false
open Go Go.RowKit
namespace Sp
open M

section
variable {P : Program} {tab : Tab} {w0 : World} {mu : List Nat} {bs : Mem} {l l' : List Value} {ops : Array Oper} {rest : List Oper} {Q : ExitP}
variable {dst : Option Tmp} {op : Op} {ty : TypeId} {pos : String} {af : Array Edge} {gd : Option (Nat × Bool)}

theorem ValO.evB (ht : TabOk P tab) {o : Oper} {t b : Bool} (h : evF tab l o.op = some (.bool t)) (hb : t = b) : ValO P w0 mu bs l o (.bool b) := by subst hb; exact ValO.ev ht h
theorem ValO.nilc {x : Operand} {a : Addr} (hx : evL l x = .pointer (some a)) : ValO P w0 mu bs l ⟨dst, .nilCheck x, ty, pos, af, gd⟩ (.pointer (some a)) := by
  refine ⟨M.growAt_pure fun w => ?_⟩
  unfold execOp
  simp only [evL_eq, hx, Sem.run_pure]
theorem run_equalIn_ptr (w : World) (d t e : Nat) (a : Option Addr) (h : P.underlying t = some (.pointer e)) : (Op.equalIn (d + 1) t (.pointer a) (.pointer none)).run P w = .ok a.isNone w := by
  cases a <;> simp [Op.equalIn, run_underlying h]
theorem run_eql_ptr (w : World) (t e : Nat) (a : Option Addr) (h : P.underlying t = some (.pointer e)) : (binOp .eql t (.pointer a) (.pointer none)).run P w = .ok (.bool a.isNone) w := by
  have h2 := run_equalIn_ptr w 9999 t e a h
  simp only [binOp]
  simp [Op.equal, Op.maxDepth, h2]
theorem ValO.ptrNil (ht : TabOk P tab) {t t' : TypeId} {x y : Operand} {e sz : Nat} {a : Addr} (hl : look tab t = some (.ptr e, sz)) (hx : evL l x = .pointer (some a)) (hy : evL l y = .pointer none) :
    ValO P w0 mu bs l ⟨dst, .binOp .eql t x y t', ty, pos, af, gd⟩ (.bool false) := by
  have hu := td_ptr (look_ok ht hl)
  refine ⟨M.growAt_pure fun w => ?_⟩
  unfold execOp
  simp only [evL_eq, hx, hy]
  have h1 : (eqGuard .eql t x y (.pointer (some a)) (.pointer none)).run P w = .ok () w := by simp [eqGuard]
  rw [Sem.run_bind, Sem.run_bind, h1, Result.andThen_ok, run_eql_ptr w t e _ hu]
  rfl
theorem ValO.ptrNilT (ht : TabOk P tab) {t t' : TypeId} {x y : Operand} {e sz : Nat} (hl : look tab t = some (.ptr e, sz)) (hx : evL l x = .pointer none) (hy : evL l y = .pointer none) :
    ValO P w0 mu bs l ⟨dst, .binOp .eql t x y t', ty, pos, af, gd⟩ (.bool true) := by
  have hu := td_ptr (look_ok ht hl)
  refine ⟨M.growAt_pure fun w => ?_⟩
  unfold execOp
  simp only [evL_eq, hx, hy]
  have h1 : (eqGuard .eql t x y (.pointer (none)) (.pointer none)).run P w = .ok () w := by simp [eqGuard]
  rw [Sem.run_bind, Sem.run_bind, h1, Result.andThen_ok, run_eql_ptr w t e _ hu]
  rfl
theorem ValO.index (ht : TabOk P tab) {t : TypeId} {x y : Operand} {k j : IntKind} {L : List Int} {i : Int} {n e sz : Nat} (hl : look tab t = some (.arr n e 1, sz)) {k' : IntKind} {sz' : Nat} (hle : look tab e = some (.int k', sz')) (hx : evL l x = .agg (ints k L)) (hy : evL l y = .int j i)
    (hL : L.length = n) (h0 : 0 ≤ i) (h1 : i < n) (m : Nat) (hm : i.toNat = m) : ValO P w0 mu bs l ⟨dst, .index t x y, ty, pos, af, gd⟩ (.int k (gi L m)) := by
  subst hm
  obtain ⟨hu, hs⟩ := td_arr (look_ok ht hl)
  refine ⟨M.growAt_pure fun w => ?_⟩
  unfold execOp
  simp only [evL_eq, hx, hy, Sem.run_bind, run_index_ints w t e n k' hu (td_int (look_ok ht hle)) hs k L hL j i h0 h1, Result.andThen_ok, Sem.run_pure]
theorem ValO.eqlI (ht : TabOk P tab) {t t' : TypeId} {x y : Operand} {k : IntKind} {L L' : List Int} {n e sz : Nat} (hl : look tab t = some (.arr n e 1, sz)) {k' : IntKind} {sz' : Nat} (hle : look tab e = some (.int k', sz')) (hx : evL l x = .agg (ints k L)) (hy : evL l y = .agg (ints k L'))
    (hg : P.eqGuardType P.depth t = false) (hL : L.length = n) (hM : L'.length = n) : ValO P w0 mu bs l ⟨dst, .binOp .eql t x y t', ty, pos, af, gd⟩ (.bool (decide (L = L'))) := by
  obtain ⟨hu, hs⟩ := td_arr (look_ok ht hl)
  refine ⟨M.growAt_pure fun w => ?_⟩
  unfold execOp
  simp only [evL_eq, hx, hy, Sem.run_bind, run_eqGuard_agg w .eql t x y _ _ hg, Result.andThen_ok, run_eql_ints w t e n k' hu (td_int (look_ok ht hle)) hs k L L' hL hM, Sem.run_pure]
theorem ValO.build {t : TypeId} {parts : List (Nat × Operand)} {vals : List (Nat × Value)} (hv : parts.map (fun p => (p.1, evL l p.2)) = vals) {cells : Array Value} (hb : P.built t vals = some cells) :
    ValO P w0 mu bs l ⟨dst, .build t parts.toArray, ty, pos, af, gd⟩ (.agg cells) := by
  refine ⟨M.growAt_pure fun w => ?_⟩
  have hr := run_build (P := P) w t (parts.toArray.map fun p => (p.1, evL l p.2)) cells (by simpa [hv] using hb)
  unfold execOp
  simp only [evL_eq, Sem.run_bind, hr, Result.andThen_ok, Sem.run_pure]

/-- A bound of a cut: left out, or a number. -/
def bnd : Option Value → Nat → Nat → Prop
  | none, d, n => n = d
  | some (.int _ i), _, n => i = n
  | _, _, _ => False
theorem run_bounds (w : World) (isS : Bool) (len cap lo hi : Nat) (lv hv : Option Value) (hl : bnd lv 0 lo) (hh : bnd hv len hi) (h1 : lo ≤ hi) (h2 : hi ≤ cap) :
    (Instr.sliceBounds isS len cap lv hv none).run P w = .ok (lo, hi, cap) w := by
  unfold Instr.sliceBounds
  cases lv with
  | none =>
    cases hv with
    | none => simp [bnd] at hl hh; simp [hl, hh]
    | some v =>
      cases v <;> simp [bnd] at hl hh
      subst hl hh
      simp [Instr.sliceBound, asIntOf, h2]
  | some u =>
    cases u <;> simp [bnd] at hl
    subst hl
    cases hv with
    | none =>
      simp [bnd] at hh
      subst hh
      simp [Instr.sliceBound, asIntOf, h1]
    | some v =>
      cases v <;> simp [bnd] at hh
      subst hh
      simp [Instr.sliceBound, asIntOf, h1, h2]
theorem cutm_ne {n a off esz m : Nat} (h : n ≠ a) (hm : off + a * esz = m) : (if n = a then off else off + a * esz) = m := by rw [if_neg h, hm]
theorem cutm_eq {n a off esz : Nat} (h : n = a) : (if n = a then off else off + a * esz) = off := by rw [if_pos h]
theorem one1 {v : Value} (h : v.cells = #[v] := by rfl) (h1 : v.oneCell' = true := by rfl) : ∀ u ∈ v.cells.toList, u.oneCell' = true := by rw [h]; intro u hu; simp at hu; subst hu; exact h1
theorem opt_eval (o : Option Operand) : Option.map (⟨l.toArray, []⟩ : Act).eval o = o.map (evL l) := by cases o <;> simp [evL_eq]
theorem ValO.cutA (ht : TabOk P tab) {t : TypeId} {x : Operand} {lo hi : Option Operand} {b off n e esz sz a z : Nat} (hx : evL l x = .pointer (some ⟨b, off, none⟩)) (hl : look tab t = some (.arr n e esz, sz))
    (hlo : bnd (lo.map (evL l)) 0 a) (hhi : bnd (hi.map (evL l)) n z) (h1 : a ≤ z) (h2 : z ≤ n) (m c d : Nat) (hm : (if n = a then off else off + a * esz) = m) (hc : z - a = c) (hd : n - a = d) :
    ValO P w0 mu bs l ⟨dst, .slice t x lo hi none, ty, pos, af, gd⟩ (.slice (some ⟨b, m, none⟩) c d) := by
  subst hm hc hd
  obtain ⟨hu, hs⟩ := td_arr (look_ok ht hl)
  refine ⟨M.growAt_pure fun w => ?_⟩
  cases hq : P.info? e with
  | none => simp [hq] at hs
  | some inf =>
    have hs' : inf.size = esz := by simpa [hq] using hs
    have hb := run_bounds (P := P) w false n n a z _ _ hlo hhi h1 h2
    unfold execOp
    simp only [evL_eq, hx]
    simp only [opt_eval, Instr.sliceAt, Sem.run_bind, run_underlying hu, Result.andThen_ok, Instr.sureAddr, Sem.run_pure, Option.map_none, hb, sizeOf, typeInfo, run_program, hq, hs', add_off]
    split <;> simp_all
theorem ValO.cutS (ht : TabOk P tab) {t : TypeId} {x : Operand} {lo hi : Option Operand} {b off len cap e esz by_ sz a z : Nat} (hx : evL l x = .slice (some ⟨b, off, none⟩) len cap) (hl : look tab t = some (.sl e esz by_, sz))
    (hlo : bnd (lo.map (evL l)) 0 a) (hhi : bnd (hi.map (evL l)) len z) (h1 : a ≤ z) (h2 : z ≤ cap) (m c d : Nat) (hm : (if cap = a then off else off + a * esz) = m) (hc : z - a = c) (hd : cap - a = d) :
    ValO P w0 mu bs l ⟨dst, .slice t x lo hi none, ty, pos, af, gd⟩ (.slice (some ⟨b, m, none⟩) c d) := by
  subst hm hc hd
  obtain ⟨hu, hs, _⟩ := td_sl (look_ok ht hl)
  refine ⟨M.growAt_pure fun w => ?_⟩
  cases hq : P.info? e with
  | none => simp [hq] at hs
  | some inf =>
    have hs' : inf.size = esz := by simpa [hq] using hs
    have hb := run_bounds (P := P) w true len cap a z _ _ hlo hhi h1 h2
    unfold execOp
    simp only [evL_eq, hx]
    simp only [opt_eval, Instr.sliceAt, Instr.slice, Sem.run_bind, run_underlying hu, Result.andThen_ok, Sem.run_pure, Option.map_none, hb, sizeOf, typeInfo, run_program, hq, hs', Option.map_some, add_off]
    split <;> simp_all
theorem run_loadCells_part (w : World) (b off : Nat) (t : TypeId) (A : Array Value) (fz : Nat × Nat) (n : Nat) (hb : w.heap[b]? = some (.cells A t fz)) (hn : off + n ≤ A.size) :
    (loadCells ⟨b, off, none⟩ n).run P w = .ok (A.extract off (off + n)) w := by
  have hl : (loadCells ⟨b, off, none⟩ (A.extract off (off + n)).toList.length).run P w = .ok (A.extract off (off + n)).toList.toArray w :=
    run_loadCells_list (P := P) w ⟨b, off, none⟩ (A.extract off (off + n)).toList (fun j v hv => by
      rw [add_off, cell_of_row w b (off + j) A t fz hb]
      have hv' : (A.extract off (off + n))[j]? = some v := by rw [← hv]; simp only [Array.getElem?_toList]
      rw [Array.getElem?_extract] at hv'
      split at hv'
      · exact hv'
      · cases hv')
  have hlen : (A.extract off (off + n)).toList.length = n := by simp; omega
  rw [hlen, Array.toArray_toList] at hl
  exact hl
theorem extract_one (A : Array Value) (h : ∀ u ∈ A.toList, u.oneCell' = true) (a z : Nat) : ∀ u ∈ (A.extract a z).toList, u.oneCell' = true := by
  intro u hu
  simp only [Array.mem_toList_iff] at hu
  rw [Array.mem_iff_getElem?] at hu
  obtain ⟨i, hi⟩ := hu
  rw [Array.getElem?_extract] at hi
  split at hi
  · exact h u (by rw [Array.mem_toList_iff, Array.mem_iff_getElem?]; exact ⟨_, hi⟩)
  · cases hi
/-- copy(d, s): of two slices of cells. -/
theorem SL.copy (ht : TabOk P tab) {d s : Operand} {dT sT : TypeId} {b off dl dc b2 off2 sl sc e by_ sz : Nat} (hd : evL l d = .slice (some ⟨b, off, none⟩) dl dc) (hs : evL l s = .slice (some ⟨b2, off2, none⟩) sl sc) (hl : look tab dT = some (.sl e 1 by_, sz))
    {i : Nat} {A : Array Value} {T : TypeId} (hi : bs[i]? = some (b, A, T)) {B : Array Value} (hr : RdA w0 mu bs b2 B) (n : Nat) (hn : min sl dl = n) (hA : off + n ≤ A.size) (hB : off2 + n ≤ B.size) (h1 : ∀ u ∈ B.toList, u.oneCell' = true)
    {A' : Array Value} (hA' : putAt A off (B.extract off2 (off2 + n)).toList = A') {bs' : Mem} (hbs : bs.set i (b, A', T) = bs') (hp : putL l dst (.int .i64 (n : Int)) = l') (h : SL P ops w0 mu rest Q l' bs') :
    SL P ops w0 mu (⟨dst, .call { callee := .builtin .copy, args := #[d, s], argTypes := #[dT, sT] }, ty, pos, af, none⟩ :: rest) Q l bs := by
  subst hp hbs hA'
  refine ⟨fun W Q' hw hQ => ?_⟩
  refine wpList_plain rfl fun K hK => ?_
  obtain ⟨hu, hsz, _⟩ := td_sl (look_ok ht hl)
  have hb := hw.block (List.mem_of_getElem? hi)
  obtain ⟨T2, fz, hb2⟩ := hr.get hw
  have hld := run_loadCells_part (P := P) W b2 off2 T2 B fz n hb2 hB
  have hst := run_storeCells_row (P := P) (B.extract off2 (off2 + n)).toList (extract_one B h1 _ _) 0 W b off A T hb (by simp; omega)
  cases hq : P.info? e with
  | none => simp [hq] at hsz
  | some inf =>
    have hs' : inf.size = 1 := by simpa [hq] using hsz
    have hcp : (Builtin.copy_ #[dT, sT] ty #[.slice (some ⟨b, off, none⟩) dl dc, .slice (some ⟨b2, off2, none⟩) sl sc]).run P W = .ok (.int .i64 (n : Int)) (W.setRow b (putAt A off (B.extract off2 (off2 + n)).toList)) := by
      simp only [Nat.add_zero] at hst
      have hn' : Nat.min sl dl = n := hn
      simp only [Builtin.copy_, List.getElem?_toArray, List.getElem?_cons_zero, List.getElem?_cons_succ, Sem.run_bind, run_underlying hu, Builtin.lenOf, sizeOf, typeInfo, run_program, hq, hs', Builtin.firstCells, hn', Nat.mul_one, hld, hst, goInt, Sem.run_pure, Result.andThen_ok]
    unfold Oper.wp execOp
    simp only [resolve, Sem.run_bind, Sem.run_pure, Result.andThen_ok, invoke, builtin]
    have ha : (#[d, s].map (⟨l.toArray, []⟩ : Act).eval) = #[.slice (some ⟨b, off, none⟩) dl dc, .slice (some ⟨b2, off2, none⟩) sl sc] := by simp [evL_eq, hd, hs]
    rw [ha, hcp]
    exact hK _ _ (by rw [putL_eq]; exact h.run _ _ (hw.setRow hi _) hQ)
end
section
variable {P : Program}
theorem mut_of_SP {f : FuncId} {fn : Func} {c : Code} {args : Array Value} {w : World} {b : Nat} {A : Array Value} {T : TypeId} (hf : P.funcs[f]? = some fn) (hb : fn.body = some c) (hw : w.heap[b]? = some (.cells A T (0, 0))) (l : List Value) (hl : args ++ Array.replicate (fn.ntmps - args.size) undef = l.toArray)
    (rs : Array ResultVar) (hrs : fn.results = rs) (v : Value) (A' : Array Value) (h : SP P w [b] c (doneK P w [b] rs (fun v' bs' => v' = v ∧ [(b, A', T)].Sublist bs')) l [(b, A, T)]) : Calls P f args w fun e w' => e = .returned v ∧ OwnM w [b] w' [(b, A', T)] :=
  (calls_of_SP hf hb (OwnM.start1 w hw) l hl rs hrs _ h).mono fun e w' ⟨v', bs', he, ⟨hv, hs⟩, hw'⟩ => ⟨by rw [he, hv], hw'.sub hs⟩
theorem new_of_SP {f : FuncId} {fn : Func} {c : Code} {args : Array Value} {w : World} {A : Array Value} {T : TypeId} (hf : P.funcs[f]? = some fn) (hb : fn.body = some c) (l : List Value) (hl : args ++ Array.replicate (fn.ntmps - args.size) undef = l.toArray)
    (rs : Array ResultVar) (hrs : fn.results = rs) (V : Nat → Value) (h : SP P w [] c (doneK P w [] rs (fun v' bs' => ∃ b, v' = V b ∧ [(b, A, T)].Sublist bs')) l []) : Calls P f args w fun e w' => ∃ b, e = .returned (V b) ∧ OwnM w [] w' [(b, A, T)] :=
  (calls_of_SP hf hb (OwnM.start w) l hl rs hrs _ h).mono fun e w' ⟨v', bs', he, ⟨b, hv, hs⟩, hw'⟩ => ⟨b, by rw [he, hv], hw'.sub hs⟩
theorem sub1 {α : Type} {a : α} {r : List α} : [a].Sublist (a :: r) := by simp
theorem subc {α : Type} {a b : α} {r : List α} (h : [a].Sublist r) : [a].Sublist (b :: r) := h.cons _
end
end Sp
end Go.Proofs.Ytmchkfganpgheaa
