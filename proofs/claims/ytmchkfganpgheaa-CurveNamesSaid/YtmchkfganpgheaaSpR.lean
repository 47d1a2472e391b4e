/-
  The walk's rules: operations, regions, code, calls.
-/
import Derived.Test.YtmchkfganpgheaaSp
namespace Go.Proofs.Ytmchkfganpgheaa
set_option linter.unusedSimpArgs false
set_option linter.unusedVariables false
open Go Go.RowKit
namespace Sp
open M

section
variable {P : Program} {tab : Tab} {w0 : World} {mu : List Nat} {bs : Mem} {l : List Value}

theorem run_callFn_enter {f : FuncId} {fn : Func} {c : Code} (hf : P.funcs[f]? = some fn) (hname : (fn.name == "runtime.NumGoroutine") = false) (hb : fn.body = some c) (args : Array Value) (w : World) :
    (callFunc f args).run P w = .ok (.enter f args) w := by
  have h1 : fn.name ≠ "runtime.NumGoroutine" := by simpa using hname
  simp [callFunc, hf, h1, hb]
theorem run_field (ht : TabOk P tab) {t i b off o u s sz : Nat} {fs : List (Nat × Nat × Nat)} (hl : look tab t = some (.st fs, sz)) (hf : fs[i]? = some (u, o, s)) (w : World) :
    (Instr.fieldAt t (.pointer (some ⟨b, off, none⟩)) i).run P w = .ok (.pointer (some ⟨b, off + o, none⟩)) w := by
  obtain ⟨gs, hu, hfo⟩ := td_st (look_ok ht hl)
  obtain ⟨f, hg, rfl, rfl, hs, h0⟩ := fieldsOk_get _ _ hfo i _ _ _ hf
  have hg' : gs[i]? = some f := by simpa using hg
  cases hq : P.info? f.type with
  | none => simp [hq] at hs
  | some inf =>
    have hs' : inf.size = s := by simpa [hq] using hs
    simp [Instr.fieldAt, Sem.run_bind, run_underlying hu, hg', Instr.sureAddr, fieldPlace, sizeOf, typeInfo, hq, hs', h0, add_off]
theorem run_index (ht : TabOk P tab) {t b off n e esz sz : Nat} {k : IntKind} {i : Int} (hl : look tab t = some (.arr n e esz, sz)) (h0 : 0 ≤ i) (h1 : i < n) (w : World) :
    (Instr.indexAt t (.pointer (some ⟨b, off, none⟩)) (.int k i)).run P w = .ok (.pointer (some ⟨b, off + i.toNat * esz, none⟩)) w := by
  obtain ⟨hu, hs⟩ := td_arr (look_ok ht hl)
  exact run_indexAt_arr w t e n esz hu hs b off k i h0 h1 _ rfl
theorem run_indexS (ht : TabOk P tab) {t b off n c e esz by_ sz : Nat} {k : IntKind} {i : Int} (hl : look tab t = some (.sl e esz by_, sz)) (h0 : 0 ≤ i) (h1 : i < n) (w : World) :
    (Instr.indexAt t (.slice (some ⟨b, off, none⟩) n c) (.int k i)).run P w = .ok (.pointer (some ⟨b, off + i.toNat * esz, none⟩)) w := by
  obtain ⟨hu, hs, _⟩ := td_sl (look_ok ht hl)
  cases hq : P.info? e with
  | none => simp [hq] at hs
  | some inf =>
    have hs' : inf.size = esz := by simpa [hq] using hs
    simp [Instr.indexAt, asIntOf, Sem.run_bind, run_underlying hu, h0, h1, sizeOf, typeInfo, hq, hs', add_off]

/-- What an operation yields, in every world of the frame. -/
structure ValO (P : Program) (w0 : World) (mu : List Nat) (bs : Mem) (l : List Value) (o : Oper) (v : Value) : Prop where
  out : growAtM P w0 mu bs o ⟨l.toArray, []⟩ v

theorem evConv_ok (ht : TabOk P tab) {s d : Nat} {x v : Value} (h : evConv tab s d x = some v) (w : World) : (convert s d x).run P w = .ok v w := by
  unfold evConv at h
  split at h
  · rename_i k n
    split at h
    · rename_i r kd sz hs hd
      cases h
      have hu := td_int (look_ok ht hd)
      have h1 := td_size (look_ok ht hs)
      have : ∃ d', P.underlying s = some d' := by
        have h2 := look_ok ht hs
        unfold tdOk at h2
        simp only [Bool.and_eq_true] at h2
        have h2 := h2.2
        cases hq : P.underlying s with
        | some d' => exact ⟨d', rfl⟩
        | none => rw [hq] at h2; split at h2 <;> simp_all
      obtain ⟨d', hd'⟩ := this
      simp [convert, Sem.run_bind, run_underlying hu, run_underlying hd', Conv.intToInt]
    · cases h
  · cases h

theorem ValO.ev (ht : TabOk P tab) {o : Oper} {v : Value} (h : evF tab l o.op = some v) : ValO P w0 mu bs l o v := by
  refine ⟨growAt_pure fun w => ?_⟩
  unfold execOp
  obtain ⟨dst, op, ty, pos, af, gd⟩ := o
  cases op <;> simp only [evF, reduceCtorEq] at h <;> simp only [evL_eq]
  case move x => cases h; rfl
  case assign x => cases h; rfl
  case pick c a b =>
    unfold evPick at h
    split at h
    · rename_i hc; cases h; simp [hc, asBool]
    · rename_i hc; cases h; simp [hc, asBool]
    · cases h
  case binOp op t x y t' =>
    unfold evBinV at h
    split at h
    · rename_i k a k' b hx hy
      rw [hx, hy]
      split at h
      · rename_i hs
        unfold evShift at h
        split at h
        · cases h
        · rename_i hb
          cases op <;> simp [isShift] at hs <;> cases h <;> simp [go_sem, binOp, Op.shift, eqGuard, hb]
      · split at h
        · rename_i hkk
          subst hkk
          have := evBin_ok (P := P) h t x y w
          rw [Sem.run_bind, this]; rfl
        · cases h
    · cases h
  case unOp op t x =>
    unfold evUn at h
    split at h
    · rename_i k n hx
      rw [hx]
      cases op <;> simp at h <;> subst h <;> simp [Op.unary, Op.intArith]
    · rename_i b hx
      rw [hx]
      cases op <;> simp at h <;> subst h <;> simp [Op.unary]
    · cases h
  case convert s d x =>
    rw [Sem.run_bind, evConv_ok ht h w]; rfl
  case extract x i =>
    unfold evExtract at h
    split at h
    · rename_i vs hx
      rw [hx]
      rw [lget_eq, Array.getElem?_toList] at h
      simp [Instr.extract, h]
    · cases h
  case fieldAddr t x i =>
    unfold evField at h
    split at h
    · rename_i b off hx
      rw [hx]
      split at h
      · rename_i fs sz hl
        split at h
        · rename_i u o s hf
          cases h
          rw [Sem.run_bind, run_field ht hl hf]; rfl
        · cases h
      · cases h
    · cases h
  case indexAddr t x y =>
    unfold evIndex at h
    split at h
    · rename_i b off k i hx hy
      rw [hx, hy]
      split at h
      · rename_i n e esz sz hl
        split at h
        · rename_i hi
          cases h
          rw [Sem.run_bind, run_index ht hl hi.1 hi.2]; rfl
        · cases h
      · cases h
    · cases h

theorem ValO.idxA (ht : TabOk P tab) {t : Nat} {x y : Operand} {dst : Option Tmp} {ty : TypeId} {pos : String} {af : Array Edge} {gd : Option (Nat × Bool)} (b off : Nat) (hx : evL l x = .pointer (some ⟨b, off, none⟩)) (k : IntKind) (i : Int) (hy : evL l y = .int k i)
    (n e esz sz : Nat) (hl : look tab t = some (.arr n e esz, sz)) (h0 : 0 ≤ i) (h1 : i < n) (m : Nat) (hm : off + i.toNat * esz = m) : ValO P w0 mu bs l ⟨dst, .indexAddr t x y, ty, pos, af, gd⟩ (.pointer (some ⟨b, m, none⟩)) := by
  subst hm
  refine ⟨growAt_pure fun w => ?_⟩
  unfold execOp
  simp only [evL_eq, hx, hy]
  rw [Sem.run_bind, run_index ht hl h0 h1]; rfl
theorem ValO.idxS (ht : TabOk P tab) {t : Nat} {x y : Operand} {dst : Option Tmp} {ty : TypeId} {pos : String} {af : Array Edge} {gd : Option (Nat × Bool)} (b off n c : Nat) (hx : evL l x = .slice (some ⟨b, off, none⟩) n c) (k : IntKind) (i : Int) (hy : evL l y = .int k i)
    (e esz by_ sz : Nat) (hl : look tab t = some (.sl e esz by_, sz)) (h0 : 0 ≤ i) (h1 : i < n) (m : Nat) (hm : off + i.toNat * esz = m) : ValO P w0 mu bs l ⟨dst, .indexAddr t x y, ty, pos, af, gd⟩ (.pointer (some ⟨b, m, none⟩)) := by
  subst hm
  refine ⟨growAt_pure fun w => ?_⟩
  unfold execOp
  simp only [evL_eq, hx, hy]
  rw [Sem.run_bind, run_indexS ht hl h0 h1]; rfl
theorem ValO.ldCell (ht : TabOk P tab) {t : Nat} {x : Operand} {dst : Option Tmp} {ty : TypeId} {pos : String} {af : Array Edge} {gd : Option (Nat × Bool)} (b j : Nat) (hx : evL l x = .pointer (some ⟨b, j, none⟩))
    (td : TD) (sz : Nat) (hl : look tab t = some (td, sz)) (hc : td.isCell = true) (A : Array Value) (hr : RdA w0 mu bs b A) (v : Value) (hv : A[j]? = some v) : ValO P w0 mu bs l ⟨dst, .load t x, ty, pos, af, gd⟩ v := by
  refine ⟨fun w hw => ?_⟩
  obtain ⟨T, fz, hb⟩ := hr.get hw
  obtain ⟨d, hu, hd⟩ := td_cell (look_ok ht hl) hc
  have hld := run_loadAt_cell (P := P) (W := w) t d hu (by cases d <;> simp_all) ⟨b, j, none⟩ v (by rw [cell_of_row w b j A T fz hb]; exact hv)
  unfold execOp
  simp only [evL_eq, hx, Sem.run_bind, Sem.run_pure, Result.andThen_ok, hld]
  exact ⟨rfl, rfl⟩
theorem ValO.ldInt (ht : TabOk P tab) {t : Nat} {x : Operand} {dst : Option Tmp} {ty : TypeId} {pos : String} {af : Array Edge} {gd : Option (Nat × Bool)} (b j : Nat) (hx : evL l x = .pointer (some ⟨b, j, none⟩))
    (k0 : IntKind) (sz : Nat) (hl : look tab t = some (.int k0, sz)) (k : IntKind) (L : List Int) (hr : RdA w0 mu bs b (ints k L)) (hj : j < L.length) : ValO P w0 mu bs l ⟨dst, .load t x, ty, pos, af, gd⟩ (.int k (gi L j)) :=
  ValO.ldCell ht b j hx _ sz hl rfl _ hr _ (ints_get hj)
theorem ValO.ldPart (ht : TabOk P tab) {t : Nat} {x : Operand} {dst : Option Tmp} {ty : TypeId} {pos : String} {af : Array Edge} {gd : Option (Nat × Bool)} (b off : Nat) (hx : evL l x = .pointer (some ⟨b, off, none⟩))
    (td : TD) (n : Nat) (hl : look tab t = some (td, n)) (hc : td.isAgg = true) (A : Array Value) (hr : RdA w0 mu bs b A) (hn : off + n ≤ A.size) (B : Array Value) (hB : A.extract off (off + n) = B) : ValO P w0 mu bs l ⟨dst, .load t x, ty, pos, af, gd⟩ (.agg B) := by
  subst hB
  refine ⟨fun w hw => ?_⟩
  obtain ⟨T, fz, hb⟩ := hr.get hw
  obtain ⟨d, hu, hd⟩ := td_agg (look_ok ht hl) hc
  have hld := run_loadPart (P := P) w b off T t A fz d n hb hn hu (by cases d <;> simp_all) (td_size (look_ok ht hl))
  unfold execOp
  simp only [evL_eq, hx, Instr.loadAt, Instr.sureAddr, Sem.run_bind, Sem.run_pure, Result.andThen_ok, hld]
  exact ⟨rfl, rfl⟩
theorem ValO.ldRow (ht : TabOk P tab) {t : Nat} {x : Operand} {dst : Option Tmp} {ty : TypeId} {pos : String} {af : Array Edge} {gd : Option (Nat × Bool)} (b : Nat) (hx : evL l x = .pointer (some ⟨b, 0, none⟩))
    (td : TD) (n : Nat) (hl : look tab t = some (td, n)) (hc : td.isAgg = true) (A : Array Value) (hr : RdA w0 mu bs b A) (hn : A.size = n) : ValO P w0 mu bs l ⟨dst, .load t x, ty, pos, af, gd⟩ (.agg A) :=
  ValO.ldPart ht b 0 hx td n hl hc A hr (by omega) A (by subst hn; simp)
theorem run_call_fn {w : World} {a : Act} {f : FuncId} {args : Array Operand} {ats : Array TypeId} {dst : Option Tmp} {ty : TypeId} {pos : String} {af : Array Edge} {gd : Option (Nat × Bool)} {A : Array Value} (hA : args.map a.eval = A) :
    (execOp a.eval ⟨dst, .call { callee := .value (.func f), args, argTypes := ats }, ty, pos, af, gd⟩).run P w = (callFunc f A).run P w := by
  subst hA
  unfold execOp
  simp [resolve, Deferred.ofValue, invoke, Act.eval]
theorem args_map (args : List Operand) : (args.toArray.map (⟨l.toArray, []⟩ : Act).eval) = (args.map (evL l)).toArray := by simp [evL_eq]
theorem ValO.call {f : FuncId} {args : List Operand} {ats : Array TypeId} {dst : Option Tmp} {ty : TypeId} {pos : String} {af : Array Edge} {gd : Option (Nat × Bool)} (hent : ∀ (A : Array Value) (w : World), (callFunc f A).run P w = .ok (.enter f A) w)
    (vals : List Value) (hv : args.map (evL l) = vals) (v : Value) (hc : ∀ w, OwnM w0 mu w bs → Calls P f vals.toArray w fun e w' => e = .returned v ∧ Below w.heap.size w w') :
    ValO P w0 mu bs l ⟨dst, .call { callee := .value (.func f), args := args.toArray, argTypes := ats }, ty, pos, af, gd⟩ v := by
  refine ⟨fun w hw => ?_⟩
  rw [run_call_fn (args_map args), hv, hent]
  exact ⟨rfl, hc w hw⟩
theorem ValO.ext {f : FuncId} {args : List Operand} {ats : Array TypeId} {dst : Option Tmp} {ty : TypeId} {pos : String} {af : Array Edge} {gd : Option (Nat × Bool)}
    (vals : List Value) (hv : args.map (evL l) = vals) (v : Value) (hc : ∀ w, (callFunc f vals.toArray).run P w = .ok (.value v) w) :
    ValO P w0 mu bs l ⟨dst, .call { callee := .value (.func f), args := args.toArray, argTypes := ats }, ty, pos, af, gd⟩ v := by
  refine ⟨fun w hw => ?_⟩
  rw [run_call_fn (args_map args), hv, hc]
  exact ⟨rfl, rfl⟩
theorem ValO.len (ht : TabOk P tab) {x : Operand} {t : Nat} {dst : Option Tmp} {ty : TypeId} {pos : String} {af : Array Edge} {gd : Option (Nat × Bool)} {v : Value} (h : evLen tab t (evL l x) = some v) :
    ValO P w0 mu bs l ⟨dst, .call { callee := .builtin .len, args := #[x], argTypes := #[t] }, ty, pos, af, gd⟩ v := by
  refine ⟨growAt_pure fun w => ?_⟩
  unfold execOp
  unfold evLen at h
  split at h
  · rename_i a n c hx
    split at h
    · rename_i e esz by_ sz hl
      cases h
      obtain ⟨hu, _, _⟩ := td_sl (look_ok ht hl)
      simp [resolve, invoke, builtin, Builtin.len_, evL_eq, hx, run_underlying hu, goInt]
    · cases h
  · rename_i s hx
    split at h
    · rename_i sz hl
      cases h
      have hu := td_str (look_ok ht hl)
      simp [resolve, invoke, builtin, Builtin.len_, evL_eq, hx, run_underlying hu, goInt]
    · cases h
  · rename_i cs hx
    split at h
    · rename_i n e esz sz hl
      cases h
      obtain ⟨hu, _⟩ := td_arr (look_ok ht hl)
      simp [resolve, invoke, builtin, Builtin.len_, evL_eq, hx, run_underlying hu, goInt]
    · cases h
  · cases h
theorem ValO.min {x y : Operand} {ats : Array TypeId} {dst : Option Tmp} {ty : TypeId} {pos : String} {af : Array Edge} {gd : Option (Nat × Bool)} (k : IntKind) (a b : Int) (hx : evL l x = .int k a) (hy : evL l y = .int k b) (c : Int) (hc : (if b < a then b else a) = c) :
    ValO P w0 mu bs l ⟨dst, .call { callee := .builtin .min, args := #[x, y], argTypes := ats }, ty, pos, af, gd⟩ (.int k c) := by
  subst hc
  refine ⟨growAt_pure fun w => ?_⟩
  unfold execOp
  simp [resolve, invoke, builtin, Builtin.min_, Builtin.min2, evL_eq, hx, hy]
theorem ValO.max {x y : Operand} {ats : Array TypeId} {dst : Option Tmp} {ty : TypeId} {pos : String} {af : Array Edge} {gd : Option (Nat × Bool)} (k : IntKind) (a b : Int) (hx : evL l x = .int k a) (hy : evL l y = .int k b) (c : Int) (hc : (if b > a then b else a) = c) :
    ValO P w0 mu bs l ⟨dst, .call { callee := .builtin .max, args := #[x, y], argTypes := ats }, ty, pos, af, gd⟩ (.int k c) := by
  subst hc
  refine ⟨growAt_pure fun w => ?_⟩
  unfold execOp
  simp [resolve, invoke, builtin, Builtin.max_, Builtin.max2, evL_eq, hx, hy]
theorem ValO.shift {op : BinOp} {t t' : TypeId} {x y : Operand} {dst : Option Tmp} {ty : TypeId} {pos : String} {af : Array Edge} {gd : Option (Nat × Bool)} (k k' : IntKind) (a b : Int) (hx : evL l x = .int k a) (hy : evL l y = .int k' b) (hb : 0 ≤ b) (v : Value)
    (hv : (match op with | .shl => some (.int k (k.wrap (a * 2 ^ (Min.min b.toNat k.bits)))) | .shr => some (.int k (a.fdiv (2 ^ (Min.min b.toNat k.bits)))) | _ => none) = some v) :
    ValO P w0 mu bs l ⟨dst, .binOp op t x y t', ty, pos, af, gd⟩ v := by
  refine ⟨growAt_pure fun w => ?_⟩
  unfold execOp
  have hb' : ¬ b < 0 := by omega
  simp only [evL_eq, hx, hy]
  cases op <;> simp at hv <;> subst hv <;> simp [go_sem, binOp, Op.shift, eqGuard, hb']
theorem ValO.divm {op : BinOp} {t t' : TypeId} {x y : Operand} {dst : Option Tmp} {ty : TypeId} {pos : String} {af : Array Edge} {gd : Option (Nat × Bool)} (k : IntKind) (a b : Int) (hx : evL l x = .int k a) (hy : evL l y = .int k b) (hb : b ≠ 0) (v : Value)
    (hv : (match op with | .quo => some (.int k (k.wrap (a.tdiv b))) | .rem => some (.int k (a.tmod b)) | _ => none) = some v) :
    ValO P w0 mu bs l ⟨dst, .binOp op t x y t', ty, pos, af, gd⟩ v := by
  refine ⟨growAt_pure fun w => ?_⟩
  unfold execOp
  simp only [evL_eq, hx, hy]
  cases op <;> simp at hv <;> subst hv <;> simp [go_sem, binOp, Op.intDiv, eqGuard, hb]
end
end Sp
end Go.Proofs.Ytmchkfganpgheaa
