/-
  Joined texts: Sp, SpR, SpC. No conditions.
-/
import Derived.Test.YtdjecenggngdjaaGaa
import Derived.Laws.StructEq
import Derived.Laws.Externs
namespace Go.Proofs.Ytdjecenggngdjaa
set_option linter.unusedSimpArgs false
set_option linter.unusedVariables false
set_option maxHeartbeats 16000000
section
open Go Go.RowKit
namespace Sp
open M
inductive TD where
  | int (k : IntKind)
  | bool
  | str
  | ptr (e : Nat)
  | sl (e esz bytes : Nat)
  | arr (n e esz : Nat)
  | st (fs : List (Nat × Nat × Nat))
  | other
abbrev Tab := List (Nat × TD × Nat)
def fieldsOk (P : Program) : List Field → List (Nat × Nat × Nat) → Bool
  | [], [] => true
  | f :: fs, (t, o, s) :: r => f.type == t && f.offset == o && decide ((P.info? t).map (·.size) = some s) && s != 0 && fieldsOk P fs r
  | _, _ => false
def tdOk (P : Program) (t : Nat) (td : TD) (sz : Nat) : Bool :=
  decide ((P.info? t).map (·.size) = some sz) &&
  match td, P.underlying t with
  | .int k, some (.int k') => decide (k = k')
  | .bool, some .bool => true
  | .str, some .string => true
  | .ptr e, some (.pointer e') => e == e'
  | .sl e s b, some (.slice e') => e == e' && decide ((P.info? e).map (·.size) = some s) && decide ((P.info? e).map (·.bytes) = some b)
  | .arr n e s, some (.array n' e') => n == n' && e == e' && decide ((P.info? e).map (·.size) = some s)
  | .st fs, some (.struct gs) => fieldsOk P gs.toList fs
  | .other, some _ => true
  | _, _ => false
def TabOk (P : Program) (tab : Tab) : Prop := tab.all (fun e => tdOk P e.1 e.2.1 e.2.2) = true
def look : Tab → Nat → Option (TD × Nat)
  | [], _ => none
  | (u, td, sz) :: r, t => if t = u then some (td, sz) else look r t
section
variable {P : Program} {tab : Tab}
theorem look_ok (ht : TabOk P tab) {t : Nat} {td : TD} {sz : Nat} (h : look tab t = some (td, sz)) : tdOk P t td sz = true := by
  unfold TabOk at ht
  induction tab with
  | nil => cases h
  | cons e r ih =>
    obtain ⟨u, td', sz'⟩ := e
    simp only [List.all_cons, Bool.and_eq_true] at ht
    simp only [look] at h
    split at h
    · rename_i he
      simp only [Option.some.injEq, Prod.mk.injEq] at h
      obtain ⟨rfl, rfl⟩ := h
      subst he
      exact ht.1
    · exact ih ht.2 h
theorem td_size {t : Nat} {td : TD} {sz : Nat} (h : tdOk P t td sz = true) : (P.info? t).map (·.size) = some sz := by
  unfold tdOk at h
  simp only [Bool.and_eq_true, decide_eq_true_eq] at h
  exact h.1
theorem td_int {t : Nat} {k : IntKind} {sz : Nat} (h : tdOk P t (.int k) sz = true) : P.underlying t = some (.int k) := by
  unfold tdOk at h
  simp only [Bool.and_eq_true] at h
  have h := h.2
  split at h <;> simp_all
theorem td_arr {t n e s sz : Nat} (h : tdOk P t (.arr n e s) sz = true) : P.underlying t = some (.array n e) ∧ (P.info? e).map (·.size) = some s := by
  unfold tdOk at h
  simp only [Bool.and_eq_true] at h
  have h := h.2
  split at h <;> simp_all
theorem td_sl {t e s b sz : Nat} (h : tdOk P t (.sl e s b) sz = true) : P.underlying t = some (.slice e) ∧ (P.info? e).map (·.size) = some s ∧ (P.info? e).map (·.bytes) = some b := by
  unfold tdOk at h
  simp only [Bool.and_eq_true] at h
  have h := h.2
  split at h <;> simp_all
theorem td_str {t sz : Nat} (h : tdOk P t .str sz = true) : P.underlying t = some .string := by
  unfold tdOk at h
  simp only [Bool.and_eq_true] at h
  have h := h.2
  split at h <;> simp_all
theorem td_bool {t sz : Nat} (h : tdOk P t .bool sz = true) : P.underlying t = some .bool := by
  unfold tdOk at h
  simp only [Bool.and_eq_true] at h
  have h := h.2
  split at h <;> simp_all
theorem td_ptr {t e sz : Nat} (h : tdOk P t (.ptr e) sz = true) : P.underlying t = some (.pointer e) := by
  unfold tdOk at h
  simp only [Bool.and_eq_true] at h
  have h := h.2
  split at h <;> simp_all
theorem fieldsOk_get : ∀ (gs : List Field) (fs : List (Nat × Nat × Nat)), fieldsOk P gs fs = true → ∀ (i t o s : Nat), fs[i]? = some (t, o, s) → ∃ f, gs[i]? = some f ∧ f.type = t ∧ f.offset = o ∧ (P.info? t).map (·.size) = some s ∧ s ≠ 0
  | [], [], _, i, t, o, s, hi => by simp at hi
  | f :: gs, (t', o', s') :: fs, h, i, t, o, s, hi => by
    simp only [fieldsOk, Bool.and_eq_true, decide_eq_true_eq, beq_iff_eq, bne_iff_ne] at h
    cases i with
    | zero =>
      simp only [List.getElem?_cons_zero, Option.some.injEq, Prod.mk.injEq] at hi
      obtain ⟨rfl, rfl, rfl⟩ := hi
      exact ⟨f, rfl, h.1.1.1.1, h.1.1.1.2, h.1.1.2, h.1.2⟩
    | succ i =>
      simp only [List.getElem?_cons_succ] at hi ⊢
      exact fieldsOk_get gs fs h.2 i t o s hi
  | [], _ :: _, h, _, _, _, _, _ => by simp [fieldsOk] at h
  | _ :: _, [], h, _, _, _, _, _ => by simp [fieldsOk] at h
theorem td_st {t sz : Nat} {fs : List (Nat × Nat × Nat)} (h : tdOk P t (.st fs) sz = true) : ∃ gs, P.underlying t = some (.struct gs) ∧ fieldsOk P gs.toList fs = true := by
  unfold tdOk at h
  simp only [Bool.and_eq_true] at h
  have h := h.2
  split at h <;> simp_all
def TD.isAgg : TD → Bool
  | .arr _ _ _ | .st _ => true
  | _ => false
def TD.isCell : TD → Bool
  | .int _ | .bool | .str | .ptr _ | .sl _ _ _ => true
  | _ => false
theorem td_agg {t sz : Nat} {td : TD} (h : tdOk P t td sz = true) (ha : td.isAgg = true) : ∃ d, P.underlying t = some d ∧ (match d with | .struct _ | .array _ _ => true | _ => false) = true := by
  unfold tdOk at h
  simp only [Bool.and_eq_true] at h
  have h := h.2
  split at h <;> simp_all [TD.isAgg]
theorem td_cell {t sz : Nat} {td : TD} (h : tdOk P t td sz = true) (ha : td.isCell = true) : ∃ d, P.underlying t = some d ∧ (match d with | .struct _ | .array _ _ => true | _ => false) = false := by
  unfold tdOk at h
  simp only [Bool.and_eq_true] at h
  have h := h.2
  split at h <;> simp_all [TD.isCell]
end
def evBin (op : BinOp) (k : IntKind) (a b : Int) : Option Value :=
  match op with
  | .add => some (.int k (k.wrap (a + b)))
  | .sub => some (.int k (k.wrap (a - b)))
  | .mul => some (.int k (k.wrap (a * b)))
  | .and => some (.int k (bits .and k a b))
  | .or => some (.int k (bits .or k a b))
  | .xor => some (.int k (bits .xor k a b))
  | .andNot => some (.int k (bits .andNot k a b))
  | .eql => some (.bool (a == b))
  | .neq => some (.bool (a != b))
  | .lss => some (.bool (decide (a < b)))
  | .leq => some (.bool (decide (a ≤ b)))
  | .gtr => some (.bool (decide (a > b)))
  | .geq => some (.bool (decide (a ≥ b)))
  | .quo => if b = 0 then none else some (.int k (k.wrap (a.tdiv b)))
  | .rem => if b = 0 then none else some (.int k (a.tmod b))
  | _ => none
def evShift (op : BinOp) (k : IntKind) (a b : Int) : Option Value :=
  if b < 0 then none else
  match op with
  | .shl => some (.int k (k.wrap (a * 2 ^ (min b.toNat k.bits))))
  | .shr => some (.int k (a.fdiv (2 ^ (min b.toNat k.bits))))
  | _ => none
def isShift : BinOp → Bool
  | .shl | .shr => true
  | _ => false
def evUn (op : UnOp) : Value → Option Value
  | .int k n => match op with
    | .neg => some (.int k (k.wrap (0 - n)))
    | _ => none
  | .bool b => match op with
    | .not => some (.bool !b)
    | _ => none
  | _ => none
def evBinV (op : BinOp) : Value → Value → Option Value
  | .int k a, .int k' b => if isShift op then evShift op k a b else if k = k' then evBin op k a b else none
  | _, _ => none
def evConv (tab : Tab) (s d : Nat) : Value → Option Value
  | .int _ n => match look tab s, look tab d with
    | some _, some (.int kd, _) => some (.int kd (kd.wrap n))
    | _, _ => none
  | _ => none
def evField (tab : Tab) (t i : Nat) : Value → Option Value
  | .pointer (some ⟨b, off, none⟩) => match look tab t with
    | some (.st fs, _) => match fs[i]? with
      | some (_, o, _) => some (.pointer (some ⟨b, off + o, none⟩))
      | none => none
    | _ => none
  | _ => none
def evIndex (tab : Tab) (t : Nat) : Value → Value → Option Value
  | .pointer (some ⟨b, off, none⟩), .int _ i => match look tab t with
    | some (.arr n _ esz, _) => if 0 ≤ i ∧ i < n then some (.pointer (some ⟨b, off + i.toNat * esz, none⟩)) else none
    | _ => none
  | _, _ => none
def lget : List Value → Nat → Option Value
  | [], _ => none
  | v :: _, 0 => some v
  | _ :: r, n + 1 => lget r n
theorem lget_eq : ∀ (l : List Value) (n : Nat), lget l n = l[n]?
  | [], _ => rfl
  | _ :: _, 0 => rfl
  | _ :: r, n + 1 => by simpa [lget] using lget_eq r n
def evExtract (i : Nat) : Value → Option Value
  | .tuple vs => lget vs.toList i
  | _ => none
def evPick (a b : Value) : Value → Option Value
  | .bool true => some a
  | .bool false => some b
  | _ => none
def evLen (tab : Tab) (t : Nat) : Value → Option Value
  | .slice _ n _ => match look tab t with
    | some (.sl _ _ _, _) => some (.int .i64 n)
    | _ => none
  | .string s => match look tab t with
    | some (.str, _) => some (.int .i64 s.size)
    | _ => none
  | .agg _ => match look tab t with
    | some (.arr n _ _, _) => some (.int .i64 n)
    | _ => none
  | _ => none
def evF (tab : Tab) (l : List Value) : Op → Option Value
  | .move x => some (evL l x)
  | .assign x => some (evL l x)
  | .pick c a b => evPick (evL l a) (evL l b) (evL l c)
  | .binOp op _ x y _ => evBinV op (evL l x) (evL l y)
  | .unOp op _ x => evUn op (evL l x)
  | .convert s d x => evConv tab s d (evL l x)
  | .extract x i => evExtract i (evL l x)
  | .fieldAddr t x i => evField tab t i (evL l x)
  | .indexAddr t x y => evIndex tab t (evL l x) (evL l y)
  | _ => none
section
variable {P : Program} {tab : Tab}
theorem evBin_ok {op : BinOp} {k : IntKind} {a b : Int} {v : Value} (h : evBin op k a b = some v) (t : TypeId) (x y : Operand) (w : World) :
    (do eqGuard op t x y (.int k a) (.int k b); binOp op t (.int k a) (.int k b) : Sem Value).run P w = .ok v w := by
  cases op <;> simp only [evBin, Option.some.injEq, reduceCtorEq] at h
  case quo =>
    split at h
    · cases h
    · rename_i hb
      cases h
      simp [go_sem, binOp, Op.intDiv, hb, eqGuard]
  case rem =>
    split at h
    · cases h
    · rename_i hb
      cases h
      simp [go_sem, binOp, Op.intDiv, hb, eqGuard]
  all_goals (subst h; first | (simp only [go_sem]; rfl) | (simp [go_sem, binOp, Op.intArith, Op.intCmp, Op.intBits, eqGuard, bits]; done) | (simp [go_sem, binOp, Op.intArith, Op.intCmp, Op.intBits, eqGuard, bits]; rfl))
end
end Sp
end
section
open Go Go.RowKit
namespace Sp
open M
section
variable {P : Program} {tab : Tab} {w0 : World} {mu : List Nat} {bs : Mem} {l : List Value}
theorem run_callFn_enter {f : FuncId} {fn : Func} {c : Code} (hf : P.funcs[f]? = some fn) (hname : (fn.name == "runtime.NumGoroutine") = false) (hb : fn.body = some c) (args : Array Value) (w : World) :
    (callFunc f args).run P w = .ok (.enter f args) w := by
  have h1 : fn.name ≠ "runtime.NumGoroutine" := by simpa using hname
  simp [callFunc, hf, h1, hb]
theorem run_field (ht : TabOk P tab) {t i b off o u s sz : Nat} {fs : List (Nat × Nat × Nat)} (hl : look tab t = some (.st fs, sz)) (hf : fs[i]? = some (u, o, s)) (w : World) :
    (Instr.fieldAt t (.pointer (some ⟨b, off, none⟩)) i).run P w = .ok (.pointer (some ⟨b, off + o, none⟩)) w := by
  obtain ⟨gs, hu, hfo⟩ := td_st (look_ok ht hl)
  obtain ⟨f, hg, rfl, rfl, hs, h0⟩ := fieldsOk_get _ _ hfo i _ _ _ hf
  have hg' : gs[i]? = some f := by simpa using hg
  cases hq : P.info? f.type with
  | none => simp [hq] at hs
  | some inf =>
    have hs' : inf.size = s := by simpa [hq] using hs
    simp [Instr.fieldAt, Sem.run_bind, run_underlying hu, hg', Instr.sureAddr, fieldPlace, sizeOf, typeInfo, hq, hs', h0, add_off]
theorem run_index (ht : TabOk P tab) {t b off n e esz sz : Nat} {k : IntKind} {i : Int} (hl : look tab t = some (.arr n e esz, sz)) (h0 : 0 ≤ i) (h1 : i < n) (w : World) :
    (Instr.indexAt t (.pointer (some ⟨b, off, none⟩)) (.int k i)).run P w = .ok (.pointer (some ⟨b, off + i.toNat * esz, none⟩)) w := by
  obtain ⟨hu, hs⟩ := td_arr (look_ok ht hl)
  exact run_indexAt_arr w t e n esz hu hs b off k i h0 h1 _ rfl
theorem run_indexS (ht : TabOk P tab) {t b off n c e esz by_ sz : Nat} {k : IntKind} {i : Int} (hl : look tab t = some (.sl e esz by_, sz)) (h0 : 0 ≤ i) (h1 : i < n) (w : World) :
    (Instr.indexAt t (.slice (some ⟨b, off, none⟩) n c) (.int k i)).run P w = .ok (.pointer (some ⟨b, off + i.toNat * esz, none⟩)) w := by
  obtain ⟨hu, hs, _⟩ := td_sl (look_ok ht hl)
  cases hq : P.info? e with
  | none => simp [hq] at hs
  | some inf =>
    have hs' : inf.size = esz := by simpa [hq] using hs
    simp [Instr.indexAt, asIntOf, Sem.run_bind, run_underlying hu, h0, h1, sizeOf, typeInfo, hq, hs', add_off]
structure ValO (P : Program) (w0 : World) (mu : List Nat) (bs : Mem) (l : List Value) (o : Oper) (v : Value) : Prop where
  out : growAtM P w0 mu bs o ⟨l.toArray, []⟩ v
theorem evConv_ok (ht : TabOk P tab) {s d : Nat} {x v : Value} (h : evConv tab s d x = some v) (w : World) : (convert s d x).run P w = .ok v w := by
  unfold evConv at h
  split at h
  · rename_i k n
    split at h
    · rename_i r kd sz hs hd
      cases h
      have hu := td_int (look_ok ht hd)
      have h1 := td_size (look_ok ht hs)
      have : ∃ d', P.underlying s = some d' := by
        have h2 := look_ok ht hs
        unfold tdOk at h2
        simp only [Bool.and_eq_true] at h2
        have h2 := h2.2
        cases hq : P.underlying s with
        | some d' => exact ⟨d', rfl⟩
        | none => rw [hq] at h2; split at h2 <;> simp_all
      obtain ⟨d', hd'⟩ := this
      simp [convert, Sem.run_bind, run_underlying hu, run_underlying hd', Conv.intToInt]
    · cases h
  · cases h
theorem ValO.ev (ht : TabOk P tab) {o : Oper} {v : Value} (h : evF tab l o.op = some v) : ValO P w0 mu bs l o v := by
  refine ⟨growAt_pure fun w => ?_⟩
  unfold execOp
  obtain ⟨dst, op, ty, pos, af, gd⟩ := o
  cases op <;> simp only [evF, reduceCtorEq] at h <;> simp only [evL_eq]
  case move x => cases h; rfl
  case assign x => cases h; rfl
  case pick c a b =>
    unfold evPick at h
    split at h
    · rename_i hc; cases h; simp [hc, asBool]
    · rename_i hc; cases h; simp [hc, asBool]
    · cases h
  case binOp op t x y t' =>
    unfold evBinV at h
    split at h
    · rename_i k a k' b hx hy
      rw [hx, hy]
      split at h
      · rename_i hs
        unfold evShift at h
        split at h
        · cases h
        · rename_i hb
          cases op <;> simp [isShift] at hs <;> cases h <;> simp [go_sem, binOp, Op.shift, eqGuard, hb]
      · split at h
        · rename_i hkk
          subst hkk
          have := evBin_ok (P := P) h t x y w
          rw [Sem.run_bind, this]; rfl
        · cases h
    · cases h
  case unOp op t x =>
    unfold evUn at h
    split at h
    · rename_i k n hx
      rw [hx]
      cases op <;> simp at h <;> subst h <;> simp [Op.unary, Op.intArith]
    · rename_i b hx
      rw [hx]
      cases op <;> simp at h <;> subst h <;> simp [Op.unary]
    · cases h
  case convert s d x =>
    rw [Sem.run_bind, evConv_ok ht h w]; rfl
  case extract x i =>
    unfold evExtract at h
    split at h
    · rename_i vs hx
      rw [hx]
      rw [lget_eq, Array.getElem?_toList] at h
      simp [Instr.extract, h]
    · cases h
  case fieldAddr t x i =>
    unfold evField at h
    split at h
    · rename_i b off hx
      rw [hx]
      split at h
      · rename_i fs sz hl
        split at h
        · rename_i u o s hf
          cases h
          rw [Sem.run_bind, run_field ht hl hf]; rfl
        · cases h
      · cases h
    · cases h
  case indexAddr t x y =>
    unfold evIndex at h
    split at h
    · rename_i b off k i hx hy
      rw [hx, hy]
      split at h
      · rename_i n e esz sz hl
        split at h
        · rename_i hi
          cases h
          rw [Sem.run_bind, run_index ht hl hi.1 hi.2]; rfl
        · cases h
      · cases h
    · cases h
theorem ValO.idxA (ht : TabOk P tab) {t : Nat} {x y : Operand} {dst : Option Tmp} {ty : TypeId} {pos : String} {af : Array Edge} {gd : Option (Nat × Bool)} (b off : Nat) (hx : evL l x = .pointer (some ⟨b, off, none⟩)) (k : IntKind) (i : Int) (hy : evL l y = .int k i)
    (n e esz sz : Nat) (hl : look tab t = some (.arr n e esz, sz)) (h0 : 0 ≤ i) (h1 : i < n) (m : Nat) (hm : off + i.toNat * esz = m) : ValO P w0 mu bs l ⟨dst, .indexAddr t x y, ty, pos, af, gd⟩ (.pointer (some ⟨b, m, none⟩)) := by
  subst hm
  refine ⟨growAt_pure fun w => ?_⟩
  unfold execOp
  simp only [evL_eq, hx, hy]
  rw [Sem.run_bind, run_index ht hl h0 h1]; rfl
theorem ValO.idxS (ht : TabOk P tab) {t : Nat} {x y : Operand} {dst : Option Tmp} {ty : TypeId} {pos : String} {af : Array Edge} {gd : Option (Nat × Bool)} (b off n c : Nat) (hx : evL l x = .slice (some ⟨b, off, none⟩) n c) (k : IntKind) (i : Int) (hy : evL l y = .int k i)
    (e esz by_ sz : Nat) (hl : look tab t = some (.sl e esz by_, sz)) (h0 : 0 ≤ i) (h1 : i < n) (m : Nat) (hm : off + i.toNat * esz = m) : ValO P w0 mu bs l ⟨dst, .indexAddr t x y, ty, pos, af, gd⟩ (.pointer (some ⟨b, m, none⟩)) := by
  subst hm
  refine ⟨growAt_pure fun w => ?_⟩
  unfold execOp
  simp only [evL_eq, hx, hy]
  rw [Sem.run_bind, run_indexS ht hl h0 h1]; rfl
theorem ValO.ldCell (ht : TabOk P tab) {t : Nat} {x : Operand} {dst : Option Tmp} {ty : TypeId} {pos : String} {af : Array Edge} {gd : Option (Nat × Bool)} (b j : Nat) (hx : evL l x = .pointer (some ⟨b, j, none⟩))
    (td : TD) (sz : Nat) (hl : look tab t = some (td, sz)) (hc : td.isCell = true) (A : Array Value) (hr : RdA w0 mu bs b A) (v : Value) (hv : A[j]? = some v) : ValO P w0 mu bs l ⟨dst, .load t x, ty, pos, af, gd⟩ v := by
  refine ⟨fun w hw => ?_⟩
  obtain ⟨T, fz, hb⟩ := hr.get hw
  obtain ⟨d, hu, hd⟩ := td_cell (look_ok ht hl) hc
  have hld := run_loadAt_cell (P := P) (W := w) t d hu (by cases d <;> simp_all) ⟨b, j, none⟩ v (by rw [cell_of_row w b j A T fz hb]; exact hv)
  unfold execOp
  simp only [evL_eq, hx, Sem.run_bind, Sem.run_pure, Result.andThen_ok, hld]
  exact ⟨rfl, rfl⟩
theorem ValO.ldInt (ht : TabOk P tab) {t : Nat} {x : Operand} {dst : Option Tmp} {ty : TypeId} {pos : String} {af : Array Edge} {gd : Option (Nat × Bool)} (b j : Nat) (hx : evL l x = .pointer (some ⟨b, j, none⟩))
    (k0 : IntKind) (sz : Nat) (hl : look tab t = some (.int k0, sz)) (k : IntKind) (L : List Int) (hr : RdA w0 mu bs b (ints k L)) (hj : j < L.length) : ValO P w0 mu bs l ⟨dst, .load t x, ty, pos, af, gd⟩ (.int k (gi L j)) :=
  ValO.ldCell ht b j hx _ sz hl rfl _ hr _ (ints_get hj)
theorem ValO.ldPart (ht : TabOk P tab) {t : Nat} {x : Operand} {dst : Option Tmp} {ty : TypeId} {pos : String} {af : Array Edge} {gd : Option (Nat × Bool)} (b off : Nat) (hx : evL l x = .pointer (some ⟨b, off, none⟩))
    (td : TD) (n : Nat) (hl : look tab t = some (td, n)) (hc : td.isAgg = true) (A : Array Value) (hr : RdA w0 mu bs b A) (hn : off + n ≤ A.size) (B : Array Value) (hB : A.extract off (off + n) = B) : ValO P w0 mu bs l ⟨dst, .load t x, ty, pos, af, gd⟩ (.agg B) := by
  subst hB
  refine ⟨fun w hw => ?_⟩
  obtain ⟨T, fz, hb⟩ := hr.get hw
  obtain ⟨d, hu, hd⟩ := td_agg (look_ok ht hl) hc
  have hld := run_loadPart (P := P) w b off T t A fz d n hb hn hu (by cases d <;> simp_all) (td_size (look_ok ht hl))
  unfold execOp
  simp only [evL_eq, hx, Instr.loadAt, Instr.sureAddr, Sem.run_bind, Sem.run_pure, Result.andThen_ok, hld]
  exact ⟨rfl, rfl⟩
theorem ValO.ldRow (ht : TabOk P tab) {t : Nat} {x : Operand} {dst : Option Tmp} {ty : TypeId} {pos : String} {af : Array Edge} {gd : Option (Nat × Bool)} (b : Nat) (hx : evL l x = .pointer (some ⟨b, 0, none⟩))
    (td : TD) (n : Nat) (hl : look tab t = some (td, n)) (hc : td.isAgg = true) (A : Array Value) (hr : RdA w0 mu bs b A) (hn : A.size = n) : ValO P w0 mu bs l ⟨dst, .load t x, ty, pos, af, gd⟩ (.agg A) :=
  ValO.ldPart ht b 0 hx td n hl hc A hr (by omega) A (by subst hn; simp)
theorem run_call_fn {w : World} {a : Act} {f : FuncId} {args : Array Operand} {ats : Array TypeId} {dst : Option Tmp} {ty : TypeId} {pos : String} {af : Array Edge} {gd : Option (Nat × Bool)} {A : Array Value} (hA : args.map a.eval = A) :
    (execOp a.eval ⟨dst, .call { callee := .value (.func f), args, argTypes := ats }, ty, pos, af, gd⟩).run P w = (callFunc f A).run P w := by
  subst hA
  unfold execOp
  simp [resolve, Deferred.ofValue, invoke, Act.eval]
theorem args_map (args : List Operand) : (args.toArray.map (⟨l.toArray, []⟩ : Act).eval) = (args.map (evL l)).toArray := by simp [evL_eq]
theorem ValO.call {f : FuncId} {args : List Operand} {ats : Array TypeId} {dst : Option Tmp} {ty : TypeId} {pos : String} {af : Array Edge} {gd : Option (Nat × Bool)} (hent : ∀ (A : Array Value) (w : World), (callFunc f A).run P w = .ok (.enter f A) w)
    (vals : List Value) (hv : args.map (evL l) = vals) (v : Value) (hc : ∀ w, OwnM w0 mu w bs → Calls P f vals.toArray w fun e w' => e = .returned v ∧ Below w.heap.size w w') :
    ValO P w0 mu bs l ⟨dst, .call { callee := .value (.func f), args := args.toArray, argTypes := ats }, ty, pos, af, gd⟩ v := by
  refine ⟨fun w hw => ?_⟩
  rw [run_call_fn (args_map args), hv, hent]
  exact ⟨rfl, hc w hw⟩
theorem ValO.ext {f : FuncId} {args : List Operand} {ats : Array TypeId} {dst : Option Tmp} {ty : TypeId} {pos : String} {af : Array Edge} {gd : Option (Nat × Bool)}
    (vals : List Value) (hv : args.map (evL l) = vals) (v : Value) (hc : ∀ w, (callFunc f vals.toArray).run P w = .ok (.value v) w) :
    ValO P w0 mu bs l ⟨dst, .call { callee := .value (.func f), args := args.toArray, argTypes := ats }, ty, pos, af, gd⟩ v := by
  refine ⟨fun w hw => ?_⟩
  rw [run_call_fn (args_map args), hv, hc]
  exact ⟨rfl, rfl⟩
theorem ValO.len (ht : TabOk P tab) {x : Operand} {t : Nat} {dst : Option Tmp} {ty : TypeId} {pos : String} {af : Array Edge} {gd : Option (Nat × Bool)} {v : Value} (h : evLen tab t (evL l x) = some v) :
    ValO P w0 mu bs l ⟨dst, .call { callee := .builtin .len, args := #[x], argTypes := #[t] }, ty, pos, af, gd⟩ v := by
  refine ⟨growAt_pure fun w => ?_⟩
  unfold execOp
  unfold evLen at h
  split at h
  · rename_i a n c hx
    split at h
    · rename_i e esz by_ sz hl
      cases h
      obtain ⟨hu, _, _⟩ := td_sl (look_ok ht hl)
      simp [resolve, invoke, builtin, Builtin.len_, evL_eq, hx, run_underlying hu, goInt]
    · cases h
  · rename_i s hx
    split at h
    · rename_i sz hl
      cases h
      have hu := td_str (look_ok ht hl)
      simp [resolve, invoke, builtin, Builtin.len_, evL_eq, hx, run_underlying hu, goInt]
    · cases h
  · rename_i cs hx
    split at h
    · rename_i n e esz sz hl
      cases h
      obtain ⟨hu, _⟩ := td_arr (look_ok ht hl)
      simp [resolve, invoke, builtin, Builtin.len_, evL_eq, hx, run_underlying hu, goInt]
    · cases h
  · cases h
theorem ValO.min {x y : Operand} {ats : Array TypeId} {dst : Option Tmp} {ty : TypeId} {pos : String} {af : Array Edge} {gd : Option (Nat × Bool)} (k : IntKind) (a b : Int) (hx : evL l x = .int k a) (hy : evL l y = .int k b) (c : Int) (hc : (if b < a then b else a) = c) :
    ValO P w0 mu bs l ⟨dst, .call { callee := .builtin .min, args := #[x, y], argTypes := ats }, ty, pos, af, gd⟩ (.int k c) := by
  subst hc
  refine ⟨growAt_pure fun w => ?_⟩
  unfold execOp
  simp [resolve, invoke, builtin, Builtin.min_, Builtin.min2, evL_eq, hx, hy]
theorem ValO.shift {op : BinOp} {t t' : TypeId} {x y : Operand} {dst : Option Tmp} {ty : TypeId} {pos : String} {af : Array Edge} {gd : Option (Nat × Bool)} (k k' : IntKind) (a b : Int) (hx : evL l x = .int k a) (hy : evL l y = .int k' b) (hb : 0 ≤ b) (v : Value)
    (hv : (match op with | .shl => some (.int k (k.wrap (a * 2 ^ (Min.min b.toNat k.bits)))) | .shr => some (.int k (a.fdiv (2 ^ (Min.min b.toNat k.bits)))) | _ => none) = some v) :
    ValO P w0 mu bs l ⟨dst, .binOp op t x y t', ty, pos, af, gd⟩ v := by
  refine ⟨growAt_pure fun w => ?_⟩
  unfold execOp
  have hb' : ¬ b < 0 := by omega
  simp only [evL_eq, hx, hy]
  cases op <;> simp at hv <;> subst hv <;> simp [go_sem, binOp, Op.shift, eqGuard, hb']
theorem ValO.divm {op : BinOp} {t t' : TypeId} {x y : Operand} {dst : Option Tmp} {ty : TypeId} {pos : String} {af : Array Edge} {gd : Option (Nat × Bool)} (k : IntKind) (a b : Int) (hx : evL l x = .int k a) (hy : evL l y = .int k b) (hb : b ≠ 0) (v : Value)
    (hv : (match op with | .quo => some (.int k (k.wrap (a.tdiv b))) | .rem => some (.int k (a.tmod b)) | _ => none) = some v) :
    ValO P w0 mu bs l ⟨dst, .binOp op t x y t', ty, pos, af, gd⟩ v := by
  refine ⟨growAt_pure fun w => ?_⟩
  unfold execOp
  simp only [evL_eq, hx, hy]
  cases op <;> simp at hv <;> subst hv <;> simp [go_sem, binOp, Op.intDiv, eqGuard, hb]
end
end Sp
end
section
open Go Go.RowKit
namespace Sp
open M
theorem g9 {α : Type} {a b c d e f g h i j : α} {r : List α} : (j :: i :: h :: g :: f :: e :: d :: c :: b :: a :: r)[9]? = some a := rfl
theorem g10 {α : Type} {a b c d e f g h i j k : α} {r : List α} : (k :: j :: i :: h :: g :: f :: e :: d :: c :: b :: a :: r)[10]? = some a := rfl
theorem g11 {α : Type} {a b c d e f g h i j k l : α} {r : List α} : (l :: k :: j :: i :: h :: g :: f :: e :: d :: c :: b :: a :: r)[11]? = some a := rfl
theorem g12 {α : Type} {a b c d e f g h i j k l m : α} {r : List α} : (m :: l :: k :: j :: i :: h :: g :: f :: e :: d :: c :: b :: a :: r)[12]? = some a := rfl
theorem g13 {α : Type} {a b c d e f g h i j k l m n : α} {r : List α} : (n :: m :: l :: k :: j :: i :: h :: g :: f :: e :: d :: c :: b :: a :: r)[13]? = some a := rfl
theorem g14 {α : Type} {a b c d e f g h i j k l m n o : α} {r : List α} : (o :: n :: m :: l :: k :: j :: i :: h :: g :: f :: e :: d :: c :: b :: a :: r)[14]? = some a := rfl
theorem g15 {α : Type} {a b c d e f g h i j k l m n o p : α} {r : List α} : (p :: o :: n :: m :: l :: k :: j :: i :: h :: g :: f :: e :: d :: c :: b :: a :: r)[15]? = some a := rfl
theorem gi_c0 (a : Int) (l : List Int) : gi (a :: l) 0 = a := rfl
theorem gi_c1 (a b : Int) (l : List Int) : gi (a :: b :: l) 1 = b := rfl
theorem gi_c2 (a b c : Int) (l : List Int) : gi (a :: b :: c :: l) 2 = c := rfl
theorem gi_c3 (a b c d : Int) (l : List Int) : gi (a :: b :: c :: d :: l) 3 = d := rfl
abbrev ExitP := Exit → List Value → Mem → Prop
def After (w0 : World) (mu : List Nat) (Q : ExitP) (Q' : Exit → Act → World → Prop) : Prop := ∀ e l bs W, Q e l bs → OwnM w0 mu W bs → Q' e ⟨l.toArray, []⟩ W
structure SL (P : Program) (ops : Array Oper) (w0 : World) (mu : List Nat) (rest : List Oper) (Q : ExitP) (l : List Value) (bs : Mem) : Prop where
  run : ∀ W Q', OwnM w0 mu W bs → After w0 mu Q Q' → wpList P ops Q' rest ⟨l.toArray, []⟩ W
structure SP (P : Program) (w0 : World) (mu : List Nat) (c : Code) (Q : ExitP) (l : List Value) (bs : Mem) : Prop where
  run : ∀ W Q', OwnM w0 mu W bs → After w0 mu Q Q' → c.wp P Q' ⟨l.toArray, []⟩ W
structure SV (P : Program) (ops : Array Oper) (w0 : World) (mu : List Nat) (bs : Mem) (rest : List Oper) (F : List Value → Mem → Prop) (l : List Value) (acc : Mem) : Prop where
  run : wpV P ops w0 mu bs (fun a acc' => ∃ l', a = ⟨l'.toArray, []⟩ ∧ F l' acc') rest ⟨l.toArray, []⟩ acc
section
variable {P : Program} {tab : Tab} {w0 : World} {mu : List Nat} {bs : Mem} {l l' : List Value} {ops : Array Oper} {rest : List Oper} {Q : ExitP}
variable {dst : Option Tmp} {op : Op} {ty : TypeId} {pos : String} {af : Array Edge}
theorem g0 {α : Type} {a : α} {r : List α} : (a :: r)[0]? = some a := rfl
theorem g1 {α : Type} {a b : α} {r : List α} : (b :: a :: r)[1]? = some a := rfl
theorem g2 {α : Type} {a b c : α} {r : List α} : (c :: b :: a :: r)[2]? = some a := rfl
theorem g3 {α : Type} {a b c d : α} {r : List α} : (d :: c :: b :: a :: r)[3]? = some a := rfl
theorem g4 {α : Type} {a b c d e : α} {r : List α} : (e :: d :: c :: b :: a :: r)[4]? = some a := rfl
theorem g5 {α : Type} {a b c d e f : α} {r : List α} : (f :: e :: d :: c :: b :: a :: r)[5]? = some a := rfl
theorem g6 {α : Type} {a b c d e f g : α} {r : List α} : (g :: f :: e :: d :: c :: b :: a :: r)[6]? = some a := rfl
theorem g7 {α : Type} {a b c d e f g h : α} {r : List α} : (h :: g :: f :: e :: d :: c :: b :: a :: r)[7]? = some a := rfl
theorem g8 {α : Type} {a b c d e f g h i : α} {r : List α} : (i :: h :: g :: f :: e :: d :: c :: b :: a :: r)[8]? = some a := rfl
theorem SL.nil (h : Q .normal l bs) : SL P ops w0 mu [] Q l bs := ⟨fun _ _ hw hA => wpList_nil (hA _ _ _ _ h hw)⟩
theorem SL.val {v : Value} (hv : ValO P w0 mu bs l ⟨dst, op, ty, pos, af, none⟩ v) (hp : putL l dst v = l') (h : SL P ops w0 mu rest Q l' bs) : SL P ops w0 mu (⟨dst, op, ty, pos, af, none⟩ :: rest) Q l bs := by
  subst hp
  refine ⟨fun W Q' hw hA => ?_⟩
  refine wpList_plain rfl fun K hK => ?_
  have h3 := hv.out W hw
  unfold Oper.wp
  generalize (execOp (⟨l.toArray, []⟩ : Act).eval ⟨dst, op, ty, pos, af, none⟩).run P W = r at h3
  cases r with
  | ok nx w' =>
    cases nx <;> simp only [growUpon] at h3 <;> simp only [Oper.upon]
    case value u =>
      obtain ⟨rfl, rfl⟩ := h3
      exact hK _ _ (by rw [putL_eq]; exact h.run _ _ hw hA)
    case skip =>
      obtain ⟨rfl, rfl⟩ := h3
      exact hK _ _ (by rw [putL_eq]; exact h.run _ _ hw hA)
    case enter f args =>
      obtain ⟨rfl, hc⟩ := h3
      exact hc.mono fun e w'' ⟨he, hw''⟩ => by subst he; exact hK _ _ (by rw [putL_eq]; exact h.run _ _ (hw.grow hw'') hA)
    case row row args =>
      obtain ⟨rfl, hc⟩ := h3
      exact hc.mono fun u w'' ⟨he, hw''⟩ => by subst he; exact hK _ _ (by rw [putL_eq]; exact h.run _ _ (hw.grow hw'') hA)
  | halt x w' => simp only [growUpon] at h3
theorem SL.guardT {g : Nat × Bool} (hg : Region.wanted ⟨dst, op, ty, pos, af, some g⟩ (yielded ops l.toArray) = true) (h : SL P ops w0 mu (⟨dst, op, ty, pos, af, none⟩ :: rest) Q l bs) : SL P ops w0 mu (⟨dst, op, ty, pos, af, some g⟩ :: rest) Q l bs := by
  refine ⟨fun W Q' hw hA => ?_⟩
  have h2 := h.run W Q' hw hA
  unfold wpList at h2 ⊢
  rw [if_pos (by simp [Region.wanted])] at h2
  rw [if_pos hg]
  exact h2
theorem SL.guardF {g : Nat × Bool} (hg : Region.wanted ⟨dst, op, ty, pos, af, some g⟩ (yielded ops l.toArray) = false) (hp : putL l dst undef = l') (h : SL P ops w0 mu rest Q l' bs) : SL P ops w0 mu (⟨dst, op, ty, pos, af, some g⟩ :: rest) Q l bs := by
  subst hp
  refine ⟨fun W Q' hw hA => ?_⟩
  have h2 := h.run W Q' hw hA
  unfold wpList
  rw [if_neg (by rw [hg]; simp), putL_eq]
  exact h2
theorem SL.alloc {T : TypeId} {A : Array Value} (hz : (P.info? T).map (·.zero) = some (some (.agg A))) {l' : Nat → List Value} (hp : ∀ b, putL l dst (.pointer (some ⟨b, 0, none⟩)) = l' b) (h : ∀ b, SL P ops w0 mu rest Q (l' b) ((b, A, T) :: bs)) :
    SL P ops w0 mu (⟨dst, .alloc T, ty, pos, af, none⟩ :: rest) Q l bs := by
  refine ⟨fun W Q' hw hA => ?_⟩
  refine wpList_plain rfl fun K hK => ?_
  cases hq : P.info? T with
  | none => simp [hq] at hz
  | some i =>
    have hz' : i.zero = some (.agg A) := by simpa [hq] using hz
    have hzv : (zeroValue T).run P W = .ok (.agg A) W := by simp [zeroValue, typeInfo, hq, hz']
    unfold Oper.wp execOp
    simp only [Instr.alloc, newVar, newRow, newObj, Sem.run_bind, Sem.run_pure, Result.andThen_ok, hzv]
    exact hK _ _ (by rw [putL_eq, hp]; exact (h _).run _ _ (hw.alloc A T) hA)
theorem SL.allocC {T : TypeId} {v : Value} (hz : (P.info? T).map (·.zero) = some (some v)) (h1 : v.cells = #[v]) {l' : Nat → List Value} (hp : ∀ b, putL l dst (.pointer (some ⟨b, 0, none⟩)) = l' b) (h : ∀ b, SL P ops w0 mu rest Q (l' b) ((b, #[v], T) :: bs)) :
    SL P ops w0 mu (⟨dst, .alloc T, ty, pos, af, none⟩ :: rest) Q l bs := by
  refine ⟨fun W Q' hw hA => ?_⟩
  refine wpList_plain rfl fun K hK => ?_
  cases hq : P.info? T with
  | none => simp [hq] at hz
  | some i =>
    have hz' : i.zero = some v := by simpa [hq] using hz
    have hzv : (zeroValue T).run P W = .ok v W := by simp [zeroValue, typeInfo, hq, hz']
    unfold Oper.wp execOp
    simp only [Instr.alloc, newVar, newRow, newObj, Sem.run_bind, Sem.run_pure, Result.andThen_ok, hzv, h1]
    exact hK _ _ (by rw [putL_eq, hp]; exact (h _).run _ _ (hw.alloc _ T) hA)
theorem SL.box {T : TypeId} {x : Operand} {A : Array Value} (hx : (evL l x).cells = A) {l' : Nat → List Value} (hp : ∀ b, putL l dst (.pointer (some ⟨b, 0, none⟩)) = l' b) (h : ∀ b, SL P ops w0 mu rest Q (l' b) ((b, A, T) :: bs)) :
    SL P ops w0 mu (⟨dst, .box T x, ty, pos, af, none⟩ :: rest) Q l bs := by
  subst hx
  refine ⟨fun W Q' hw hA => ?_⟩
  refine wpList_plain rfl fun K hK => ?_
  unfold Oper.wp execOp
  simp only [evL_eq, Instr.box, newVar, newRow, newObj, Sem.run_bind, Sem.run_pure, Result.andThen_ok]
  exact hK _ _ (by rw [putL_eq, hp]; exact (h _).run _ _ (hw.alloc _ T) hA)
theorem SL.store (ht : TabOk P tab) {t : TypeId} {x y : Operand} {b off : Nat} (hx : evL l x = .pointer (some ⟨b, off, none⟩)) {v : Value} (hy : evL l y = v)
    {td : TD} {n : Nat} (hl : look tab t = some (td, n)) {i : Nat} {A : Array Value} {T : TypeId} (hi : bs[i]? = some (b, A, T)) (hn : v.cells.size = n) (hsz : off + n ≤ A.size) (h1 : ∀ u ∈ v.cells.toList, u.oneCell' = true)
    {A' : Array Value} (hA : putAt A off v.cells.toList = A') {bs' : Mem} (hbs : bs.set i (b, A', T) = bs') (hp : putL l dst undef = l') (h : SL P ops w0 mu rest Q l' bs') : SL P ops w0 mu (⟨dst, .store t x y, ty, pos, af, none⟩ :: rest) Q l bs := by
  subst hp hbs hA hn hy
  refine ⟨fun W Q' hw hA => ?_⟩
  refine wpList_plain rfl fun K hK => ?_
  have hb := hw.block (List.mem_of_getElem? hi)
  have hst : (Instr.storeAt t (.pointer (some ⟨b, off, none⟩)) (evL l y)).run P W = .ok () (W.setRow b (putAt A off (evL l y).cells.toList)) := by
    simp only [Instr.storeAt, Instr.sureAddr, Sem.run_bind, Sem.run_pure, Result.andThen_ok]
    exact run_storePart W b off T t A _ hb (td_size (look_ok ht hl)) hsz h1
  unfold Oper.wp execOp
  simp only [evL_eq, hx, Sem.run_bind, Sem.run_pure, Result.andThen_ok, hst]
  exact hK _ _ (by rw [putL_eq]; exact h.run _ _ (hw.setRow hi _) hA)
theorem SL.storeInt (ht : TabOk P tab) {t : TypeId} {x y : Operand} {b j : Nat} (hx : evL l x = .pointer (some ⟨b, j, none⟩)) {k : IntKind} {v : Int} (hy : evL l y = .int k v)
    {td : TD} (hl : look tab t = some (td, 1)) {i : Nat} {L : List Int} {T : TypeId} (hi : bs[i]? = some (b, ints k L, T)) (hj : j < L.length)
    {bs' : Mem} (hbs : bs.set i (b, ints k (L.set j v), T) = bs') (hp : putL l dst undef = l') (h : SL P ops w0 mu rest Q l' bs') : SL P ops w0 mu (⟨dst, .store t x y, ty, pos, af, none⟩ :: rest) Q l bs :=
  SL.store ht hx hy hl hi rfl (by rw [ints_size]; exact hj) (by intro u hu; simp [Value.cells] at hu; subst hu; rfl) (by simp [Value.cells, putAt, ints_set]) hbs hp h
theorem ints_mem {k : IntKind} {L : List Int} : ∀ u ∈ (ints k L).toList, u.oneCell' = true := by
  intro u hu
  simp only [ints, List.mem_map] at hu
  obtain ⟨x, _, rfl⟩ := hu
  rfl
theorem putAt_all (A B : Array Value) (h : A.size = B.size) : putAt A 0 B.toList = B := by
  apply Array.ext_getElem?
  intro j
  rw [putAt_get _ _ _ _ (by simp; omega)]
  by_cases hj : j < B.size
  · rw [if_pos (by simpa using hj)]; simp
  · rw [if_neg (by simpa using hj), Array.getElem?_eq_none (by omega), Array.getElem?_eq_none (by omega)]
theorem SL.storeRow (ht : TabOk P tab) {t : TypeId} {x y : Operand} {b : Nat} (hx : evL l x = .pointer (some ⟨b, 0, none⟩)) {B : Array Value} (hy : evL l y = .agg B)
    {td : TD} {n : Nat} (hl : look tab t = some (td, n)) {i : Nat} {A : Array Value} {T : TypeId} (hi : bs[i]? = some (b, A, T)) (hn : B.size = n) (hsz : A.size = n) (h1 : ∀ u ∈ B.toList, u.oneCell' = true)
    {bs' : Mem} (hbs : bs.set i (b, B, T) = bs') (hp : putL l dst undef = l') (h : SL P ops w0 mu rest Q l' bs') : SL P ops w0 mu (⟨dst, .store t x y, ty, pos, af, none⟩ :: rest) Q l bs :=
  SL.store ht hx hy hl hi (by simpa [Value.cells] using hn) (by omega) (by simpa [Value.cells] using h1) (by simpa [Value.cells] using putAt_all A B (by omega)) hbs hp h
theorem SL.callG {f : FuncId} {args : List Operand} {ats : Array TypeId} (hent : ∀ (A : Array Value) (w : World), (callFunc f A).run P w = .ok (.enter f A) w)
    {vals : List Value} (hv : args.map (evL l) = vals) {R : Value → Mem → Prop} (hc : ∀ w, OwnM w0 mu w bs → Calls P f vals.toArray w fun e w' => ∃ v bs', e = .returned v ∧ R v bs' ∧ OwnM w0 mu w' bs')
    (h : ∀ v bs', R v bs' → SL P ops w0 mu rest Q (putL l dst v) bs') : SL P ops w0 mu (⟨dst, .call { callee := .value (.func f), args := args.toArray, argTypes := ats }, ty, pos, af, none⟩ :: rest) Q l bs := by
  refine ⟨fun W Q' hw hA => ?_⟩
  refine wpList_plain rfl fun K hK => ?_
  unfold Oper.wp
  rw [run_call_fn (args_map args), hv, hent]
  simp only [Oper.upon]
  refine (hc W hw).mono ?_
  rintro e w' ⟨v, bs', rfl, hR, hw'⟩
  exact hK _ _ (by rw [putL_eq]; exact (h v bs' hR).run _ _ hw' hA)
theorem SL.call1 {f : FuncId} {args : List Operand} {ats : Array TypeId} (hent : ∀ (A : Array Value) (w : World), (callFunc f A).run P w = .ok (.enter f A) w)
    {vals : List Value} (hv : args.map (evL l) = vals) {v : Value} {i b : Nat} {A A' : Array Value} {T : TypeId} (hi : bs[i]? = some (b, A, T))
    (hc : ∀ w, OwnM w0 mu w bs → Calls P f vals.toArray w fun e w' => e = .returned v ∧ OwnM w [b] w' [(b, A', T)])
    {bs' : Mem} (hbs : bs.set i (b, A', T) = bs') (hp : putL l dst v = l') (h : SL P ops w0 mu rest Q l' bs') : SL P ops w0 mu (⟨dst, .call { callee := .value (.func f), args := args.toArray, argTypes := ats }, ty, pos, af, none⟩ :: rest) Q l bs := by
  subst hp hbs
  refine SL.callG hent hv (R := fun v' bs' => v' = v ∧ bs' = bs.set i (b, A', T)) (fun w hw => (hc w hw).mono ?_) (by rintro v' bs' ⟨rfl, rfl⟩; exact h)
  rintro e w' ⟨rfl, hw'⟩
  exact ⟨_, _, rfl, ⟨rfl, rfl⟩, hw.call1 hi hw'⟩
theorem SL.call2 {f : FuncId} {args : List Operand} {ats : Array TypeId} (hent : ∀ (A : Array Value) (w : World), (callFunc f A).run P w = .ok (.enter f A) w)
    {vals : List Value} (hv : args.map (evL l) = vals) {v : Value} {i j b b2 : Nat} {A A' B B' : Array Value} {T U : TypeId} (hi : bs[i]? = some (b, A, T)) (hj : bs[j]? = some (b2, B, U)) (hij : i ≠ j)
    (hc : ∀ w, OwnM w0 mu w bs → b ≠ b2 → Calls P f vals.toArray w fun e w' => e = .returned v ∧ OwnM w [b, b2] w' [(b, A', T), (b2, B', U)])
    {bs' : Mem} (hbs : (bs.set i (b, A', T)).set j (b2, B', U) = bs') (hp : putL l dst v = l') (h : SL P ops w0 mu rest Q l' bs') : SL P ops w0 mu (⟨dst, .call { callee := .value (.func f), args := args.toArray, argTypes := ats }, ty, pos, af, none⟩ :: rest) Q l bs := by
  subst hp hbs
  refine SL.callG hent hv (R := fun v' bs' => v' = v ∧ bs' = (bs.set i (b, A', T)).set j (b2, B', U)) (fun w hw => (hc w hw (hw.ne hi hj hij)).mono ?_) (by rintro v' bs' ⟨rfl, rfl⟩; exact h)
  rintro e w' ⟨rfl, hw'⟩
  exact ⟨_, _, rfl, ⟨rfl, rfl⟩, hw.call2 hi hj hij hw'⟩
theorem SL.callN {f : FuncId} {args : List Operand} {ats : Array TypeId} (hent : ∀ (A : Array Value) (w : World), (callFunc f A).run P w = .ok (.enter f A) w)
    {vals : List Value} (hv : args.map (evL l) = vals) {A : Array Value} {T : TypeId} {V : Nat → Value}
    (hc : ∀ w, OwnM w0 mu w bs → Calls P f vals.toArray w fun e w' => ∃ b, e = .returned (V b) ∧ OwnM w [] w' [(b, A, T)])
    {l' : Nat → List Value} (hp : ∀ b, putL l dst (V b) = l' b) (h : ∀ b, SL P ops w0 mu rest Q (l' b) ((b, A, T) :: bs)) : SL P ops w0 mu (⟨dst, .call { callee := .value (.func f), args := args.toArray, argTypes := ats }, ty, pos, af, none⟩ :: rest) Q l bs := by
  refine SL.callG hent hv (R := fun v' bs' => ∃ b, v' = V b ∧ bs' = (b, A, T) :: bs) (fun w hw => (hc w hw).mono ?_) (by rintro v' bs' ⟨b, rfl, rfl⟩; rw [hp]; exact h b)
  rintro e w' ⟨b, rfl, hw'⟩
  exact ⟨_, _, rfl, ⟨b, rfl, rfl⟩, hw.fresh hw'⟩
theorem SV.nil {F : List Value → Mem → Prop} {acc : Mem} (h : F l acc) : SV P ops w0 mu bs [] F l acc := ⟨⟨l, rfl, h⟩⟩
theorem SV.val {F : List Value → Mem → Prop} {acc : Mem} {v : Value} (hf : freshM op = none) (hv : ValO P w0 mu bs l ⟨dst, op, ty, pos, af, none⟩ v) (hp : putL l dst v = l') (h : SV P ops w0 mu bs rest F l' acc) : SV P ops w0 mu bs (⟨dst, op, ty, pos, af, none⟩ :: rest) F l acc := by
  subst hp
  exact ⟨wpV_step rfl hf v hv.out h.run⟩
theorem SV.skip {F : List Value → Mem → Prop} {acc : Mem} {g : Nat × Bool} (hg : Region.wanted ⟨dst, op, ty, pos, af, some g⟩ (yielded ops l.toArray) = false) (hf : freshM op = none) (hp : putL l dst undef = l') (h : SV P ops w0 mu bs rest F l' acc) : SV P ops w0 mu bs (⟨dst, op, ty, pos, af, some g⟩ :: rest) F l acc := by
  subst hp
  exact ⟨wpV_skip hg hf h.run⟩
theorem SV.alloc {F : List Value → Mem → Prop} {acc : Mem} {T : TypeId} {A : Array Value} (hz : (P.info? T).map (·.zero) = some (some (.agg A))) {l' : Nat → List Value} (hp : ∀ b, putL l dst (.pointer (some ⟨b, 0, none⟩)) = l' b) (h : ∀ b, SV P ops w0 mu bs rest F (l' b) ((b, A, T) :: acc)) :
    SV P ops w0 mu bs (⟨dst, .alloc T, ty, pos, af, none⟩ :: rest) F l acc :=
  ⟨wpV_alloc rfl T rfl A hz fun b => by rw [hp]; exact (h b).run⟩
def thenK (next : List Value → Mem → Prop) (Q : ExitP) : ExitP
  | .normal, l, bs => next l bs
  | e, l, bs => Q e l bs
def blockK (id : Nat) (Q : ExitP) : ExitP
  | .exit id', l, bs => if id' = id then Q .normal l bs else Q (.exit id') l bs
  | e, l, bs => Q e l bs
theorem thenK_normal {next : List Value → Mem → Prop} (h : next l bs) : thenK next Q .normal l bs := h
theorem blockK_eq {id : Nat} (h : Q .normal l bs) : blockK id Q (.exit id) l bs := by unfold blockK; simp [h]
theorem blockK_ne {id id' : Nat} (hne : (id' == id) = false) (h : Q (.exit id') l bs) : blockK id Q (.exit id') l bs := by unfold blockK; simp at hne; simp [hne, h]
theorem SP.mono {c : Code} {Q2 : ExitP} (h : SP P w0 mu c Q l bs) (hq : ∀ e l bs, Q e l bs → Q2 e l bs) : SP P w0 mu c Q2 l bs :=
  ⟨fun W Q' hw hA => h.run W Q' hw fun e l bs W q hw => hA e l bs W (hq e l bs q) hw⟩
theorem SP.cast {c : Code} (hl : l = l') (h : SP P w0 mu c Q l' bs) : SP P w0 mu c Q l bs := by rw [hl]; exact h
theorem SP.skip (h : Q .normal l bs) : SP P w0 mu .skip Q l bs := ⟨fun _ _ hw hA => wp_skip (hA _ _ _ _ h hw)⟩
theorem SP.ret (h : Q .ret l bs) : SP P w0 mu .ret Q l bs := ⟨fun _ _ hw hA => wp_ret (hA _ _ _ _ h hw)⟩
theorem SP.exit {id : Nat} (h : Q (.exit id) l bs) : SP P w0 mu (.exit id) Q l bs := ⟨fun _ _ hw hA => wp_exit (hA _ _ _ _ h hw)⟩
theorem SP.seq {x y : Code} (h : SP P w0 mu x (thenK (SP P w0 mu y Q) Q) l bs) : SP P w0 mu (.seq x y) Q l bs := ⟨fun W Q' hw hA =>
  wp_seq (h.run W _ hw fun e l bs W q hw => by
    cases e with
    | normal => exact q.run W Q' hw hA
    | exit id => exact hA _ _ _ _ q hw
    | goto id => exact hA _ _ _ _ q hw
    | ret => exact hA _ _ _ _ q hw
    | panic c => exact hA _ _ _ _ q hw
    | outgrown => exact hA _ _ _ _ q hw)⟩
theorem SP.seqK {x y : Code} (h : ∀ K : List Value → Mem → Prop, (∀ l bs, SP P w0 mu y Q l bs → K l bs) → SP P w0 mu x (thenK K Q) l bs) : SP P w0 mu (.seq x y) Q l bs := SP.seq (h _ fun _ _ h => h)
theorem useK {K G : List Value → Mem → Prop} (hK : ∀ l bs, G l bs → K l bs) (h : G l bs) : K l bs := hK l bs h
theorem SP.block {id : Nat} {c : Code} (h : SP P w0 mu c (blockK id Q) l bs) : SP P w0 mu (.block id c) Q l bs := ⟨fun W Q' hw hA =>
  wp_block (h.run W _ hw fun e l bs W q hw => by
    cases e with
    | normal => exact hA _ _ _ _ q hw
    | exit id' =>
      unfold blockK at q
      unfold Exit.inBlock
      simp only at q ⊢
      split
      · rename_i he; rw [if_pos he] at q; exact hA _ _ _ _ q hw
      · rename_i he; rw [if_neg he] at q; exact hA _ _ _ _ q hw
    | goto id => exact hA _ _ _ _ q hw
    | ret => exact hA _ _ _ _ q hw
    | panic c => exact hA _ _ _ _ q hw
    | outgrown => exact hA _ _ _ _ q hw)⟩
theorem SP.cond {c : Operand} {x y : Code} {t : Bool} (hc : evL l c = .bool t) (h : SP P w0 mu (if t then x else y) Q l bs) : SP P w0 mu (.cond c x y) Q l bs := ⟨fun W Q' hw hA =>
  wp_cond (t := t) (by rw [evL_eq, hc]) (by have := h.run W Q' hw hA; exact this)⟩
theorem SP.condT {c : Operand} {x y : Code} {t : Bool} (hc : evL l c = .bool t) (ht : t = true) (h : SP P w0 mu x Q l bs) : SP P w0 mu (.cond c x y) Q l bs := SP.cond hc (by rw [ht]; exact h)
theorem SP.condF {c : Operand} {x y : Code} {t : Bool} (hc : evL l c = .bool t) (ht : t = false) (h : SP P w0 mu y Q l bs) : SP P w0 mu (.cond c x y) Q l bs := SP.cond hc (by rw [ht]; exact h)
theorem SP.region {id : Nat} {L : List Oper} (h : SL P L.toArray w0 mu L Q l bs) : SP P w0 mu (.region id L.toArray false) Q l bs := ⟨fun W Q' hw hA =>
  wp_region_lit (h.run W Q' hw hA)⟩
theorem SP.loop {c : Code} (I : List Value → Mem → Prop) (μ : List Value → Mem → Nat) (h0 : I l bs)
    (round : ∀ l bs, I l bs → SP P w0 mu c (thenK (fun l' bs' => I l' bs' ∧ μ l' bs' < μ l bs) Q) l bs) : SP P w0 mu (.loop c) Q l bs := by
  refine ⟨fun W Q' hw hA b k cs => ?_⟩
  have key : ∀ n l bs W, μ l bs = n → I l bs → OwnM w0 mu W bs →
      ∃ e a' w', Q' e a' w' ∧ Arrives P (lone (b.at ⟨l.toArray, []⟩ (.code c :: .inLoop c :: k)) cs W) b k cs e a' w' := by
    intro n
    induction n using Nat.strongRecOn with
    | _ n ih =>
      intro l bs W hn hI hw
      obtain ⟨e, a₁, w₁, hq, harr⟩ := ((round l bs hI).run W (fun e a W => match e with | .normal => ∃ l' bs', a = ⟨l'.toArray, []⟩ ∧ OwnM w0 mu W bs' ∧ I l' bs' ∧ μ l' bs' < μ l bs | e => Q' e a W) hw fun e l' bs' W' q hw' => by
        cases e with
        | normal => exact ⟨l', bs', rfl, hw', q.1, q.2⟩
        | exit id => exact hA _ _ _ _ q hw'
        | goto id => exact hA _ _ _ _ q hw'
        | ret => exact hA _ _ _ _ q hw'
        | panic c => exact hA _ _ _ _ q hw'
        | outgrown => exact hA _ _ _ _ q hw') b (.inLoop c :: k) cs
      cases e with
      | normal =>
        obtain ⟨l', bs', rfl, hw', hI', hlt⟩ := hq
        obtain ⟨e₂, a₂, w₂, hq₂, harr₂⟩ := ih (μ l' bs') (hn ▸ hlt) l' bs' w₁ rfl hI' hw'
        exact ⟨e₂, a₂, w₂, hq₂, .of_steps (Steps.trans harr (.one step_inLoop)) harr₂⟩
      | exit id => exact ⟨_, a₁, w₁, hq, .pass (x := .inLoop c) rfl (fun _ _ => .inl (by simp)) harr⟩
      | goto l => exact ⟨_, a₁, w₁, hq, .pass (x := .inLoop c) rfl (fun _ _ => .inl (by simp)) harr⟩
      | ret => exact ⟨_, a₁, w₁, hq, .pass (x := .inLoop c) rfl (fun _ _ => .inl (by simp)) harr⟩
      | panic ch => exact ⟨_, a₁, w₁, hq, .pass (x := .inLoop c) rfl (fun _ _ => .inl (by simp)) harr⟩
      | outgrown => exact ⟨_, a₁, w₁, hq, .pass (x := .inLoop c) rfl (fun _ _ => .inl (by simp)) harr⟩
  obtain ⟨e, a', w', hq, harr⟩ := key _ l bs W rfl h0 hw
  exact ⟨e, a', w', hq, .of_steps (.one step_loop) harr⟩
theorem SP.loopN {c : Code} (St : Nat → List Value → Mem → Prop) (N : Nat) (h0 : St 0 l bs)
    (round : ∀ k l bs, k ≤ N → St k l bs → SP P w0 mu c (thenK (fun l' bs' => k < N ∧ St (k + 1) l' bs') Q) l bs) : SP P w0 mu (.loop c) Q l bs := by
  refine ⟨fun W Q' hw hA b k cs => ?_⟩
  have key : ∀ n j l bs W, N - j = n → j ≤ N → St j l bs → OwnM w0 mu W bs →
      ∃ e a' w', Q' e a' w' ∧ Arrives P (lone (b.at ⟨l.toArray, []⟩ (.code c :: .inLoop c :: k)) cs W) b k cs e a' w' := by
    intro n
    induction n with
    | zero =>
      intro j l bs W hn hj hI hw
      obtain ⟨e, a₁, w₁, hq, harr⟩ := ((round j l bs hj hI).run W (fun e a W => match e with | .normal => False | e => Q' e a W) hw fun e l' bs' W' q hw' => by
        cases e with
        | normal => have := q.1; omega
        | exit id => exact hA _ _ _ _ q hw'
        | goto id => exact hA _ _ _ _ q hw'
        | ret => exact hA _ _ _ _ q hw'
        | panic c => exact hA _ _ _ _ q hw'
        | outgrown => exact hA _ _ _ _ q hw') b (.inLoop c :: k) cs
      cases e with
      | normal => exact hq.elim
      | exit id => exact ⟨_, a₁, w₁, hq, .pass (x := .inLoop c) rfl (fun _ _ => .inl (by simp)) harr⟩
      | goto l => exact ⟨_, a₁, w₁, hq, .pass (x := .inLoop c) rfl (fun _ _ => .inl (by simp)) harr⟩
      | ret => exact ⟨_, a₁, w₁, hq, .pass (x := .inLoop c) rfl (fun _ _ => .inl (by simp)) harr⟩
      | panic ch => exact ⟨_, a₁, w₁, hq, .pass (x := .inLoop c) rfl (fun _ _ => .inl (by simp)) harr⟩
      | outgrown => exact ⟨_, a₁, w₁, hq, .pass (x := .inLoop c) rfl (fun _ _ => .inl (by simp)) harr⟩
    | succ n ih =>
      intro j l bs W hn hj hI hw
      obtain ⟨e, a₁, w₁, hq, harr⟩ := ((round j l bs hj hI).run W (fun e a W => match e with | .normal => ∃ l' bs', a = ⟨l'.toArray, []⟩ ∧ OwnM w0 mu W bs' ∧ j < N ∧ St (j + 1) l' bs' | e => Q' e a W) hw fun e l' bs' W' q hw' => by
        cases e with
        | normal => exact ⟨l', bs', rfl, hw', q.1, q.2⟩
        | exit id => exact hA _ _ _ _ q hw'
        | goto id => exact hA _ _ _ _ q hw'
        | ret => exact hA _ _ _ _ q hw'
        | panic c => exact hA _ _ _ _ q hw'
        | outgrown => exact hA _ _ _ _ q hw') b (.inLoop c :: k) cs
      cases e with
      | normal =>
        obtain ⟨l', bs', rfl, hw', hlt, hI'⟩ := hq
        obtain ⟨e₂, a₂, w₂, hq₂, harr₂⟩ := ih (j + 1) l' bs' w₁ (by omega) (by omega) hI' hw'
        exact ⟨e₂, a₂, w₂, hq₂, .of_steps (Steps.trans harr (.one step_inLoop)) harr₂⟩
      | exit id => exact ⟨_, a₁, w₁, hq, .pass (x := .inLoop c) rfl (fun _ _ => .inl (by simp)) harr⟩
      | goto l => exact ⟨_, a₁, w₁, hq, .pass (x := .inLoop c) rfl (fun _ _ => .inl (by simp)) harr⟩
      | ret => exact ⟨_, a₁, w₁, hq, .pass (x := .inLoop c) rfl (fun _ _ => .inl (by simp)) harr⟩
      | panic ch => exact ⟨_, a₁, w₁, hq, .pass (x := .inLoop c) rfl (fun _ _ => .inl (by simp)) harr⟩
      | outgrown => exact ⟨_, a₁, w₁, hq, .pass (x := .inLoop c) rfl (fun _ _ => .inl (by simp)) harr⟩
  obtain ⟨e, a', w', hq, harr⟩ := key _ 0 l bs W rfl (Nat.zero_le _) h0 hw
  exact ⟨e, a', w', hq, .of_steps (.one step_loop) harr⟩
def ResO (P : Program) (w0 : World) (mu : List Nat) (bs : Mem) (rs : Array ResultVar) (l : List Value) (v : Value) : Prop :=
  ∀ W (fn : Func), fn.results = rs → OwnM w0 mu W bs → (results fn l.toArray).run P W = .ok v W
theorem ResO.nil : ResO P w0 mu bs #[] l (.tuple #[]) := by
  intro W fn hr _
  simp [results, hr]
theorem ResO.tmp {t : Nat} {v : Value} (h : nth l t = v) : ResO P w0 mu bs #[.tmp t] l v := by
  intro W fn hr _
  subst h
  simp [results, hr, nth_eq]
theorem ResO.tmp2 {t u : Nat} {v v' : Value} (h : nth l t = v) (h' : nth l u = v') : ResO P w0 mu bs #[.tmp t, .tmp u] l (.tuple #[v, v']) := by
  intro W fn hr _
  subst h h'
  simp [results, hr, nth_eq]
theorem run_res_part (ht : TabOk P tab) {t b off n : Nat} {td : TD} (hl : look tab t = some (td, n)) (hc : td.isAgg = true) {A : Array Value} (hr : RdA w0 mu bs b A) (hn : off + n ≤ A.size) {W : World} (hw : OwnM w0 mu W bs) :
    (loadVar t ⟨b, off, none⟩).run P W = .ok (.agg (A.extract off (off + n))) W := by
  obtain ⟨T, fz, hb⟩ := hr.get hw
  obtain ⟨d, hu, hd⟩ := td_agg (look_ok ht hl) hc
  exact run_loadPart (P := P) W b off T t A fz d n hb hn hu (by cases d <;> simp_all) (td_size (look_ok ht hl))
theorem ResO.cell (ht : TabOk P tab) {p t b n : Nat} {td : TD} (hp : nth l p = .pointer (some ⟨b, 0, none⟩)) (hl : look tab t = some (td, n)) (hc : td.isAgg = true) {A : Array Value} (hr : RdA w0 mu bs b A) (hn : A.size = n) :
    ResO P w0 mu bs #[.cell p t] l (.agg A) := by
  intro W fn hres hw
  have h := run_res_part ht hl hc hr (off := 0) (by omega) hw
  have hp' : l[p]?.getD undef = .pointer (some ⟨b, 0, none⟩) := by rw [nth_eq]; exact hp
  subst hn
  simp only [Nat.zero_add, Array.extract_size] at h
  simp [results, hres, hp', asAddr, h]
theorem ResO.cellTmp (ht : TabOk P tab) {p t b n u : Nat} {td : TD} {v : Value} (hp : nth l p = .pointer (some ⟨b, 0, none⟩)) (hl : look tab t = some (td, n)) (hc : td.isAgg = true) {A : Array Value} (hr : RdA w0 mu bs b A) (hn : A.size = n) (hv : nth l u = v) :
    ResO P w0 mu bs #[.cell p t, .tmp u] l (.tuple #[.agg A, v]) := by
  subst hv
  intro W fn hres hw
  have h := run_res_part ht hl hc hr (off := 0) (by omega) hw
  have hp' : l[p]?.getD undef = .pointer (some ⟨b, 0, none⟩) := by rw [nth_eq]; exact hp
  subst hn
  simp only [Nat.zero_add, Array.extract_size] at h
  have hq := nth_eq l u
  simp [results, hres, hp', asAddr, h, hq]
theorem ResO.cell2 (ht : TabOk P tab) {p t b n p' t' b' n' : Nat} {td td' : TD} (hp : nth l p = .pointer (some ⟨b, 0, none⟩)) (hl : look tab t = some (td, n)) (hc : td.isAgg = true) {A : Array Value} (hr : RdA w0 mu bs b A) (hn : A.size = n)
    (hp2 : nth l p' = .pointer (some ⟨b', 0, none⟩)) (hl2 : look tab t' = some (td', n')) (hc2 : td'.isAgg = true) {A' : Array Value} (hr2 : RdA w0 mu bs b' A') (hn2 : A'.size = n') :
    ResO P w0 mu bs #[.cell p t, .cell p' t'] l (.tuple #[.agg A, .agg A']) := by
  intro W fn hres hw
  have h := run_res_part ht hl hc hr (off := 0) (by omega) hw
  have h2 := run_res_part ht hl2 hc2 hr2 (off := 0) (by omega) hw
  have hp' : l[p]?.getD undef = .pointer (some ⟨b, 0, none⟩) := by rw [nth_eq]; exact hp
  have hp2' : l[p']?.getD undef = .pointer (some ⟨b', 0, none⟩) := by rw [nth_eq]; exact hp2
  subst hn hn2
  simp only [Nat.zero_add, Array.extract_size] at h h2
  simp [results, hres, hp', hp2', asAddr, h, h2]
def isEnd : Exit → Bool
  | .normal | .ret => true
  | _ => false
def doneK (P : Program) (w0 : World) (mu : List Nat) (rs : Array ResultVar) (R : Value → Mem → Prop) : ExitP := fun e l bs => isEnd e = true ∧ ∃ v, ResO P w0 mu bs rs l v ∧ R v bs
theorem doneK.mk {e : Exit} {rs : Array ResultVar} {R : Value → Mem → Prop} (he : isEnd e = true) {v : Value} (hr : ResO P w0 mu bs rs l v) (hR : R v bs) : doneK P w0 mu rs R e l bs := ⟨he, v, hr, hR⟩
theorem calls_of_SP {f : FuncId} {fn : Func} {c : Code} {args : Array Value} {w : World} {mu : List Nat} {bs0 : Mem} (hf : P.funcs[f]? = some fn) (hb : fn.body = some c) (h0 : OwnM w mu w bs0) (l : List Value) (hl : args ++ Array.replicate (fn.ntmps - args.size) undef = l.toArray)
    (rs : Array ResultVar) (hrs : fn.results = rs) (R : Value → Mem → Prop) (h : SP P w mu c (doneK P w mu rs R) l bs0) : Calls P f args w fun e w' => ∃ v bs', e = .returned v ∧ R v bs' ∧ OwnM w mu w' bs' := by
  refine calls_of_wp hf hb ?_
  rw [hl]
  refine h.run w _ h0 ?_
  rintro e l' bs' W ⟨he, v, hr, hR⟩ hW
  cases e <;> simp [isEnd] at he
  · exact ⟨rfl, v, hr W fn hrs hW, v, bs', rfl, hR, hW⟩
  · exact ⟨rfl, v, hr W fn hrs hW, v, bs', rfl, hR, hW⟩
theorem pure_of_SP {f : FuncId} {fn : Func} {c : Code} {args : Array Value} {w : World} (hf : P.funcs[f]? = some fn) (hb : fn.body = some c) (l : List Value) (hl : args ++ Array.replicate (fn.ntmps - args.size) undef = l.toArray)
    (rs : Array ResultVar) (hrs : fn.results = rs) (v : Value) (h : SP P w [] c (doneK P w [] rs (fun v' _ => v' = v)) l []) : Calls P f args w fun e w' => e = .returned v ∧ Below w.heap.size w w' :=
  (calls_of_SP hf hb (OwnM.start w) l hl rs hrs _ h).mono fun e w' ⟨v', bs', he, hv, hw⟩ => ⟨by rw [he, hv], hw.below⟩
end
end Sp
end
end Go.Proofs.Ytdjecenggngdjaa
