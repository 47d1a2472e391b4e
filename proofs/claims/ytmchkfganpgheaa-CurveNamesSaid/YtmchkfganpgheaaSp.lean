/-
  A walk over what a call owns: frames as lists, memory as a list of rows; operations without memory are reckoned by a function.
-/
import Derived.Test.YtmchkfganpgheaaGrowM
import Derived.Laws.StructEq
import Derived.Laws.Externs
namespace Go.Proofs.Ytmchkfganpgheaa
set_option linter.unusedSimpArgs false
set_option linter.unusedVariables false
open Go Go.RowKit
namespace Sp
open M

/-! ### A table of types -/
inductive TD where
  | int (k : IntKind)
  | bool
  | str
  | ptr (e : Nat)
  | sl (e esz bytes : Nat)
  | arr (n e esz : Nat)
  | st (fs : List (Nat × Nat × Nat))
  | other
abbrev Tab := List (Nat × TD × Nat)
def fieldsOk (P : Program) : List Field → List (Nat × Nat × Nat) → Bool
  | [], [] => true
  | f :: fs, (t, o, s) :: r => f.type == t && f.offset == o && decide ((P.info? t).map (·.size) = some s) && s != 0 && fieldsOk P fs r
  | _, _ => false
def tdOk (P : Program) (t : Nat) (td : TD) (sz : Nat) : Bool :=
  decide ((P.info? t).map (·.size) = some sz) &&
  match td, P.underlying t with
  | .int k, some (.int k') => decide (k = k')
  | .bool, some .bool => true
  | .str, some .string => true
  | .ptr e, some (.pointer e') => e == e'
  | .sl e s b, some (.slice e') => e == e' && decide ((P.info? e).map (·.size) = some s) && decide ((P.info? e).map (·.bytes) = some b)
  | .arr n e s, some (.array n' e') => n == n' && e == e' && decide ((P.info? e).map (·.size) = some s)
  | .st fs, some (.struct gs) => fieldsOk P gs.toList fs
  | .other, some _ => true
  | _, _ => false
def TabOk (P : Program) (tab : Tab) : Prop := tab.all (fun e => tdOk P e.1 e.2.1 e.2.2) = true
def look : Tab → Nat → Option (TD × Nat)
  | [], _ => none
  | (u, td, sz) :: r, t => if t = u then some (td, sz) else look r t

section
variable {P : Program} {tab : Tab}
theorem look_ok (ht : TabOk P tab) {t : Nat} {td : TD} {sz : Nat} (h : look tab t = some (td, sz)) : tdOk P t td sz = true := by
  unfold TabOk at ht
  induction tab with
  | nil => cases h
  | cons e r ih =>
    obtain ⟨u, td', sz'⟩ := e
    simp only [List.all_cons, Bool.and_eq_true] at ht
    simp only [look] at h
    split at h
    · rename_i he
      simp only [Option.some.injEq, Prod.mk.injEq] at h
      obtain ⟨rfl, rfl⟩ := h
      subst he
      exact ht.1
    · exact ih ht.2 h
theorem td_size {t : Nat} {td : TD} {sz : Nat} (h : tdOk P t td sz = true) : (P.info? t).map (·.size) = some sz := by
  unfold tdOk at h
  simp only [Bool.and_eq_true, decide_eq_true_eq] at h
  exact h.1
theorem td_int {t : Nat} {k : IntKind} {sz : Nat} (h : tdOk P t (.int k) sz = true) : P.underlying t = some (.int k) := by
  unfold tdOk at h
  simp only [Bool.and_eq_true] at h
  have h := h.2
  split at h <;> simp_all
theorem td_arr {t n e s sz : Nat} (h : tdOk P t (.arr n e s) sz = true) : P.underlying t = some (.array n e) ∧ (P.info? e).map (·.size) = some s := by
  unfold tdOk at h
  simp only [Bool.and_eq_true] at h
  have h := h.2
  split at h <;> simp_all
theorem td_sl {t e s b sz : Nat} (h : tdOk P t (.sl e s b) sz = true) : P.underlying t = some (.slice e) ∧ (P.info? e).map (·.size) = some s ∧ (P.info? e).map (·.bytes) = some b := by
  unfold tdOk at h
  simp only [Bool.and_eq_true] at h
  have h := h.2
  split at h <;> simp_all
theorem td_str {t sz : Nat} (h : tdOk P t .str sz = true) : P.underlying t = some .string := by
  unfold tdOk at h
  simp only [Bool.and_eq_true] at h
  have h := h.2
  split at h <;> simp_all
theorem td_bool {t sz : Nat} (h : tdOk P t .bool sz = true) : P.underlying t = some .bool := by
  unfold tdOk at h
  simp only [Bool.and_eq_true] at h
  have h := h.2
  split at h <;> simp_all
theorem td_ptr {t e sz : Nat} (h : tdOk P t (.ptr e) sz = true) : P.underlying t = some (.pointer e) := by
  unfold tdOk at h
  simp only [Bool.and_eq_true] at h
  have h := h.2
  split at h <;> simp_all
theorem fieldsOk_get : ∀ (gs : List Field) (fs : List (Nat × Nat × Nat)), fieldsOk P gs fs = true → ∀ (i t o s : Nat), fs[i]? = some (t, o, s) → ∃ f, gs[i]? = some f ∧ f.type = t ∧ f.offset = o ∧ (P.info? t).map (·.size) = some s ∧ s ≠ 0
  | [], [], _, i, t, o, s, hi => by simp at hi
  | f :: gs, (t', o', s') :: fs, h, i, t, o, s, hi => by
    simp only [fieldsOk, Bool.and_eq_true, decide_eq_true_eq, beq_iff_eq, bne_iff_ne] at h
    cases i with
    | zero =>
      simp only [List.getElem?_cons_zero, Option.some.injEq, Prod.mk.injEq] at hi
      obtain ⟨rfl, rfl, rfl⟩ := hi
      exact ⟨f, rfl, h.1.1.1.1, h.1.1.1.2, h.1.1.2, h.1.2⟩
    | succ i =>
      simp only [List.getElem?_cons_succ] at hi ⊢
      exact fieldsOk_get gs fs h.2 i t o s hi
  | [], _ :: _, h, _, _, _, _, _ => by simp [fieldsOk] at h
  | _ :: _, [], h, _, _, _, _, _ => by simp [fieldsOk] at h
theorem td_st {t sz : Nat} {fs : List (Nat × Nat × Nat)} (h : tdOk P t (.st fs) sz = true) : ∃ gs, P.underlying t = some (.struct gs) ∧ fieldsOk P gs.toList fs = true := by
  unfold tdOk at h
  simp only [Bool.and_eq_true] at h
  have h := h.2
  split at h <;> simp_all

/-- Is it an array or a struct? -/
def TD.isAgg : TD → Bool
  | .arr _ _ _ | .st _ => true
  | _ => false
def TD.isCell : TD → Bool
  | .int _ | .bool | .str | .ptr _ | .sl _ _ _ => true
  | _ => false
theorem td_agg {t sz : Nat} {td : TD} (h : tdOk P t td sz = true) (ha : td.isAgg = true) : ∃ d, P.underlying t = some d ∧ (match d with | .struct _ | .array _ _ => true | _ => false) = true := by
  unfold tdOk at h
  simp only [Bool.and_eq_true] at h
  have h := h.2
  split at h <;> simp_all [TD.isAgg]
theorem td_cell {t sz : Nat} {td : TD} (h : tdOk P t td sz = true) (ha : td.isCell = true) : ∃ d, P.underlying t = some d ∧ (match d with | .struct _ | .array _ _ => true | _ => false) = false := by
  unfold tdOk at h
  simp only [Bool.and_eq_true] at h
  have h := h.2
  split at h <;> simp_all [TD.isCell]
end

/-! ### Operations without memory, reckoned -/
def evBin (op : BinOp) (k : IntKind) (a b : Int) : Option Value :=
  match op with
  | .add => some (.int k (k.wrap (a + b)))
  | .sub => some (.int k (k.wrap (a - b)))
  | .mul => some (.int k (k.wrap (a * b)))
  | .and => some (.int k (bits .and k a b))
  | .or => some (.int k (bits .or k a b))
  | .xor => some (.int k (bits .xor k a b))
  | .andNot => some (.int k (bits .andNot k a b))
  | .eql => some (.bool (a == b))
  | .neq => some (.bool (a != b))
  | .lss => some (.bool (decide (a < b)))
  | .leq => some (.bool (decide (a ≤ b)))
  | .gtr => some (.bool (decide (a > b)))
  | .geq => some (.bool (decide (a ≥ b)))
  | .quo => if b = 0 then none else some (.int k (k.wrap (a.tdiv b)))
  | .rem => if b = 0 then none else some (.int k (a.tmod b))
  | _ => none
def evShift (op : BinOp) (k : IntKind) (a b : Int) : Option Value :=
  if b < 0 then none else
  match op with
  | .shl => some (.int k (k.wrap (a * 2 ^ (min b.toNat k.bits))))
  | .shr => some (.int k (a.fdiv (2 ^ (min b.toNat k.bits))))
  | _ => none
def isShift : BinOp → Bool
  | .shl | .shr => true
  | _ => false
def evUn (op : UnOp) : Value → Option Value
  | .int k n => match op with
    | .neg => some (.int k (k.wrap (0 - n)))
    | _ => none
  | .bool b => match op with
    | .not => some (.bool !b)
    | _ => none
  | _ => none

def evBinV (op : BinOp) : Value → Value → Option Value
  | .int k a, .int k' b => if isShift op then evShift op k a b else if k = k' then evBin op k a b else none
  | _, _ => none
def evConv (tab : Tab) (s d : Nat) : Value → Option Value
  | .int _ n => match look tab s, look tab d with
    | some _, some (.int kd, _) => some (.int kd (kd.wrap n))
    | _, _ => none
  | _ => none
def evField (tab : Tab) (t i : Nat) : Value → Option Value
  | .pointer (some ⟨b, off, none⟩) => match look tab t with
    | some (.st fs, _) => match fs[i]? with
      | some (_, o, _) => some (.pointer (some ⟨b, off + o, none⟩))
      | none => none
    | _ => none
  | _ => none
def evIndex (tab : Tab) (t : Nat) : Value → Value → Option Value
  | .pointer (some ⟨b, off, none⟩), .int _ i => match look tab t with
    | some (.arr n _ esz, _) => if 0 ≤ i ∧ i < n then some (.pointer (some ⟨b, off + i.toNat * esz, none⟩)) else none
    | _ => none
  | _, _ => none
def lget : List Value → Nat → Option Value
  | [], _ => none
  | v :: _, 0 => some v
  | _ :: r, n + 1 => lget r n
theorem lget_eq : ∀ (l : List Value) (n : Nat), lget l n = l[n]?
  | [], _ => rfl
  | _ :: _, 0 => rfl
  | _ :: r, n + 1 => by simpa [lget] using lget_eq r n
def evExtract (i : Nat) : Value → Option Value
  | .tuple vs => lget vs.toList i
  | _ => none
def evPick (a b : Value) : Value → Option Value
  | .bool true => some a
  | .bool false => some b
  | _ => none
def evLen (tab : Tab) (t : Nat) : Value → Option Value
  | .slice _ n _ => match look tab t with
    | some (.sl _ _ _, _) => some (.int .i64 n)
    | _ => none
  | .string s => match look tab t with
    | some (.str, _) => some (.int .i64 s.size)
    | _ => none
  | .agg _ => match look tab t with
    | some (.arr n _ _, _) => some (.int .i64 n)
    | _ => none
  | _ => none
def evF (tab : Tab) (l : List Value) : Op → Option Value
  | .move x => some (evL l x)
  | .assign x => some (evL l x)
  | .pick c a b => evPick (evL l a) (evL l b) (evL l c)
  | .binOp op _ x y _ => evBinV op (evL l x) (evL l y)
  | .unOp op _ x => evUn op (evL l x)
  | .convert s d x => evConv tab s d (evL l x)
  | .extract x i => evExtract i (evL l x)
  | .fieldAddr t x i => evField tab t i (evL l x)
  | .indexAddr t x y => evIndex tab t (evL l x) (evL l y)
  | _ => none

section
variable {P : Program} {tab : Tab}
theorem evBin_ok {op : BinOp} {k : IntKind} {a b : Int} {v : Value} (h : evBin op k a b = some v) (t : TypeId) (x y : Operand) (w : World) :
    (do eqGuard op t x y (.int k a) (.int k b); binOp op t (.int k a) (.int k b) : Sem Value).run P w = .ok v w := by
  cases op <;> simp only [evBin, Option.some.injEq, reduceCtorEq] at h
  case quo =>
    split at h
    · cases h
    · rename_i hb
      cases h
      simp [go_sem, binOp, Op.intDiv, hb, eqGuard]
  case rem =>
    split at h
    · cases h
    · rename_i hb
      cases h
      simp [go_sem, binOp, Op.intDiv, hb, eqGuard]
  all_goals (subst h; first | (simp only [go_sem]; rfl) | (simp [go_sem, binOp, Op.intArith, Op.intCmp, Op.intBits, eqGuard, bits]; done) | (simp [go_sem, binOp, Op.intArith, Op.intCmp, Op.intBits, eqGuard, bits]; rfl))
end
end Sp
end Go.Proofs.Ytmchkfganpgheaa
