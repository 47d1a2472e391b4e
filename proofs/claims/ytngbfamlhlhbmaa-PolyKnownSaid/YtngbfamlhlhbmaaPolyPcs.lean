/-
  What PolyPieces needs: the pieces' bytes, a row whose bytes go up by one, the document's tag of a slice that appends have made.
-/
import Derived.Test.YtngbfamlhlhbmaaPolyS
import Derived.Test.YtngbfamlhlhbmaaOpenSS
import Derived.Test.YtngbfamlhlhbmaaSlA
namespace Go.Proofs.Ytngbfamlhlhbmaa
set_option linter.unusedSimpArgs false
set_option linter.unusedVariables false
open Go Go.RowKit Sp F M

/-- The bytes of the first pieces, each cut at 1000. -/
def concP' (ln : Nat → Nat) (B : Nat → List Int) : Nat → List Int
  | 0 => []
  | k + 1 => concP' ln B k ++ (B k).take (min (ln k) 1000)
@[irreducible] def concP (ln : Nat → Nat) (B : Nat → List Int) (k : Nat) : List Int := concP' ln B k
theorem concP_0 (ln : Nat → Nat) (B : Nat → List Int) : concP ln B 0 = [] := by unfold concP; rfl
theorem concP_s (ln : Nat → Nat) (B : Nat → List Int) (k : Nat) : concP ln B (k + 1) = concP ln B k ++ (B k).take (min (ln k) 1000) := by unfold concP; rfl
theorem byts_app {A B : List Int} (hA : Byts A) (hB : Byts B) : Byts (A ++ B) := by
  intro j
  unfold gi
  rw [List.getD_eq_getElem?_getD]
  rcases Nat.lt_or_ge j A.length with h | h
  · rw [List.getElem?_append_left h, ← List.getD_eq_getElem?_getD]; exact hA j
  · rw [List.getElem?_append_right h, ← List.getD_eq_getElem?_getD]; exact hB _
theorem concP_byts {ln : Nat → Nat} {B : Nat → List Int} (hB : ∀ i, Byts (B i)) : ∀ k, Byts (concP ln B k)
  | 0 => by rw [concP_0]; exact byts_nil
  | k + 1 => by rw [concP_s]; exact byts_app (concP_byts hB k) (byts_take (hB k) _)
theorem concP_len (ln : Nat → Nat) (B : Nat → List Int) : ∀ k, (concP ln B k).length ≤ 1000 * k
  | 0 => by rw [concP_0]; simp
  | k + 1 => by
    have := concP_len ln B k
    rw [concP_s, List.length_append, List.length_take]
    omega
/-- The first indices, as bytes. -/
def idxP' : Nat → List Int
  | 0 => []
  | k + 1 => idxP' k ++ [IntKind.u8.wrap (k : Int)]
@[irreducible] def idxP (k : Nat) : List Int := idxP' k
theorem idxP_0 : idxP 0 = [] := by unfold idxP; rfl
theorem idxP_s (k : Nat) : idxP (k + 1) = idxP k ++ [IntKind.u8.wrap (k : Int)] := by unfold idxP; rfl
/-- Each of the first bytes one higher. -/
def incR' (L : List Int) : Nat → List Int
  | 0 => L
  | j + 1 => (incR' L j).set j (IntKind.u8.wrap (gi (incR' L j) j + 1))
@[irreducible] def incR (L : List Int) (j : Nat) : List Int := incR' L j
theorem incR_0 (L : List Int) : incR L 0 = L := by unfold incR; rfl
theorem incR_s (L : List Int) (j : Nat) : incR L (j + 1) = (incR L j).set j (IntKind.u8.wrap (gi (incR L j) j + 1)) := by unfold incR; rfl
theorem incR_length (L : List Int) : ∀ j, (incR L j).length = L.length
  | 0 => by rw [incR_0]
  | j + 1 => by rw [incR_s, List.length_set, incR_length L j]
attribute [simp] incR_length
theorem incR_gi (L : List Int) : ∀ j i, j ≤ i → gi (incR L j) i = gi L i
  | 0, _, _ => by rw [incR_0]
  | j + 1, i, h => by rw [incR_s, gi_upd _ _ _ _ (by omega), incR_gi L j i (by omega)]
theorem gi_app_left {B J : List Int} {k : Nat} (h : k < B.length) : gi (B ++ J) k = gi B k := by unfold gi; rw [List.getD_eq_getElem?_getD, List.getD_eq_getElem?_getD, List.getElem?_append_left h]
theorem gi_take_lt {B : List Int} {m k : Nat} (h : k < m) : gi (B.take m) k = gi B k := by unfold gi; rw [List.getD_eq_getElem?_getD, List.getD_eq_getElem?_getD, List.getElem?_take, if_pos h]
/-- The document's tag of a slice that appends have made. -/
theorem rtag_o {K : List Int} (hK : K.length = 32) (hKb : Byts K) {w : World} {pre m : Mem} {av : Value} {X : List Int} (hO : AllO av X m) (hX : Byts X) (hmax : X.length ≤ 140737488355328) {mu : List Nat} {w1 : World} (hw : OwnM w mu w1 (pre ++ m)) :
    Calls Try.prog 16 #[.agg (ints .u8 K), av] w1 fun e w' => e = .returned (.agg (ints .u8 (tg K X))) ∧ Below w1.heap.size w1 w' := by
  obtain ⟨q, c, rfl, hS⟩ := hO.sl hw
  have := rtag_any K hK q X.length c X w1 hS hmax
  rw [rtag_val hKb hX] at this
  unfold tg
  exact this
/-- A part of a slice from its front. -/
theorem Sl.front {w : World} {q : Option Addr} {n c k : Nat} {B : List Int} (h : Sl w q n c B) (hk : k ≤ n) : Sl w q k c (B.take k) := by
  have hl := h.len
  have hc := h.cap
  by_cases h0 : k = 0
  · subst h0; rw [List.take_zero]; exact Sl.nil w q c
  · obtain ⟨b, off, A, T, fz, rfl, hb, hA⟩ := h.at_ (by omega)
    exact h.take hk
namespace Sp
open M
variable {P : Program} {tab : Tab} {w0 : World} {mu : List Nat} {bs : Mem} {l l' : List Value} {ops : Array Oper} {rest : List Oper} {Q : ExitP}
variable {dst : Option Tmp} {op : Op} {ty : TypeId} {pos : String} {af : Array Edge} {gd : Option (Nat × Bool)}
theorem run_neq_ints (w : World) (t e : TypeId) (n : Nat) (k' : IntKind) (hu : P.underlying t = some (.array n e)) (hue : P.underlying e = some (.int k')) (hs : (P.info? e).map (·.size) = some 1)
    (k : IntKind) (L M : List Int) (hL : L.length = n) (hM : M.length = n) :
    (binOp .neq t (.agg (ints k L)) (.agg (ints k M))).run P w = .ok (.bool (!decide (L = M))) w := by
  have h : (Op.equal t (.agg (ints k L)) (.agg (ints k M))).run P w = .ok (decide (L = M)) w := by
    unfold Op.equal
    rw [show Op.maxDepth = 9999 + 1 from rfl, run_equalIn_array w 9999 t e n _ _ hu 1 hs, show (9999 : Nat) = 9998 + 1 from rfl, run_eqFrom_ints w 9998 e k' hue k L M _ (by intro i hi; simp at hi; omega), all_gi L M n hL hM]
  simp only [binOp]
  simp [h]
theorem neqF (ht : TabOk P tab) {t t' : TypeId} {x y : Operand} {k : IntKind} {L L' : List Int} {n e sz : Nat} (hl : look tab t = some (.arr n e 1, sz)) {k' : IntKind} {sz' : Nat} (hle : look tab e = some (.int k', sz')) (hx : evL l x = .agg (ints k L)) (hy : evL l y = .agg (ints k L'))
    (hg : P.eqGuardType P.depth t = false) (hL : L.length = n) (hM : L'.length = n) (e' : L = L') : ValO P w0 mu bs l ⟨dst, .binOp .neq t x y t', ty, pos, af, gd⟩ (.bool false) := by
  obtain ⟨hu, hs⟩ := td_arr (look_ok ht hl)
  refine ⟨M.growAt_pure fun w => ?_⟩
  unfold execOp
  simp only [evL_eq, hx, hy, Sem.run_bind, run_eqGuard_agg w .neq t x y _ _ hg, Result.andThen_ok, run_neq_ints w t e n k' hu (td_int (look_ok ht hle)) hs k L L' hL hM, Sem.run_pure, decide_eq_true e', Bool.not_true]
end Sp
end Go.Proofs.Ytngbfamlhlhbmaa
