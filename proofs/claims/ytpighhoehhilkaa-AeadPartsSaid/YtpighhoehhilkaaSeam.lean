/-
  Seams: the run goes on from the world that a piece has come to, with what is known of it.
-/
import Derived.Test.YtpighhoehhilkaaSlM
namespace Go.Proofs.Ytpighhoehhilkaa
set_option linter.unusedSimpArgs false
set_option linter.unusedVariables false
open Go Go.RowKit
namespace Sp
open M
variable {P : Program} {tab : Tab} {w0 W : World} {mu : List Nat} {bs : Mem} {l : List Value} {Post : Exit → Act → World → Prop}
theorem raw_seq {x y : Code} {R : List Value → Mem → Prop} (hw : OwnM w0 mu W bs) (hx : SP P w0 mu x (fun e l' bs' => e = .normal ∧ R l' bs') l bs)
    (hy : ∀ l' bs' W', R l' bs' → OwnM w0 mu W' bs' → y.wp P Post ⟨l'.toArray, []⟩ W') : (Code.seq x y).wp P Post ⟨l.toArray, []⟩ W :=
  wp_seq (hx.run W _ hw (by rintro e l' bs' W' ⟨rfl, hR⟩ hw'; exact hy l' bs' W' hR hw'))
/-- A piece is walked; what is behind it goes on from its world. -/
theorem raw_k {x y : Code} (hw : OwnM w0 mu W bs) (hx : ∀ K : List Value → Mem → Prop, (∀ l bs, (∀ W, OwnM w0 mu W bs → y.wp P Post ⟨l.toArray, []⟩ W) → K l bs) → SP P w0 mu x (fun e l bs => e = .normal ∧ K l bs) l bs) : (Code.seq x y).wp P Post ⟨l.toArray, []⟩ W :=
  wp_seq ((hx _ fun _ _ h => h).run W _ hw (by rintro e l' bs' W' ⟨rfl, hR⟩ hw'; exact hR W' hw'))
theorem raw_rest {id : Nat} {ops : Array Oper} {rest : List Oper} {y : Code} {Q : ExitP} {bs : Mem} (hw : OwnM w0 mu W bs) (h : SL P ops w0 mu rest (thenK (SP P w0 mu y Q) Q) l bs) (hQ : After w0 mu Q Post) : wpList P ops (Exit.then (y.wp P Post) Post) rest ⟨l.toArray, []⟩ W := by
  refine h.run W _ hw ?_
  intro e l' bs' W' q hw'
  cases e with
  | normal => exact q.run W' Post hw' hQ
  | exit id => exact hQ _ _ _ _ q hw'
  | goto id => exact hQ _ _ _ _ q hw'
  | ret => exact hQ _ _ _ _ q hw'
  | panic c => exact hQ _ _ _ _ q hw'
  | outgrown => exact hQ _ _ _ _ q hw'
/-- A call at a region's head: the run goes on from its world. -/
theorem raw_call {id f : Nat} {args : List Operand} {ats : Array TypeId} {dst : Option Tmp} {ty : TypeId} {pos : String} {af : Array Edge} {rest : List Oper} {y : Code} (hent : ∀ (A : Array Value) (w : World), (callFunc f A).run P w = .ok (.enter f A) w)
    {vals : List Value} (hv : args.map (evL l) = vals) {α : Type} {V : α → Value} {Φ : α → World → Prop} (hc : Calls P f vals.toArray W fun e w' => ∃ a, e = .returned (V a) ∧ Φ a w')
    (h : ∀ w1 a, Φ a w1 → ∃ Q, SL P (⟨dst, .call { callee := .value (.func f), args := args.toArray, argTypes := ats }, ty, pos, af, none⟩ :: rest).toArray w1 [] rest (thenK (SP P w1 [] y Q) Q) (putL l dst (V a)) [] ∧ After w1 [] Q Post) :
    (Code.seq (.region id (⟨dst, .call { callee := .value (.func f), args := args.toArray, argTypes := ats }, ty, pos, af, none⟩ :: rest).toArray false) y).wp P Post ⟨l.toArray, []⟩ W := by
  refine wp_seq (wp_region_lit (wpList_plain rfl fun K hK => ?_))
  unfold Oper.wp
  rw [run_call_fn (args_map args), hv, hent]
  simp only [Oper.upon]
  refine hc.mono ?_
  rintro e w' ⟨a, rfl, hΦ⟩
  obtain ⟨Q, hS, hQ⟩ := h w' a hΦ
  exact hK _ _ (by rw [putL_eq]; exact raw_rest (id := id) (OwnM.start w') hS hQ)
/-- The bytes of a constant string at a region's head. -/
theorem raw_bytesC (ht : TabOk P tab) {id t e n by_ sz : Nat} {parts : Array (Nat × Operand)} {cells : Array Value} {d1 : Nat} {dst2 : Option Tmp} {ty ty2 : TypeId} {pos pos2 : String} {af af2 : Array Edge} {rest : List Oper} {y : Code} (hw : OwnM w0 [] W bs)
    (hl : look tab t = some (.sl e 1 by_, sz)) (hle : look tab e = some (.int .u8, 1)) (hz : (P.info? e).map (·.zero) = some (some (.int .u8 0))) (hn : 0 < n) (hs : n ≤ 16777216)
    {vals : List (Nat × Value)} (hv : parts.toList.map (fun p => (p.1, evL l p.2)) = vals)
    (hf : Instr.fill (fun i => some (i * 1, 1)) ((Array.range (n * 1)).map ((Value.cells (.int .u8 0))[· % (Value.cells (.int .u8 0)).size]!)) vals = some cells)
    {l1 l' : Nat → List Value} (hp : ∀ b, putL l (some d1) (.slice (some ⟨b, 0, none⟩) n n) = l1 b) (hx : ∀ b, evL (l1 b) (.tmp d1) = .slice (some ⟨b, 0, none⟩) n n) (hp2 : ∀ b, putL (l1 b) dst2 (.slice (some ⟨b, 0, none⟩) n n) = l' b)
    (h : ∀ w1 b fz, OwnM w0 [] w1 bs → w1.heap[b]? = some (.cells cells e fz) → b ∉ bs.map (·.1) ++ [] → w0.heap.size ≤ b → ∃ Q, SL P (⟨some d1, .buildSlice t n parts, ty, pos, af, none⟩ :: ⟨dst2, .convert t t (.tmp d1), ty2, pos2, af2, none⟩ :: rest).toArray w1 (bs.map (·.1) ++ []) rest (thenK (SP P w1 (bs.map (·.1) ++ []) y Q) Q) (l' b) bs ∧ After w1 (bs.map (·.1) ++ []) Q Post) :
    (Code.seq (.region id (⟨some d1, .buildSlice t n parts, ty, pos, af, none⟩ :: ⟨dst2, .convert t t (.tmp d1), ty2, pos2, af2, none⟩ :: rest).toArray false) y).wp P Post ⟨l.toArray, []⟩ W := by
  subst hv
  obtain ⟨hu, hsz, _⟩ := td_sl (look_ok ht hl)
  have hue := td_int (look_ok ht hle)
  cases hq : P.info? e with
  | none => simp [hq] at hsz
  | some inf =>
    have hs1 : inf.size = 1 := by simpa [hq] using hsz
    have hz1 : inf.zero = some (.int .u8 0) := by simpa [hq] using hz
    refine wp_seq (wp_region_lit (wpList_plain rfl fun K hK => ?_))
    refine wp_buildSlice t e n parts rfl cells inf _ hu hq hz1 (by rw [hs1]; omega) (by rw [hs1]; omega) ?_ ?_
    · rw [Array.toList_map, ← hf, hs1]
      simp only [evL_eq]
    · refine hK _ _ ?_
      rw [putL_eq, hp]
      refine wpList_plain rfl fun K hK => ?_
      have hc := Go.Lib.run_convert_bytes_const (P := P) W t e cells n n hu hue
      unfold Oper.wp execOp
      simp only [evL_eq, hx, Sem.run_bind, hc, Result.andThen_ok, Sem.run_pure]
      refine hK _ _ ?_
      rw [putL_eq, hp2]
      have hw1 : OwnM w0 [] (W.alloc (.cells cells e (cells.size, cells.size + 1))) bs := hw.grow ((Below.refl _ W).alloc (Nat.le_refl _) _)
      have hb : (W.alloc (.cells cells e (cells.size, cells.size + 1))).heap[W.heap.size]? = some (.cells cells e (cells.size, cells.size + 1)) := heap_alloc_new _ _
      have hnb : W.heap.size ∉ bs.map (·.1) ++ [] := by
        intro hm
        rw [List.append_nil] at hm
        obtain ⟨p, hp', he⟩ := List.mem_map.1 hm
        have := hw.lt hp'
        omega
      obtain ⟨Q, hS, hQ⟩ := h _ _ _ hw1 hb hnb hw.size
      exact raw_rest (id := id) (mu := bs.map (·.1) ++ []) ⟨rfl, rfl, rfl, Nat.le_refl _, fun _ _ _ => rfl, fun p hp => ⟨.inr (List.mem_append_left _ (List.mem_map_of_mem hp)), (hw1.here p hp).2⟩, hw1.apart⟩ hS hQ
/-- What must hold where a function ends, of the world there. -/
theorem after_done {fn : Func} {rs : Array ResultVar} (hrs : fn.results = rs) {R : Value → Mem → Prop} {S : Ending → World → Prop} (h : ∀ v bs W, R v bs → OwnM w0 mu W bs → S (.returned v) W) : After w0 mu (doneK P w0 mu rs R) (bodyPost P fn S) := by
  rintro e l' bs' W ⟨he, v, hr, hR⟩ hW
  cases e <;> simp [isEnd] at he
  · exact ⟨rfl, v, hr W fn hrs hW, h v bs' W hR hW⟩
  · exact ⟨rfl, v, hr W fn hrs hW, h v bs' W hR hW⟩
end Sp
end Go.Proofs.Ytpighhoehhilkaa
