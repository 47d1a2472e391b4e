/-
  An append of a make: noughts.
-/
import Derived.Test.YtpighhoehhilkaaSlA
import Derived.Lib.AppendZerosOnto
namespace Go.Proofs.Ytpighhoehhilkaa
set_option linter.unusedSimpArgs false
set_option linter.unusedVariables false
open Go Go.RowKit
namespace Sp
open M
section
variable {P : Program} {ops : Array Oper} {rest : List Oper} {dst : Option Tmp} {ty : TypeId} {pos : String} {af : Array Edge} {l : List Value} {w0 : World} {mu : List Nat} {bs : Mem} {Q : ExitP} {tab : Tab}
/-- Noughts are appended (a make) to a slice of one's own: it lies at the head of a row, and what lies behind it there is nobody's. -/
theorem SL.appZ (ht : TabOk P tab) {s x : Operand} {t tx e sz szn : Nat} {kq kn : IntKind} {b n cap i m : Nat} {B J : List Int} {T : TypeId}
    (hi : bs[i]? = some (b, ints .u8 (B ++ J), T)) (hB : B.length = n) (hJ : n + J.length = cap) (hm0 : 0 < m) (hmax : n + m ≤ 140737488355328)
    {nm : Nat} {bs1 : Mem}
    {l' : Nat → Nat → List Value} (h : ∀ nb cap' J' T', nm + J'.length = cap' → SL P ops w0 mu rest Q (l' nb cap') ((nb, ints .u8 (B ++ List.replicate m 0 ++ J'), T') :: bs1))
    (hz : (P.info? e).map (·.zero) = some (some (.int .u8 0))) (hs : evL l s = .slice (some ⟨b, 0, none⟩) n cap := by rfl) (hx : evL l x = .int kq (m : Int) := by rfl) (hln : look tab tx = some (.int kn, szn) := by rfl)
    (hl : look tab t = some (.sl e 1 1, sz) := by rfl)
    (hnm : n + m = nm := by first | rfl | omega) (hbs : bs.eraseIdx i = bs1 := by first | (dsimp only [List.eraseIdx]; done) | (dsimp only [List.eraseIdx]; rfl))
    (hp : ∀ nb cap', putL l dst (.slice (some ⟨nb, 0, none⟩) nm cap') = l' nb cap' := by intro _ _; first | (dsimp only [putL, setNth]; done) | (dsimp only [putL, setNth]; rfl)) :
    SL P ops w0 mu (⟨dst, .call { callee := .builtin .append, args := #[s, x], argTypes := #[t, tx] }, ty, pos, af, none⟩ :: rest) Q l bs := by
  subst hB hnm hbs
  refine SL.eff (R := fun v bs' => ∃ nb cap' J' T', B.length + m + J'.length = cap' ∧ v = .slice (some ⟨nb, 0, none⟩) (B.length + m) cap' ∧ bs' = (nb, ints .u8 (B ++ List.replicate m 0 ++ J'), T') :: bs.eraseIdx i) (fun w hw => ?_) (by rintro v bs' ⟨nb, cap', J', T', hc, rfl, rfl⟩; rw [hp]; exact h nb cap' J' T' hc)
  obtain ⟨hu, hsz, hby⟩ := td_sl (look_ok ht hl)
  have hb := hw.block (List.mem_of_getElem? hi)
  have hlt : i < bs.length := (List.getElem?_eq_some_iff.1 hi).1
  cases hq : P.info? e with
  | none => simp [hq] at hsz
  | some inf =>
    have hs1 : inf.size = 1 := by simpa [hq] using hsz
    have hb1 : inf.bytes = 1 := by simpa [hq] using hby
    have hz1 : inf.zero = some (.int .u8 0) := by simpa [hq] using hz
    have hun := td_int (look_ok ht hln)
    rw [run_call_append hs hx]
    rcases Nat.lt_or_ge cap (B.length + m) with hg | hroom
    · have hcap : Builtin.nextslicecap (B.length + m) cap * inf.bytes ≤ 281474976710656 := by
        have := nextslicecap_le hg
        rw [hb1]; omega
      have hold : (Builtin.firstCells inf.size B.length (.slice (some ⟨b, 0, none⟩) B.length cap)).run P w.drew = .ok (B.map (Value.int .u8)).toArray w.drew := by
        refine run_firstCells_some w.drew inf.size B.length ⟨b, 0, none⟩ B.length cap _ (by rw [hs1]; simp) (fun j u hu => ?_)
        have hj : j < B.length := by
          cases h : B[j]? with
          | none => simp [h] at hu
          | some x => exact (List.getElem?_eq_some_iff.1 h).1
        rw [add_off, cell_of_row w.drew b (0 + j) (ints .u8 (B ++ J)) T (0, 0) hb, ← hu]
        simp only [ints, List.getElem?_toArray, List.getElem?_map, Nat.zero_add]
        rw [List.getElem?_append_left hj]
      have hge := grownCap_ge w (B.length + m) cap e
      have hrun := Lib.run_append_grow_zeros (P := P) w t tx ty e inf _ kq kn hu hun hq hz1 (some ⟨b, 0, none⟩) B.length cap _ hold m hm0 (by omega) hg (by omega) (by rw [hb1]; omega) hcap
      rw [hrun]
      simp only [Result.andThen_ok]
      refine ⟨_, _, _, rfl, ⟨w.heap.size, _, List.replicate (grownCap w (B.length + m) cap e - (B.length + m)) 0, e, by simp; omega, rfl, rfl⟩, ?_⟩
      have := (hw.drew 1).alloc (ints .u8 (B ++ List.replicate m 0 ++ List.replicate (grownCap w (B.length + m) cap e - (B.length + m)) 0)) e
      rw [zeroCells_int, zeroCells_int, show (List.map (Value.int .u8) B).toArray = ints .u8 B from rfl, ← ints_append, ← ints_append]
      exact this.sub ((List.eraseIdx_sublist _ _).cons_cons _)
    · have hst := run_storeCells_row (P := P) ((List.replicate m (0 : Int)).map (Value.int .u8)) (fun v hv => by obtain ⟨x, _, rfl⟩ := List.mem_map.1 hv; rfl) 0 w b B.length (ints .u8 (B ++ J)) T hb (by simp [ints_size]; omega)
      have hst2 : (storeCells ((⟨b, 0, none⟩ : Addr).add (B.length * inf.size)) ((List.replicate m (0 : Int)).map (Value.int .u8)) 0).run P w = .ok () (w.setRow b (ints .u8 (B ++ List.replicate m 0 ++ J.drop m))) := by
        rw [add_off, hs1, Nat.mul_one, Nat.zero_add, hst, Nat.add_zero, putAt_mid B (List.replicate m 0) J (by simp; omega), List.length_replicate]
      have hrun : (Builtin.append_ #[t, tx] ty #[.slice (some ⟨b, 0, none⟩) B.length cap, .int kq (m : Int)]).run P w = .ok (.slice (some ⟨b, 0, none⟩) (B.length + m) cap) (w.setRow b (ints .u8 (B ++ List.replicate m 0 ++ J.drop m))) := by
        have hw : IntKind.i64.wrap (m : Int) = m := by rw [IntKind.wrap_i64]; omega
        have h48i : ¬ (281474976710656 < (m : Int) * (inf.bytes : Int)) := by rw [hb1]; omega
        have hneg : ¬ ((m : Int) < 0) := by omega
        have hns : ¬ (m * inf.size = 0) := Nat.mul_ne_zero (by omega) (by omega)
        have hzc : (Builtin.zeroCells (Value.int .u8 0).cells m).toList = (List.replicate m (0 : Int)).map (Value.int .u8) := by rw [show (Value.int .u8 0).cells = Value.cells (.int .u8 0) from rfl, zeroCells_int]; rfl
        simp [Builtin.append_, run_underlying hu, run_underlying hun, sizeOf, typeInfo, zeroValue, hq, hz1, asInt, asIntOf, hw, hneg, hns, h48i, hroom, hzc]
        simp only [List.map_replicate, List.append_assoc] at hst2
        rw [hst2]
        rfl
      rw [hrun]
      simp only [Result.andThen_ok]
      exact ⟨_, _, _, rfl, ⟨b, cap, J.drop m, T, by simp; omega, rfl, rfl⟩, (hw.setRow hi _).perm (set_perm _ _ _ hlt)⟩
/-- A slice that is built of constants: `hf` by consts.py's bytesC. -/
theorem SL.buildC (ht : TabOk P tab) {t e n sz by_ : Nat} {parts : Array (Nat × Operand)} {L : List Int} {vals : List (Nat × Value)} (hz : (P.info? e).map (·.zero) = some (some (.int .u8 0))) (hpos : 0 < n) (hmax : n ≤ 2 ^ 24)
    (hf : Instr.fill (fun i => some (i * 1, 1)) ((Array.range (n * 1)).map ((Value.cells (.int .u8 0))[· % (Value.cells (.int .u8 0)).size]!)) vals = some (ints .u8 L))
    {l' : Nat → List Value} (h : ∀ b, SL P ops w0 mu rest Q (l' b) ((b, ints .u8 L, e) :: bs)) (hv : parts.toList.map (fun p => (p.1, evL l p.2)) = vals := by first | (dsimp only [List.map, evL, nth]; done) | (dsimp only [List.map, evL, nth]; rfl))
    (hl : look tab t = some (.sl e 1 by_, sz) := by rfl)
    (hp : ∀ b, putL l dst (.slice (some ⟨b, 0, none⟩) n n) = l' b := by intro _; first | (dsimp only [putL, setNth]; done) | (dsimp only [putL, setNth]; rfl)) :
    SL P ops w0 mu (⟨dst, .buildSlice t n parts, ty, pos, af, none⟩ :: rest) Q l bs := by
  obtain ⟨hu, hsz, _⟩ := td_sl (look_ok ht hl)
  cases hq : P.info? e with
  | none => simp [hq] at hsz
  | some inf =>
    have hs1 : inf.size = 1 := by simpa [hq] using hsz
    have hz1 : inf.zero = some (.int .u8 0) := by simpa [hq] using hz
    refine SL.buildSlice (vals := vals) hu hq hz1 (by rw [hs1]; omega) (by rw [hs1]; omega) hv ?_ hp h
    rw [hs1]
    exact hf
end
end Sp
end Go.Proofs.Ytpighhoehhilkaa
