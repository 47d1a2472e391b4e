/-
  Three-index cuts, appends onto a full slice that is not one's own, blocks forgotten.
-/
import Derived.Test.YtpighhoehhilkaaSlZ
namespace Go.Proofs.Ytpighhoehhilkaa
set_option linter.unusedSimpArgs false
set_option linter.unusedVariables false
open Go Go.RowKit
namespace Sp
open M
section
variable {P : Program} {ops : Array Oper} {rest : List Oper} {dst : Option Tmp} {ty : TypeId} {pos : String} {af : Array Edge} {l : List Value} {w0 : World} {mu : List Nat} {bs : Mem} {Q : ExitP} {tab : Tab}
/-- Blocks that are no longer looked at. -/
theorem SL.sub {bs' : Mem} (h : SL P ops w0 mu rest Q l bs') (hs : bs'.Sublist bs) : SL P ops w0 mu rest Q l bs := ⟨fun W Q' hw hA => h.run W Q' (hw.sub hs) hA⟩
theorem SP.sub {c : Code} {bs' : Mem} (h : SP P w0 mu c Q l bs') (hs : bs'.Sublist bs) : SP P w0 mu c Q l bs := ⟨fun W Q' hw hA => h.run W Q' (hw.sub hs) hA⟩
/-- A cut from the front whose capacity ends with it. -/
theorem ValO.cutM (ht : TabOk P tab) {gd : Option (Nat × Bool)} {t : TypeId} {x hi mx : Operand} {b off n c e esz by_ sz z : Nat} {k k' : IntKind} (hx : evL l x = .slice (some ⟨b, off, none⟩) n c) (hl : look tab t = some (.sl e esz by_, sz))
    (hhi : evL l hi = .int k (z : Int)) (hmx : evL l mx = .int k' (z : Int)) (hz : z ≤ c) : ValO P w0 mu bs l ⟨dst, .slice t x none (some hi) (some mx), ty, pos, af, gd⟩ (.slice (some ⟨b, off, none⟩) z z) := by
  obtain ⟨hu, hs, _⟩ := td_sl (look_ok ht hl)
  refine ⟨M.growAt_pure fun w => ?_⟩
  cases hq : P.info? e with
  | none => simp [hq] at hs
  | some inf =>
    have hs' : inf.size = esz := by simpa [hq] using hs
    have hb : (Instr.sliceBounds true n c none (some (.int k (z : Int))) (some (.int k' (z : Int)))).run P w = .ok (0, z, z) w := by
      simp [Instr.sliceBounds, Instr.sliceBound, asIntOf, hz]
    unfold execOp
    simp only [evL_eq, hx]
    by_cases h0 : z = 0
    · subst h0
      have e0 : ((0 : Nat) : Int) = 0 := rfl
      rw [e0] at hb hhi hmx
      simp [evL_eq, Instr.sliceAt, Instr.slice, Sem.run_bind, run_underlying hu, hhi, hmx, hb, sizeOf, typeInfo, hq, hs', add_zero']
    · simp [evL_eq, Instr.sliceAt, Instr.slice, Sem.run_bind, run_underlying hu, hhi, hmx, hb, sizeOf, typeInfo, hq, hs', add_zero', h0]
/-- Bytes are appended to a full slice, whoever's: a new row. -/
theorem SL.appGz (ht : TabOk P tab) {s x : Operand} {t tx e e' by' sz sz' : Nat} {p q : Option Addr} {n m c : Nat} {B M : List Int} (hm0 : 0 < m) (hmax : n + m ≤ 140737488355328)
    (hS : ∀ w, OwnM w0 mu w bs → Sl w p n n B) (hM : ∀ w, OwnM w0 mu w bs → Sl w q m c M) {nm : Nat}
    {l' : Nat → Nat → List Value} (h : ∀ nb cap', nm ≤ cap' → SL P ops w0 mu rest Q (l' nb cap') ((nb, ints .u8 (B ++ M ++ List.replicate (cap' - nm) 0), e) :: bs))
    (hz : (P.info? e).map (·.zero) = some (some (.int .u8 0))) (hs : evL l s = .slice p n n := by rfl) (hx : evL l x = .slice q m c := by rfl)
    (hl : look tab t = some (.sl e 1 1, sz) := by rfl) (hl' : look tab tx = some (.sl e' 1 by', sz') := by rfl)
    (hnm : n + m = nm := by first | rfl | omega)
    (hp : ∀ nb cap', putL l dst (.slice (some ⟨nb, 0, none⟩) nm cap') = l' nb cap' := by intro _ _; first | (dsimp only [putL, setNth]; done) | (dsimp only [putL, setNth]; rfl)) :
    SL P ops w0 mu (⟨dst, .call { callee := .builtin .append, args := #[s, x], argTypes := #[t, tx] }, ty, pos, af, none⟩ :: rest) Q l bs := by
  subst hnm
  refine SL.eff (R := fun v bs' => ∃ nb cap', n + m ≤ cap' ∧ v = .slice (some ⟨nb, 0, none⟩) (n + m) cap' ∧ bs' = (nb, ints .u8 (B ++ M ++ List.replicate (cap' - (n + m)) 0), e) :: bs) (fun w hw => ?_) (by rintro v bs' ⟨nb, cap', hc, rfl, rfl⟩; rw [hp]; exact h nb cap' hc)
  obtain ⟨hu, hsz, hby⟩ := td_sl (look_ok ht hl)
  obtain ⟨hu', _, _⟩ := td_sl (look_ok ht hl')
  have hSw := hS w hw
  have hMw := hM w hw
  have hlB := hSw.len
  have hlM := hMw.len
  cases hq : P.info? e with
  | none => simp [hq] at hsz
  | some inf =>
    have hs1 : inf.size = 1 := by simpa [hq] using hsz
    have hb1 : inf.bytes = 1 := by simpa [hq] using hby
    have hz1 : inf.zero = some (.int .u8 0) := by simpa [hq] using hz
    have hsr := src_Sl hu' hMw
    rw [← hs1] at hsr
    rw [run_call_append hs hx]
    have hg : n < n + m := by omega
    have hcap : Builtin.nextslicecap (n + m) n * inf.bytes ≤ 281474976710656 := by
      have := nextslicecap_le hg
      rw [hb1]; omega
    have hold : (Builtin.firstCells inf.size n (.slice p n n)).run P w.drew = .ok (B.map (Value.int .u8)).toArray w.drew := by
      by_cases h0 : n = 0
      · subst h0
        obtain rfl : B = [] := List.eq_nil_of_length_eq_zero hlB
        cases p with
        | none => exact run_firstCells_none w.drew _ 0 0 0
        | some a => exact run_firstCells_some w.drew inf.size 0 a 0 0 _ (by simp) (fun j u hu => by simp at hu)
      · obtain ⟨b, off, A, T, fz, rfl, hb, hA⟩ := hSw.at_ (by omega)
        have hdr : w.drew.heap[b]? = some (.cells A T fz) := hb
        refine run_firstCells_some w.drew inf.size n ⟨b, off, none⟩ n n _ (by rw [hs1]; simp [hlB]) (fun j u hu => ?_)
        rw [List.getElem?_map] at hu
        have hj : j < B.length := by
          cases h : B[j]? with
          | none => simp [h] at hu
          | some x => exact (List.getElem?_eq_some_iff.1 h).1
        have h1 := hA j hj
        rw [add_off, cell_of_row w.drew b (off + j) A T fz hdr, h1, ← hu]
        simp [gi, hj]
    have hge := grownCap_ge w (n + m) n e
    have hrun := run_append_grow_src (P := P) w t tx ty e inf _ hu hq hz1 p n n _ hold (.slice q m c) m _ hsr hg (by omega) hcap
    rw [hrun]
    simp only [Result.andThen_ok]
    refine ⟨_, _, _, rfl, ⟨w.heap.size, _, by omega, rfl, rfl⟩, ?_⟩
    have := (hw.drew 1).alloc (ints .u8 (B ++ M ++ List.replicate (grownCap w (n + m) n e - (n + m)) 0)) e
    rw [zeroCells_int, ← List.map_append, show (List.map (Value.int .u8) (B ++ M)).toArray = ints .u8 (B ++ M) from rfl, ← ints_append]
    exact this
/-- Bytes are appended to a full slice, whoever's: a new row, and nobody asks what lies behind. -/
theorem SL.appGr (ht : TabOk P tab) {s x : Operand} {t tx e e' by' sz sz' : Nat} {p q : Option Addr} {n m c : Nat} {B M : List Int} (hm0 : 0 < m) (hmax : n + m ≤ 140737488355328)
    (hS : ∀ w, OwnM w0 mu w bs → Sl w p n n B) (hM : ∀ w, OwnM w0 mu w bs → Sl w q m c M) {nm : Nat}
    {l' : Nat → Nat → List Value} (h : ∀ nb cap' J', nm + J'.length = cap' → SL P ops w0 mu rest Q (l' nb cap') ((nb, ints .u8 (B ++ M ++ J'), e) :: bs))
    (hz : (P.info? e).map (·.zero) = some (some (.int .u8 0))) (hs : evL l s = .slice p n n := by rfl) (hx : evL l x = .slice q m c := by rfl)
    (hl : look tab t = some (.sl e 1 1, sz) := by rfl) (hl' : look tab tx = some (.sl e' 1 by', sz') := by rfl)
    (hnm : n + m = nm := by first | rfl | omega)
    (hp : ∀ nb cap', putL l dst (.slice (some ⟨nb, 0, none⟩) nm cap') = l' nb cap' := by intro _ _; first | (dsimp only [putL, setNth]; done) | (dsimp only [putL, setNth]; rfl)) :
    SL P ops w0 mu (⟨dst, .call { callee := .builtin .append, args := #[s, x], argTypes := #[t, tx] }, ty, pos, af, none⟩ :: rest) Q l bs :=
  SL.appGz ht hm0 hmax hS hM (fun nb cap' hc => h nb cap' _ (by simp; omega)) hz hs hx hl hl' hnm hp
end
end Sp
end Go.Proofs.Ytpighhoehhilkaa
