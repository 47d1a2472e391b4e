/-
  Slices that calls hand back: no bytes, or bytes at the head of a row of one's own; they lie at the memory's end.
-/
import Derived.Test.YtpighhoehhilkaaSlG
namespace Go.Proofs.Ytpighhoehhilkaa
set_option linter.unusedSimpArgs false
set_option linter.unusedVariables false
open Go Go.RowKit
namespace Sp
open M
/-- A slice of one's own: without bytes, or bytes at the head of a row. -/
structure AO (q : Option Addr) (n c : Nat) (X : List Int) (m : Mem) : Prop where
  len : X.length = n
  cap : n ≤ c
  at_ : 0 < n → ∃ b J T, q = some ⟨b, 0, none⟩ ∧ m = [(b, ints .u8 (X ++ J), T)]
theorem AO.nil : AO none 0 0 [] [] := ⟨rfl, Nat.le_refl _, fun h => absurd h (Nat.lt_irrefl 0)⟩
theorem AO.row {n c : Nat} {X J : List Int} {b : Nat} {T : TypeId} (hl : X.length = n) (hc : n ≤ c) : AO (some ⟨b, 0, none⟩) n c X [(b, ints .u8 (X ++ J), T)] := ⟨hl, hc, fun _ => ⟨b, J, T, rfl, rfl⟩⟩
variable {P : Program} {ops : Array Oper} {rest : List Oper} {dst : Option Tmp} {ty : TypeId} {pos : String} {af : Array Edge} {l : List Value} {w0 : World} {mu : List Nat} {bs : Mem} {Q : ExitP} {tab : Tab}
theorem AO.sl {q : Option Addr} {n c : Nat} {X : List Int} {m : Mem} (h : AO q n c X m) {w : World} (hw : OwnM w0 mu w bs) (hs : m.Sublist bs) : Sl w q n c X :=
  ⟨h.len, h.cap, fun h0 => by
    obtain ⟨b, J, T, rfl, rfl⟩ := h.at_ h0
    have hb := hw.block (hs.subset (List.mem_singleton.2 rfl))
    exact ⟨b, 0, _, T, _, rfl, hb, Lies.row X J⟩⟩
theorem OwnM.freshL {w w' : World} {abs : Mem} (h : OwnM w0 mu w bs) (h' : OwnM w [] w' abs) : OwnM w0 mu w' (bs ++ abs) := by
  have h2 := h.grow h'.below
  have hge : ∀ p ∈ abs, w.heap.size ≤ p.1 := fun p hp => by simpa using (h'.here p hp).1
  refine ⟨h2.os, h2.tape, h2.output, h2.size, h2.rest, ?_, ?_⟩
  · intro p hp
    rcases List.mem_append.1 hp with hp | hp
    · exact h2.here p hp
    · exact ⟨.inl (Nat.le_trans h.size (hge p hp)), (h'.here p hp).2⟩
  · rw [List.map_append, List.nodup_append]
    refine ⟨h2.apart, h'.apart, ?_⟩
    intro a ha b hb he
    obtain ⟨p, hp, rfl⟩ := List.mem_map.1 ha
    obtain ⟨p', hp', rfl⟩ := List.mem_map.1 hb
    have h1 := h.lt hp
    have h3 := hge p' hp'
    omega
/-- A call that hands back a slice of bytes: it lies at the memory's end. -/
theorem SL.clA {f : FuncId} {args : List Operand} {ats : Array TypeId} (hent : ∀ (A : Array Value) (w : World), (callFunc f A).run P w = .ok (.enter f A) w) {vals : List Value} (hv : args.map (evL l) = vals)
    {V : Option Addr → Nat → Value} {n : Nat} {X : List Int} {l' : Option Addr → Nat → List Value} {bs' : Mem → Mem}
    (hc : ∀ w, OwnM w0 mu w bs → Calls P f vals.toArray w fun e w' => ∃ q c abs, e = .returned (V q c) ∧ AO q n c X abs ∧ OwnM w [] w' abs)
    (h : ∀ q c abs, AO q n c X abs → SL P ops w0 mu rest Q (l' q c) (bs' abs)) (hbs : ∀ abs, bs ++ abs = bs' abs := by intro _; first | (simp only [List.cons_append, List.nil_append, List.append_assoc]; done) | (simp only [List.cons_append, List.nil_append, List.append_assoc]; rfl))
    (hp : ∀ q c, putL l dst (V q c) = l' q c := by intro _ _; first | (dsimp only [putL, setNth]; done) | (dsimp only [putL, setNth]; rfl)) :
    SL P ops w0 mu (⟨dst, .call { callee := .value (.func f), args := args.toArray, argTypes := ats }, ty, pos, af, none⟩ :: rest) Q l bs := by
  refine SL.callG hent hv (R := fun v' bs2 => ∃ q c abs, AO q n c X abs ∧ v' = V q c ∧ bs2 = bs' abs) (fun w hw => (hc w hw).mono fun e w' hx => ?_) (by rintro v' bs2 ⟨q, c, abs, ha, rfl, rfl⟩; rw [hp]; exact h q c abs ha)
  obtain ⟨q, c, abs, rfl, ha, hw'⟩ := hx
  exact ⟨_, _, rfl, ⟨q, c, abs, ha, rfl, rfl⟩, by rw [← hbs]; exact OwnM.freshL hw hw'⟩
end Sp
end Go.Proofs.Ytpighhoehhilkaa
