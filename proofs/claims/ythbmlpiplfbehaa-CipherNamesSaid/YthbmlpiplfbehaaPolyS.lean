/-
  The poly by what it holds: New, Write, Sum, Tag, and the document's Tag, as numbers.
-/
import Derived.Test.YthbmlpiplfbehaaPolyPj
namespace Go.Proofs.Ythbmlpiplfbehaa
set_option linter.unusedSimpArgs false
set_option linter.unusedVariables false
open Go Go.RowKit
namespace Sp
open F

/-- The tag's bytes. -/
@[irreducible] def tg (K C : List Int) : List Int := digN 16 (tagV K C)
theorem tg_length (K C : List Int) : (tg K C).length = 16 := by unfold tg; simp
attribute [simp] tg_length
/-- The row of a poly in a state. -/
@[irreducible] def prow (K : List Int) (s : PS) : Array Value := polyRow true (keyR0 K) (keyR1 K) (keyS0 K) (keyS1 K) s.h0 s.h1 s.h2 s.bl (s.n : Int)
@[irreducible] def ps0 : PS := ⟨0, 0, 0, List.replicate 16 0, 0, []⟩
/-- The state behind bytes that are written. -/
@[irreducible] def wr (K B : List Int) (s : PS) : PS := wAll (keyR0 K) (keyR1 K) { s with rest := B }
theorem ps0_holds (K : List Int) : Holds K [] ps0 := by unfold ps0; exact holds_nil K []
theorem Holds.rest {K C : List Int} {s : PS} (h : Holds K C s) (B : List Int) : Holds K C { s with rest := B } :=
  ⟨⟨h.ok.w0, h.ok.w1, h.ok.w2, h.ok.bl, h.ok.n⟩, h.h2, h.v, h.n, h.bl, h.byt⟩
theorem wr_holds {K C B : List Int} {s : PS} (hK : Byts K) (hC : Byts C) (hB : Byts B) (h : Holds K C s) : Holds K (C ++ B) (wr K B s) := by
  unfold wr
  exact wAll_holds hK hC hB (h.rest B)
theorem pnew_h (K : List Int) (hK : K.length = 32) (w : World) :
    Calls Try.prog 48 #[.agg (ints .u8 K)] w fun e w' => ∃ nb, e = .returned (.pointer (some ⟨nb, 0, none⟩)) ∧ OwnM w [] w' [(nb, prow K ps0, 95)] := by
  unfold prow ps0
  exact pnew_any K hK w
theorem pwrite_h {K C : List Int} {s : PS} (h : Holds K C s) (b : Nat) (T : TypeId) (p : Option Addr) (n c : Nat) (B : List Int) (w : World) (hS : Sl w p n c B) (hmax : n ≤ 140737488355328) (hne : 0 < n → ∀ sb off, p = some ⟨sb, off, none⟩ → sb ≠ b)
    (hb : w.heap[b]? = some (.cells (prow K s) T (0, 0))) :
    Calls Try.prog 49 #[.pointer (some ⟨b, 0, none⟩), .slice p n c] w fun e w' => e = .returned (.tuple #[]) ∧ OwnM w [b] w' [(b, prow K (wr K B s), T)] := by
  unfold prow at hb ⊢
  unfold wr
  exact pwrite_sl b T _ _ _ _ { s with rest := B } (h.rest B).ok (keyR_w K) p n c w hS hmax hne hb
theorem psum_h {K C : List Int} {s : PS} (hK : Byts K) (h : Holds K C s) (b : Nat) (T : TypeId) (fz : Nat × Nat) (w : World) (hb : w.heap[b]? = some (.cells (prow K s) T fz)) :
    Calls Try.prog 50 #[.pointer (some ⟨b, 0, none⟩)] w fun e w' => e = .returned (.agg (ints .u8 (tg K C))) ∧ Below w.heap.size w w' := by
  unfold prow at hb
  have := psum_any b T _ _ _ _ s h.ok (keyR_w K) (keyS0_w K) (keyS1_w K) fz w hb
  rw [sum_val hK h] at this
  unfold tg
  exact this
end Sp
end Go.Proofs.Ythbmlpiplfbehaa
