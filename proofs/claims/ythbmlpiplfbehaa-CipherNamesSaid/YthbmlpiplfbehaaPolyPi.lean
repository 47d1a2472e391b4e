/-
  Bytes written, of whichever slice; the program's tag of bytes.
-/
import Derived.Test.YthbmlpiplfbehaaPolyPh
namespace Go.Proofs.Ythbmlpiplfbehaa
set_option linter.unusedSimpArgs false
set_option linter.unusedVariables false
open Go Go.RowKit

namespace Sp
open F

set_option maxRecDepth 20000 in
set_option maxHeartbeats 1000000 in
theorem pwrite_nil (b : Nat) (T : TypeId) (r0 r1 s0 s1 : Int) (s : PS) (hbl : s.bl.length = 16) (p : Option Addr) (c : Nat) (w : World) (hb : w.heap[b]? = some (.cells (polyRow true r0 r1 s0 s1 s.h0 s.h1 s.h2 s.bl (s.n : Int)) T (0, 0))) :
    Calls Try.prog 49 #[.pointer (some ⟨b, 0, none⟩), .slice p 0 c] w fun e w' => e = .returned (.tuple #[]) ∧ OwnM w [b] w' [(b, polyRow true r0 r1 s0 s1 s.h0 s.h1 s.h2 s.bl (s.n : Int), T)] := by
  refine mutE Try.func49 Try.ntmps49 Try.results49 hb ?_
  repeat (first | ((with_reducible refine SP.region (id := 0) ?_); refine SL.e tabOk ?_; (first | (refine SL.v (ValO.ptrNil tabOk rfl rfl rfl) ?_) | (refine SL.v (ValO.ptrNilT tabOk rfl rfl rfl) ?_)); refine SL.e tabOk ?_; (first | (refine SL.gT ?_; refine SL.e tabOk ?_) | refine SL.gF ?_); (first | (refine SL.gT ?_; refine SL.nc ?_) | refine SL.gF ?_); (first | (refine SL.gT ?_; refine SL.e tabOk ?_) | refine SL.gF ?_); (first | (refine SL.gT ?_; (first | (refine SL.ldI tabOk ?_) | (refine SL.ldC tabOk ?_ (hv := by first | exact pr_g0 | exact (pr_gn hbl))))) | refine SL.gF ?_); (first | (refine SL.gT ?_; refine SL.e tabOk ?_) | refine SL.gF ?_); refine SL.e tabOk ?_; (with_reducible refine SL.nil ?_)) | ((with_reducible refine SP.seqK ?_); intro _ _) | (with_reducible refine thenK_normal ?_) | (refine useK (by assumption) ?_) | (with_reducible refine SP.block ?_) | (with_reducible refine thenK_exit ?_) | (with_reducible refine thenK_ret ?_) | (with_reducible refine blockK_normal ?_) | (with_reducible refine blockK_ret ?_) | (with_reducible refine blockK_eq ?_) | (with_reducible refine blockK_ne rfl ?_) | (with_reducible refine SP.skip ?_) | (with_reducible refine SP.ret ?_) | (with_reducible refine SP.exit ?_) | ((with_reducible show SP _ _ _ (Code.cond _ _ _) _ _ _); first | (refine SP.condT rfl (by first | rfl | (simp only [decide_eq_true_eq, beq_iff_eq, bne_iff_ne]; first | done | omega)) ?_) | (refine SP.condF rfl (by first | rfl | (simp only [decide_eq_false_iff_not, beq_eq_false_iff_ne, bne_eq_false_iff_eq]; first | done | omega)) ?_)))
  refine SP.loopN (fun k l bs => l = [.pointer (some ⟨b, 0, none⟩), .slice p 0 c, nth l 2, nth l 3, nth l 4, nth l 5, nth l 6, nth l 7, nth l 8, nth l 9, nth l 10, nth l 11, nth l 12, nth l 13, nth l 14, nth l 15, nth l 16, nth l 17, nth l 18, nth l 19, nth l 20, nth l 21, nth l 22, nth l 23, nth l 24, nth l 25, nth l 26, nth l 27, nth l 28, nth l 29, nth l 30, nth l 31, nth l 32, nth l 33, nth l 34, nth l 35, nth l 36, nth l 37, nth l 38, nth l 39, nth l 40, nth l 41, nth l 42, nth l 43, nth l 44, nth l 45, nth l 46, nth l 47] ∧ bs = [(b, polyRow true r0 r1 s0 s1 s.h0 s.h1 s.h2 s.bl (s.n : Int), T)]) 0 ⟨rfl, rfl⟩ ?_
  rintro k lf _ hk ⟨hl, rfl⟩
  refine SP.cast hl ?_
  clear hl
  repeat (first | ((with_reducible refine SP.region (id := 1) ?_); refine SL.e tabOk ?_; refine SL.v (ValO.len tabOk (by rfl)) ?_; refine SL.e tabOk ?_; (with_reducible refine SL.nil ?_)) | ((with_reducible refine SP.seqK ?_); intro _ _) | (with_reducible refine thenK_normal ?_) | (refine useK (by assumption) ?_) | (with_reducible refine SP.block ?_) | (with_reducible refine thenK_exit ?_) | (with_reducible refine thenK_ret ?_) | (with_reducible refine blockK_normal ?_) | (with_reducible refine blockK_ret ?_) | (with_reducible refine blockK_eq ?_) | (with_reducible refine blockK_ne rfl ?_) | (with_reducible refine SP.skip ?_) | (with_reducible refine SP.ret ?_) | (with_reducible refine SP.exit ?_) | ((with_reducible show SP _ _ _ (Code.cond _ _ _) _ _ _); first | (refine SP.condT rfl (by first | rfl | (simp only [decide_eq_true_eq, beq_iff_eq, bne_iff_ne]; first | done | omega)) ?_) | (refine SP.condF rfl (by first | rfl | (simp only [decide_eq_false_iff_not, beq_eq_false_iff_ne, bne_eq_false_iff_eq]; first | done | omega)) ?_)))
  exact doneK.mk rfl ResO.nil ⟨rfl, (by first | exact sub1 | exact subc sub1 | exact subc (subc sub1) | exact subc (subc (subc sub1)) | exact subc (subc (subc (subc sub1))))⟩
theorem wAll_nil {r0 r1 : Int} {s : PS} (h : s.rest = []) : wAll r0 r1 s = s := by
  unfold wAll
  rw [h, List.length_nil, wI_0]
/-- Write, of whichever slice. -/
theorem pwrite_sl (b : Nat) (T : TypeId) (r0 r1 s0 s1 : Int) (s : PS) (hs : s.Ok) (hR : AllW [r0, r1]) (p : Option Addr) (n c : Nat) (w : World) (hS : Sl w p n c s.rest) (hmax : n ≤ 140737488355328) (hne : 0 < n → ∀ sb off, p = some ⟨sb, off, none⟩ → sb ≠ b)
    (hb : w.heap[b]? = some (.cells (polyRow true r0 r1 s0 s1 s.h0 s.h1 s.h2 s.bl (s.n : Int)) T (0, 0))) :
    Calls Try.prog 49 #[.pointer (some ⟨b, 0, none⟩), .slice p n c] w fun e w' => e = .returned (.tuple #[]) ∧ OwnM w [b] w' [(b, polyRow true r0 r1 s0 s1 (wAll r0 r1 s).h0 (wAll r0 r1 s).h1 (wAll r0 r1 s).h2 (wAll r0 r1 s).bl ((wAll r0 r1 s).n : Int), T)] := by
  have hlen := hS.len
  by_cases h0 : n = 0
  · subst h0
    rw [wAll_nil (List.eq_nil_of_length_eq_zero hlen)]
    exact pwrite_nil b T r0 r1 s0 s1 s hs.bl p c w hb
  · obtain ⟨sb, off, A, T2, fz, rfl, hsb, hA⟩ := hS.at_ (by omega)
    have hc := hS.cap
    have hne' := hne (by omega) sb off rfl
    clear hne
    subst hlen
    exact pwrite_any b T r0 r1 s0 s1 s hs hR sb off c A T2 fz hc hA hmax w hb hsb hne'


theorem ps0_ok (B : List Int) : (⟨0, 0, 0, List.replicate 16 0, 0, B⟩ : PS).Ok := ⟨w64_0, w64_0, w64_0, rfl, (by show (0 : Nat) < 16; omega)⟩
attribute [simp] sumS_length
end Sp
end Go.Proofs.Ythbmlpiplfbehaa
