/-
  Bytes are written to a poly.
-/
import Derived.Test.YthbmlpiplfbehaaPolyPe
import Derived.Test.YthbmlpiplfbehaaSl
import Derived.KernelRfl
import Derived.Lib.Hide
namespace Go.Proofs.Ythbmlpiplfbehaa
set_option linter.unusedSimpArgs false
set_option linter.unusedVariables false
open Go Go.RowKit

namespace Sp
open F

/-- A poly that takes bytes: the sum, the block, how many wait, the bytes to come. -/
structure PS where
  h0 : Int
  h1 : Int
  h2 : Int
  bl : List Int
  n : Nat
  rest : List Int
@[irreducible] def wS (r0 r1 : Int) (s : PS) : PS :=
  if s.n + min s.rest.length (16 - s.n) = 16 then
    let t := takeH r0 r1 s.h0 s.h1 s.h2 (tkB (spl s.bl s.n (s.rest.take (min s.rest.length (16 - s.n)))) 16)
    ⟨t.1, t.2.1, t.2.2, spl s.bl s.n (s.rest.take (min s.rest.length (16 - s.n))), 0, s.rest.drop (min s.rest.length (16 - s.n))⟩
  else ⟨s.h0, s.h1, s.h2, spl s.bl s.n (s.rest.take (min s.rest.length (16 - s.n))), s.n + min s.rest.length (16 - s.n), s.rest.drop (min s.rest.length (16 - s.n))⟩
structure PS.Ok (s : PS) : Prop where
  w0 : W64 s.h0
  w1 : W64 s.h1
  w2 : W64 s.h2
  bl : s.bl.length = 16
  n : s.n < 16
theorem spl_bl {bl : List Int} {n : Nat} {r : List Int} (hb : bl.length = 16) (hn : n < 16) : (spl bl n (r.take (min r.length (16 - n)))).length = 16 := by
  rw [spl_length _ _ _ (by rw [List.length_take, hb]; omega), hb]
theorem PS.Ok.step {r0 r1 : Int} {s : PS} (h : s.Ok) : (wS r0 r1 s).Ok := by
  unfold wS
  have hl := spl_bl (r := s.rest) h.bl h.n
  split
  · have ht := takeH_w r0 r1 s.h0 s.h1 s.h2 (tkB (spl s.bl s.n (s.rest.take (min s.rest.length (16 - s.n)))) 16)
    exact ⟨ht.1, ht.2.1, ht.2.2, hl, by show 0 < 16; omega⟩
  · rename_i hne
    exact ⟨h.w0, h.w1, h.w2, hl, by have := h.n; show s.n + min s.rest.length (16 - s.n) < 16; omega⟩

def wI' (r0 r1 : Int) (s : PS) : Nat → PS
  | 0 => s
  | i + 1 => wS r0 r1 (wI' r0 r1 s i)
@[irreducible] def wI (r0 r1 : Int) (s : PS) (i : Nat) : PS := wI' r0 r1 s i
theorem wI_0 (r0 r1 : Int) (s : PS) : wI r0 r1 s 0 = s := by unfold wI; rfl
theorem wI_s (r0 r1 : Int) (s : PS) (i : Nat) : wI r0 r1 s (i + 1) = wS r0 r1 (wI r0 r1 s i) := by unfold wI; rfl

theorem wI_ok {r0 r1 : Int} {s : PS} (h : s.Ok) : ∀ k, (wI r0 r1 s k).Ok
  | 0 => by rw [wI_0]; exact h
  | k + 1 => by rw [wI_s]; exact (wI_ok h k).step
theorem wS_rest (r0 r1 : Int) (s : PS) : (wS r0 r1 s).rest = s.rest.drop (min s.rest.length (16 - s.n)) := by unfold wS; split <;> rfl
theorem wI_rest {r0 r1 : Int} {s : PS} (h : s.Ok) : ∀ k, (wI r0 r1 s k).rest.length + k ≤ s.rest.length ∨ (wI r0 r1 s k).rest.length = 0
  | 0 => by rw [wI_0]; exact .inl (by omega)
  | k + 1 => by
    have h1 := wI_rest h k (r0 := r0) (r1 := r1)
    have h2 := (wI_ok h k (r0 := r0) (r1 := r1)).n
    rw [wI_s, wS_rest, List.length_drop]
    omega
theorem wS_still {r0 r1 : Int} {s : PS} (h : s.Ok) (hr : s.rest = []) : wS r0 r1 s = s := by
  have hn := h.n
  unfold wS
  rw [hr]
  simp only [List.length_nil, Nat.zero_min, Nat.add_zero, List.take_nil, List.drop_nil]
  rw [if_neg (by omega)]
  obtain ⟨a, b, c, d, e, g⟩ := s
  simp only at hr
  subst hr
  simp [spl]
theorem wI_still {r0 r1 : Int} {s : PS} (h : s.Ok) {k : Nat} (hr : (wI r0 r1 s k).rest = []) : ∀ d, wI r0 r1 s (k + d) = wI r0 r1 s k
  | 0 => rfl
  | d + 1 => by rw [← Nat.add_assoc, wI_s, wI_still h hr d, wS_still (wI_ok h k) hr]
/-- The state behind all bytes. -/
@[irreducible] def wAll (r0 r1 : Int) (s : PS) : PS := wI r0 r1 s s.rest.length
theorem wAll_rest {r0 r1 : Int} {s : PS} (h : s.Ok) : (wAll r0 r1 s).rest = [] := by
  unfold wAll
  have := wI_rest h s.rest.length (r0 := r0) (r1 := r1)
  exact List.eq_nil_of_length_eq_zero (by omega)
theorem wAll_of {r0 r1 : Int} {s : PS} (h : s.Ok) {k : Nat} (hk : k ≤ s.rest.length) (hr : (wI r0 r1 s k).rest = []) : wI r0 r1 s k = wAll r0 r1 s := by
  unfold wAll
  have := wI_still h hr (s.rest.length - k)
  rw [show k + (s.rest.length - k) = s.rest.length by omega] at this
  exact this.symm
theorem cpB {g : Bool} {r0 r1 s0 s1 h0 h1 h2 n : Int} {bl : List Int} {o : Nat} {cs : List Int} {X : Array Value} (hb : bl.length = 16) (hx : X = ints .u8 cs) (h : o + cs.length ≤ 16) :
    putAt (polyRow g r0 r1 s0 s1 h0 h1 h2 bl n) (8 + o) X.toList = polyRow g r0 r1 s0 s1 h0 h1 h2 (spl bl o cs) n := by rw [hx]; exact pr_pb hb h


set_option maxRecDepth 20000 in
set_option maxHeartbeats 2000000 in
theorem pwrite_any (b : Nat) (T : TypeId) (r0 r1 s0 s1 : Int) (s : PS) (hs : s.Ok) (hR : AllW [r0, r1]) (sb off c0 : Nat) (A : Array Value) (T2 : TypeId) (fz : Nat × Nat) (hc : s.rest.length ≤ c0) (hA : Lies A off s.rest) (hmax : s.rest.length ≤ 140737488355328) (w : World)
    (hb : w.heap[b]? = some (.cells (polyRow true r0 r1 s0 s1 s.h0 s.h1 s.h2 s.bl (s.n : Int)) T (0, 0))) (hsb : w.heap[sb]? = some (.cells A T2 fz)) (hne : sb ≠ b) :
    Calls Try.prog 49 #[.pointer (some ⟨b, 0, none⟩), .slice (some ⟨sb, off, none⟩) s.rest.length c0] w fun e w' => e = .returned (.tuple #[]) ∧ OwnM w [b] w' [(b, polyRow true r0 r1 s0 s1 (wAll r0 r1 s).h0 (wAll r0 r1 s).h1 (wAll r0 r1 s).h2 (wAll r0 r1 s).bl ((wAll r0 r1 s).n : Int), T)] := by
  have hS := hs
  refine mutE Try.func49 Try.ntmps49 Try.results49 hb ?_
  repeat (first | ((with_reducible refine SP.region (id := 0) ?_); refine SL.e tabOk ?_; (first | (refine SL.v (ValO.ptrNil tabOk rfl rfl rfl) ?_) | (refine SL.v (ValO.ptrNilT tabOk rfl rfl rfl) ?_)); refine SL.e tabOk ?_; (first | (refine SL.gT ?_; refine SL.e tabOk ?_) | refine SL.gF ?_); (first | (refine SL.gT ?_; refine SL.nc ?_) | refine SL.gF ?_); (first | (refine SL.gT ?_; refine SL.e tabOk ?_) | refine SL.gF ?_); (first | (refine SL.gT ?_; (first | (refine SL.ldI tabOk ?_) | (refine SL.ldC tabOk ?_ (hv := by first | exact pr_g0 | exact (pr_gn hS.bl) | exact (pr_gn hbl))))) | refine SL.gF ?_); (first | (refine SL.gT ?_; refine SL.e tabOk ?_) | refine SL.gF ?_); refine SL.e tabOk ?_; (with_reducible refine SL.nil ?_)) | ((with_reducible refine SP.seqK ?_); intro _ _) | (with_reducible refine thenK_normal ?_) | (refine useK (by assumption) ?_) | (with_reducible refine SP.block ?_) | (with_reducible refine SP.skip ?_) | ((with_reducible show SP _ _ _ (Code.cond _ _ _) _ _ _); first | (refine SP.condF rfl (by first | rfl | (simp only [decide_eq_false_iff_not, beq_eq_false_iff_ne, bne_eq_false_iff_eq]; omega)) ?_)))
  clear hS
  refine SP.loopN (fun k l bs => ∃ o cap : Nat, (l = [.pointer (some ⟨b, 0, none⟩), .slice (some ⟨sb, o, none⟩) (wI r0 r1 s k).rest.length cap, nth l 2, nth l 3, nth l 4, nth l 5, nth l 6, nth l 7, nth l 8, nth l 9, nth l 10, nth l 11, nth l 12, nth l 13, nth l 14, nth l 15, nth l 16, nth l 17, nth l 18, nth l 19, nth l 20, nth l 21, nth l 22, nth l 23, nth l 24, nth l 25, nth l 26, nth l 27, nth l 28, nth l 29, nth l 30, nth l 31, nth l 32, nth l 33, nth l 34, nth l 35, nth l 36, nth l 37, nth l 38, nth l 39, nth l 40, nth l 41, nth l 42, nth l 43, nth l 44, nth l 45, nth l 46, nth l 47] ∧ bs = [(b, polyRow true r0 r1 s0 s1 (wI r0 r1 s k).h0 (wI r0 r1 s k).h1 (wI r0 r1 s k).h2 (wI r0 r1 s k).bl ((wI r0 r1 s k).n : Int), T)]) ∧ (wI r0 r1 s k).rest.length ≤ cap ∧ Lies A o (wI r0 r1 s k).rest) s.rest.length (by rw [wI_0]; exact ⟨off, c0, ⟨rfl, rfl⟩, hc, hA⟩) ?_
  rintro k lf _ hk ⟨o, cap, ⟨hl, rfl⟩, hcap, hL⟩
  refine SP.cast hl ?_
  clear hl
  have hS := wI_ok hs k (r0 := r0) (r1 := r1)
  have hrest := wI_rest hs k (r0 := r0) (r1 := r1)
  have hstop := wAll_of hs hk (r0 := r0) (r1 := r1)
  generalize hSe : wI r0 r1 s k = S at *
  by_cases hr : S.rest.length = 0
  · repeat (first | ((with_reducible refine SP.region (id := 1) ?_); refine SL.e tabOk ?_; refine SL.v (ValO.len tabOk (by rfl)) ?_; refine SL.e tabOk ?_; (with_reducible refine SL.nil ?_)) | ((with_reducible refine SP.seqK ?_); intro _ _) | (with_reducible refine thenK_normal ?_) | (refine useK (by assumption) ?_) | (with_reducible refine thenK_exit ?_) | (with_reducible refine blockK_eq ?_) | (with_reducible refine SP.exit ?_) | ((with_reducible show SP _ _ _ (Code.cond _ _ _) _ _ _); first | (refine SP.condF rfl (by first | rfl | (simp only [decide_eq_false_iff_not, beq_eq_false_iff_ne, bne_eq_false_iff_eq]; omega)) ?_)))
    rw [hstop (List.eq_nil_of_length_eq_zero hr)]
    exact doneK.mk rfl ResO.nil ⟨rfl, (by first | exact sub1 | exact subc sub1 | exact subc (subc sub1) | exact subc (subc (subc sub1)) | exact subc (subc (subc (subc sub1))))⟩
  · have hn16 := hS.n
    have hmm : (min S.rest.length (16 - S.n)) ≤ S.rest.length ∧ (min S.rest.length (16 - S.n)) ≤ 16 - S.n ∧ 0 < (min S.rest.length (16 - S.n)) := by omega
    have fnm : IntKind.i64.wrap ((S.n : Int) + ((min S.rest.length (16 - S.n)) : Nat)) = ((S.n + (min S.rest.length (16 - S.n)) : Nat) : Int) := by rw [IntWalk.i64_in _ (by omega)]; omega
    have hbl := spl_bl (r := S.rest) hS.bl hS.n
    by_cases hcm : cap = (min S.rest.length (16 - S.n))
    · by_cases h16 : S.n + (min S.rest.length (16 - S.n)) = 16
      · repeat (first | ((with_reducible refine SP.region (id := 1) ?_); refine SL.e tabOk ?_; refine SL.v (ValO.len tabOk (by rfl)) ?_; refine SL.e tabOk ?_; (with_reducible refine SL.nil ?_)) | ((with_reducible refine SP.region (id := 3) ?_); refine SL.e tabOk ?_; refine SL.nc ?_; refine SL.e tabOk ?_; (first | (refine SL.ldI tabOk ?_) | (refine SL.ldC tabOk ?_ (hv := by first | exact pr_g0 | exact (pr_gn hS.bl) | exact (pr_gn hbl)))); refine SL.e tabOk ?_; refine SL.e tabOk ?_; refine SL.nc ?_; refine SL.e tabOk ?_; (first | (refine SL.stI tabOk ?_) | (refine SL.stP tabOk ?_ (hsz := by first | (rw [pr_size hbl]; omega) | (rw [pr_size (by assumption)]; omega)) (hA := by first | exact (pr_pn hbl)))); (with_reducible refine SL.nil ?_)) | ((with_reducible refine SP.region (id := 4) ?_); refine SL.e tabOk ?_; refine SL.e tabOk ?_; refine SL.ctS tabOk _ _ ?_; refine SL.e tabOk ?_; (with_reducible refine SL.nil ?_)) | ((with_reducible refine SP.region (id := 5) ?_); refine SL.e tabOk ?_; refine SL.nc ?_; refine SL.e tabOk ?_; (first | (refine SL.ldI tabOk ?_) | (refine SL.ldC tabOk ?_ (hv := by first | exact pr_g0 | exact (pr_gn hS.bl) | exact (pr_gn hbl)))); refine SL.e tabOk ?_; (with_reducible refine SL.nil ?_)) | ((with_reducible refine SP.region (id := 6) ?_); refine SL.e tabOk ?_; refine SL.call1 (b := b) ent_60 rfl (gbk _) (fun w hw => by have hbb := hw.block (mbk b); exact ptake_any _ _ _ _ _ _ _ _ _ _ _ _ 16 (by omega) hbl hS.w0 hS.w1 hR w hbb) stt bpp ?_; (with_reducible refine SL.nil ?_)) | ((with_reducible refine SP.region (id := 7) ?_); refine SL.e tabOk ?_; refine SL.nc ?_; refine SL.e tabOk ?_; (first | (refine SL.stI tabOk ?_) | (refine SL.stP tabOk ?_ (hsz := by first | (rw [pr_size hbl]; omega) | (rw [pr_size (by assumption)]; omega)) (hA := by first | exact (pr_pn hbl)))); (with_reducible refine SL.nil ?_)) | ((with_reducible show SP _ _ _ (Code.region _ _ true) _ _ _); first | (refine SPa (id := 2) [9] [] ([]) [0, 1, 2, 3, 4, 5, 6, 7, 8, 9, 10] follows ?_; refine SF.p tabOk ?_; refine SF.nc ?_; refine SF.e tabOk ?_; refine SF.p tabOk ?_; refine SF.nc ?_; refine SF.e tabOk ?_; (first | (refine SF.ldI tabOk ?_) | (refine SF.ldC tabOk ?_ (hv := by first | exact pr_g0 | exact (pr_gn hS.bl) | exact (pr_gn hbl)))); refine SF.ctA tabOk _ _ ?_; refine SF.p tabOk ?_; refine SF.copy tabOk rfl rfl rfl rfl (gbk _) (RdA.old hsb (by simpa using hne)) (min S.rest.length (16 - S.n)) rfl (by rw [pr_size hS.bl]; omega) (hL.size (by omega) (by omega)) (by rw [hL.extract (by omega)]; exact ints_mem) (cpB hS.bl (hL.extract (by omega)) (by rw [List.length_take]; omega)) stt (by first | exact Kept.nil | (simp [Kept]; done)) bpp ?_; refine SF.p tabOk ?_; refine SF.done ?_)) | ((with_reducible refine SP.seqK ?_); intro _ _) | (with_reducible refine thenK_normal ?_) | (refine useK (by assumption) ?_) | (with_reducible refine SP.block ?_) | (with_reducible refine blockK_normal ?_) | (with_reducible refine SP.skip ?_) | ((with_reducible show SP _ _ _ (Code.cond _ _ _) _ _ _); first | (refine SP.condT rfl (by first | rfl | (simp only [decide_eq_true_eq, beq_iff_eq, bne_iff_ne]; omega)) ?_)))
        have e1 : wS r0 r1 S = ⟨(takeH r0 r1 S.h0 S.h1 S.h2 (tkB (spl S.bl S.n (S.rest.take (min S.rest.length (16 - S.n)))) 16)).1, (takeH r0 r1 S.h0 S.h1 S.h2 (tkB (spl S.bl S.n (S.rest.take (min S.rest.length (16 - S.n)))) 16)).2.1, (takeH r0 r1 S.h0 S.h1 S.h2 (tkB (spl S.bl S.n (S.rest.take (min S.rest.length (16 - S.n)))) 16)).2.2, spl S.bl S.n (S.rest.take (min S.rest.length (16 - S.n))), 0, S.rest.drop (min S.rest.length (16 - S.n))⟩ := by unfold wS; rw [if_pos h16]
        rw [wI_s, hSe, e1]
        exact ⟨by omega, _, _, ⟨(by (try simp only [fnm]); simp only [List.length_drop]; rfl), (by first | rfl | (simp only [fnm]; done) | (simp only [fnm]; rfl))⟩, (by rw [List.length_drop]; omega), (by intro j hj; rw [List.length_drop] at hj; omega)⟩
      · repeat (first | ((with_reducible refine SP.region (id := 1) ?_); refine SL.e tabOk ?_; refine SL.v (ValO.len tabOk (by rfl)) ?_; refine SL.e tabOk ?_; (with_reducible refine SL.nil ?_)) | ((with_reducible refine SP.region (id := 3) ?_); refine SL.e tabOk ?_; refine SL.nc ?_; refine SL.e tabOk ?_; (first | (refine SL.ldI tabOk ?_) | (refine SL.ldC tabOk ?_ (hv := by first | exact pr_g0 | exact (pr_gn hS.bl) | exact (pr_gn hbl)))); refine SL.e tabOk ?_; refine SL.e tabOk ?_; refine SL.nc ?_; refine SL.e tabOk ?_; (first | (refine SL.stI tabOk ?_) | (refine SL.stP tabOk ?_ (hsz := by first | (rw [pr_size hbl]; omega) | (rw [pr_size (by assumption)]; omega)) (hA := by first | exact (pr_pn hbl)))); (with_reducible refine SL.nil ?_)) | ((with_reducible refine SP.region (id := 4) ?_); refine SL.e tabOk ?_; refine SL.e tabOk ?_; refine SL.ctS tabOk _ _ ?_; refine SL.e tabOk ?_; (with_reducible refine SL.nil ?_)) | ((with_reducible refine SP.region (id := 5) ?_); refine SL.e tabOk ?_; refine SL.nc ?_; refine SL.e tabOk ?_; (first | (refine SL.ldI tabOk ?_) | (refine SL.ldC tabOk ?_ (hv := by first | exact pr_g0 | exact (pr_gn hS.bl) | exact (pr_gn hbl)))); refine SL.e tabOk ?_; (with_reducible refine SL.nil ?_)) | ((with_reducible show SP _ _ _ (Code.region _ _ true) _ _ _); first | (refine SPa (id := 2) [9] [] ([]) [0, 1, 2, 3, 4, 5, 6, 7, 8, 9, 10] follows ?_; refine SF.p tabOk ?_; refine SF.nc ?_; refine SF.e tabOk ?_; refine SF.p tabOk ?_; refine SF.nc ?_; refine SF.e tabOk ?_; (first | (refine SF.ldI tabOk ?_) | (refine SF.ldC tabOk ?_ (hv := by first | exact pr_g0 | exact (pr_gn hS.bl) | exact (pr_gn hbl)))); refine SF.ctA tabOk _ _ ?_; refine SF.p tabOk ?_; refine SF.copy tabOk rfl rfl rfl rfl (gbk _) (RdA.old hsb (by simpa using hne)) (min S.rest.length (16 - S.n)) rfl (by rw [pr_size hS.bl]; omega) (hL.size (by omega) (by omega)) (by rw [hL.extract (by omega)]; exact ints_mem) (cpB hS.bl (hL.extract (by omega)) (by rw [List.length_take]; omega)) stt (by first | exact Kept.nil | (simp [Kept]; done)) bpp ?_; refine SF.p tabOk ?_; refine SF.done ?_)) | ((with_reducible refine SP.seqK ?_); intro _ _) | (with_reducible refine thenK_normal ?_) | (refine useK (by assumption) ?_) | (with_reducible refine SP.block ?_) | (with_reducible refine blockK_normal ?_) | (with_reducible refine SP.skip ?_) | ((with_reducible show SP _ _ _ (Code.cond _ _ _) _ _ _); first | (refine SP.condT rfl (by first | rfl | (simp only [decide_eq_true_eq, beq_iff_eq, bne_iff_ne]; omega)) ?_) | (refine SP.condF rfl (by first | rfl | (simp only [decide_eq_false_iff_not, beq_eq_false_iff_ne, bne_eq_false_iff_eq]; omega)) ?_)))
        have e1 : wS r0 r1 S = ⟨S.h0, S.h1, S.h2, spl S.bl S.n (S.rest.take (min S.rest.length (16 - S.n))), S.n + (min S.rest.length (16 - S.n)), S.rest.drop (min S.rest.length (16 - S.n))⟩ := by unfold wS; rw [if_neg h16]
        rw [wI_s, hSe, e1]
        exact ⟨by omega, _, _, ⟨(by (try simp only [fnm]); simp only [List.length_drop]; rfl), (by first | rfl | (simp only [fnm]; done) | (simp only [fnm]; rfl))⟩, (by rw [List.length_drop]; omega), (by intro j hj; rw [List.length_drop] at hj; omega)⟩
    · by_cases h16 : S.n + (min S.rest.length (16 - S.n)) = 16
      · repeat (first | ((with_reducible refine SP.region (id := 1) ?_); refine SL.e tabOk ?_; refine SL.v (ValO.len tabOk (by rfl)) ?_; refine SL.e tabOk ?_; (with_reducible refine SL.nil ?_)) | ((with_reducible refine SP.region (id := 3) ?_); refine SL.e tabOk ?_; refine SL.nc ?_; refine SL.e tabOk ?_; (first | (refine SL.ldI tabOk ?_) | (refine SL.ldC tabOk ?_ (hv := by first | exact pr_g0 | exact (pr_gn hS.bl) | exact (pr_gn hbl)))); refine SL.e tabOk ?_; refine SL.e tabOk ?_; refine SL.nc ?_; refine SL.e tabOk ?_; (first | (refine SL.stI tabOk ?_) | (refine SL.stP tabOk ?_ (hsz := by first | (rw [pr_size hbl]; omega) | (rw [pr_size (by assumption)]; omega)) (hA := by first | exact (pr_pn hbl)))); (with_reducible refine SL.nil ?_)) | ((with_reducible refine SP.region (id := 4) ?_); refine SL.e tabOk ?_; refine SL.e tabOk ?_; refine SL.ctS tabOk _ _ ?_; refine SL.e tabOk ?_; (with_reducible refine SL.nil ?_)) | ((with_reducible refine SP.region (id := 5) ?_); refine SL.e tabOk ?_; refine SL.nc ?_; refine SL.e tabOk ?_; (first | (refine SL.ldI tabOk ?_) | (refine SL.ldC tabOk ?_ (hv := by first | exact pr_g0 | exact (pr_gn hS.bl) | exact (pr_gn hbl)))); refine SL.e tabOk ?_; (with_reducible refine SL.nil ?_)) | ((with_reducible refine SP.region (id := 6) ?_); refine SL.e tabOk ?_; refine SL.call1 (b := b) ent_60 rfl (gbk _) (fun w hw => by have hbb := hw.block (mbk b); exact ptake_any _ _ _ _ _ _ _ _ _ _ _ _ 16 (by omega) hbl hS.w0 hS.w1 hR w hbb) stt bpp ?_; (with_reducible refine SL.nil ?_)) | ((with_reducible refine SP.region (id := 7) ?_); refine SL.e tabOk ?_; refine SL.nc ?_; refine SL.e tabOk ?_; (first | (refine SL.stI tabOk ?_) | (refine SL.stP tabOk ?_ (hsz := by first | (rw [pr_size hbl]; omega) | (rw [pr_size (by assumption)]; omega)) (hA := by first | exact (pr_pn hbl)))); (with_reducible refine SL.nil ?_)) | ((with_reducible show SP _ _ _ (Code.region _ _ true) _ _ _); first | (refine SPa (id := 2) [9] [] ([]) [0, 1, 2, 3, 4, 5, 6, 7, 8, 9, 10] follows ?_; refine SF.p tabOk ?_; refine SF.nc ?_; refine SF.e tabOk ?_; refine SF.p tabOk ?_; refine SF.nc ?_; refine SF.e tabOk ?_; (first | (refine SF.ldI tabOk ?_) | (refine SF.ldC tabOk ?_ (hv := by first | exact pr_g0 | exact (pr_gn hS.bl) | exact (pr_gn hbl)))); refine SF.ctA tabOk _ _ ?_; refine SF.p tabOk ?_; refine SF.copy tabOk rfl rfl rfl rfl (gbk _) (RdA.old hsb (by simpa using hne)) (min S.rest.length (16 - S.n)) rfl (by rw [pr_size hS.bl]; omega) (hL.size (by omega) (by omega)) (by rw [hL.extract (by omega)]; exact ints_mem) (cpB hS.bl (hL.extract (by omega)) (by rw [List.length_take]; omega)) stt (by first | exact Kept.nil | (simp [Kept]; done)) bpp ?_; refine SF.p tabOk ?_; refine SF.done ?_)) | ((with_reducible refine SP.seqK ?_); intro _ _) | (with_reducible refine thenK_normal ?_) | (refine useK (by assumption) ?_) | (with_reducible refine SP.block ?_) | (with_reducible refine blockK_normal ?_) | (with_reducible refine SP.skip ?_) | ((with_reducible show SP _ _ _ (Code.cond _ _ _) _ _ _); first | (refine SP.condT rfl (by first | rfl | (simp only [decide_eq_true_eq, beq_iff_eq, bne_iff_ne]; omega)) ?_)))
        have e1 : wS r0 r1 S = ⟨(takeH r0 r1 S.h0 S.h1 S.h2 (tkB (spl S.bl S.n (S.rest.take (min S.rest.length (16 - S.n)))) 16)).1, (takeH r0 r1 S.h0 S.h1 S.h2 (tkB (spl S.bl S.n (S.rest.take (min S.rest.length (16 - S.n)))) 16)).2.1, (takeH r0 r1 S.h0 S.h1 S.h2 (tkB (spl S.bl S.n (S.rest.take (min S.rest.length (16 - S.n)))) 16)).2.2, spl S.bl S.n (S.rest.take (min S.rest.length (16 - S.n))), 0, S.rest.drop (min S.rest.length (16 - S.n))⟩ := by unfold wS; rw [if_pos h16]
        rw [wI_s, hSe, e1]
        exact ⟨by omega, _, _, ⟨(by (try simp only [fnm]); simp only [List.length_drop]; rfl), (by first | rfl | (simp only [fnm]; done) | (simp only [fnm]; rfl))⟩, (by rw [List.length_drop]; omega), (hL.drop _)⟩
      · repeat (first | ((with_reducible refine SP.region (id := 1) ?_); refine SL.e tabOk ?_; refine SL.v (ValO.len tabOk (by rfl)) ?_; refine SL.e tabOk ?_; (with_reducible refine SL.nil ?_)) | ((with_reducible refine SP.region (id := 3) ?_); refine SL.e tabOk ?_; refine SL.nc ?_; refine SL.e tabOk ?_; (first | (refine SL.ldI tabOk ?_) | (refine SL.ldC tabOk ?_ (hv := by first | exact pr_g0 | exact (pr_gn hS.bl) | exact (pr_gn hbl)))); refine SL.e tabOk ?_; refine SL.e tabOk ?_; refine SL.nc ?_; refine SL.e tabOk ?_; (first | (refine SL.stI tabOk ?_) | (refine SL.stP tabOk ?_ (hsz := by first | (rw [pr_size hbl]; omega) | (rw [pr_size (by assumption)]; omega)) (hA := by first | exact (pr_pn hbl)))); (with_reducible refine SL.nil ?_)) | ((with_reducible refine SP.region (id := 4) ?_); refine SL.e tabOk ?_; refine SL.e tabOk ?_; refine SL.ctS tabOk _ _ ?_; refine SL.e tabOk ?_; (with_reducible refine SL.nil ?_)) | ((with_reducible refine SP.region (id := 5) ?_); refine SL.e tabOk ?_; refine SL.nc ?_; refine SL.e tabOk ?_; (first | (refine SL.ldI tabOk ?_) | (refine SL.ldC tabOk ?_ (hv := by first | exact pr_g0 | exact (pr_gn hS.bl) | exact (pr_gn hbl)))); refine SL.e tabOk ?_; (with_reducible refine SL.nil ?_)) | ((with_reducible show SP _ _ _ (Code.region _ _ true) _ _ _); first | (refine SPa (id := 2) [9] [] ([]) [0, 1, 2, 3, 4, 5, 6, 7, 8, 9, 10] follows ?_; refine SF.p tabOk ?_; refine SF.nc ?_; refine SF.e tabOk ?_; refine SF.p tabOk ?_; refine SF.nc ?_; refine SF.e tabOk ?_; (first | (refine SF.ldI tabOk ?_) | (refine SF.ldC tabOk ?_ (hv := by first | exact pr_g0 | exact (pr_gn hS.bl) | exact (pr_gn hbl)))); refine SF.ctA tabOk _ _ ?_; refine SF.p tabOk ?_; refine SF.copy tabOk rfl rfl rfl rfl (gbk _) (RdA.old hsb (by simpa using hne)) (min S.rest.length (16 - S.n)) rfl (by rw [pr_size hS.bl]; omega) (hL.size (by omega) (by omega)) (by rw [hL.extract (by omega)]; exact ints_mem) (cpB hS.bl (hL.extract (by omega)) (by rw [List.length_take]; omega)) stt (by first | exact Kept.nil | (simp [Kept]; done)) bpp ?_; refine SF.p tabOk ?_; refine SF.done ?_)) | ((with_reducible refine SP.seqK ?_); intro _ _) | (with_reducible refine thenK_normal ?_) | (refine useK (by assumption) ?_) | (with_reducible refine SP.block ?_) | (with_reducible refine blockK_normal ?_) | (with_reducible refine SP.skip ?_) | ((with_reducible show SP _ _ _ (Code.cond _ _ _) _ _ _); first | (refine SP.condT rfl (by first | rfl | (simp only [decide_eq_true_eq, beq_iff_eq, bne_iff_ne]; omega)) ?_) | (refine SP.condF rfl (by first | rfl | (simp only [decide_eq_false_iff_not, beq_eq_false_iff_ne, bne_eq_false_iff_eq]; omega)) ?_)))
        have e1 : wS r0 r1 S = ⟨S.h0, S.h1, S.h2, spl S.bl S.n (S.rest.take (min S.rest.length (16 - S.n))), S.n + (min S.rest.length (16 - S.n)), S.rest.drop (min S.rest.length (16 - S.n))⟩ := by unfold wS; rw [if_neg h16]
        rw [wI_s, hSe, e1]
        exact ⟨by omega, _, _, ⟨(by (try simp only [fnm]); simp only [List.length_drop]; rfl), (by first | rfl | (simp only [fnm]; done) | (simp only [fnm]; rfl))⟩, (by rw [List.length_drop]; omega), (hL.drop _)⟩
end Sp

end Go.Proofs.Ythbmlpiplfbehaa
