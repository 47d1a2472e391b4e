/-
  Joined texts: PolyPf, PolyPg, PolyPh. No conditions.
-/
import Derived.Test.YtdjecenggngdjaaGae
import Derived.Test.YtdjecenggngdjaaGaf
import Derived.Test.YtdjecenggngdjaaGal
import Derived.KernelRfl
import Derived.Lib.Hide
namespace Go.Proofs.Ytdjecenggngdjaa
set_option linter.unusedSimpArgs false
set_option linter.unusedVariables false
set_option maxHeartbeats 16000000
section
open Go Go.RowKit
namespace Sp
open F
structure PS where
  h0 : Int
  h1 : Int
  h2 : Int
  bl : List Int
  n : Nat
  rest : List Int
@[irreducible] def wS (r0 r1 : Int) (s : PS) : PS :=
  if s.n + min s.rest.length (16 - s.n) = 16 then
    let t := takeH r0 r1 s.h0 s.h1 s.h2 (tkB (spl s.bl s.n (s.rest.take (min s.rest.length (16 - s.n)))) 16)
    ⟨t.1, t.2.1, t.2.2, spl s.bl s.n (s.rest.take (min s.rest.length (16 - s.n))), 0, s.rest.drop (min s.rest.length (16 - s.n))⟩
  else ⟨s.h0, s.h1, s.h2, spl s.bl s.n (s.rest.take (min s.rest.length (16 - s.n))), s.n + min s.rest.length (16 - s.n), s.rest.drop (min s.rest.length (16 - s.n))⟩
structure PS.Ok (s : PS) : Prop where
  w0 : W64 s.h0
  w1 : W64 s.h1
  w2 : W64 s.h2
  bl : s.bl.length = 16
  n : s.n < 16
theorem spl_bl {bl : List Int} {n : Nat} {r : List Int} (hb : bl.length = 16) (hn : n < 16) : (spl bl n (r.take (min r.length (16 - n)))).length = 16 := by
  rw [spl_length _ _ _ (by rw [List.length_take, hb]; omega), hb]
theorem PS.Ok.step {r0 r1 : Int} {s : PS} (h : s.Ok) : (wS r0 r1 s).Ok := by
  unfold wS
  have hl := spl_bl (r := s.rest) h.bl h.n
  split
  · have ht := takeH_w r0 r1 s.h0 s.h1 s.h2 (tkB (spl s.bl s.n (s.rest.take (min s.rest.length (16 - s.n)))) 16)
    exact ⟨ht.1, ht.2.1, ht.2.2, hl, by show 0 < 16; omega⟩
  · rename_i hne
    exact ⟨h.w0, h.w1, h.w2, hl, by have := h.n; show s.n + min s.rest.length (16 - s.n) < 16; omega⟩
def wI' (r0 r1 : Int) (s : PS) : Nat → PS
  | 0 => s
  | i + 1 => wS r0 r1 (wI' r0 r1 s i)
@[irreducible] def wI (r0 r1 : Int) (s : PS) (i : Nat) : PS := wI' r0 r1 s i
theorem wI_0 (r0 r1 : Int) (s : PS) : wI r0 r1 s 0 = s := by unfold wI; rfl
theorem wI_s (r0 r1 : Int) (s : PS) (i : Nat) : wI r0 r1 s (i + 1) = wS r0 r1 (wI r0 r1 s i) := by unfold wI; rfl
theorem wI_ok {r0 r1 : Int} {s : PS} (h : s.Ok) : ∀ k, (wI r0 r1 s k).Ok
  | 0 => by rw [wI_0]; exact h
  | k + 1 => by rw [wI_s]; exact (wI_ok h k).step
theorem wS_rest (r0 r1 : Int) (s : PS) : (wS r0 r1 s).rest = s.rest.drop (min s.rest.length (16 - s.n)) := by unfold wS; split <;> rfl
theorem wI_rest {r0 r1 : Int} {s : PS} (h : s.Ok) : ∀ k, (wI r0 r1 s k).rest.length + k ≤ s.rest.length ∨ (wI r0 r1 s k).rest.length = 0
  | 0 => by rw [wI_0]; exact .inl (by omega)
  | k + 1 => by
    have h1 := wI_rest h k (r0 := r0) (r1 := r1)
    have h2 := (wI_ok h k (r0 := r0) (r1 := r1)).n
    rw [wI_s, wS_rest, List.length_drop]
    omega
theorem wS_still {r0 r1 : Int} {s : PS} (h : s.Ok) (hr : s.rest = []) : wS r0 r1 s = s := by
  have hn := h.n
  unfold wS
  rw [hr]
  simp only [List.length_nil, Nat.zero_min, Nat.add_zero, List.take_nil, List.drop_nil]
  rw [if_neg (by omega)]
  obtain ⟨a, b, c, d, e, g⟩ := s
  simp only at hr
  subst hr
  simp [spl]
theorem wI_still {r0 r1 : Int} {s : PS} (h : s.Ok) {k : Nat} (hr : (wI r0 r1 s k).rest = []) : ∀ d, wI r0 r1 s (k + d) = wI r0 r1 s k
  | 0 => rfl
  | d + 1 => by rw [← Nat.add_assoc, wI_s, wI_still h hr d, wS_still (wI_ok h k) hr]
@[irreducible] def wAll (r0 r1 : Int) (s : PS) : PS := wI r0 r1 s s.rest.length
theorem wAll_rest {r0 r1 : Int} {s : PS} (h : s.Ok) : (wAll r0 r1 s).rest = [] := by
  unfold wAll
  have := wI_rest h s.rest.length (r0 := r0) (r1 := r1)
  exact List.eq_nil_of_length_eq_zero (by omega)
theorem wAll_of {r0 r1 : Int} {s : PS} (h : s.Ok) {k : Nat} (hk : k ≤ s.rest.length) (hr : (wI r0 r1 s k).rest = []) : wI r0 r1 s k = wAll r0 r1 s := by
  unfold wAll
  have := wI_still h hr (s.rest.length - k)
  rw [show k + (s.rest.length - k) = s.rest.length by omega] at this
  exact this.symm
theorem cpB {g : Bool} {r0 r1 s0 s1 h0 h1 h2 n : Int} {bl : List Int} {o : Nat} {cs : List Int} {X : Array Value} (hb : bl.length = 16) (hx : X = ints .u8 cs) (h : o + cs.length ≤ 16) :
    putAt (polyRow g r0 r1 s0 s1 h0 h1 h2 bl n) (8 + o) X.toList = polyRow g r0 r1 s0 s1 h0 h1 h2 (spl bl o cs) n := by rw [hx]; exact pr_pb hb h
set_option maxRecDepth 20000 in
theorem pwrite_any (b : Nat) (T : TypeId) (r0 r1 s0 s1 : Int) (s : PS) (hs : s.Ok) (hR : AllW [r0, r1]) (sb off c0 : Nat) (A : Array Value) (T2 : TypeId) (fz : Nat × Nat) (hc : s.rest.length ≤ c0) (hA : Lies A off s.rest) (hmax : s.rest.length ≤ 140737488355328) (w : World)
    (hb : w.heap[b]? = some (.cells (polyRow true r0 r1 s0 s1 s.h0 s.h1 s.h2 s.bl (s.n : Int)) T (0, 0))) (hsb : w.heap[sb]? = some (.cells A T2 fz)) (hne : sb ≠ b) :
    Calls Try.prog 94 #[.pointer (some ⟨b, 0, none⟩), .slice (some ⟨sb, off, none⟩) s.rest.length c0] w fun e w' => e = .returned (.tuple #[]) ∧ OwnM w [b] w' [(b, polyRow true r0 r1 s0 s1 (wAll r0 r1 s).h0 (wAll r0 r1 s).h1 (wAll r0 r1 s).h2 (wAll r0 r1 s).bl ((wAll r0 r1 s).n : Int), T)] := by
  have hS := hs
  refine mutE Try.func94 Try.ntmps94 Try.results94 hb ?_
  repeat (first | (refine rgn 0 ?_; refine sEv ?_; (first | (refine SL.v (ValO.ptrNil tabOk rfl rfl rfl) ?_) | (refine SL.v (ValO.ptrNilT tabOk rfl rfl rfl) ?_)); refine sEv ?_; (first | (refine SL.gT ?_; refine sEv ?_) | refine SL.gF ?_); (first | (refine SL.gT ?_; refine SL.nc ?_) | refine SL.gF ?_); (first | (refine SL.gT ?_; refine sEv ?_) | refine SL.gF ?_); (first | (refine SL.gT ?_; (first | (refine SL.ldI tabOk ?_) | (refine SL.ldC tabOk ?_ (hv := by first | exact pr_g0 | exact (pr_gn hS.bl) | exact (pr_gn hbl))))) | refine SL.gF ?_); (first | (refine SL.gT ?_; refine sEv ?_) | refine SL.gF ?_); refine sEv ?_; refine nlx ?_) | (refine zsq ?_; intro _ _) | (with_reducible refine zkN ?_) | (refine useK (by assumption) ?_) | (with_reducible first | refine zsB ?_ | refine zsS ?_) | ((with_reducible show SP _ _ _ (Code.cond _ _ _) _ _ _); first | (refine SP.condF rfl (by first | rfl | (simp only [decide_eq_false_iff_not, beq_eq_false_iff_ne, bne_eq_false_iff_eq]; omega)) ?_)))
  clear hS
  refine SP.loopN (fun k l bs => ∃ o cap : Nat, (l = [.pointer (some ⟨b, 0, none⟩), .slice (some ⟨sb, o, none⟩) (wI r0 r1 s k).rest.length cap, nth l 2, nth l 3, nth l 4, nth l 5, nth l 6, nth l 7, nth l 8, nth l 9, nth l 10, nth l 11, nth l 12, nth l 13, nth l 14, nth l 15, nth l 16, nth l 17, nth l 18, nth l 19, nth l 20, nth l 21, nth l 22, nth l 23, nth l 24, nth l 25, nth l 26, nth l 27, nth l 28, nth l 29, nth l 30, nth l 31, nth l 32, nth l 33, nth l 34, nth l 35, nth l 36, nth l 37, nth l 38, nth l 39, nth l 40, nth l 41, nth l 42, nth l 43, nth l 44, nth l 45, nth l 46, nth l 47] ∧ bs = [(b, polyRow true r0 r1 s0 s1 (wI r0 r1 s k).h0 (wI r0 r1 s k).h1 (wI r0 r1 s k).h2 (wI r0 r1 s k).bl ((wI r0 r1 s k).n : Int), T)]) ∧ (wI r0 r1 s k).rest.length ≤ cap ∧ Lies A o (wI r0 r1 s k).rest) s.rest.length (by rw [wI_0]; exact ⟨off, c0, ⟨rfl, rfl⟩, hc, hA⟩) ?_
  rintro k lf _ hk ⟨o, cap, ⟨hl, rfl⟩, hcap, hL⟩
  refine SP.cast hl ?_
  clear hl
  have hS := wI_ok hs k (r0 := r0) (r1 := r1)
  have hrest := wI_rest hs k (r0 := r0) (r1 := r1)
  have hstop := wAll_of hs hk (r0 := r0) (r1 := r1)
  generalize hSe : wI r0 r1 s k = S at *
  by_cases hr : S.rest.length = 0
  · repeat (first | (refine rgn 1 ?_; refine sEv ?_; refine SL.v (ValO.len tabOk (by rfl)) ?_; refine sEv ?_; refine nlx ?_) | (refine zsq ?_; intro _ _) | (with_reducible refine zkN ?_) | (refine useK (by assumption) ?_) | (with_reducible first | refine zkX ?_ | refine zbE ?_ | refine zsX ?_) | ((with_reducible show SP _ _ _ (Code.cond _ _ _) _ _ _); first | (refine SP.condF rfl (by first | rfl | (simp only [decide_eq_false_iff_not, beq_eq_false_iff_ne, bne_eq_false_iff_eq]; omega)) ?_)))
    rw [hstop (List.eq_nil_of_length_eq_zero hr)]
    exact doneK.mk rfl ResO.nil ⟨rfl, (by first | exact sub1 | exact subc sub1 | exact subc (subc sub1) | exact subc (subc (subc sub1)) | exact subc (subc (subc (subc sub1))))⟩
  · have hn16 := hS.n
    have hmm : (min S.rest.length (16 - S.n)) ≤ S.rest.length ∧ (min S.rest.length (16 - S.n)) ≤ 16 - S.n ∧ 0 < (min S.rest.length (16 - S.n)) := by omega
    have fnm : IntKind.i64.wrap ((S.n : Int) + ((min S.rest.length (16 - S.n)) : Nat)) = ((S.n + (min S.rest.length (16 - S.n)) : Nat) : Int) := by rw [IntWalk.i64_in _ (by omega)]; omega
    have hbl := spl_bl (r := S.rest) hS.bl hS.n
    by_cases hcm : cap = (min S.rest.length (16 - S.n))
    · by_cases h16 : S.n + (min S.rest.length (16 - S.n)) = 16
      · repeat (first | (refine rgn 1 ?_; refine sEv ?_; refine SL.v (ValO.len tabOk (by rfl)) ?_; refine sEv ?_; refine nlx ?_) | (refine rgn 3 ?_; refine sEv ?_; refine SL.nc ?_; refine sEv ?_; (first | (refine SL.ldI tabOk ?_) | (refine SL.ldC tabOk ?_ (hv := by first | exact pr_g0 | exact (pr_gn hS.bl) | exact (pr_gn hbl)))); refine sEv ?_; refine sEv ?_; refine SL.nc ?_; refine sEv ?_; (first | (refine SL.stI tabOk ?_) | (refine SL.stP tabOk ?_ (hsz := by first | (rw [pr_size hbl]; omega) | (rw [pr_size (by assumption)]; omega)) (hA := by first | exact (pr_pn hbl)))); refine nlx ?_) | (refine rgn 4 ?_; refine sEv ?_; refine sEv ?_; refine SL.ctS tabOk _ _ ?_; refine sEv ?_; refine nlx ?_) | (refine rgn 5 ?_; refine sEv ?_; refine SL.nc ?_; refine sEv ?_; (first | (refine SL.ldI tabOk ?_) | (refine SL.ldC tabOk ?_ (hv := by first | exact pr_g0 | exact (pr_gn hS.bl) | exact (pr_gn hbl)))); refine sEv ?_; refine nlx ?_) | (refine rgn 6 ?_; refine sEv ?_; refine SL.call1 (b := b) ent_100 rfl (gbk _) (fun w hw => by have hbb := hw.block (mbk b); exact ptake_any _ _ _ _ _ _ _ _ _ _ _ _ 16 (by omega) hbl hS.w0 hS.w1 hR w hbb) stt bpp ?_; refine nlx ?_) | (refine rgn 7 ?_; refine sEv ?_; refine SL.nc ?_; refine sEv ?_; (first | (refine SL.stI tabOk ?_) | (refine SL.stP tabOk ?_ (hsz := by first | (rw [pr_size hbl]; omega) | (rw [pr_size (by assumption)]; omega)) (hA := by first | exact (pr_pn hbl)))); refine nlx ?_) | ((with_reducible show SP _ _ _ (Code.region _ _ true) _ _ _); first | (refine SPa (id := 2) [9] [] ([]) [0, 1, 2, 3, 4, 5, 6, 7, 8, 9, 10] follows ?_; refine fPv ?_; refine SF.nc ?_; refine SF.e tabOk ?_; refine fPv ?_; refine SF.nc ?_; refine SF.e tabOk ?_; (first | (refine SF.ldI tabOk ?_) | (refine SF.ldC tabOk ?_ (hv := by first | exact pr_g0 | exact (pr_gn hS.bl) | exact (pr_gn hbl)))); refine SF.ctA tabOk _ _ ?_; refine fPv ?_; refine SF.copy tabOk rfl rfl rfl rfl (gbk _) (RdA.old hsb (by simpa using hne)) (min S.rest.length (16 - S.n)) rfl (by rw [pr_size hS.bl]; omega) (hL.size (by omega) (by omega)) (by rw [hL.extract (by omega)]; exact ints_mem) (cpB hS.bl (hL.extract (by omega)) (by rw [List.length_take]; omega)) stt (by first | exact Kept.nil | (simp [Kept]; done)) bpp ?_; refine fPv ?_; refine SF.done ?_)) | (refine zsq ?_; intro _ _) | (with_reducible refine zkN ?_) | (refine useK (by assumption) ?_) | (with_reducible first | refine zsB ?_ | refine zbN ?_ | refine zsS ?_) | ((with_reducible show SP _ _ _ (Code.cond _ _ _) _ _ _); first | (refine SP.condT rfl (by first | rfl | (simp only [decide_eq_true_eq, beq_iff_eq, bne_iff_ne]; omega)) ?_)))
        have e1 : wS r0 r1 S = ⟨(takeH r0 r1 S.h0 S.h1 S.h2 (tkB (spl S.bl S.n (S.rest.take (min S.rest.length (16 - S.n)))) 16)).1, (takeH r0 r1 S.h0 S.h1 S.h2 (tkB (spl S.bl S.n (S.rest.take (min S.rest.length (16 - S.n)))) 16)).2.1, (takeH r0 r1 S.h0 S.h1 S.h2 (tkB (spl S.bl S.n (S.rest.take (min S.rest.length (16 - S.n)))) 16)).2.2, spl S.bl S.n (S.rest.take (min S.rest.length (16 - S.n))), 0, S.rest.drop (min S.rest.length (16 - S.n))⟩ := by unfold wS; rw [if_pos h16]
        rw [wI_s, hSe, e1]
        exact ⟨by omega, _, _, ⟨(by (try simp only [fnm]); simp only [List.length_drop]; rfl), (by first | rfl | (simp only [fnm]; done) | (simp only [fnm]; rfl))⟩, (by rw [List.length_drop]; omega), (by intro j hj; rw [List.length_drop] at hj; omega)⟩
      · repeat (first | (refine rgn 1 ?_; refine sEv ?_; refine SL.v (ValO.len tabOk (by rfl)) ?_; refine sEv ?_; refine nlx ?_) | (refine rgn 3 ?_; refine sEv ?_; refine SL.nc ?_; refine sEv ?_; (first | (refine SL.ldI tabOk ?_) | (refine SL.ldC tabOk ?_ (hv := by first | exact pr_g0 | exact (pr_gn hS.bl) | exact (pr_gn hbl)))); refine sEv ?_; refine sEv ?_; refine SL.nc ?_; refine sEv ?_; (first | (refine SL.stI tabOk ?_) | (refine SL.stP tabOk ?_ (hsz := by first | (rw [pr_size hbl]; omega) | (rw [pr_size (by assumption)]; omega)) (hA := by first | exact (pr_pn hbl)))); refine nlx ?_) | (refine rgn 4 ?_; refine sEv ?_; refine sEv ?_; refine SL.ctS tabOk _ _ ?_; refine sEv ?_; refine nlx ?_) | (refine rgn 5 ?_; refine sEv ?_; refine SL.nc ?_; refine sEv ?_; (first | (refine SL.ldI tabOk ?_) | (refine SL.ldC tabOk ?_ (hv := by first | exact pr_g0 | exact (pr_gn hS.bl) | exact (pr_gn hbl)))); refine sEv ?_; refine nlx ?_) | ((with_reducible show SP _ _ _ (Code.region _ _ true) _ _ _); first | (refine SPa (id := 2) [9] [] ([]) [0, 1, 2, 3, 4, 5, 6, 7, 8, 9, 10] follows ?_; refine fPv ?_; refine SF.nc ?_; refine SF.e tabOk ?_; refine fPv ?_; refine SF.nc ?_; refine SF.e tabOk ?_; (first | (refine SF.ldI tabOk ?_) | (refine SF.ldC tabOk ?_ (hv := by first | exact pr_g0 | exact (pr_gn hS.bl) | exact (pr_gn hbl)))); refine SF.ctA tabOk _ _ ?_; refine fPv ?_; refine SF.copy tabOk rfl rfl rfl rfl (gbk _) (RdA.old hsb (by simpa using hne)) (min S.rest.length (16 - S.n)) rfl (by rw [pr_size hS.bl]; omega) (hL.size (by omega) (by omega)) (by rw [hL.extract (by omega)]; exact ints_mem) (cpB hS.bl (hL.extract (by omega)) (by rw [List.length_take]; omega)) stt (by first | exact Kept.nil | (simp [Kept]; done)) bpp ?_; refine fPv ?_; refine SF.done ?_)) | (refine zsq ?_; intro _ _) | (with_reducible refine zkN ?_) | (refine useK (by assumption) ?_) | (with_reducible first | refine zsB ?_ | refine zbN ?_ | refine zsS ?_) | ((with_reducible show SP _ _ _ (Code.cond _ _ _) _ _ _); first | (refine SP.condT rfl (by first | rfl | (simp only [decide_eq_true_eq, beq_iff_eq, bne_iff_ne]; omega)) ?_) | (refine SP.condF rfl (by first | rfl | (simp only [decide_eq_false_iff_not, beq_eq_false_iff_ne, bne_eq_false_iff_eq]; omega)) ?_)))
        have e1 : wS r0 r1 S = ⟨S.h0, S.h1, S.h2, spl S.bl S.n (S.rest.take (min S.rest.length (16 - S.n))), S.n + (min S.rest.length (16 - S.n)), S.rest.drop (min S.rest.length (16 - S.n))⟩ := by unfold wS; rw [if_neg h16]
        rw [wI_s, hSe, e1]
        exact ⟨by omega, _, _, ⟨(by (try simp only [fnm]); simp only [List.length_drop]; rfl), (by first | rfl | (simp only [fnm]; done) | (simp only [fnm]; rfl))⟩, (by rw [List.length_drop]; omega), (by intro j hj; rw [List.length_drop] at hj; omega)⟩
    · by_cases h16 : S.n + (min S.rest.length (16 - S.n)) = 16
      · repeat (first | (refine rgn 1 ?_; refine sEv ?_; refine SL.v (ValO.len tabOk (by rfl)) ?_; refine sEv ?_; refine nlx ?_) | (refine rgn 3 ?_; refine sEv ?_; refine SL.nc ?_; refine sEv ?_; (first | (refine SL.ldI tabOk ?_) | (refine SL.ldC tabOk ?_ (hv := by first | exact pr_g0 | exact (pr_gn hS.bl) | exact (pr_gn hbl)))); refine sEv ?_; refine sEv ?_; refine SL.nc ?_; refine sEv ?_; (first | (refine SL.stI tabOk ?_) | (refine SL.stP tabOk ?_ (hsz := by first | (rw [pr_size hbl]; omega) | (rw [pr_size (by assumption)]; omega)) (hA := by first | exact (pr_pn hbl)))); refine nlx ?_) | (refine rgn 4 ?_; refine sEv ?_; refine sEv ?_; refine SL.ctS tabOk _ _ ?_; refine sEv ?_; refine nlx ?_) | (refine rgn 5 ?_; refine sEv ?_; refine SL.nc ?_; refine sEv ?_; (first | (refine SL.ldI tabOk ?_) | (refine SL.ldC tabOk ?_ (hv := by first | exact pr_g0 | exact (pr_gn hS.bl) | exact (pr_gn hbl)))); refine sEv ?_; refine nlx ?_) | (refine rgn 6 ?_; refine sEv ?_; refine SL.call1 (b := b) ent_100 rfl (gbk _) (fun w hw => by have hbb := hw.block (mbk b); exact ptake_any _ _ _ _ _ _ _ _ _ _ _ _ 16 (by omega) hbl hS.w0 hS.w1 hR w hbb) stt bpp ?_; refine nlx ?_) | (refine rgn 7 ?_; refine sEv ?_; refine SL.nc ?_; refine sEv ?_; (first | (refine SL.stI tabOk ?_) | (refine SL.stP tabOk ?_ (hsz := by first | (rw [pr_size hbl]; omega) | (rw [pr_size (by assumption)]; omega)) (hA := by first | exact (pr_pn hbl)))); refine nlx ?_) | ((with_reducible show SP _ _ _ (Code.region _ _ true) _ _ _); first | (refine SPa (id := 2) [9] [] ([]) [0, 1, 2, 3, 4, 5, 6, 7, 8, 9, 10] follows ?_; refine fPv ?_; refine SF.nc ?_; refine SF.e tabOk ?_; refine fPv ?_; refine SF.nc ?_; refine SF.e tabOk ?_; (first | (refine SF.ldI tabOk ?_) | (refine SF.ldC tabOk ?_ (hv := by first | exact pr_g0 | exact (pr_gn hS.bl) | exact (pr_gn hbl)))); refine SF.ctA tabOk _ _ ?_; refine fPv ?_; refine SF.copy tabOk rfl rfl rfl rfl (gbk _) (RdA.old hsb (by simpa using hne)) (min S.rest.length (16 - S.n)) rfl (by rw [pr_size hS.bl]; omega) (hL.size (by omega) (by omega)) (by rw [hL.extract (by omega)]; exact ints_mem) (cpB hS.bl (hL.extract (by omega)) (by rw [List.length_take]; omega)) stt (by first | exact Kept.nil | (simp [Kept]; done)) bpp ?_; refine fPv ?_; refine SF.done ?_)) | (refine zsq ?_; intro _ _) | (with_reducible refine zkN ?_) | (refine useK (by assumption) ?_) | (with_reducible first | refine zsB ?_ | refine zbN ?_ | refine zsS ?_) | ((with_reducible show SP _ _ _ (Code.cond _ _ _) _ _ _); first | (refine SP.condT rfl (by first | rfl | (simp only [decide_eq_true_eq, beq_iff_eq, bne_iff_ne]; omega)) ?_)))
        have e1 : wS r0 r1 S = ⟨(takeH r0 r1 S.h0 S.h1 S.h2 (tkB (spl S.bl S.n (S.rest.take (min S.rest.length (16 - S.n)))) 16)).1, (takeH r0 r1 S.h0 S.h1 S.h2 (tkB (spl S.bl S.n (S.rest.take (min S.rest.length (16 - S.n)))) 16)).2.1, (takeH r0 r1 S.h0 S.h1 S.h2 (tkB (spl S.bl S.n (S.rest.take (min S.rest.length (16 - S.n)))) 16)).2.2, spl S.bl S.n (S.rest.take (min S.rest.length (16 - S.n))), 0, S.rest.drop (min S.rest.length (16 - S.n))⟩ := by unfold wS; rw [if_pos h16]
        rw [wI_s, hSe, e1]
        exact ⟨by omega, _, _, ⟨(by (try simp only [fnm]); simp only [List.length_drop]; rfl), (by first | rfl | (simp only [fnm]; done) | (simp only [fnm]; rfl))⟩, (by rw [List.length_drop]; omega), (hL.drop _)⟩
      · repeat (first | (refine rgn 1 ?_; refine sEv ?_; refine SL.v (ValO.len tabOk (by rfl)) ?_; refine sEv ?_; refine nlx ?_) | (refine rgn 3 ?_; refine sEv ?_; refine SL.nc ?_; refine sEv ?_; (first | (refine SL.ldI tabOk ?_) | (refine SL.ldC tabOk ?_ (hv := by first | exact pr_g0 | exact (pr_gn hS.bl) | exact (pr_gn hbl)))); refine sEv ?_; refine sEv ?_; refine SL.nc ?_; refine sEv ?_; (first | (refine SL.stI tabOk ?_) | (refine SL.stP tabOk ?_ (hsz := by first | (rw [pr_size hbl]; omega) | (rw [pr_size (by assumption)]; omega)) (hA := by first | exact (pr_pn hbl)))); refine nlx ?_) | (refine rgn 4 ?_; refine sEv ?_; refine sEv ?_; refine SL.ctS tabOk _ _ ?_; refine sEv ?_; refine nlx ?_) | (refine rgn 5 ?_; refine sEv ?_; refine SL.nc ?_; refine sEv ?_; (first | (refine SL.ldI tabOk ?_) | (refine SL.ldC tabOk ?_ (hv := by first | exact pr_g0 | exact (pr_gn hS.bl) | exact (pr_gn hbl)))); refine sEv ?_; refine nlx ?_) | ((with_reducible show SP _ _ _ (Code.region _ _ true) _ _ _); first | (refine SPa (id := 2) [9] [] ([]) [0, 1, 2, 3, 4, 5, 6, 7, 8, 9, 10] follows ?_; refine fPv ?_; refine SF.nc ?_; refine SF.e tabOk ?_; refine fPv ?_; refine SF.nc ?_; refine SF.e tabOk ?_; (first | (refine SF.ldI tabOk ?_) | (refine SF.ldC tabOk ?_ (hv := by first | exact pr_g0 | exact (pr_gn hS.bl) | exact (pr_gn hbl)))); refine SF.ctA tabOk _ _ ?_; refine fPv ?_; refine SF.copy tabOk rfl rfl rfl rfl (gbk _) (RdA.old hsb (by simpa using hne)) (min S.rest.length (16 - S.n)) rfl (by rw [pr_size hS.bl]; omega) (hL.size (by omega) (by omega)) (by rw [hL.extract (by omega)]; exact ints_mem) (cpB hS.bl (hL.extract (by omega)) (by rw [List.length_take]; omega)) stt (by first | exact Kept.nil | (simp [Kept]; done)) bpp ?_; refine fPv ?_; refine SF.done ?_)) | (refine zsq ?_; intro _ _) | (with_reducible refine zkN ?_) | (refine useK (by assumption) ?_) | (with_reducible first | refine zsB ?_ | refine zbN ?_ | refine zsS ?_) | ((with_reducible show SP _ _ _ (Code.cond _ _ _) _ _ _); first | (refine SP.condT rfl (by first | rfl | (simp only [decide_eq_true_eq, beq_iff_eq, bne_iff_ne]; omega)) ?_) | (refine SP.condF rfl (by first | rfl | (simp only [decide_eq_false_iff_not, beq_eq_false_iff_ne, bne_eq_false_iff_eq]; omega)) ?_)))
        have e1 : wS r0 r1 S = ⟨S.h0, S.h1, S.h2, spl S.bl S.n (S.rest.take (min S.rest.length (16 - S.n))), S.n + (min S.rest.length (16 - S.n)), S.rest.drop (min S.rest.length (16 - S.n))⟩ := by unfold wS; rw [if_neg h16]
        rw [wI_s, hSe, e1]
        exact ⟨by omega, _, _, ⟨(by (try simp only [fnm]); simp only [List.length_drop]; rfl), (by first | rfl | (simp only [fnm]; done) | (simp only [fnm]; rfl))⟩, (by rw [List.length_drop]; omega), (hL.drop _)⟩
end Sp
end
section
open Go Go.RowKit
namespace Sp
open F
@[irreducible] def fin (h : Int × Int × Int) : Int × Int × Int :=
  if IntKind.u64.wrap (h.2.2 + addHi h.2.1 0 (addHi h.1 5 0)) ≥ 4 then (addLo h.1 5 0, addLo h.2.1 0 (addHi h.1 5 0), IntKind.u64.wrap (IntKind.u64.wrap (h.2.2 + addHi h.2.1 0 (addHi h.1 5 0)) - 4)) else h
structure HOk (h : Int × Int × Int) : Prop where
  w0 : W64 h.1
  w1 : W64 h.2.1
  w2 : W64 h.2.2
theorem HOk.fin {h : Int × Int × Int} (hh : HOk h) : HOk (fin h) := by
  unfold Sp.fin
  split
  · exact ⟨W64.addLo _ _ _, W64.addLo _ _ _, W64.wrap _⟩
  · exact hh
def finI' (h : Int × Int × Int) : Nat → Int × Int × Int
  | 0 => h
  | i + 1 => fin (finI' h i)
@[irreducible] def finI (h : Int × Int × Int) (i : Nat) : Int × Int × Int := finI' h i
theorem finI_0 (h : Int × Int × Int) : finI h 0 = h := by unfold finI; rfl
theorem finI_s (h : Int × Int × Int) (i : Nat) : finI h (i + 1) = fin (finI h i) := by unfold finI; rfl
theorem finI_ok {h : Int × Int × Int} (hh : HOk h) : ∀ k, HOk (finI h k)
  | 0 => by rw [finI_0]; exact hh
  | k + 1 => by rw [finI_s]; exact (finI_ok hh k).fin
def outN' (lo hi : Int) : Nat → List Int
  | 0 => List.replicate 16 0
  | i + 1 => ((outN' lo hi i).set i (IntKind.u8.wrap (lo.fdiv (2 ^ min (IntKind.i64.wrap (8 * (i : Int))).toNat IntKind.u64.bits)))).set (8 + i) (IntKind.u8.wrap (hi.fdiv (2 ^ min (IntKind.i64.wrap (8 * (i : Int))).toNat IntKind.u64.bits)))
@[irreducible] def outN (lo hi : Int) (i : Nat) : List Int := outN' lo hi i
theorem outN_0 (lo hi : Int) : outN lo hi 0 = List.replicate 16 0 := by unfold outN; rfl
theorem outN_s (lo hi : Int) (i : Nat) : outN lo hi (i + 1) = ((outN lo hi i).set i (IntKind.u8.wrap (lo.fdiv (2 ^ min (IntKind.i64.wrap (8 * (i : Int))).toNat IntKind.u64.bits)))).set (8 + i) (IntKind.u8.wrap (hi.fdiv (2 ^ min (IntKind.i64.wrap (8 * (i : Int))).toNat IntKind.u64.bits))) := by unfold outN; rfl
theorem outN_length (lo hi : Int) : ∀ k, (outN lo hi k).length = 16
  | 0 => by rw [outN_0]; rfl
  | k + 1 => by rw [outN_s]; simp [outN_length lo hi k]
@[irreducible] def tagB (s0 s1 : Int) (h : Int × Int × Int) : List Int :=
  outN (addLo (finI h 2).1 s0 0) (addLo (finI h 2).2.1 s1 (addHi (finI h 2).1 s0 0)) 8
@[irreducible] def lastH (r0 r1 : Int) (s : PS) : Int × Int × Int := if 0 < s.n then takeH r0 r1 s.h0 s.h1 s.h2 (tkB s.bl s.n) else (s.h0, s.h1, s.h2)
theorem lastH_ok {r0 r1 : Int} {s : PS} (hs : s.Ok) : HOk (lastH r0 r1 s) := by
  unfold lastH
  split
  · have := takeH_w r0 r1 s.h0 s.h1 s.h2 (tkB s.bl s.n)
    exact ⟨this.1, this.2.1, this.2.2⟩
  · exact ⟨hs.w0, hs.w1, hs.w2⟩
@[irreducible] def sumS (r0 r1 s0 s1 : Int) (s : PS) : List Int := tagB s0 s1 (lastH r0 r1 s)
attribute [simp] outN_length
set_option maxRecDepth 20000 in
theorem psum_any (b : Nat) (T : TypeId) (r0 r1 s0 s1 : Int) (s : PS) (hs : s.Ok) (hR : AllW [r0, r1]) (hs0 : W64 s0) (hs1 : W64 s1) (fz : Nat × Nat) (w : World)
    (hb : w.heap[b]? = some (.cells (polyRow true r0 r1 s0 s1 s.h0 s.h1 s.h2 s.bl (s.n : Int)) T fz)) :
    Calls Try.prog 95 #[.pointer (some ⟨b, 0, none⟩)] w fun e w' => e = .returned (.agg (ints .u8 (sumS r0 r1 s0 s1 s))) ∧ Below w.heap.size w w' := by
  have hn16 := hs.n
  refine pureE Try.func95 Try.ntmps95 Try.results95 ?_
  have tok_ob : True := trivial
  have tok_eb : True := trivial
  have f2 : True := trivial
  by_cases hn : 0 < s.n
  · have hl : lastH r0 r1 s = takeH r0 r1 s.h0 s.h1 s.h2 (tkB s.bl s.n) := by unfold lastH; rw [if_pos hn]
    repeat (first | (refine rgn 0 ?_; refine SL.al zero_140 ?_; (first | (have _t := tok_ob; clear _t tok_ob; intro ob) | (have _t := tok_eb; clear _t tok_eb; intro eb) | intro _); refine nlx ?_) | (refine rgn 1 ?_; refine sEv ?_; (first | (refine SL.v (ValO.ptrNil tabOk rfl rfl rfl) ?_) | (refine SL.v (ValO.ptrNilT tabOk rfl rfl rfl) ?_)); refine sEv ?_; (first | (refine SL.gT ?_; refine sEv ?_) | refine SL.gF ?_); (first | (refine SL.gT ?_; refine SL.nc ?_) | refine SL.gF ?_); (first | (refine SL.gT ?_; refine sEv ?_) | refine SL.gF ?_); (first | (refine SL.gT ?_; (first | (refine SL.ldI tabOk ?_) | (refine SL.ldC tabOk ?_ (hv := by first | exact pr_g0 | exact pr_g5 | exact pr_g6 | exact pr_g7 | exact pr_g3 | exact pr_g4 | exact (pr_gn hs.bl))))) | refine SL.gF ?_); (first | (refine SL.gT ?_; refine sEv ?_) | refine SL.gF ?_); refine sEv ?_; refine nlx ?_) | (refine rgn 3 ?_; refine sEv ?_; refine SL.nc ?_; refine SL.val (ValO.ldRow tabOk _ rfl _ _ rfl rfl _ (RdA.old hb (by simp)) (pr_size hs.bl)) bpp ?_; refine SL.al zero_157 ?_; (first | (have _t := tok_ob; clear _t tok_ob; intro ob) | (have _t := tok_eb; clear _t tok_eb; intro eb) | intro _); refine SL.storeRow tabOk rfl rfl rfl (gbk _) (pr_size hs.bl) rfl pr_cells stt bpp ?_; refine nlx ?_) | (refine rgn 4 ?_; refine sEv ?_; (first | (refine SL.ldI tabOk ?_) | (refine SL.ldC tabOk ?_ (hv := by first | exact pr_g0 | exact pr_g5 | exact pr_g6 | exact pr_g7 | exact pr_g3 | exact pr_g4 | exact (pr_gn hs.bl)))); refine sEv ?_; refine nlx ?_) | (refine rgn 5 ?_; refine sEv ?_; (first | (refine SL.ldI tabOk ?_) | (refine SL.ldC tabOk ?_ (hv := by first | exact pr_g0 | exact pr_g5 | exact pr_g6 | exact pr_g7 | exact pr_g3 | exact pr_g4 | exact (pr_gn hs.bl)))); refine SL.call1 (b := eb) ent_100 rfl (gbk _) (fun w hw => by have hbb := hw.block (mbk eb); exact ptake_any _ _ _ _ _ _ _ _ _ _ _ _ s.n (by omega) hs.bl hs.w0 hs.w1 hR w hbb) stt bpp ?_; refine nlx ?_) | (refine rgn 6 ?_; refine sEv ?_; refine nlx ?_) | (refine zsq ?_; intro _ _) | (with_reducible refine zkN ?_) | (refine useK (by assumption) ?_) | (with_reducible first | refine zsB ?_ | refine zsS ?_) | ((with_reducible show SP _ _ _ (Code.cond _ _ _) _ _ _); first | (refine SP.condT rfl (by first | rfl | (simp only [decide_eq_true_eq, beq_iff_eq, bne_iff_ne]; omega)) ?_) | (refine SP.condF rfl (by first | rfl | (simp only [decide_eq_false_iff_not, beq_eq_false_iff_ne, bne_eq_false_iff_eq]; omega)) ?_)))
    refine SP.loopN (fun k l bs => l = [nth l 0, nth l 1, .pointer (some ⟨ob, 0, none⟩), .pointer (some ⟨eb, 0, none⟩), nth l 4, nth l 5, nth l 6, nth l 7, nth l 8, nth l 9, nth l 10, nth l 11, nth l 12, nth l 13, nth l 14, nth l 15, nth l 16, nth l 17, nth l 18, nth l 19, nth l 20, nth l 21, nth l 22, nth l 23, nth l 24, nth l 25, nth l 26, nth l 27, nth l 28, nth l 29, nth l 30, nth l 31, .int .i64 ((k : Nat)), nth l 33, nth l 34, nth l 35, nth l 36, nth l 37, nth l 38, nth l 39, nth l 40, nth l 41, nth l 42, nth l 43, nth l 44, nth l 45, nth l 46, nth l 47, nth l 48, nth l 49, nth l 50, nth l 51, nth l 52, nth l 53, nth l 54, nth l 55, nth l 56, nth l 57, nth l 58, nth l 59, nth l 60, nth l 61, nth l 62, nth l 63, nth l 64, nth l 65, nth l 66, nth l 67, nth l 68, nth l 69, nth l 70, nth l 71, nth l 72, nth l 73, nth l 74, nth l 75, nth l 76, nth l 77, nth l 78, nth l 79, nth l 80, nth l 81, nth l 82, nth l 83, nth l 84, nth l 85, nth l 86, nth l 87, nth l 88, nth l 89, nth l 90, nth l 91, nth l 92, nth l 93, nth l 94, nth l 95, nth l 96, nth l 97, nth l 98, nth l 99, nth l 100, nth l 101, nth l 102, nth l 103] ∧ bs = [(eb, polyRow true r0 r1 s0 s1 (finI (lastH r0 r1 s) k).1 (finI (lastH r0 r1 s) k).2.1 (finI (lastH r0 r1 s) k).2.2 s.bl (s.n : Int), 157), (ob, ints .u8 (List.replicate 16 0), 140)]) 2 ⟨rfl, (by rw [finI_0, hl])⟩ ?_
    rintro k lfk _ hkk ⟨hlk, rfl⟩
    refine SP.cast hlk ?_
    clear hlk
    by_cases hltk : k < 2
    · have hk1 : IntKind.i64.wrap ((k : Int) + 1) = ((k + 1 : Nat) : Int) := by rw [IntWalk.i64_in _ (by omega)]; omega
      have hf := finI_ok (lastH_ok hs (r0 := r0) (r1 := r1)) k
      have c1 : Bit (addHi (finI (lastH r0 r1 s) k).1 5 0) := Bit.addHi hf.w0 w64_5 Bit.zero
      have c2 : Bit (addHi (finI (lastH r0 r1 s) k).2.1 0 (addHi (finI (lastH r0 r1 s) k).1 5 0)) := Bit.addHi hf.w1 w64_0 c1
      have f2 : True := trivial
      by_cases htop : IntKind.u64.wrap ((finI (lastH r0 r1 s) k).2.2 + addHi (finI (lastH r0 r1 s) k).2.1 0 (addHi (finI (lastH r0 r1 s) k).1 5 0)) ≥ 4
      · repeat (first | (refine rgn 7 ?_; refine sEv ?_; refine nlx ?_) | (refine rgn 8 ?_; refine sEv ?_; refine sEv ?_; (first | (refine SL.ldI tabOk ?_) | (refine SL.ldC tabOk ?_ (hv := by first | exact pr_g0 | exact pr_g5 | exact pr_g6 | exact pr_g7 | exact pr_g3 | exact pr_g4 | exact (pr_gn hs.bl)))); refine SL.v (ValO.ext _ rfl _ (fun w => add64_run _ _ _ (by first | assumption | exact w64_0 | exact w64_5 | exact hf.w0 | exact hf.w1 | exact hf.w2) (by first | assumption | exact w64_0 | exact w64_5 | exact hf.w0 | exact hf.w1 | exact hf.w2) (by first | exact Bit.zero | assumption) w)) ?_; (iterate 5 refine sEv ?_); refine nlx ?_) | (refine rgn 9 ?_; refine sEv ?_; refine sEv ?_; (first | (refine SL.ldI tabOk ?_) | (refine SL.ldC tabOk ?_ (hv := by first | exact pr_g0 | exact pr_g5 | exact pr_g6 | exact pr_g7 | exact pr_g3 | exact pr_g4 | exact (pr_gn hs.bl)))); refine sEv ?_; refine SL.v (ValO.ext _ rfl _ (fun w => add64_run _ _ _ (by first | assumption | exact w64_0 | exact w64_5 | exact hf.w0 | exact hf.w1 | exact hf.w2) (by first | assumption | exact w64_0 | exact w64_5 | exact hf.w0 | exact hf.w1 | exact hf.w2) (by first | exact Bit.zero | assumption) w)) ?_; (iterate 5 refine sEv ?_); refine nlx ?_) | (refine rgn 10 ?_; refine sEv ?_; refine sEv ?_; (first | (refine SL.ldI tabOk ?_) | (refine SL.ldC tabOk ?_ (hv := by first | exact pr_g0 | exact pr_g5 | exact pr_g6 | exact pr_g7 | exact pr_g3 | exact pr_g4 | exact (pr_gn hs.bl)))); (iterate 3 refine sEv ?_); refine nlx ?_) | (refine rgn 11 ?_; refine sEv ?_; refine sEv ?_; refine nlx ?_) | (refine rgn 12 ?_; (iterate 4 refine sEv ?_); refine SL.val (ValO.build (by first | (dsimp only [List.map, evL, nth]; done) | (dsimp only [List.map, evL, nth]; rfl)) (bld3 _ _ _)) bpp ?_; refine sEv ?_; (first | (refine SL.stR tabOk ?_) | (refine SL.stQ tabOk ?_ (hsz := by first | (rw [pr_size hs.bl]; omega)) (hA := by first | exact pr_ph))); refine nlx ?_) | (refine rgn 13 ?_; refine sEv ?_; refine sEv ?_; refine nlx ?_) | (refine zsq ?_; intro _ _) | (with_reducible refine zkN ?_) | (refine useK (by assumption) ?_) | (with_reducible first | refine zsB ?_ | refine zsS ?_) | ((with_reducible show SP _ _ _ (Code.cond _ _ _) _ _ _); first | (refine SP.condT rfl (by first | rfl | (simp only [decide_eq_true_eq, beq_iff_eq, bne_iff_ne]; omega)) ?_)))
        simp only [hk1]
        exact ⟨hltk, rfl, (by rw [finI_s, Sp.fin, if_pos htop])⟩
      · repeat (first | (refine rgn 7 ?_; refine sEv ?_; refine nlx ?_) | (refine rgn 8 ?_; refine sEv ?_; refine sEv ?_; (first | (refine SL.ldI tabOk ?_) | (refine SL.ldC tabOk ?_ (hv := by first | exact pr_g0 | exact pr_g5 | exact pr_g6 | exact pr_g7 | exact pr_g3 | exact pr_g4 | exact (pr_gn hs.bl)))); refine SL.v (ValO.ext _ rfl _ (fun w => add64_run _ _ _ (by first | assumption | exact w64_0 | exact w64_5 | exact hf.w0 | exact hf.w1 | exact hf.w2) (by first | assumption | exact w64_0 | exact w64_5 | exact hf.w0 | exact hf.w1 | exact hf.w2) (by first | exact Bit.zero | assumption) w)) ?_; (iterate 5 refine sEv ?_); refine nlx ?_) | (refine rgn 9 ?_; refine sEv ?_; refine sEv ?_; (first | (refine SL.ldI tabOk ?_) | (refine SL.ldC tabOk ?_ (hv := by first | exact pr_g0 | exact pr_g5 | exact pr_g6 | exact pr_g7 | exact pr_g3 | exact pr_g4 | exact (pr_gn hs.bl)))); refine sEv ?_; refine SL.v (ValO.ext _ rfl _ (fun w => add64_run _ _ _ (by first | assumption | exact w64_0 | exact w64_5 | exact hf.w0 | exact hf.w1 | exact hf.w2) (by first | assumption | exact w64_0 | exact w64_5 | exact hf.w0 | exact hf.w1 | exact hf.w2) (by first | exact Bit.zero | assumption) w)) ?_; (iterate 5 refine sEv ?_); refine nlx ?_) | (refine rgn 10 ?_; refine sEv ?_; refine sEv ?_; (first | (refine SL.ldI tabOk ?_) | (refine SL.ldC tabOk ?_ (hv := by first | exact pr_g0 | exact pr_g5 | exact pr_g6 | exact pr_g7 | exact pr_g3 | exact pr_g4 | exact (pr_gn hs.bl)))); (iterate 3 refine sEv ?_); refine nlx ?_) | (refine rgn 11 ?_; refine sEv ?_; refine sEv ?_; refine nlx ?_) | (refine rgn 13 ?_; refine sEv ?_; refine sEv ?_; refine nlx ?_) | (refine zsq ?_; intro _ _) | (with_reducible refine zkN ?_) | (refine useK (by assumption) ?_) | (with_reducible first | refine zsB ?_ | refine zsS ?_) | ((with_reducible show SP _ _ _ (Code.cond _ _ _) _ _ _); first | (refine SP.condT rfl (by first | rfl | (simp only [decide_eq_true_eq, beq_iff_eq, bne_iff_ne]; omega)) ?_) | (refine SP.condF rfl (by first | rfl | (simp only [decide_eq_false_iff_not, beq_eq_false_iff_ne, bne_eq_false_iff_eq]; omega)) ?_)))
        simp only [hk1]
        exact ⟨hltk, rfl, (by rw [finI_s, Sp.fin, if_neg htop])⟩
    · have hendk : k = 2 := by omega
      replace hendk := Lib.hid hendk
      have hf := finI_ok (lastH_ok hs (r0 := r0) (r1 := r1)) k
      have c1 : Bit (addHi (finI (lastH r0 r1 s) k).1 s0 0) := Bit.addHi hf.w0 hs0 Bit.zero
      have c2 : Bit (addHi (finI (lastH r0 r1 s) k).2.1 s1 (addHi (finI (lastH r0 r1 s) k).1 s0 0)) := Bit.addHi hf.w1 hs1 c1
      have f2 : True := trivial
      repeat (first | (refine rgn 7 ?_; refine sEv ?_; refine nlx ?_) | (refine rgn 14 ?_; refine sEv ?_; refine sEv ?_; (first | (refine SL.ldI tabOk ?_) | (refine SL.ldC tabOk ?_ (hv := by first | exact pr_g0 | exact pr_g5 | exact pr_g6 | exact pr_g7 | exact pr_g3 | exact pr_g4 | exact (pr_gn hs.bl)))); refine sEv ?_; refine sEv ?_; (first | (refine SL.ldI tabOk ?_) | (refine SL.ldC tabOk ?_ (hv := by first | exact pr_g0 | exact pr_g5 | exact pr_g6 | exact pr_g7 | exact pr_g3 | exact pr_g4 | exact (pr_gn hs.bl)))); refine SL.v (ValO.ext _ rfl _ (fun w => add64_run _ _ _ (by first | assumption | exact w64_0 | exact w64_5 | exact hf.w0 | exact hf.w1 | exact hf.w2) (by first | assumption | exact w64_0 | exact w64_5 | exact hf.w0 | exact hf.w1 | exact hf.w2) (by first | exact Bit.zero | assumption) w)) ?_; (iterate 5 refine sEv ?_); refine nlx ?_) | (refine rgn 15 ?_; refine sEv ?_; refine sEv ?_; (first | (refine SL.ldI tabOk ?_) | (refine SL.ldC tabOk ?_ (hv := by first | exact pr_g0 | exact pr_g5 | exact pr_g6 | exact pr_g7 | exact pr_g3 | exact pr_g4 | exact (pr_gn hs.bl)))); refine sEv ?_; refine sEv ?_; (first | (refine SL.ldI tabOk ?_) | (refine SL.ldC tabOk ?_ (hv := by first | exact pr_g0 | exact pr_g5 | exact pr_g6 | exact pr_g7 | exact pr_g3 | exact pr_g4 | exact (pr_gn hs.bl)))); refine sEv ?_; refine SL.v (ValO.ext _ rfl _ (fun w => add64_run _ _ _ (by first | assumption | exact w64_0 | exact w64_5 | exact hf.w0 | exact hf.w1 | exact hf.w2) (by first | assumption | exact w64_0 | exact w64_5 | exact hf.w0 | exact hf.w1 | exact hf.w2) (by first | exact Bit.zero | assumption) w)) ?_; (iterate 5 refine sEv ?_); refine nlx ?_) | (refine rgn 16 ?_; refine sEv ?_; refine nlx ?_) | (refine zsq ?_; intro _ _) | (with_reducible refine zkN ?_) | (refine useK (by assumption) ?_) | (with_reducible first | refine zsB ?_ | refine zsX ?_) | ((with_reducible show SP _ _ _ (Code.cond _ _ _) _ _ _); first | (refine SP.condF rfl (by first | rfl | (simp only [decide_eq_false_iff_not, beq_eq_false_iff_ne, bne_eq_false_iff_eq]; omega)) ?_)))
      clear f2
      refine SP.loopN (fun i l bs => l = [nth l 0, nth l 1, .pointer (some ⟨ob, 0, none⟩), nth l 3, nth l 4, nth l 5, nth l 6, nth l 7, .int .u64 (addLo (finI (lastH r0 r1 s) k).1 s0 0), nth l 9, .int .u64 (addLo (finI (lastH r0 r1 s) k).2.1 s1 (addHi (finI (lastH r0 r1 s) k).1 s0 0)), nth l 11, nth l 12, nth l 13, nth l 14, nth l 15, nth l 16, nth l 17, nth l 18, nth l 19, nth l 20, nth l 21, nth l 22, nth l 23, nth l 24, nth l 25, nth l 26, nth l 27, nth l 28, nth l 29, nth l 30, nth l 31, nth l 32, nth l 33, nth l 34, nth l 35, nth l 36, nth l 37, nth l 38, nth l 39, nth l 40, nth l 41, nth l 42, nth l 43, nth l 44, nth l 45, nth l 46, nth l 47, nth l 48, nth l 49, nth l 50, nth l 51, nth l 52, nth l 53, nth l 54, nth l 55, nth l 56, nth l 57, nth l 58, nth l 59, nth l 60, nth l 61, nth l 62, nth l 63, nth l 64, nth l 65, nth l 66, nth l 67, nth l 68, nth l 69, nth l 70, nth l 71, nth l 72, nth l 73, nth l 74, nth l 75, nth l 76, nth l 77, nth l 78, nth l 79, nth l 80, nth l 81, nth l 82, nth l 83, .int .i64 ((i : Nat)), nth l 85, nth l 86, nth l 87, nth l 88, nth l 89, nth l 90, nth l 91, nth l 92, nth l 93, nth l 94, nth l 95, nth l 96, nth l 97, nth l 98, nth l 99, nth l 100, nth l 101, nth l 102, nth l 103] ∧ bs = [(eb, polyRow true r0 r1 s0 s1 (finI (lastH r0 r1 s) k).1 (finI (lastH r0 r1 s) k).2.1 (finI (lastH r0 r1 s) k).2.2 s.bl (s.n : Int), 157), (ob, ints .u8 (outN (addLo (finI (lastH r0 r1 s) k).1 s0 0) (addLo (finI (lastH r0 r1 s) k).2.1 s1 (addHi (finI (lastH r0 r1 s) k).1 s0 0)) i), 140)]) 8 ⟨(by first | rfl | (simp only [outN_0]; done) | (simp only [outN_0]; rfl) | (rw [outN_0]; rfl)), (by first | rfl | (simp only [outN_0]; done) | (simp only [outN_0]; rfl) | (rw [outN_0]; rfl))⟩ ?_
      rintro i lfi _ hki ⟨hli, rfl⟩
      refine SP.cast hli ?_
      clear hli
      by_cases hlti : i < 8
      · have hi1 : IntKind.i64.wrap ((i : Int) + 1) = ((i + 1 : Nat) : Int) := by rw [IntWalk.i64_in _ (by omega)]; omega
        have f1 : IntKind.i64.wrap (8 * (i : Int)) = 8 * i := IntWalk.i64_in _ (by omega)
        have f2 : IntKind.i64.wrap (8 + (i : Int)) = ((8 + i : Nat) : Int) := by rw [IntWalk.i64_in _ (by omega)]; omega
        repeat (first | (refine rgn 17 ?_; refine sEv ?_; refine nlx ?_) | (refine rgn 18 ?_; refine sEv ?_; refine sEv ?_; refine nlx ?_) | (refine rgn 19 ?_; (iterate 4 refine sEv ?_); refine SL.sh ?_; refine sEv ?_; refine SL.ixA tabOk ?_; (first | (refine SL.stI tabOk ?_) | (refine SL.stP tabOk ?_ (hsz := by first | (rw [pr_size hs.bl]; omega)) (hA := by first | exact pr_p5 | exact pr_p6 | exact pr_p7 | exact (pr_pn hbl)))); refine nlx ?_) | (refine rgn 20 ?_; (iterate 5 refine sEv ?_); refine SL.sh ?_; refine sEv ?_; refine SL.ixA tabOk ?_; (first | (refine SL.stI tabOk ?_) | (refine SL.stP tabOk ?_ (hsz := by first | (rw [pr_size hs.bl]; omega)) (hA := by first | exact pr_p5 | exact pr_p6 | exact pr_p7 | exact (pr_pn hbl)))); refine nlx ?_) | (refine rgn 21 ?_; refine sEv ?_; refine sEv ?_; refine nlx ?_) | (refine zsq ?_; intro _ _) | (with_reducible refine zkN ?_) | (refine useK (by assumption) ?_) | (with_reducible first | refine zsB ?_ | refine zsS ?_) | ((with_reducible show SP _ _ _ (Code.cond _ _ _) _ _ _); first | (refine SP.condT rfl (by first | rfl | (simp only [decide_eq_true_eq, beq_iff_eq, bne_iff_ne]; omega)) ?_)))
        simp only [hi1]
        exact ⟨hlti, rfl, (by rw [outN_s]; first | rfl | (simp only [f2]; rfl) | simp only [f2])⟩
      · have hendi : i = 8 := by omega
        replace hendi := Lib.hid hendi
        repeat (first | (refine rgn 17 ?_; refine sEv ?_; refine nlx ?_) | (refine rgn 22 ?_; (first | (refine SL.ldR tabOk ?_) | (refine SL.ldP tabOk ?_ (hn := by first | (rw [pr_size hs.bl]; omega)) (hB := by first | exact (pr_xr hbl) | exact (pr_xh hbl)))); (first | (refine SL.stR tabOk ?_) | (refine SL.stQ tabOk ?_ (hsz := by first | (rw [pr_size hs.bl]; omega)) (hA := by first | exact pr_ph))); refine nlx ?_) | (refine zsq ?_; intro _ _) | (with_reducible refine zkN ?_) | (refine useK (by assumption) ?_) | (with_reducible first | refine zsR ?_ | refine zsX ?_) | ((with_reducible show SP _ _ _ (Code.cond _ _ _) _ _ _); first | (refine SP.condF rfl (by first | rfl | (simp only [decide_eq_false_iff_not, beq_eq_false_iff_ne, bne_eq_false_iff_eq]; omega)) ?_)))
        have hq := hendi.out; clear hendi; subst hq
        have hq := hendk.out; clear hendk; subst hq
        refine doneK.mk rfl (ResO.cell tabOk rfl rfl rfl (by first | exact RdA.own g0 | exact RdA.own g1 | exact RdA.own g2 | exact RdA.own g3 | exact RdA.own g4 | exact RdA.own g5 | exact RdA.own g6 | exact RdA.own g7 | exact RdA.own g8 | exact RdA.own g9 | exact RdA.own g10 | exact RdA.own g11 | exact RdA.own g12 | exact RdA.own g13 | exact RdA.own g14 | exact RdA.own g15 | exact RdA.old hb (by simp)) (by rw [ints_size, outN_length])) ?_
        rw [sumS, tagB]
  · have hl : lastH r0 r1 s = (s.h0, s.h1, s.h2) := by unfold lastH; rw [if_neg hn]
    repeat (first | (refine rgn 0 ?_; refine SL.al zero_140 ?_; (first | (have _t := tok_ob; clear _t tok_ob; intro ob) | (have _t := tok_eb; clear _t tok_eb; intro eb) | intro _); refine nlx ?_) | (refine rgn 1 ?_; refine sEv ?_; (first | (refine SL.v (ValO.ptrNil tabOk rfl rfl rfl) ?_) | (refine SL.v (ValO.ptrNilT tabOk rfl rfl rfl) ?_)); refine sEv ?_; (first | (refine SL.gT ?_; refine sEv ?_) | refine SL.gF ?_); (first | (refine SL.gT ?_; refine SL.nc ?_) | refine SL.gF ?_); (first | (refine SL.gT ?_; refine sEv ?_) | refine SL.gF ?_); (first | (refine SL.gT ?_; (first | (refine SL.ldI tabOk ?_) | (refine SL.ldC tabOk ?_ (hv := by first | exact pr_g0 | exact pr_g5 | exact pr_g6 | exact pr_g7 | exact pr_g3 | exact pr_g4 | exact (pr_gn hs.bl))))) | refine SL.gF ?_); (first | (refine SL.gT ?_; refine sEv ?_) | refine SL.gF ?_); refine sEv ?_; refine nlx ?_) | (refine rgn 3 ?_; refine sEv ?_; refine SL.nc ?_; refine SL.val (ValO.ldRow tabOk _ rfl _ _ rfl rfl _ (RdA.old hb (by simp)) (pr_size hs.bl)) bpp ?_; refine SL.al zero_157 ?_; (first | (have _t := tok_ob; clear _t tok_ob; intro ob) | (have _t := tok_eb; clear _t tok_eb; intro eb) | intro _); refine SL.storeRow tabOk rfl rfl rfl (gbk _) (pr_size hs.bl) rfl pr_cells stt bpp ?_; refine nlx ?_) | (refine rgn 4 ?_; refine sEv ?_; (first | (refine SL.ldI tabOk ?_) | (refine SL.ldC tabOk ?_ (hv := by first | exact pr_g0 | exact pr_g5 | exact pr_g6 | exact pr_g7 | exact pr_g3 | exact pr_g4 | exact (pr_gn hs.bl)))); refine sEv ?_; refine nlx ?_) | (refine rgn 6 ?_; refine sEv ?_; refine nlx ?_) | (refine zsq ?_; intro _ _) | (with_reducible refine zkN ?_) | (refine useK (by assumption) ?_) | (with_reducible first | refine zsB ?_ | refine zsS ?_) | ((with_reducible show SP _ _ _ (Code.cond _ _ _) _ _ _); first | (refine SP.condF rfl (by first | rfl | (simp only [decide_eq_false_iff_not, beq_eq_false_iff_ne, bne_eq_false_iff_eq]; omega)) ?_)))
    refine SP.loopN (fun k l bs => l = [nth l 0, nth l 1, .pointer (some ⟨ob, 0, none⟩), .pointer (some ⟨eb, 0, none⟩), nth l 4, nth l 5, nth l 6, nth l 7, nth l 8, nth l 9, nth l 10, nth l 11, nth l 12, nth l 13, nth l 14, nth l 15, nth l 16, nth l 17, nth l 18, nth l 19, nth l 20, nth l 21, nth l 22, nth l 23, nth l 24, nth l 25, nth l 26, nth l 27, nth l 28, nth l 29, nth l 30, nth l 31, .int .i64 ((k : Nat)), nth l 33, nth l 34, nth l 35, nth l 36, nth l 37, nth l 38, nth l 39, nth l 40, nth l 41, nth l 42, nth l 43, nth l 44, nth l 45, nth l 46, nth l 47, nth l 48, nth l 49, nth l 50, nth l 51, nth l 52, nth l 53, nth l 54, nth l 55, nth l 56, nth l 57, nth l 58, nth l 59, nth l 60, nth l 61, nth l 62, nth l 63, nth l 64, nth l 65, nth l 66, nth l 67, nth l 68, nth l 69, nth l 70, nth l 71, nth l 72, nth l 73, nth l 74, nth l 75, nth l 76, nth l 77, nth l 78, nth l 79, nth l 80, nth l 81, nth l 82, nth l 83, nth l 84, nth l 85, nth l 86, nth l 87, nth l 88, nth l 89, nth l 90, nth l 91, nth l 92, nth l 93, nth l 94, nth l 95, nth l 96, nth l 97, nth l 98, nth l 99, nth l 100, nth l 101, nth l 102, nth l 103] ∧ bs = [(eb, polyRow true r0 r1 s0 s1 (finI (lastH r0 r1 s) k).1 (finI (lastH r0 r1 s) k).2.1 (finI (lastH r0 r1 s) k).2.2 s.bl (s.n : Int), 157), (ob, ints .u8 (List.replicate 16 0), 140)]) 2 ⟨rfl, (by rw [finI_0, hl])⟩ ?_
    rintro k lfk _ hkk ⟨hlk, rfl⟩
    refine SP.cast hlk ?_
    clear hlk
    by_cases hltk : k < 2
    · have hk1 : IntKind.i64.wrap ((k : Int) + 1) = ((k + 1 : Nat) : Int) := by rw [IntWalk.i64_in _ (by omega)]; omega
      have hf := finI_ok (lastH_ok hs (r0 := r0) (r1 := r1)) k
      have c1 : Bit (addHi (finI (lastH r0 r1 s) k).1 5 0) := Bit.addHi hf.w0 w64_5 Bit.zero
      have c2 : Bit (addHi (finI (lastH r0 r1 s) k).2.1 0 (addHi (finI (lastH r0 r1 s) k).1 5 0)) := Bit.addHi hf.w1 w64_0 c1
      have f2 : True := trivial
      by_cases htop : IntKind.u64.wrap ((finI (lastH r0 r1 s) k).2.2 + addHi (finI (lastH r0 r1 s) k).2.1 0 (addHi (finI (lastH r0 r1 s) k).1 5 0)) ≥ 4
      · repeat (first | (refine rgn 7 ?_; refine sEv ?_; refine nlx ?_) | (refine rgn 8 ?_; refine sEv ?_; refine sEv ?_; (first | (refine SL.ldI tabOk ?_) | (refine SL.ldC tabOk ?_ (hv := by first | exact pr_g0 | exact pr_g5 | exact pr_g6 | exact pr_g7 | exact pr_g3 | exact pr_g4 | exact (pr_gn hs.bl)))); refine SL.v (ValO.ext _ rfl _ (fun w => add64_run _ _ _ (by first | assumption | exact w64_0 | exact w64_5 | exact hf.w0 | exact hf.w1 | exact hf.w2) (by first | assumption | exact w64_0 | exact w64_5 | exact hf.w0 | exact hf.w1 | exact hf.w2) (by first | exact Bit.zero | assumption) w)) ?_; (iterate 5 refine sEv ?_); refine nlx ?_) | (refine rgn 9 ?_; refine sEv ?_; refine sEv ?_; (first | (refine SL.ldI tabOk ?_) | (refine SL.ldC tabOk ?_ (hv := by first | exact pr_g0 | exact pr_g5 | exact pr_g6 | exact pr_g7 | exact pr_g3 | exact pr_g4 | exact (pr_gn hs.bl)))); refine sEv ?_; refine SL.v (ValO.ext _ rfl _ (fun w => add64_run _ _ _ (by first | assumption | exact w64_0 | exact w64_5 | exact hf.w0 | exact hf.w1 | exact hf.w2) (by first | assumption | exact w64_0 | exact w64_5 | exact hf.w0 | exact hf.w1 | exact hf.w2) (by first | exact Bit.zero | assumption) w)) ?_; (iterate 5 refine sEv ?_); refine nlx ?_) | (refine rgn 10 ?_; refine sEv ?_; refine sEv ?_; (first | (refine SL.ldI tabOk ?_) | (refine SL.ldC tabOk ?_ (hv := by first | exact pr_g0 | exact pr_g5 | exact pr_g6 | exact pr_g7 | exact pr_g3 | exact pr_g4 | exact (pr_gn hs.bl)))); (iterate 3 refine sEv ?_); refine nlx ?_) | (refine rgn 11 ?_; refine sEv ?_; refine sEv ?_; refine nlx ?_) | (refine rgn 12 ?_; (iterate 4 refine sEv ?_); refine SL.val (ValO.build (by first | (dsimp only [List.map, evL, nth]; done) | (dsimp only [List.map, evL, nth]; rfl)) (bld3 _ _ _)) bpp ?_; refine sEv ?_; (first | (refine SL.stR tabOk ?_) | (refine SL.stQ tabOk ?_ (hsz := by first | (rw [pr_size hs.bl]; omega)) (hA := by first | exact pr_ph))); refine nlx ?_) | (refine rgn 13 ?_; refine sEv ?_; refine sEv ?_; refine nlx ?_) | (refine zsq ?_; intro _ _) | (with_reducible refine zkN ?_) | (refine useK (by assumption) ?_) | (with_reducible first | refine zsB ?_ | refine zsS ?_) | ((with_reducible show SP _ _ _ (Code.cond _ _ _) _ _ _); first | (refine SP.condT rfl (by first | rfl | (simp only [decide_eq_true_eq, beq_iff_eq, bne_iff_ne]; omega)) ?_)))
        simp only [hk1]
        exact ⟨hltk, rfl, (by rw [finI_s, Sp.fin, if_pos htop])⟩
      · repeat (first | (refine rgn 7 ?_; refine sEv ?_; refine nlx ?_) | (refine rgn 8 ?_; refine sEv ?_; refine sEv ?_; (first | (refine SL.ldI tabOk ?_) | (refine SL.ldC tabOk ?_ (hv := by first | exact pr_g0 | exact pr_g5 | exact pr_g6 | exact pr_g7 | exact pr_g3 | exact pr_g4 | exact (pr_gn hs.bl)))); refine SL.v (ValO.ext _ rfl _ (fun w => add64_run _ _ _ (by first | assumption | exact w64_0 | exact w64_5 | exact hf.w0 | exact hf.w1 | exact hf.w2) (by first | assumption | exact w64_0 | exact w64_5 | exact hf.w0 | exact hf.w1 | exact hf.w2) (by first | exact Bit.zero | assumption) w)) ?_; (iterate 5 refine sEv ?_); refine nlx ?_) | (refine rgn 9 ?_; refine sEv ?_; refine sEv ?_; (first | (refine SL.ldI tabOk ?_) | (refine SL.ldC tabOk ?_ (hv := by first | exact pr_g0 | exact pr_g5 | exact pr_g6 | exact pr_g7 | exact pr_g3 | exact pr_g4 | exact (pr_gn hs.bl)))); refine sEv ?_; refine SL.v (ValO.ext _ rfl _ (fun w => add64_run _ _ _ (by first | assumption | exact w64_0 | exact w64_5 | exact hf.w0 | exact hf.w1 | exact hf.w2) (by first | assumption | exact w64_0 | exact w64_5 | exact hf.w0 | exact hf.w1 | exact hf.w2) (by first | exact Bit.zero | assumption) w)) ?_; (iterate 5 refine sEv ?_); refine nlx ?_) | (refine rgn 10 ?_; refine sEv ?_; refine sEv ?_; (first | (refine SL.ldI tabOk ?_) | (refine SL.ldC tabOk ?_ (hv := by first | exact pr_g0 | exact pr_g5 | exact pr_g6 | exact pr_g7 | exact pr_g3 | exact pr_g4 | exact (pr_gn hs.bl)))); (iterate 3 refine sEv ?_); refine nlx ?_) | (refine rgn 11 ?_; refine sEv ?_; refine sEv ?_; refine nlx ?_) | (refine rgn 13 ?_; refine sEv ?_; refine sEv ?_; refine nlx ?_) | (refine zsq ?_; intro _ _) | (with_reducible refine zkN ?_) | (refine useK (by assumption) ?_) | (with_reducible first | refine zsB ?_ | refine zsS ?_) | ((with_reducible show SP _ _ _ (Code.cond _ _ _) _ _ _); first | (refine SP.condT rfl (by first | rfl | (simp only [decide_eq_true_eq, beq_iff_eq, bne_iff_ne]; omega)) ?_) | (refine SP.condF rfl (by first | rfl | (simp only [decide_eq_false_iff_not, beq_eq_false_iff_ne, bne_eq_false_iff_eq]; omega)) ?_)))
        simp only [hk1]
        exact ⟨hltk, rfl, (by rw [finI_s, Sp.fin, if_neg htop])⟩
    · have hendk : k = 2 := by omega
      replace hendk := Lib.hid hendk
      have hf := finI_ok (lastH_ok hs (r0 := r0) (r1 := r1)) k
      have c1 : Bit (addHi (finI (lastH r0 r1 s) k).1 s0 0) := Bit.addHi hf.w0 hs0 Bit.zero
      have c2 : Bit (addHi (finI (lastH r0 r1 s) k).2.1 s1 (addHi (finI (lastH r0 r1 s) k).1 s0 0)) := Bit.addHi hf.w1 hs1 c1
      have f2 : True := trivial
      repeat (first | (refine rgn 7 ?_; refine sEv ?_; refine nlx ?_) | (refine rgn 14 ?_; refine sEv ?_; refine sEv ?_; (first | (refine SL.ldI tabOk ?_) | (refine SL.ldC tabOk ?_ (hv := by first | exact pr_g0 | exact pr_g5 | exact pr_g6 | exact pr_g7 | exact pr_g3 | exact pr_g4 | exact (pr_gn hs.bl)))); refine sEv ?_; refine sEv ?_; (first | (refine SL.ldI tabOk ?_) | (refine SL.ldC tabOk ?_ (hv := by first | exact pr_g0 | exact pr_g5 | exact pr_g6 | exact pr_g7 | exact pr_g3 | exact pr_g4 | exact (pr_gn hs.bl)))); refine SL.v (ValO.ext _ rfl _ (fun w => add64_run _ _ _ (by first | assumption | exact w64_0 | exact w64_5 | exact hf.w0 | exact hf.w1 | exact hf.w2) (by first | assumption | exact w64_0 | exact w64_5 | exact hf.w0 | exact hf.w1 | exact hf.w2) (by first | exact Bit.zero | assumption) w)) ?_; (iterate 5 refine sEv ?_); refine nlx ?_) | (refine rgn 15 ?_; refine sEv ?_; refine sEv ?_; (first | (refine SL.ldI tabOk ?_) | (refine SL.ldC tabOk ?_ (hv := by first | exact pr_g0 | exact pr_g5 | exact pr_g6 | exact pr_g7 | exact pr_g3 | exact pr_g4 | exact (pr_gn hs.bl)))); refine sEv ?_; refine sEv ?_; (first | (refine SL.ldI tabOk ?_) | (refine SL.ldC tabOk ?_ (hv := by first | exact pr_g0 | exact pr_g5 | exact pr_g6 | exact pr_g7 | exact pr_g3 | exact pr_g4 | exact (pr_gn hs.bl)))); refine sEv ?_; refine SL.v (ValO.ext _ rfl _ (fun w => add64_run _ _ _ (by first | assumption | exact w64_0 | exact w64_5 | exact hf.w0 | exact hf.w1 | exact hf.w2) (by first | assumption | exact w64_0 | exact w64_5 | exact hf.w0 | exact hf.w1 | exact hf.w2) (by first | exact Bit.zero | assumption) w)) ?_; (iterate 5 refine sEv ?_); refine nlx ?_) | (refine rgn 16 ?_; refine sEv ?_; refine nlx ?_) | (refine zsq ?_; intro _ _) | (with_reducible refine zkN ?_) | (refine useK (by assumption) ?_) | (with_reducible first | refine zsB ?_ | refine zsX ?_) | ((with_reducible show SP _ _ _ (Code.cond _ _ _) _ _ _); first | (refine SP.condF rfl (by first | rfl | (simp only [decide_eq_false_iff_not, beq_eq_false_iff_ne, bne_eq_false_iff_eq]; omega)) ?_)))
      clear f2
      refine SP.loopN (fun i l bs => l = [nth l 0, nth l 1, .pointer (some ⟨ob, 0, none⟩), nth l 3, nth l 4, nth l 5, nth l 6, nth l 7, .int .u64 (addLo (finI (lastH r0 r1 s) k).1 s0 0), nth l 9, .int .u64 (addLo (finI (lastH r0 r1 s) k).2.1 s1 (addHi (finI (lastH r0 r1 s) k).1 s0 0)), nth l 11, nth l 12, nth l 13, nth l 14, nth l 15, nth l 16, nth l 17, nth l 18, nth l 19, nth l 20, nth l 21, nth l 22, nth l 23, nth l 24, nth l 25, nth l 26, nth l 27, nth l 28, nth l 29, nth l 30, nth l 31, nth l 32, nth l 33, nth l 34, nth l 35, nth l 36, nth l 37, nth l 38, nth l 39, nth l 40, nth l 41, nth l 42, nth l 43, nth l 44, nth l 45, nth l 46, nth l 47, nth l 48, nth l 49, nth l 50, nth l 51, nth l 52, nth l 53, nth l 54, nth l 55, nth l 56, nth l 57, nth l 58, nth l 59, nth l 60, nth l 61, nth l 62, nth l 63, nth l 64, nth l 65, nth l 66, nth l 67, nth l 68, nth l 69, nth l 70, nth l 71, nth l 72, nth l 73, nth l 74, nth l 75, nth l 76, nth l 77, nth l 78, nth l 79, nth l 80, nth l 81, nth l 82, nth l 83, .int .i64 ((i : Nat)), nth l 85, nth l 86, nth l 87, nth l 88, nth l 89, nth l 90, nth l 91, nth l 92, nth l 93, nth l 94, nth l 95, nth l 96, nth l 97, nth l 98, nth l 99, nth l 100, nth l 101, nth l 102, nth l 103] ∧ bs = [(eb, polyRow true r0 r1 s0 s1 (finI (lastH r0 r1 s) k).1 (finI (lastH r0 r1 s) k).2.1 (finI (lastH r0 r1 s) k).2.2 s.bl (s.n : Int), 157), (ob, ints .u8 (outN (addLo (finI (lastH r0 r1 s) k).1 s0 0) (addLo (finI (lastH r0 r1 s) k).2.1 s1 (addHi (finI (lastH r0 r1 s) k).1 s0 0)) i), 140)]) 8 ⟨(by first | rfl | (simp only [outN_0]; done) | (simp only [outN_0]; rfl) | (rw [outN_0]; rfl)), (by first | rfl | (simp only [outN_0]; done) | (simp only [outN_0]; rfl) | (rw [outN_0]; rfl))⟩ ?_
      rintro i lfi _ hki ⟨hli, rfl⟩
      refine SP.cast hli ?_
      clear hli
      by_cases hlti : i < 8
      · have hi1 : IntKind.i64.wrap ((i : Int) + 1) = ((i + 1 : Nat) : Int) := by rw [IntWalk.i64_in _ (by omega)]; omega
        have f1 : IntKind.i64.wrap (8 * (i : Int)) = 8 * i := IntWalk.i64_in _ (by omega)
        have f2 : IntKind.i64.wrap (8 + (i : Int)) = ((8 + i : Nat) : Int) := by rw [IntWalk.i64_in _ (by omega)]; omega
        repeat (first | (refine rgn 17 ?_; refine sEv ?_; refine nlx ?_) | (refine rgn 18 ?_; refine sEv ?_; refine sEv ?_; refine nlx ?_) | (refine rgn 19 ?_; (iterate 4 refine sEv ?_); refine SL.sh ?_; refine sEv ?_; refine SL.ixA tabOk ?_; (first | (refine SL.stI tabOk ?_) | (refine SL.stP tabOk ?_ (hsz := by first | (rw [pr_size hs.bl]; omega)) (hA := by first | exact pr_p5 | exact pr_p6 | exact pr_p7 | exact (pr_pn hbl)))); refine nlx ?_) | (refine rgn 20 ?_; (iterate 5 refine sEv ?_); refine SL.sh ?_; refine sEv ?_; refine SL.ixA tabOk ?_; (first | (refine SL.stI tabOk ?_) | (refine SL.stP tabOk ?_ (hsz := by first | (rw [pr_size hs.bl]; omega)) (hA := by first | exact pr_p5 | exact pr_p6 | exact pr_p7 | exact (pr_pn hbl)))); refine nlx ?_) | (refine rgn 21 ?_; refine sEv ?_; refine sEv ?_; refine nlx ?_) | (refine zsq ?_; intro _ _) | (with_reducible refine zkN ?_) | (refine useK (by assumption) ?_) | (with_reducible first | refine zsB ?_ | refine zsS ?_) | ((with_reducible show SP _ _ _ (Code.cond _ _ _) _ _ _); first | (refine SP.condT rfl (by first | rfl | (simp only [decide_eq_true_eq, beq_iff_eq, bne_iff_ne]; omega)) ?_)))
        simp only [hi1]
        exact ⟨hlti, rfl, (by rw [outN_s]; first | rfl | (simp only [f2]; rfl) | simp only [f2])⟩
      · have hendi : i = 8 := by omega
        replace hendi := Lib.hid hendi
        repeat (first | (refine rgn 17 ?_; refine sEv ?_; refine nlx ?_) | (refine rgn 22 ?_; (first | (refine SL.ldR tabOk ?_) | (refine SL.ldP tabOk ?_ (hn := by first | (rw [pr_size hs.bl]; omega)) (hB := by first | exact (pr_xr hbl) | exact (pr_xh hbl)))); (first | (refine SL.stR tabOk ?_) | (refine SL.stQ tabOk ?_ (hsz := by first | (rw [pr_size hs.bl]; omega)) (hA := by first | exact pr_ph))); refine nlx ?_) | (refine zsq ?_; intro _ _) | (with_reducible refine zkN ?_) | (refine useK (by assumption) ?_) | (with_reducible first | refine zsR ?_ | refine zsX ?_) | ((with_reducible show SP _ _ _ (Code.cond _ _ _) _ _ _); first | (refine SP.condF rfl (by first | rfl | (simp only [decide_eq_false_iff_not, beq_eq_false_iff_ne, bne_eq_false_iff_eq]; omega)) ?_)))
        have hq := hendi.out; clear hendi; subst hq
        have hq := hendk.out; clear hendk; subst hq
        refine doneK.mk rfl (ResO.cell tabOk rfl rfl rfl (by first | exact RdA.own g0 | exact RdA.own g1 | exact RdA.own g2 | exact RdA.own g3 | exact RdA.own g4 | exact RdA.own g5 | exact RdA.own g6 | exact RdA.own g7 | exact RdA.own g8 | exact RdA.own g9 | exact RdA.own g10 | exact RdA.own g11 | exact RdA.own g12 | exact RdA.own g13 | exact RdA.own g14 | exact RdA.own g15 | exact RdA.old hb (by simp)) (by rw [ints_size, outN_length])) ?_
        rw [sumS, tagB]
end Sp
end
section
open Go Go.RowKit
namespace Sp
open F
theorem zero_u8 : (Try.prog.info? 5).map (·.zero) = some (some (.int .u8 0)) := by kernel_rfl
theorem rsame_any_ext {A B : List Int} (h : A.length = B.length) (hg : ∀ j, j < A.length → gi A j = gi B j) : A = B := by
  apply List.ext_getElem? ; intro i
  by_cases hi : i < A.length
  · have := hg i hi
    simp [gi, hi, show i < B.length by omega] at this
    simp [hi, show i < B.length by omega, this]
  · rw [List.getElem?_eq_none (by omega), List.getElem?_eq_none (by omega)]
theorem eqb_any_ext {A B : List Int} (h : A.length = B.length) (hg : ∀ j, j < A.length → gi A j = gi B j) : A = B := by
  apply List.ext_getElem? ; intro i
  by_cases hi : i < A.length
  · have := hg i hi
    simp [gi, hi, show i < B.length by omega] at this
    simp [hi, show i < B.length by omega, this]
  · rw [List.getElem?_eq_none (by omega), List.getElem?_eq_none (by omega)]
def smI' (A B : List Int) : Nat → Int
  | 0 => 0
  | i + 1 => bits .or .u8 (smI' A B i) (bits .xor .u8 (gi A i) (gi B i))
@[irreducible] def smI (A B : List Int) (i : Nat) : Int := smI' A B i
theorem smI_0 (A B : List Int) : smI A B 0 = 0 := by unfold smI; rfl
theorem smI_s (A B : List Int) (i : Nat) : smI A B (i + 1) = bits .or .u8 (smI A B i) (bits .xor .u8 (gi A i) (gi B i)) := by unfold smI; rfl
set_option maxRecDepth 20000 in
theorem psame_any (p q : Option Addr) (n m c d : Nat) (A B : List Int) (w : World) (hA : Sl w p n c A) (hB : Sl w q m d B) (hmax : n ≤ 140737488355328) : Calls Try.prog 89 #[.slice p n c, .slice q m d] w fun e w' => e = .returned (.bool (decide (n = m) && (smI A B n == 0))) ∧ Below w.heap.size w w' := by
  have hlA := hA.len
  have hlB := hB.len
  have hcA := hA.cap
  have hcB := hB.cap
  refine pureE Try.func89 Try.ntmps89 Try.results89 ?_
  by_cases hnm : n = m
  · subst hnm
    rw [decide_eq_true rfl, Bool.true_and]
    repeat (first | (refine rgn 0 ?_; refine sEv ?_; refine nlx ?_) | (refine rgn 1 ?_; refine sEv ?_; refine SL.v (ValO.len tabOk (by rfl)) ?_; refine sEv ?_; refine SL.v (ValO.len tabOk (by rfl)) ?_; refine sEv ?_; refine nlx ?_) | (refine rgn 3 ?_; refine sEv ?_; refine nlx ?_) | (refine rgn 4 ?_; refine sEv ?_; refine SL.v (ValO.len tabOk (by rfl)) ?_; refine sEv ?_; refine nlx ?_) | (refine zsq ?_; intro _ _) | (with_reducible refine zkN ?_) | (refine useK (by assumption) ?_) | (with_reducible first | refine zsB ?_ | refine zkX ?_ | refine zkR ?_ | refine zbN ?_ | refine zbR ?_ | refine zbE ?_ | refine zbX ?_ | refine zsS ?_ | refine zsR ?_ | refine zsX ?_) | (refine cdT ?_) | (refine cdF ?_))
    refine SP.loopN (fun k l bs => l = [.slice p n c, .slice q n d, nth l 2, nth l 3, nth l 4, .int .u8 (smI A B k), nth l 6, nth l 7, nth l 8, nth l 9, nth l 10, nth l 11, nth l 12, .int .i64 (n : Nat), .int .i64 (k : Nat), nth l 15, nth l 16, nth l 17, nth l 18, nth l 19, nth l 20, nth l 21, nth l 22, nth l 23, nth l 24, nth l 25, nth l 26, nth l 27, nth l 28, nth l 29, nth l 30] ∧ bs = []) n ⟨(by first | rfl | (simp only [smI_0]; done) | (simp only [smI_0]; rfl) | (rw [smI_0]; rfl)), (by first | rfl | (simp only [smI_0]; done) | (simp only [smI_0]; rfl) | (rw [smI_0]; rfl))⟩ ?_
    rintro k lfk _ hkk ⟨hlk, rfl⟩
    refine SP.cast hlk ?_
    clear hlk
    by_cases hltk : k < n
    · have hk1 : IntKind.i64.wrap ((k : Int) + 1) = ((k + 1 : Nat) : Int) := by rw [IntWalk.i64_in _ (by omega)]; omega
      obtain ⟨s1, o1, A1, T1, z1, rfl, hs1, hLA⟩ := hA.at_ (by omega)
      obtain ⟨s2, o2, A2, T2, z2, rfl, hs2, hLB⟩ := hB.at_ (by omega)
      repeat (first | (refine rgn 5 ?_; refine sEv ?_; refine nlx ?_) | (refine rgn 6 ?_; refine sEv ?_; refine sEv ?_; refine nlx ?_) | (refine rgn 8 ?_; refine sEv ?_; refine sEv ?_; refine nlx ?_) | ((with_reducible show SP _ _ _ (Code.region _ _ true) _ _ _); first | (refine SPa (id := 7) [] [] ([]) [0, 1, 2, 3, 4, 5, 6, 7, 8, 9, 10, 11] follows ?_; (iterate 3 refine fPv ?_); refine SF.ixS tabOk ?_; (first | (refine SF.ldI tabOk ?_) | (refine SF.ldC tabOk ?_ (hv := by first | exact (hLA _ (by omega)) | exact (hLB _ (by omega))))); refine fPv ?_; refine fPv ?_; refine SF.ixS tabOk ?_; (first | (refine SF.ldI tabOk ?_) | (refine SF.ldC tabOk ?_ (hv := by first | exact (hLA _ (by omega)) | exact (hLB _ (by omega))))); refine SF.e tabOk ?_; refine SF.e tabOk ?_; refine fPv ?_; refine SF.done ?_)) | (refine zsq ?_; intro _ _) | (with_reducible refine zkN ?_) | (refine useK (by assumption) ?_) | (with_reducible first | refine zsB ?_ | refine zkX ?_ | refine zkR ?_ | refine zbN ?_ | refine zbR ?_ | refine zbE ?_ | refine zbX ?_ | refine zsS ?_ | refine zsR ?_ | refine zsX ?_) | (refine cdT ?_) | (refine cdF ?_))
      simp only [hk1]
      exact ⟨hltk, (by first | rfl | (simp only [smI_s]; done) | (simp only [smI_s]; rfl) | (rw [smI_s]; rfl)), (by first | rfl | (simp only [smI_s]; done) | (simp only [smI_s]; rfl) | (rw [smI_s]; rfl))⟩
    · have hendk : k = n := by omega
      replace hendk := Lib.hid hendk
      repeat (first | (refine rgn 5 ?_; refine sEv ?_; refine nlx ?_) | (refine rgn 9 ?_; (iterate 3 refine sEv ?_); refine nlx ?_) | (refine zsq ?_; intro _ _) | (with_reducible refine zkN ?_) | (refine useK (by assumption) ?_) | (with_reducible first | refine zsB ?_ | refine zkX ?_ | refine zkR ?_ | refine zbN ?_ | refine zbR ?_ | refine zbE ?_ | refine zbX ?_ | refine zsS ?_ | refine zsR ?_ | refine zsX ?_) | (refine cdT ?_) | (refine cdF ?_))
      have hq := hendk.out; clear hendk; subst hq
      exact doneK.mk rfl (ResO.tmp rfl) rfl
  · repeat (first | (refine rgn 0 ?_; refine sEv ?_; refine nlx ?_) | (refine rgn 1 ?_; refine sEv ?_; refine SL.v (ValO.len tabOk (by rfl)) ?_; refine sEv ?_; refine SL.v (ValO.len tabOk (by rfl)) ?_; refine sEv ?_; refine nlx ?_) | (refine rgn 2 ?_; refine sEv ?_; refine nlx ?_) | (refine zsq ?_; intro _ _) | (with_reducible refine zkN ?_) | (refine useK (by assumption) ?_) | (with_reducible first | refine zsB ?_ | refine zkX ?_ | refine zkR ?_ | refine zbN ?_ | refine zbR ?_ | refine zbE ?_ | refine zbX ?_ | refine zsS ?_ | refine zsR ?_ | refine zsX ?_) | (refine cdT ?_) | (refine cdF ?_))
    rw [decide_eq_false hnm, Bool.false_and]
    exact doneK.mk rfl (ResO.tmp rfl) rfl
end Sp
end
end Go.Proofs.Ytdjecenggngdjaa
