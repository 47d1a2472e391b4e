/-
  Joined texts: Fn, BlA, HRow. No conditions.
-/
import Derived.Test.YtdjecenggngdjaaGac
import Derived.Test.YtdjecenggngdjaaGae
import Derived.Test.YtdjecenggngdjaaGaf
import Derived.Test.YtdjecenggngdjaaGao
namespace Go.Proofs.Ytdjecenggngdjaa
set_option linter.unusedSimpArgs false
set_option linter.unusedVariables false
set_option maxHeartbeats 16000000
set_option maxRecDepth 20000
section
open Go Go.RowKit
namespace Sp
open M
variable {P : Program} {w0 : World} {mu : List Nat} {bs : Mem} {l l' : List Value} {ops : Array Oper} {rest : List Oper} {Q : ExitP} {dst : Option Tmp} {ty : TypeId} {pos : String} {af : Array Edge} {gd : Option (Nat × Bool)}
theorem run_call_clo {a : Act} {w : World} {x : Operand} {f : FuncId} {F C A : Array Value} {args : Array Operand} {ats : Array TypeId} (hx : a.eval x = .func (.func f) F C) (hA : F ++ args.map a.eval ++ C = A) :
    (execOp a.eval ⟨dst, .call { callee := .value x, args, argTypes := ats }, ty, pos, af, gd⟩).run P w = (callFunc f A).run P w := by
  subst hA
  unfold execOp
  simp [resolve, Deferred.ofValue, invoke, hx]
theorem ValO.mkf {f : FuncId} {first captured : List Operand} (F C : List Value) (hF : first.map (evL l) = F := by rfl) (hC : captured.map (evL l) = C := by rfl) :
    ValO P w0 mu bs l ⟨dst, .makeFunc (.func f) first.toArray captured.toArray, ty, pos, af, gd⟩ (.func (.func f) F.toArray C.toArray) := by
  subst hF hC
  refine ⟨M.growAt_pure fun w => ?_⟩
  unfold execOp
  simp [Instr.makeFunc, evL_eq]
theorem SL.callGC {x : Operand} {f : FuncId} {F C : List Value} {args : List Operand} {ats : Array TypeId} (hx : evL l x = .func (.func f) F.toArray C.toArray) (hent : ∀ (A : Array Value) (w : World), (callFunc f A).run P w = .ok (.enter f A) w)
    {vals : List Value} (hv : F ++ args.map (evL l) ++ C = vals) {R : Value → Mem → Prop} (hc : ∀ w, OwnM w0 mu w bs → Calls P f vals.toArray w fun e w' => ∃ v bs', e = .returned v ∧ R v bs' ∧ OwnM w0 mu w' bs')
    (h : ∀ v bs', R v bs' → SL P ops w0 mu rest Q (putL l dst v) bs') : SL P ops w0 mu (⟨dst, .call { callee := .value x, args := args.toArray, argTypes := ats }, ty, pos, af, none⟩ :: rest) Q l bs := by
  refine ⟨fun W Q' hw hA => ?_⟩
  refine wpList_plain rfl fun K hK => ?_
  unfold Oper.wp
  rw [run_call_clo (f := f) (A := vals.toArray) (by rw [evL_eq]; exact hx) (by rw [args_map, ← hv]; simp), hent]
  simp only [Oper.upon]
  refine (hc W hw).mono ?_
  rintro e w' ⟨v, bs', rfl, hR, hw'⟩
  exact hK _ _ (by rw [putL_eq]; exact (h v bs' hR).run _ _ hw' hA)
theorem SL.fv1 {x : Operand} {f : FuncId} {F C : List Value} {args : List Operand} {ats : Array TypeId} (hent : ∀ (A : Array Value) (w : World), (callFunc f A).run P w = .ok (.enter f A) w) (hx : evL l x = .func (.func f) F.toArray C.toArray)
    {vals : List Value} (hv : F ++ args.map (evL l) ++ C = vals) {v : Value} {i b : Nat} {A A' : Array Value} {T : TypeId} (hi : bs[i]? = some (b, A, T))
    (hc : ∀ w, OwnM w0 mu w bs → Calls P f vals.toArray w fun e w' => e = .returned v ∧ OwnM w [b] w' [(b, A', T)])
    {bs' : Mem} (hbs : bs.set i (b, A', T) = bs') (hp : putL l dst v = l') (h : SL P ops w0 mu rest Q l' bs') : SL P ops w0 mu (⟨dst, .call { callee := .value x, args := args.toArray, argTypes := ats }, ty, pos, af, none⟩ :: rest) Q l bs := by
  subst hp hbs
  refine SL.callGC hx hent hv (R := fun v' bs' => v' = v ∧ bs' = bs.set i (b, A', T)) (fun w hw => (hc w hw).mono ?_) (by rintro v' bs' ⟨rfl, rfl⟩; exact h)
  rintro e w' ⟨rfl, hw'⟩
  exact ⟨_, _, rfl, ⟨rfl, rfl⟩, hw.call1 hi hw'⟩
end Sp
end
section
open Go Go.RowKit
namespace Sp
open F M
@[irreducible] def blS : List Int := [1779033703, 3144134277, 1013904242, 2773480762, 1359893119, 2600822924, 528734635, 1541459225]
theorem blS_length : blS.length = 8 := by unfold blS; rfl
attribute [simp] blS_length
theorem blS_b : Try.prog.built 116 [(0, .int .u32 1779033703), (1, .int .u32 3144134277), (2, .int .u32 1013904242), (3, .int .u32 2773480762), (4, .int .u32 1359893119), (5, .int .u32 2600822924), (6, .int .u32 528734635), (7, .int .u32 1541459225)] = some (ints .u32 (blS)) := by unfold blS; kernel_rfl
theorem blS_any (w : World) : Calls Try.prog 71 #[] w fun e w' => e = .returned (.agg (ints .u32 blS)) ∧ Below w.heap.size w w' := by
  have tok_ob : True := trivial
  refine pureE Try.func71 Try.ntmps71 Try.results71 ?_
  repeat (first | (refine rgn 0 ?_; refine SL.al zero_116 ?_; (first | (have _t := tok_ob; clear _t tok_ob; intro ob) | intro _); refine nlx ?_) | (refine rgn 1 ?_; refine SL.v (ValO.build (by first | (dsimp only [List.map, evL, nth]; done) | (dsimp only [List.map, evL, nth]; rfl)) blS_b) ?_; refine SL.stR tabOk ?_; refine nlx ?_) | (refine zsq ?_; intro _ _) | (with_reducible refine zkN ?_) | (refine useK (by assumption) ?_) | (with_reducible first | refine zsB ?_ | refine zkX ?_ | refine zkR ?_ | refine zbN ?_ | refine zbR ?_ | refine zbE ?_ | refine zbX ?_ | refine zsS ?_ | refine zsR ?_ | refine zsX ?_) | (refine cdT ?_) | (refine cdF ?_))
  refine doneK.mk rfl (ResO.cell tabOk rfl rfl rfl (by first | exact RdA.own g0 | exact RdA.own g1 | exact RdA.own g2 | exact RdA.own g3 | exact RdA.own g4 | exact RdA.own g5 | exact RdA.own g6 | exact RdA.own g7 | exact RdA.own g8 | exact RdA.own g9 | exact RdA.own g10 | exact RdA.own g11 | exact RdA.own g12 | exact RdA.own g13 | exact RdA.own g14 | exact RdA.own g15) (by first | (simp [ints_size]; done) | (simp [ints_size]; omega))) rfl
@[irreducible] def blO : List Int := [18364758544493064720, 3853709921291437230, 5266788149650328715, 10305543691612001175, 15242093322790139145, 10515720223929181890, 13270197634454188380, 11702690517083809725, 6503616966983130870, 991893350865389610]
theorem blO_length : blO.length = 10 := by unfold blO; rfl
attribute [simp] blO_length
theorem blO_b : Try.prog.built 131 [(0, .int .u64 18364758544493064720), (1, .int .u64 3853709921291437230), (2, .int .u64 5266788149650328715), (3, .int .u64 10305543691612001175), (4, .int .u64 15242093322790139145), (5, .int .u64 10515720223929181890), (6, .int .u64 13270197634454188380), (7, .int .u64 11702690517083809725), (8, .int .u64 6503616966983130870), (9, .int .u64 991893350865389610)] = some (ints .u64 (blO)) := by unfold blO; kernel_rfl
theorem blO_any (w : World) : Calls Try.prog 81 #[] w fun e w' => e = .returned (.agg (ints .u64 blO)) ∧ Below w.heap.size w w' := by
  have tok_ob : True := trivial
  refine pureE Try.func81 Try.ntmps81 Try.results81 ?_
  repeat (first | (refine rgn 0 ?_; refine SL.al zero_131 ?_; (first | (have _t := tok_ob; clear _t tok_ob; intro ob) | intro _); refine nlx ?_) | (refine rgn 1 ?_; refine SL.v (ValO.build (by first | (dsimp only [List.map, evL, nth]; done) | (dsimp only [List.map, evL, nth]; rfl)) blO_b) ?_; refine SL.stR tabOk ?_; refine nlx ?_) | (refine zsq ?_; intro _ _) | (with_reducible refine zkN ?_) | (refine useK (by assumption) ?_) | (with_reducible first | refine zsB ?_ | refine zkX ?_ | refine zkR ?_ | refine zbN ?_ | refine zbR ?_ | refine zbE ?_ | refine zbX ?_ | refine zsS ?_ | refine zsR ?_ | refine zsX ?_) | (refine cdT ?_) | (refine cdF ?_))
  refine doneK.mk rfl (ResO.cell tabOk rfl rfl rfl (by first | exact RdA.own g0 | exact RdA.own g1 | exact RdA.own g2 | exact RdA.own g3 | exact RdA.own g4 | exact RdA.own g5 | exact RdA.own g6 | exact RdA.own g7 | exact RdA.own g8 | exact RdA.own g9 | exact RdA.own g10 | exact RdA.own g11 | exact RdA.own g12 | exact RdA.own g13 | exact RdA.own g14 | exact RdA.own g15) (by first | (simp [ints_size]; done) | (simp [ints_size]; omega))) rfl
theorem bword_any (b off n c : Nat) (A : Array Value) (T : TypeId) (fz : Nat × Nat) (L : List Int) (w : World) (hb : w.heap[b]? = some (.cells A T fz)) (hA : ∀ j, j < 4 → A[off + j]? = some (.int .u8 (gi L j))) (hn : 4 ≤ n) (hc : n ≤ c) :
    Calls Try.prog 80 #[.slice (some ⟨b, off, none⟩) n c] w fun e w' => e = .returned (.int .u32 (wrdN L 4)) ∧ Below w.heap.size w w' := by
  refine pureE Try.func80 Try.ntmps80 Try.results80 ?_
  repeat (first | (refine rgn 0 ?_; refine sEv ?_; refine nlx ?_) | (refine rgn 1 ?_; refine sEv ?_; refine SL.ctS tabOk 0 4 ?_; refine SL.v (ValO.len tabOk (by rfl)) ?_; refine sEv ?_; refine nlx ?_) | (refine rgn 2 ?_; refine sEv ?_; refine nlx ?_) | (refine rgn 3 ?_; refine sEv ?_; refine SL.ixS tabOk ?_; (first | (refine SL.ldI tabOk ?_) | (refine SL.ldC tabOk ?_ (hv := by first | exact (hA k (by omega))))); refine sEv ?_; refine sEv ?_; refine nlx ?_) | (refine rgn 4 ?_; (iterate 5 refine sEv ?_); refine SL.sh ?_; refine sEv ?_; refine sEv ?_; refine nlx ?_) | (refine rgn 5 ?_; refine sEv ?_; refine sEv ?_; refine nlx ?_) | (refine rgn 6 ?_; refine sEv ?_; refine sEv ?_; refine nlx ?_) | (refine zsq ?_; intro _ _) | (with_reducible refine zkN ?_) | (refine useK (by assumption) ?_) | (with_reducible first | refine zsB ?_ | refine zkX ?_ | refine zkR ?_ | refine zbN ?_ | refine zbR ?_ | refine zbE ?_ | refine zbX ?_ | refine zsS ?_ | refine zsR ?_ | refine zsX ?_) | (refine cdT ?_) | (refine cdF ?_))
  refine SP.loopN (fun k l bs => l = [nth l 0, nth l 1, .int .u32 (wrdN L k), nth l 3, nth l 4, nth l 5, .slice (some ⟨b, off, none⟩) 4 c, .int .i64 ((4 : Nat) : Int), .int .i64 ((k : Nat)), nth l 9, nth l 10, nth l 11, nth l 12, nth l 13, nth l 14, nth l 15, nth l 16, nth l 17, nth l 18, nth l 19, nth l 20, nth l 21] ∧ bs = []) 4 ⟨(by first | rfl | (simp only [wrdN_0]; done) | (simp only [wrdN_0]; rfl) | (rw [wrdN_0]; rfl)), (by first | rfl | (simp only [wrdN_0]; done) | (simp only [wrdN_0]; rfl) | (rw [wrdN_0]; rfl))⟩ ?_
  rintro k lfk _ hkk ⟨hlk, rfl⟩
  refine SP.cast hlk ?_
  clear hlk
  by_cases hltk : k < 4
  · have hk1 : IntKind.i64.wrap ((k : Int) + 1) = ((k + 1 : Nat) : Int) := by rw [IntWalk.i64_in _ (by omega)]; omega
    have f1 : IntKind.i64.wrap (8 * (k : Int)) = 8 * k := IntWalk.i64_in _ (by omega)
    repeat (first | (refine rgn 0 ?_; refine sEv ?_; refine nlx ?_) | (refine rgn 1 ?_; refine sEv ?_; refine SL.ctS tabOk 0 4 ?_; refine SL.v (ValO.len tabOk (by rfl)) ?_; refine sEv ?_; refine nlx ?_) | (refine rgn 2 ?_; refine sEv ?_; refine nlx ?_) | (refine rgn 3 ?_; refine sEv ?_; refine SL.ixS tabOk ?_; (first | (refine SL.ldI tabOk ?_) | (refine SL.ldC tabOk ?_ (hv := by first | exact (hA k (by omega))))); refine sEv ?_; refine sEv ?_; refine nlx ?_) | (refine rgn 4 ?_; (iterate 5 refine sEv ?_); refine SL.sh ?_; refine sEv ?_; refine sEv ?_; refine nlx ?_) | (refine rgn 5 ?_; refine sEv ?_; refine sEv ?_; refine nlx ?_) | (refine rgn 6 ?_; refine sEv ?_; refine sEv ?_; refine nlx ?_) | (refine zsq ?_; intro _ _) | (with_reducible refine zkN ?_) | (refine useK (by assumption) ?_) | (with_reducible first | refine zsB ?_ | refine zkX ?_ | refine zkR ?_ | refine zbN ?_ | refine zbR ?_ | refine zbE ?_ | refine zbX ?_ | refine zsS ?_ | refine zsR ?_ | refine zsX ?_) | (refine cdT ?_) | (refine cdF ?_))
    simp only [hk1]
    exact ⟨hltk, (by first | rfl | (simp only [wrdN_s]; done) | (simp only [wrdN_s]; rfl) | (rw [wrdN_s]; rfl)), (by first | rfl | (simp only [wrdN_s]; done) | (simp only [wrdN_s]; rfl) | (rw [wrdN_s]; rfl))⟩
  · have hendk : k = 4 := by omega
    replace hendk := Lib.hid hendk
    repeat (first | (refine rgn 0 ?_; refine sEv ?_; refine nlx ?_) | (refine rgn 1 ?_; refine sEv ?_; refine SL.ctS tabOk 0 4 ?_; refine SL.v (ValO.len tabOk (by rfl)) ?_; refine sEv ?_; refine nlx ?_) | (refine rgn 2 ?_; refine sEv ?_; refine nlx ?_) | (refine rgn 3 ?_; refine sEv ?_; refine SL.ixS tabOk ?_; (first | (refine SL.ldI tabOk ?_) | (refine SL.ldC tabOk ?_ (hv := by first | exact (hA k (by omega))))); refine sEv ?_; refine sEv ?_; refine nlx ?_) | (refine rgn 4 ?_; (iterate 5 refine sEv ?_); refine SL.sh ?_; refine sEv ?_; refine sEv ?_; refine nlx ?_) | (refine rgn 5 ?_; refine sEv ?_; refine sEv ?_; refine nlx ?_) | (refine rgn 6 ?_; refine sEv ?_; refine sEv ?_; refine nlx ?_) | (refine zsq ?_; intro _ _) | (with_reducible refine zkN ?_) | (refine useK (by assumption) ?_) | (with_reducible first | refine zsB ?_ | refine zkX ?_ | refine zkR ?_ | refine zbN ?_ | refine zbR ?_ | refine zbE ?_ | refine zbX ?_ | refine zsS ?_ | refine zsR ?_ | refine zsX ?_) | (refine cdT ?_) | (refine cdF ?_))
    have hq := hendk.out; clear hendk; subst hq
    skip
    repeat (first | (refine rgn 0 ?_; refine sEv ?_; refine nlx ?_) | (refine rgn 1 ?_; refine sEv ?_; refine SL.ctS tabOk 0 4 ?_; refine SL.v (ValO.len tabOk (by rfl)) ?_; refine sEv ?_; refine nlx ?_) | (refine rgn 2 ?_; refine sEv ?_; refine nlx ?_) | (refine rgn 3 ?_; refine sEv ?_; refine SL.ixS tabOk ?_; (first | (refine SL.ldI tabOk ?_) | (refine SL.ldC tabOk ?_ (hv := by first | exact (hA k (by omega))))); refine sEv ?_; refine sEv ?_; refine nlx ?_) | (refine rgn 4 ?_; (iterate 5 refine sEv ?_); refine SL.sh ?_; refine sEv ?_; refine sEv ?_; refine nlx ?_) | (refine rgn 5 ?_; refine sEv ?_; refine sEv ?_; refine nlx ?_) | (refine rgn 6 ?_; refine sEv ?_; refine sEv ?_; refine nlx ?_) | (refine zsq ?_; intro _ _) | (with_reducible refine zkN ?_) | (refine useK (by assumption) ?_) | (with_reducible first | refine zsB ?_ | refine zkX ?_ | refine zkR ?_ | refine zbN ?_ | refine zbR ?_ | refine zbE ?_ | refine zbX ?_ | refine zsS ?_ | refine zsR ?_ | refine zsX ?_) | (refine cdT ?_) | (refine cdF ?_))
    refine doneK.mk rfl (ResO.tmp rfl) rfl
@[irreducible] def badd (V : List Int) (a b : Nat) (x : Int) : List Int := V.set a (IntKind.u32.wrap (gi V a + IntKind.u32.wrap (gi V b + x)))
theorem badd_length (V : List Int) (a b : Nat) (x : Int) : (badd V a b x).length = V.length := by unfold badd; simp
attribute [simp] badd_length
@[irreducible] def bm (V : List Int) (a b c d : Nat) (x y : Int) : List Int := qxor (qadd (qxor (badd (qxor (qadd (qxor (badd V a b x) d a (-16)) c d) b c (-12)) a b y) d a (-8)) c d) b c (-7)
theorem bm_length (V : List Int) (a b c d : Nat) (x y : Int) : (bm V a b c d x y).length = V.length := by unfold bm; simp
attribute [simp] bm_length
theorem badd_eq (V : List Int) (a b : Nat) (x : Int) : V.set a (IntKind.u32.wrap (gi V a + IntKind.u32.wrap (gi V b + x))) = badd V a b x := by unfold badd; rfl
theorem bmix_any (b ia ib ic id : Nat) (x y : Int) (T : TypeId) (V : List Int) (w : World) (hl : V.length = 16) (h0 : ia < 16) (h1 : ib < 16) (h2 : ic < 16) (h3 : id < 16) (hb : w.heap[b]? = some (.cells (ints .u32 V) T (0, 0))) :
    Calls Try.prog 83 #[.pointer (some ⟨b, ia, none⟩), .pointer (some ⟨b, ib, none⟩), .pointer (some ⟨b, ic, none⟩), .pointer (some ⟨b, id, none⟩), .int .u32 x, .int .u32 y] w fun e w' => e = .returned (.tuple #[]) ∧ OwnM w [b] w' [(b, ints .u32 (bm V ia ib ic id x y), T)] := by
  unfold bm
  refine mutE Try.func83 Try.ntmps83 Try.results83 hb ?_
  repeat (first | ((with_reducible show SP _ _ _ (Code.region _ _ true) _ _ _); first | (refine SPa (id := 0) [10] [] ([]) [0, 1, 2, 3, 4, 5, 6, 7, 8, 9, 10] follows ?_; refine fPv ?_; refine SF.nc ?_; refine SF.ldI tabOk ?_; refine fPv ?_; refine SF.nc ?_; refine SF.ldI tabOk ?_; refine fPv ?_; refine SF.e tabOk ?_; refine SF.e tabOk ?_; refine SF.nc ?_; refine SF.stI tabOk ?_; refine SF.done ?_)) | (refine zsq ?_; intro _ _) | (with_reducible refine zkN ?_) | (refine useK (by assumption) ?_) | (with_reducible first | refine zsB ?_ | refine zkX ?_ | refine zkR ?_ | refine zbN ?_ | refine zbR ?_ | refine zbE ?_ | refine zbX ?_ | refine zsS ?_ | refine zsR ?_ | refine zsX ?_) | (refine cdT ?_) | (refine cdF ?_))
  rw [badd_eq]
  repeat (first | ((with_reducible show SP _ _ _ (Code.region _ _ true) _ _ _); first | (refine SPa (id := 1) [10] [] ([]) [0, 1, 2, 3, 4, 5, 6, 7, 8, 9, 10] follows ?_; refine fPv ?_; refine fPv ?_; refine SF.nc ?_; refine SF.ldI tabOk ?_; refine fPv ?_; refine SF.nc ?_; refine SF.ldI tabOk ?_; refine SF.e tabOk ?_; refine SF.v (ValO.call ent_90 _ rfl _ (fun w1 _ => rot_any _ _ (by decide +kernel) w1)) ?_; refine SF.nc ?_; refine SF.stI tabOk ?_; refine SF.done ?_)) | (refine zsq ?_; intro _ _) | (with_reducible refine zkN ?_) | (refine useK (by assumption) ?_) | (with_reducible first | refine zsB ?_ | refine zkX ?_ | refine zkR ?_ | refine zbN ?_ | refine zbR ?_ | refine zbE ?_ | refine zbX ?_ | refine zsS ?_ | refine zsR ?_ | refine zsX ?_) | (refine cdT ?_) | (refine cdF ?_))
  rw [qxor_eq]
  repeat (first | ((with_reducible show SP _ _ _ (Code.region _ _ true) _ _ _); first | (refine SPa (id := 2) [8] [] ([]) [0, 1, 2, 3, 4, 5, 6, 7, 8] follows ?_; refine fPv ?_; refine SF.nc ?_; refine SF.ldI tabOk ?_; refine fPv ?_; refine SF.nc ?_; refine SF.ldI tabOk ?_; refine SF.e tabOk ?_; refine SF.nc ?_; refine SF.stI tabOk ?_; refine SF.done ?_)) | (refine zsq ?_; intro _ _) | (with_reducible refine zkN ?_) | (refine useK (by assumption) ?_) | (with_reducible first | refine zsB ?_ | refine zkX ?_ | refine zkR ?_ | refine zbN ?_ | refine zbR ?_ | refine zbE ?_ | refine zbX ?_ | refine zsS ?_ | refine zsR ?_ | refine zsX ?_) | (refine cdT ?_) | (refine cdF ?_))
  rw [qadd_eq]
  repeat (first | ((with_reducible show SP _ _ _ (Code.region _ _ true) _ _ _); first | (refine SPa (id := 3) [10] [] ([]) [0, 1, 2, 3, 4, 5, 6, 7, 8, 9, 10] follows ?_; refine fPv ?_; refine fPv ?_; refine SF.nc ?_; refine SF.ldI tabOk ?_; refine fPv ?_; refine SF.nc ?_; refine SF.ldI tabOk ?_; refine SF.e tabOk ?_; refine SF.v (ValO.call ent_90 _ rfl _ (fun w1 _ => rot_any _ _ (by decide +kernel) w1)) ?_; refine SF.nc ?_; refine SF.stI tabOk ?_; refine SF.done ?_)) | (refine zsq ?_; intro _ _) | (with_reducible refine zkN ?_) | (refine useK (by assumption) ?_) | (with_reducible first | refine zsB ?_ | refine zkX ?_ | refine zkR ?_ | refine zbN ?_ | refine zbR ?_ | refine zbE ?_ | refine zbX ?_ | refine zsS ?_ | refine zsR ?_ | refine zsX ?_) | (refine cdT ?_) | (refine cdF ?_))
  rw [qxor_eq]
  repeat (first | ((with_reducible show SP _ _ _ (Code.region _ _ true) _ _ _); first | (refine SPa (id := 4) [10] [] ([]) [0, 1, 2, 3, 4, 5, 6, 7, 8, 9, 10] follows ?_; refine fPv ?_; refine SF.nc ?_; refine SF.ldI tabOk ?_; refine fPv ?_; refine SF.nc ?_; refine SF.ldI tabOk ?_; refine fPv ?_; refine SF.e tabOk ?_; refine SF.e tabOk ?_; refine SF.nc ?_; refine SF.stI tabOk ?_; refine SF.done ?_)) | (refine zsq ?_; intro _ _) | (with_reducible refine zkN ?_) | (refine useK (by assumption) ?_) | (with_reducible first | refine zsB ?_ | refine zkX ?_ | refine zkR ?_ | refine zbN ?_ | refine zbR ?_ | refine zbE ?_ | refine zbX ?_ | refine zsS ?_ | refine zsR ?_ | refine zsX ?_) | (refine cdT ?_) | (refine cdF ?_))
  rw [badd_eq]
  repeat (first | ((with_reducible show SP _ _ _ (Code.region _ _ true) _ _ _); first | (refine SPa (id := 5) [10] [] ([]) [0, 1, 2, 3, 4, 5, 6, 7, 8, 9, 10] follows ?_; refine fPv ?_; refine fPv ?_; refine SF.nc ?_; refine SF.ldI tabOk ?_; refine fPv ?_; refine SF.nc ?_; refine SF.ldI tabOk ?_; refine SF.e tabOk ?_; refine SF.v (ValO.call ent_90 _ rfl _ (fun w1 _ => rot_any _ _ (by decide +kernel) w1)) ?_; refine SF.nc ?_; refine SF.stI tabOk ?_; refine SF.done ?_)) | (refine zsq ?_; intro _ _) | (with_reducible refine zkN ?_) | (refine useK (by assumption) ?_) | (with_reducible first | refine zsB ?_ | refine zkX ?_ | refine zkR ?_ | refine zbN ?_ | refine zbR ?_ | refine zbE ?_ | refine zbX ?_ | refine zsS ?_ | refine zsR ?_ | refine zsX ?_) | (refine cdT ?_) | (refine cdF ?_))
  rw [qxor_eq]
  repeat (first | ((with_reducible show SP _ _ _ (Code.region _ _ true) _ _ _); first | (refine SPa (id := 6) [8] [] ([]) [0, 1, 2, 3, 4, 5, 6, 7, 8] follows ?_; refine fPv ?_; refine SF.nc ?_; refine SF.ldI tabOk ?_; refine fPv ?_; refine SF.nc ?_; refine SF.ldI tabOk ?_; refine SF.e tabOk ?_; refine SF.nc ?_; refine SF.stI tabOk ?_; refine SF.done ?_)) | (refine zsq ?_; intro _ _) | (with_reducible refine zkN ?_) | (refine useK (by assumption) ?_) | (with_reducible first | refine zsB ?_ | refine zkX ?_ | refine zkR ?_ | refine zbN ?_ | refine zbR ?_ | refine zbE ?_ | refine zbX ?_ | refine zsS ?_ | refine zsR ?_ | refine zsX ?_) | (refine cdT ?_) | (refine cdF ?_))
  rw [qadd_eq]
  repeat (first | ((with_reducible show SP _ _ _ (Code.region _ _ true) _ _ _); first | (refine SPa (id := 7) [10] [] ([]) [0, 1, 2, 3, 4, 5, 6, 7, 8, 9, 10] follows ?_; refine fPv ?_; refine fPv ?_; refine SF.nc ?_; refine SF.ldI tabOk ?_; refine fPv ?_; refine SF.nc ?_; refine SF.ldI tabOk ?_; refine SF.e tabOk ?_; refine SF.v (ValO.call ent_90 _ rfl _ (fun w1 _ => rot_any _ _ (by decide +kernel) w1)) ?_; refine SF.nc ?_; refine SF.stI tabOk ?_; refine SF.done ?_)) | (refine zsq ?_; intro _ _) | (with_reducible refine zkN ?_) | (refine useK (by assumption) ?_) | (with_reducible first | refine zsB ?_ | refine zkX ?_ | refine zkR ?_ | refine zbN ?_ | refine zbR ?_ | refine zbE ?_ | refine zbX ?_ | refine zsS ?_ | refine zsR ?_ | refine zsX ?_) | (refine cdT ?_) | (refine cdF ?_))
  rw [qxor_eq]
  exact doneK.mk rfl ResO.nil ⟨rfl, (by first | exact sub1 | exact subc sub1 | exact subc (subc sub1) | exact subc (subc (subc sub1)) | exact subc (subc (subc (subc sub1))))⟩
theorem nib {x : Int} (h0 : 0 ≤ x) (h1 : x < 18446744073709551616) : bits .and .u64 x 15 = x % 16 := by
  obtain ⟨a, rfl⟩ := Int.eq_ofNat_of_zero_le h0
  have := u64_and_nat a 15 (by omega) (by omega)
  rw [show (15 : Int) = ((15 : Nat) : Int) from rfl, this, show (15 : Nat) = 2 ^ 4 - 1 from rfl, Nat.and_two_pow_sub_one_eq_mod]
  omega
theorem nib_nat {o : Int} (h : 0 ≤ o ∧ o < 18446744073709551616) : ∃ q : Nat, bits .and .u64 o 15 = (q : Int) ∧ q < 16 ∧ q = (o % 16).toNat := by
  have := nib h.1 h.2
  exact ⟨(o % 16).toNat, by omega, by omega, rfl⟩
theorem bnext_any (b c : Nat) (o : Int) (T : TypeId) (ho : 0 ≤ o ∧ o < 18446744073709551616) (M : List Int) (Tm : TypeId) (fz : Nat × Nat) (w : World) (hM : M.length = 16) (hne : b ≠ c) (hb : w.heap[b]? = some (.cells (ints .u64 [o]) T (0, 0))) (hc : w.heap[c]? = some (.cells (ints .u32 M) Tm fz)) :
    Calls Try.prog 82 #[.pointer (some ⟨b, 0, none⟩), .pointer (some ⟨c, 0, none⟩)] w fun e w' => e = .returned (.int .u32 (gi M (o % 16).toNat)) ∧ OwnM w [b] w' [(b, ints .u64 [o.fdiv (2 ^ (min (Int.toNat 4) IntKind.u64.bits))], T)] := by
  obtain ⟨q, hq, hq16, hqv⟩ := nib_nat ho
  rw [← hqv]
  have hcn : c ∉ [b] := by simp; exact fun h => hne h.symm
  refine mutE Try.func82 Try.ntmps82 Try.results82 hb ?_
  repeat (first | (refine rgn 0 ?_; refine sEv ?_; refine nlx ?_) | (refine rgn 1 ?_; refine SL.ldI tabOk ?_; refine sEv ?_; refine sEv ?_; refine nlx ?_) | (refine rgn 2 ?_; refine SL.ldI tabOk ?_; refine sEv ?_; refine SL.stI tabOk ?_; refine nlx ?_) | (refine rgn 3 ?_; refine sEv ?_; refine SL.ixA tabOk ?_ (hm := by first | (simp only [hq, Nat.zero_add, Nat.mul_one, Nat.one_mul, Int.toNat_natCast]; done) | (simp only [hq, Nat.zero_add, Nat.mul_one, Nat.one_mul, Int.toNat_natCast]; rfl) | rfl); refine SL.ldI tabOk ?_ (hr := RdA.old hc hcn); refine sEv ?_; refine nlx ?_) | (refine zsq ?_; intro _ _) | (with_reducible refine zkN ?_) | (refine useK (by assumption) ?_) | (with_reducible first | refine zsB ?_ | refine zkX ?_ | refine zkR ?_ | refine zbN ?_ | refine zbR ?_ | refine zbE ?_ | refine zbX ?_ | refine zsS ?_ | refine zsR ?_ | refine zsX ?_) | (refine cdT ?_) | (refine cdF ?_))
  exact doneK.mk rfl (ResO.tmp rfl) ⟨rfl, (by first | exact sub1 | exact subc sub1 | exact subc (subc sub1) | exact subc (subc (subc sub1)) | exact subc (subc (subc (subc sub1))))⟩
end Sp
end
section
open Go Go.RowKit
namespace Sp
@[irreducible] def hRow (sz : Int) (H B : List Int) (n t : Int) : Array Value := #[.int .i64 sz] ++ ints .u32 H ++ ints .u8 B ++ #[.int .i64 n, .int .u64 t]
variable {sz : Int} {H B : List Int} {n t : Int}
theorem hr_size (hH : H.length = 8) (hB : B.length = 64) : (hRow sz H B n t).size = 75 := by unfold hRow; simp [ints_size, hH, hB]
theorem hr_s : (hRow sz H B n t)[0]? = some (.int .i64 sz) := by
  unfold hRow
  rw [Array.append_assoc, Array.append_assoc, Array.getElem?_append_left (by simp)]
  rfl
theorem hr_h (hH : H.length = 8) : (hRow sz H B n t).extract 1 (1 + 8) = ints .u32 H := by
  unfold hRow
  apply Array.ext'
  simp [ints, hH]
theorem hr_hj {j : Nat} (hH : H.length = 8) (hj : j < 8) : (hRow sz H B n t)[1 + j]? = some (.int .u32 (gi H j)) := by
  unfold hRow
  rw [Array.append_assoc, Array.getElem?_append_left (by simp [ints_size]; omega), Array.getElem?_append_right (by simp)]
  rw [show 1 + j - (#[Value.int .i64 sz] : Array Value).size = j by simp]
  exact ints_get (by omega)
theorem hr_b {j : Nat} (hH : H.length = 8) (hB : B.length = 64) (hj : j < 64) : (hRow sz H B n t)[9 + j]? = some (.int .u8 (gi B j)) := by
  unfold hRow
  rw [Array.getElem?_append_left (by simp [ints_size]; omega), Array.getElem?_append_right (by simp [ints_size, hH])]
  rw [show 9 + j - (#[Value.int .i64 sz] ++ ints .u32 H : Array Value).size = j by simp [ints_size, hH]]
  exact ints_get (by omega)
theorem hr_n (hH : H.length = 8) (hB : B.length = 64) : (hRow sz H B n t)[73]? = some (.int .i64 n) := by
  unfold hRow
  rw [Array.getElem?_append_right (by simp [ints_size, hH, hB])]
  simp [ints_size, hH, hB]
theorem hr_t (hH : H.length = 8) (hB : B.length = 64) : (hRow sz H B n t)[74]? = some (.int .u64 t) := by
  unfold hRow
  rw [Array.getElem?_append_right (by simp [ints_size, hH, hB])]
  simp [ints_size, hH, hB]
theorem hr_pn (hH : H.length = 8) (hB : B.length = 64) (v : Int) : putAt (hRow sz H B n t) 73 [.int .i64 v] = hRow sz H B v t := by
  unfold hRow
  apply Array.ext'
  simp [putAt, ints, List.set_append, hH, hB]
theorem hr_pt (hH : H.length = 8) (hB : B.length = 64) (v : Int) : putAt (hRow sz H B n t) 74 [.int .u64 v] = hRow sz H B n v := by
  unfold hRow
  apply Array.ext'
  simp [putAt, ints, List.set_append, hH, hB]
theorem hr_ph (hH : H.length = 8) {i : Nat} (hi : i < 8) (x : Int) : putAt (hRow sz H B n t) (1 + i) [.int .u32 x] = hRow sz (H.set i x) B n t := by
  unfold hRow
  apply Array.ext'
  simp [putAt, ints, List.set_append, hH, hi, List.map_set, Nat.add_comm 1 i]
def ov (B : List Int) (k : Nat) (C : List Int) : List Int := B.take k ++ (C ++ B.drop (k + C.length))
theorem ov_length {B C : List Int} {k : Nat} (h : k + C.length ≤ B.length) : (ov B k C).length = B.length := by unfold ov; simp; omega
theorem hr_pb (hH : H.length = 8) (hB : B.length = 64) {k : Nat} {C : List Int} (h : k + C.length ≤ 64) : putAt (hRow sz H B n t) (9 + k) (ints .u8 C).toList = hRow sz H (ov B k C) n t := by
  have hs := hr_size (sz := sz) (n := n) (t := t) hH hB
  apply Array.ext_getElem?
  intro j
  rw [putAt_get _ _ _ _ (by rw [hs]; simp [ints]; omega)]
  have hl : (ints .u8 C).toList.length = C.length := by simp [ints]
  rw [hl]
  have hov := ov_length (B := B) (C := C) (k := k) (by omega)
  by_cases h1 : 9 + k ≤ j ∧ j < 9 + k + C.length
  · rw [if_pos h1]
    obtain ⟨i, rfl⟩ : ∃ i, j = 9 + (k + i) := ⟨j - 9 - k, by omega⟩
    rw [hr_b hH (by rw [hov]; exact hB) (by omega)]
    have hi : i < C.length := by omega
    rw [show 9 + (k + i) - (9 + k) = i by omega, Array.getElem?_toList, ints_get hi]
    congr 2
    unfold ov gi
    rw [List.getD_eq_getElem?_getD, List.getD_eq_getElem?_getD, List.getElem?_append_right (by simp; omega), List.getElem?_append_left (by simp; omega)]
    congr 2
    simp
    omega
  · rw [if_neg h1]
    by_cases h2 : 9 ≤ j ∧ j < 73
    · obtain ⟨i, rfl⟩ : ∃ i, j = 9 + i := ⟨j - 9, by omega⟩
      rw [hr_b hH hB (by omega), hr_b hH (by rw [hov]; exact hB) (by omega)]
      congr 2
      unfold ov gi
      rw [List.getD_eq_getElem?_getD, List.getD_eq_getElem?_getD]
      by_cases h3 : i < k
      · rw [List.getElem?_append_left (by simp; omega), List.getElem?_take_of_lt h3]
      · rw [List.getElem?_append_right (by simp; omega), List.getElem?_append_right (by simp; omega), List.getElem?_drop]
        congr 2
        simp
        omega
    · have hB2 : (ov B k C).length = 64 := by rw [hov]; exact hB
      by_cases h3 : j = 0
      · subst h3; rw [hr_s, hr_s]
      · by_cases h4 : j < 9
        · obtain ⟨i, rfl⟩ : ∃ i, j = 1 + i := ⟨j - 1, by omega⟩
          rw [hr_hj hH (by omega), hr_hj hH (by omega)]
        · by_cases h5 : j = 73
          · subst h5; rw [hr_n hH hB, hr_n hH hB2]
          · by_cases h6 : j = 74
            · subst h6; rw [hr_t hH hB, hr_t hH hB2]
            · rw [Array.getElem?_eq_none (by rw [hs]; omega), Array.getElem?_eq_none (by rw [hr_size hH hB2]; omega)]
theorem hr_cells : ∀ u ∈ (hRow sz H B n t).toList, u.oneCell' = true := by
  unfold hRow
  intro u hu
  simp only [Array.toList_append, List.mem_append] at hu
  rcases hu with ((hu | hu) | hu) | hu
  · simp at hu; subst hu; rfl
  · exact ints_mem u hu
  · exact ints_mem u hu
  · simp at hu; rcases hu with rfl | rfl <;> rfl
end Sp
end
end Go.Proofs.Ytdjecenggngdjaa
