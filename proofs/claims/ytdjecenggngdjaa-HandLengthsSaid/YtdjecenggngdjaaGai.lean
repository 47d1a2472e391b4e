/-
  Joined texts: Law, Guard, CurveA, Clamp, CurveB. No conditions.
-/
import Derived.Test.YtdjecenggngdjaaGaa
import Derived.Test.YtdjecenggngdjaaGac
import Derived.Test.YtdjecenggngdjaaGae
import Derived.Test.YtdjecenggngdjaaGah
import Derived.KernelRfl
import Derived.Lib.Hide
import Derived.Test.YtdjecenggngdjaaRows
namespace Go.Proofs.Ytdjecenggngdjaa
set_option linter.unusedSimpArgs false
set_option linter.unusedVariables false
set_option maxHeartbeats 16000000
set_option maxRecDepth 20000
section
open Go Go.RowKit
theorem Try.laidOut : laidOutB Try.prog = true := by kernel_rfl
open Go.ChangeShapes Go.WideShapes Go.ChangeAt in
theorem rfl_vars {H : Type} {enc : TypeId × Value → H} {W : World} {sp : Nat → Bool} : DataW.TrodVars enc Try.prog W sp [] [] [] := rfl
def Bytes32 (b : List Int) : Prop := b.length = 32 ∧ Dig 256 (gi b) 32
@[irreducible] def fromE (b : List Int) : List Int := carriedL (fromN b 255)
theorem fromE_eq (b : List Int) : fromE b = carriedL (fromN b 255) := by unfold fromE; rfl
theorem fromE_any (b : List Int) (h : Bytes32 b) (w : World) :
    Calls Try.prog 44 #[.agg (ints .u8 b)] w fun e w' => e = .returned (.agg (ints .u64 (fromE b))) ∧ Below w.heap.size w w' := by
  rw [fromE_eq]; exact from_any b h.1 w
theorem fromE_is {b : List Int} (h : Bytes32 b) : IsE (fromE b) (v32 b % H255) := by
  rw [fromE_eq]; exact from_isE b h.1 h.2
@[irreducible] def smallE (n : Int) : List Int := [n, 0, 0, 0, 0]
theorem smallE_eq (n : Int) : smallE n = [n, 0, 0, 0, 0] := by unfold smallE; rfl
theorem smallE_any (n : Int) (h : 0 ≤ n ∧ n < 4294967296) (w : World) :
    Calls Try.prog 45 #[.int .u32 n] w fun e w' => e = .returned (.agg (ints .u64 (smallE n))) ∧ Below w.heap.size w w' := by
  rw [smallE_eq]; exact small_any n h.1 h.2 w
theorem smallE_is {n : Int} (h : 0 ≤ n ∧ n < 4294967296) : IsE (smallE n) n := by
  rw [smallE_eq]; exact small_isE n h.1 h.2
@[irreducible] def addE (a : List Int) (b : List Int) : List Int := carriedL (addN a b 5)
theorem addE_eq (a : List Int) (b : List Int) : addE a b = carriedL (addN a b 5) := by unfold addE; rfl
theorem addE_any (a : List Int) (b : List Int) {v u : Int} (ha : IsE a v) (hb : IsE b u) (w : World) :
    Calls Try.prog 66 #[.agg (ints .u64 a), .agg (ints .u64 b)] w fun e w' => e = .returned (.agg (ints .u64 (addE a b))) ∧ Below w.heap.size w w' := by
  rw [addE_eq]; exact add_any a b ha.1 hb.1 w
theorem addE_is {a b : List Int} {v w : Int} (ha : IsE a v) (hb : IsE b w) : IsE (addE a b) (v + w) := by
  rw [addE_eq]; exact add_isE ha hb
@[irreducible] def subE (a : List Int) (b : List Int) : List Int := carriedL ((subN a b 5).set 0 (IntKind.u64.wrap (gi (subN a b 5) 0 - 72)))
theorem subE_eq (a : List Int) (b : List Int) : subE a b = carriedL ((subN a b 5).set 0 (IntKind.u64.wrap (gi (subN a b 5) 0 - 72))) := by unfold subE; rfl
theorem subE_any (a : List Int) (b : List Int) {v u : Int} (ha : IsE a v) (hb : IsE b u) (w : World) :
    Calls Try.prog 67 #[.agg (ints .u64 a), .agg (ints .u64 b)] w fun e w' => e = .returned (.agg (ints .u64 (subE a b))) ∧ Below w.heap.size w w' := by
  rw [subE_eq]; exact sub_any a b ha.1 hb.1 w
theorem subE_is {a b : List Int} {v w : Int} (ha : IsE a v) (hb : IsE b w) : IsE (subE a b) (v - w) := by
  rw [subE_eq]; exact sub_isE ha hb
@[irreducible] def mulE (a : List Int) (b : List Int) : List Int := mulR a b
theorem mulE_eq (a : List Int) (b : List Int) : mulE a b = mulR a b := by unfold mulE; rfl
theorem mulE_any (a : List Int) (b : List Int) {v u : Int} (ha : IsE a v) (hb : IsE b u) (w : World) :
    Calls Try.prog 48 #[.agg (ints .u64 a), .agg (ints .u64 b)] w fun e w' => e = .returned (.agg (ints .u64 (mulE a b))) ∧ Below w.heap.size w w' := by
  rw [mulE_eq]; exact mul_any a b ha.1 hb.1 ha.allG hb.allG w
theorem mulE_is {a b : List Int} {v w : Int} (ha : IsE a v) (hb : IsE b w) : IsE (mulE a b) (v * w) := by
  rw [mulE_eq]; exact mul_isE ha hb
@[irreducible] def invE (a : List Int) : List Int := invN a 255
theorem invE_eq (a : List Int) : invE a = invN a 255 := by unfold invE; rfl
theorem invE_any (a : List Int) {v : Int} (ha : IsE a v) (w : World) :
    Calls Try.prog 49 #[.agg (ints .u64 a)] w fun e w' => e = .returned (.agg (ints .u64 (invE a))) ∧ Below w.heap.size w w' := by
  rw [invE_eq]; exact inv_any a ha.1 ha.allG w
theorem invE_is {a : List Int} {v : Int} (ha : IsE a v) : IsE (invE a) (invV v 255) := by
  rw [invE_eq]; exact inv_isE ha 255
theorem bytesE_any {a : List Int} {v : Int} (ha : IsE a v) (w : World) :
    Calls Try.prog 50 #[.agg (ints .u64 a)] w fun e w' => e = .returned (.agg (ints .u8 (le32 (v % PP)))) ∧ Below w.heap.size w w' := by
  have := bytes_any a ha.1 w
  rw [(bytes_isB ha).le] at this
  exact this
end
section
open Go Go.RowKit
end
section
open Go Go.RowKit
open Sp F
theorem mut2_of_SP {P : Program} {f : FuncId} {fn : Func} {c : Code} {args : Array Value} {w : World} {b b2 : Nat} {A B : Array Value} {T U : TypeId} (hf : P.funcs[f]? = some fn) (hb : fn.body = some c) (hw : w.heap[b]? = some (.cells A T (0, 0))) (hw2 : w.heap[b2]? = some (.cells B U (0, 0))) (hne : b ≠ b2) (l : List Value) (hl : args ++ Array.replicate (fn.ntmps - args.size) undef = l.toArray)
    (rs : Array ResultVar) (hrs : fn.results = rs) (v : Value) (A' B' : Array Value) (h : SP P w [b, b2] c (doneK P w [b, b2] rs (fun v' bs' => v' = v ∧ [(b, A', T), (b2, B', U)].Sublist bs')) l [(b, A, T), (b2, B, U)]) : Calls P f args w fun e w' => e = .returned v ∧ OwnM w [b, b2] w' [(b, A', T), (b2, B', U)] :=
  (calls_of_SP hf hb (OwnM.start2 w hw hw2 hne) l hl rs hrs _ h).mono fun e w' ⟨v', bs', he, ⟨hv, hs⟩, hw'⟩ => ⟨by rw [he, hv], hw'.sub hs⟩
theorem ap_x {k : IntKind} {x z : List Int} {n : Nat} (h : x.length = n) : (ints k (x ++ z)).extract 0 (0 + n) = ints k x := by
  subst h; simp [ints]
theorem ap_z {k : IntKind} {x z : List Int} {n m : Nat} (h : x.length = n) (h' : z.length = m) : (ints k (x ++ z)).extract n (n + m) = ints k z := by
  subst h h'; simp [ints, List.take_of_length_le]
def spl2 (bl : List Int) (o : Nat) (cs : List Int) : List Int := bl.take o ++ (cs ++ bl.drop (o + cs.length))
theorem ints_putAt2 {k : IntKind} {L cs : List Int} {off : Nat} (h : off + cs.length ≤ L.length) : putAt (ints k L) off (ints k cs).toList = ints k (spl2 L off cs) := by
  apply Array.ext_getElem?
  intro j
  rw [putAt_get _ _ _ _ (by simp [ints]; omega)]
  simp only [ints, List.length_map, List.getElem?_toArray, List.getElem?_map, spl2]
  by_cases h1 : off ≤ j ∧ j < off + cs.length
  · rw [if_pos h1, List.getElem?_append, if_neg (by simp; omega), List.getElem?_append, if_pos (by simp; omega)]
    congr 2
    simp
    omega
  · rw [if_neg h1, List.getElem?_append]
    split
    · rename_i h2
      simp at h2
      rw [List.getElem?_take, if_pos (by omega)]
    · rename_i h2
      simp at h2
      rw [List.getElem?_append, if_neg (by simp; omega)]
      simp only [List.getElem?_drop, List.length_take]
      congr 2
      omega
theorem spl_x {x z y : List Int} (h : x.length = y.length) : spl2 (x ++ z) 0 y = y ++ z := by simp [spl2, ← h]
theorem spl_z {x z y : List Int} {n : Nat} (h : x.length = n) (h' : z.length = y.length) : spl2 (x ++ z) n y = x ++ y := by subst h; simp [spl2, ← h']
theorem put_x {k : IntKind} {x z y : List Int} (h : x.length = y.length) : putAt (ints k (x ++ z)) 0 (ints k y).toList = ints k (y ++ z) := by rw [ints_putAt2 (by simp; omega), spl_x h]
theorem put_z {k : IntKind} {x z y : List Int} {n : Nat} (h : x.length = n) (h' : z.length = y.length) : putAt (ints k (x ++ z)) n (ints k y).toList = ints k (x ++ y) := by rw [ints_putAt2 (by simp; omega), spl_z h h']
theorem square_any (a : List Int) {v : Int} (ha : IsE a v) (w : World) : Calls Try.prog 68 #[.agg (ints .u64 a)] w fun e w' => e = .returned (.agg (ints .u64 (mulE a a))) ∧ Below w.heap.size w w' := by
  have hm := mulE_is ha ha
  have hl := hm.1
  have la := ha.1
  refine pureE Try.func68 Try.ntmps68 Try.results68 ?_
  repeat (first | (refine rgn 0 ?_; refine SL.bx ?_; intro _; refine SL.al zero_82 ?_; intro _; refine nlx ?_) | (refine rgn 1 ?_; refine SL.ldR tabOk ?_; refine SL.ldR tabOk ?_; refine SL.v (ValO.call ent_48 _ rfl _ (fun w _ => mulE_any _ _ (by assumption) (by assumption) w)) ?_; refine SL.stR tabOk ?_; refine nlx ?_) | (refine zsq ?_; intro _ _) | (with_reducible refine zkN ?_) | (refine useK (by assumption) ?_) | (with_reducible first | refine zsB ?_ | refine zkX ?_ | refine zkR ?_ | refine zbN ?_ | refine zbR ?_ | refine zbE ?_ | refine zbX ?_ | refine zsS ?_ | refine zsR ?_ | refine zsX ?_) | (refine cdT ?_) | (refine cdF ?_))
  exact doneK.mk rfl (ResO.cell tabOk rfl rfl rfl (by first | exact RdA.own g0 | exact RdA.own g1 | exact RdA.own g2 | exact RdA.own g3 | exact RdA.own g4 | exact RdA.own g5 | exact RdA.own g6 | exact RdA.own g7 | exact RdA.own g8 | exact RdA.own g9 | exact RdA.own g10 | exact RdA.own g11 | exact RdA.own g12 | exact RdA.own g13 | exact RdA.own g14 | exact RdA.own g15) (by rw [ints_size]; exact hl)) rfl
theorem cswap0_any (b c : Nat) (T1 T2 : TypeId) (px pz qx qz : List Int) {v1 v2 v3 v4 : Int} (hpx : IsE px v1) (hpz : IsE pz v2) (hqx : IsE qx v3) (hqz : IsE qz v4) (bt : Int) (hbt : bt % 2 = 0) (w : World) (hne : b ≠ c)
    (hb : w.heap[b]? = some (.cells (ints .u64 (px ++ pz)) T1 (0, 0))) (hc : w.heap[c]? = some (.cells (ints .u64 (qx ++ qz)) T2 (0, 0))) :
    Calls Try.prog 46 #[.pointer (some ⟨b, 0, none⟩), .pointer (some ⟨c, 0, none⟩), .int .i64 bt] w fun e w' => e = .returned (.tuple #[]) ∧ OwnM w [b, c] w' [(b, ints .u64 (px ++ pz), T1), (c, ints .u64 (qx ++ qz), T2)] := by
  have lpx := hpx.1
  have lpz := hpz.1
  have lqx := hqx.1
  have lqz := hqz.1
  have hsw : ∀ (x y : List Int) {v u : Int}, IsE x v → IsE y u → ∀ w : World, Calls Try.prog 65 #[.agg (ints .u64 x), .agg (ints .u64 y), .int .i64 bt] w fun e w' => e = .returned (.tuple #[.agg (ints .u64 x), .agg (ints .u64 y)]) ∧ Below w.heap.size w w' := by
    intro x y v u hx hy w
    have h1 := swap_any x y bt hx.1 hy.1 w
    have h2 := swap_eq hx.1 hy.1 hx.allG hy.allG bt
    rw [h2.1, h2.2] at h1
    simpa [hbt] using h1
  refine mut2_of_SP Try.func46 rfl hb hc hne [.pointer (some ⟨b, 0, none⟩), .pointer (some ⟨c, 0, none⟩), .int .i64 bt, undef, undef, undef, undef, undef, undef, undef, undef, undef, undef, undef, undef, undef, undef, undef, undef, undef, undef, undef, undef, undef, undef, undef, undef, undef, undef, undef, undef, undef, undef, undef, undef, undef, undef, undef, undef, undef, undef, undef, undef, undef] (by simp only [Try.ntmps46, List.size_toArray, List.length_cons, List.length_nil, Nat.reduceAdd, Nat.reduceSub, Array.replicate_succ, Array.replicate_zero, List.push_toArray, List.append_toArray, List.nil_append, List.cons_append]) _ Try.results46 _ _ _ ?_
  repeat (first | ((with_reducible show SP _ _ _ (Code.region _ _ true) _ _ _); first | (refine SPa (id := 0) [17, 20] [] ([]) [0, 1, 2, 3, 4, 5, 6, 7, 8, 9, 10, 11, 12, 13, 14, 15, 16, 17, 18, 19, 20] follows ?_; (iterate 3 refine fPv ?_); refine SF.nc ?_; refine SF.e tabOk ?_; (first | (refine SF.ldR tabOk ?_) | (refine SF.ldP tabOk ?_ (hn := by first | (simp [ints_size, *]; done) | (simp [ints_size, *]; omega)) (hB := by first | exact (ap_x (by first | assumption | rfl)) | exact (ap_z (by first | assumption | rfl) (by first | assumption | rfl))))); refine fPv ?_; refine SF.nc ?_; refine SF.e tabOk ?_; (first | (refine SF.ldR tabOk ?_) | (refine SF.ldP tabOk ?_ (hn := by first | (simp [ints_size, *]; done) | (simp [ints_size, *]; omega)) (hB := by first | exact (ap_x (by first | assumption | rfl)) | exact (ap_z (by first | assumption | rfl) (by first | assumption | rfl))))); refine fPv ?_; refine SF.v (ValO.call ent_65 _ rfl _ (fun w _ => hsw _ _ (by assumption) (by assumption) w)) ?_; (iterate 3 refine fPv ?_); refine SF.nc ?_; refine SF.e tabOk ?_; (first | (refine SF.stR tabOk ?_) | (refine SF.stQ tabOk ?_ (hsz := by first | (simp [ints_size, *]; done) | (simp [ints_size, *]; omega)) (hA := by first | exact (put_x (by simp [*])) | exact (put_z (by first | assumption | rfl) (by simp [*]))))); refine SF.nc ?_; refine SF.e tabOk ?_; (first | (refine SF.stR tabOk ?_) | (refine SF.stQ tabOk ?_ (hsz := by first | (simp [ints_size, *]; done) | (simp [ints_size, *]; omega)) (hA := by first | exact (put_x (by simp [*])) | exact (put_z (by first | assumption | rfl) (by simp [*]))))); refine SF.done ?_) | (refine SPa (id := 1) [17, 20] [] ([]) [0, 1, 2, 3, 4, 5, 6, 7, 8, 9, 10, 11, 12, 13, 14, 15, 16, 17, 18, 19, 20] follows ?_; (iterate 3 refine fPv ?_); refine SF.nc ?_; refine SF.e tabOk ?_; (first | (refine SF.ldR tabOk ?_) | (refine SF.ldP tabOk ?_ (hn := by first | (simp [ints_size, *]; done) | (simp [ints_size, *]; omega)) (hB := by first | exact (ap_x (by first | assumption | rfl)) | exact (ap_z (by first | assumption | rfl) (by first | assumption | rfl))))); refine fPv ?_; refine SF.nc ?_; refine SF.e tabOk ?_; (first | (refine SF.ldR tabOk ?_) | (refine SF.ldP tabOk ?_ (hn := by first | (simp [ints_size, *]; done) | (simp [ints_size, *]; omega)) (hB := by first | exact (ap_x (by first | assumption | rfl)) | exact (ap_z (by first | assumption | rfl) (by first | assumption | rfl))))); refine fPv ?_; refine SF.v (ValO.call ent_65 _ rfl _ (fun w _ => hsw _ _ (by assumption) (by assumption) w)) ?_; (iterate 3 refine fPv ?_); refine SF.nc ?_; refine SF.e tabOk ?_; (first | (refine SF.stR tabOk ?_) | (refine SF.stQ tabOk ?_ (hsz := by first | (simp [ints_size, *]; done) | (simp [ints_size, *]; omega)) (hA := by first | exact (put_x (by simp [*])) | exact (put_z (by first | assumption | rfl) (by simp [*]))))); refine SF.nc ?_; refine SF.e tabOk ?_; (first | (refine SF.stR tabOk ?_) | (refine SF.stQ tabOk ?_ (hsz := by first | (simp [ints_size, *]; done) | (simp [ints_size, *]; omega)) (hA := by first | exact (put_x (by simp [*])) | exact (put_z (by first | assumption | rfl) (by simp [*]))))); refine SF.done ?_)) | (refine zsq ?_; intro _ _) | (with_reducible refine zkN ?_) | (refine useK (by assumption) ?_) | (with_reducible first | refine zsB ?_ | refine zkX ?_ | refine zkR ?_ | refine zbN ?_ | refine zbR ?_ | refine zbE ?_ | refine zbX ?_ | refine zsS ?_ | refine zsR ?_ | refine zsX ?_) | (refine cdT ?_) | (refine cdF ?_))
  exact doneK.mk rfl ResO.nil ⟨rfl, (by first | exact List.Sublist.refl _ | exact (List.Sublist.refl _).cons _ | (repeat (first | exact List.Sublist.refl _ | apply List.Sublist.cons)))⟩
theorem cswap1_any (b c : Nat) (T1 T2 : TypeId) (px pz qx qz : List Int) {v1 v2 v3 v4 : Int} (hpx : IsE px v1) (hpz : IsE pz v2) (hqx : IsE qx v3) (hqz : IsE qz v4) (bt : Int) (hbt : bt % 2 = 1) (w : World) (hne : b ≠ c)
    (hb : w.heap[b]? = some (.cells (ints .u64 (px ++ pz)) T1 (0, 0))) (hc : w.heap[c]? = some (.cells (ints .u64 (qx ++ qz)) T2 (0, 0))) :
    Calls Try.prog 46 #[.pointer (some ⟨b, 0, none⟩), .pointer (some ⟨c, 0, none⟩), .int .i64 bt] w fun e w' => e = .returned (.tuple #[]) ∧ OwnM w [b, c] w' [(b, ints .u64 (qx ++ qz), T1), (c, ints .u64 (px ++ pz), T2)] := by
  have lpx := hpx.1
  have lpz := hpz.1
  have lqx := hqx.1
  have lqz := hqz.1
  have hsw : ∀ (x y : List Int) {v u : Int}, IsE x v → IsE y u → ∀ w : World, Calls Try.prog 65 #[.agg (ints .u64 x), .agg (ints .u64 y), .int .i64 bt] w fun e w' => e = .returned (.tuple #[.agg (ints .u64 y), .agg (ints .u64 x)]) ∧ Below w.heap.size w w' := by
    intro x y v u hx hy w
    have h1 := swap_any x y bt hx.1 hy.1 w
    have h2 := swap_eq hx.1 hy.1 hx.allG hy.allG bt
    rw [h2.1, h2.2] at h1
    simpa [hbt] using h1
  refine mut2_of_SP Try.func46 rfl hb hc hne [.pointer (some ⟨b, 0, none⟩), .pointer (some ⟨c, 0, none⟩), .int .i64 bt, undef, undef, undef, undef, undef, undef, undef, undef, undef, undef, undef, undef, undef, undef, undef, undef, undef, undef, undef, undef, undef, undef, undef, undef, undef, undef, undef, undef, undef, undef, undef, undef, undef, undef, undef, undef, undef, undef, undef, undef, undef] (by simp only [Try.ntmps46, List.size_toArray, List.length_cons, List.length_nil, Nat.reduceAdd, Nat.reduceSub, Array.replicate_succ, Array.replicate_zero, List.push_toArray, List.append_toArray, List.nil_append, List.cons_append]) _ Try.results46 _ _ _ ?_
  repeat (first | ((with_reducible show SP _ _ _ (Code.region _ _ true) _ _ _); first | (refine SPa (id := 0) [17, 20] [] ([]) [0, 1, 2, 3, 4, 5, 6, 7, 8, 9, 10, 11, 12, 13, 14, 15, 16, 17, 18, 19, 20] follows ?_; (iterate 3 refine fPv ?_); refine SF.nc ?_; refine SF.e tabOk ?_; (first | (refine SF.ldR tabOk ?_) | (refine SF.ldP tabOk ?_ (hn := by first | (simp [ints_size, *]; done) | (simp [ints_size, *]; omega)) (hB := by first | exact (ap_x (by first | assumption | rfl)) | exact (ap_z (by first | assumption | rfl) (by first | assumption | rfl))))); refine fPv ?_; refine SF.nc ?_; refine SF.e tabOk ?_; (first | (refine SF.ldR tabOk ?_) | (refine SF.ldP tabOk ?_ (hn := by first | (simp [ints_size, *]; done) | (simp [ints_size, *]; omega)) (hB := by first | exact (ap_x (by first | assumption | rfl)) | exact (ap_z (by first | assumption | rfl) (by first | assumption | rfl))))); refine fPv ?_; refine SF.v (ValO.call ent_65 _ rfl _ (fun w _ => hsw _ _ (by assumption) (by assumption) w)) ?_; (iterate 3 refine fPv ?_); refine SF.nc ?_; refine SF.e tabOk ?_; (first | (refine SF.stR tabOk ?_) | (refine SF.stQ tabOk ?_ (hsz := by first | (simp [ints_size, *]; done) | (simp [ints_size, *]; omega)) (hA := by first | exact (put_x (by simp [*])) | exact (put_z (by first | assumption | rfl) (by simp [*]))))); refine SF.nc ?_; refine SF.e tabOk ?_; (first | (refine SF.stR tabOk ?_) | (refine SF.stQ tabOk ?_ (hsz := by first | (simp [ints_size, *]; done) | (simp [ints_size, *]; omega)) (hA := by first | exact (put_x (by simp [*])) | exact (put_z (by first | assumption | rfl) (by simp [*]))))); refine SF.done ?_) | (refine SPa (id := 1) [17, 20] [] ([]) [0, 1, 2, 3, 4, 5, 6, 7, 8, 9, 10, 11, 12, 13, 14, 15, 16, 17, 18, 19, 20] follows ?_; (iterate 3 refine fPv ?_); refine SF.nc ?_; refine SF.e tabOk ?_; (first | (refine SF.ldR tabOk ?_) | (refine SF.ldP tabOk ?_ (hn := by first | (simp [ints_size, *]; done) | (simp [ints_size, *]; omega)) (hB := by first | exact (ap_x (by first | assumption | rfl)) | exact (ap_z (by first | assumption | rfl) (by first | assumption | rfl))))); refine fPv ?_; refine SF.nc ?_; refine SF.e tabOk ?_; (first | (refine SF.ldR tabOk ?_) | (refine SF.ldP tabOk ?_ (hn := by first | (simp [ints_size, *]; done) | (simp [ints_size, *]; omega)) (hB := by first | exact (ap_x (by first | assumption | rfl)) | exact (ap_z (by first | assumption | rfl) (by first | assumption | rfl))))); refine fPv ?_; refine SF.v (ValO.call ent_65 _ rfl _ (fun w _ => hsw _ _ (by assumption) (by assumption) w)) ?_; (iterate 3 refine fPv ?_); refine SF.nc ?_; refine SF.e tabOk ?_; (first | (refine SF.stR tabOk ?_) | (refine SF.stQ tabOk ?_ (hsz := by first | (simp [ints_size, *]; done) | (simp [ints_size, *]; omega)) (hA := by first | exact (put_x (by simp [*])) | exact (put_z (by first | assumption | rfl) (by simp [*]))))); refine SF.nc ?_; refine SF.e tabOk ?_; (first | (refine SF.stR tabOk ?_) | (refine SF.stQ tabOk ?_ (hsz := by first | (simp [ints_size, *]; done) | (simp [ints_size, *]; omega)) (hA := by first | exact (put_x (by simp [*])) | exact (put_z (by first | assumption | rfl) (by simp [*]))))); refine SF.done ?_)) | (refine zsq ?_; intro _ _) | (with_reducible refine zkN ?_) | (refine useK (by assumption) ?_) | (with_reducible first | refine zsB ?_ | refine zkX ?_ | refine zkR ?_ | refine zbN ?_ | refine zbR ?_ | refine zbE ?_ | refine zbX ?_ | refine zsS ?_ | refine zsR ?_ | refine zsX ?_) | (refine cdT ?_) | (refine cdF ?_))
  exact doneK.mk rfl ResO.nil ⟨rfl, (by first | exact List.Sublist.refl _ | exact (List.Sublist.refl _).cons _ | (repeat (first | exact List.Sublist.refl _ | apply List.Sublist.cons)))⟩
@[irreducible] def lpx (px pz : List Int) : List Int := mulE (mulE (addE px pz) (addE px pz)) (mulE (subE px pz) (subE px pz))
@[irreducible] def lpz (px pz : List Int) : List Int := mulE (subE (mulE (addE px pz) (addE px pz)) (mulE (subE px pz) (subE px pz))) (addE (mulE (addE px pz) (addE px pz)) (mulE (smallE 121665) (subE (mulE (addE px pz) (addE px pz)) (mulE (subE px pz) (subE px pz)))))
@[irreducible] def lqx (px pz qx qz : List Int) : List Int := mulE (addE (mulE (subE qx qz) (addE px pz)) (mulE (addE qx qz) (subE px pz))) (addE (mulE (subE qx qz) (addE px pz)) (mulE (addE qx qz) (subE px pz)))
@[irreducible] def lqz (u px pz qx qz : List Int) : List Int := mulE u (mulE (subE (mulE (subE qx qz) (addE px pz)) (mulE (addE qx qz) (subE px pz))) (subE (mulE (subE qx qz) (addE px pz)) (mulE (addE qx qz) (subE px pz))))
theorem ladder_any (b c : Nat) (T1 T2 : TypeId) (px pz qx qz u : List Int) {v1 v2 v3 v4 v5 : Int} (hpx : IsE px v1) (hpz : IsE pz v2) (hqx : IsE qx v3) (hqz : IsE qz v4) (hu : IsE u v5) (w : World) (hne : b ≠ c)
    (hb : w.heap[b]? = some (.cells (ints .u64 (px ++ pz)) T1 (0, 0))) (hc : w.heap[c]? = some (.cells (ints .u64 (qx ++ qz)) T2 (0, 0))) :
    Calls Try.prog 47 #[.pointer (some ⟨b, 0, none⟩), .pointer (some ⟨c, 0, none⟩), .agg (ints .u64 u)] w fun e w' => e = .returned (.tuple #[]) ∧ OwnM w [b, c] w' [(b, ints .u64 (lpx px pz ++ lpz px pz), T1), (c, ints .u64 (lqx px pz qx qz ++ lqz u px pz qx qz), T2)] := by
  unfold Go.Proofs.Ytdjecenggngdjaa.lpx Go.Proofs.Ytdjecenggngdjaa.lpz Go.Proofs.Ytdjecenggngdjaa.lqx Go.Proofs.Ytdjecenggngdjaa.lqz
  have lpx := hpx.1
  have lpz := hpz.1
  have lqx := hqx.1
  have lqz := hqz.1
  have lu := hu.1
  have h1 := addE_is hpx hpz
  have h2 := subE_is hpx hpz
  have h3 := subE_is hqx hqz
  have h4 := mulE_is h3 h1
  have h5 := addE_is hqx hqz
  have h6 := mulE_is h5 h2
  have h7 := addE_is h4 h6
  have h8 := mulE_is h7 h7
  have h9 := subE_is h4 h6
  have h10 := mulE_is h9 h9
  have h11 := mulE_is hu h10
  have h12 := mulE_is h1 h1
  have h13 := mulE_is h2 h2
  have h14 := subE_is h12 h13
  have h15 := mulE_is h12 h13
  have h16 := smallE_is (n := 121665) (by omega)
  have h17 := mulE_is h16 h14
  have h18 := addE_is h12 h17
  have h19 := mulE_is h14 h18
  have l1 := h1.1
  have l2 := h2.1
  have l3 := h3.1
  have l4 := h4.1
  have l5 := h5.1
  have l6 := h6.1
  have l7 := h7.1
  have l8 := h8.1
  have l9 := h9.1
  have l10 := h10.1
  have l11 := h11.1
  have l12 := h12.1
  have l13 := h13.1
  have l14 := h14.1
  have l15 := h15.1
  have l16 := h16.1
  have l17 := h17.1
  have l18 := h18.1
  have l19 := h19.1
  refine mut2_of_SP Try.func47 rfl hb hc hne [.pointer (some ⟨b, 0, none⟩), .pointer (some ⟨c, 0, none⟩), .agg (ints .u64 u), undef, undef, undef, undef, undef, undef, undef, undef, undef, undef, undef, undef, undef, undef, undef, undef, undef, undef, undef, undef, undef, undef, undef, undef, undef, undef, undef, undef, undef, undef, undef, undef, undef, undef, undef, undef, undef, undef, undef, undef, undef, undef, undef, undef, undef, undef, undef, undef, undef, undef, undef, undef, undef, undef, undef, undef, undef, undef, undef, undef, undef, undef, undef, undef, undef, undef, undef, undef, undef, undef, undef, undef, undef, undef, undef, undef, undef, undef, undef, undef, undef, undef, undef, undef, undef, undef, undef, undef, undef] (by simp only [Try.ntmps47, List.size_toArray, List.length_cons, List.length_nil, Nat.reduceAdd, Nat.reduceSub, Array.replicate_succ, Array.replicate_zero, List.push_toArray, List.append_toArray, List.nil_append, List.cons_append]) _ Try.results47 _ _ _ ?_
  have tok_ub : True := trivial
  repeat (first | (refine rgn 0 ?_; refine SL.bx ?_; (first | (have _t := tok_ub; clear _t tok_ub; intro ub) | intro _); refine nlx ?_) | (refine rgn 5 ?_; (first | (refine SL.ldR tabOk ?_) | (refine SL.ldP tabOk ?_ (hn := by first | (simp [ints_size, *]; done) | (simp [ints_size, *]; omega)) (hB := by first | exact (ap_x (by first | assumption | rfl)) | exact (ap_z (by first | assumption | rfl) (by first | assumption | rfl))))); (first | (refine SL.ldR tabOk ?_) | (refine SL.ldP tabOk ?_ (hn := by first | (simp [ints_size, *]; done) | (simp [ints_size, *]; omega)) (hB := by first | exact (ap_x (by first | assumption | rfl)) | exact (ap_z (by first | assumption | rfl) (by first | assumption | rfl))))); refine SL.v (ValO.call ent_67 _ rfl _ (fun w _ => subE_any _ _ (by assumption) (by assumption) w)) ?_; refine SL.al zero_82 ?_; (first | (have _t := tok_ub; clear _t tok_ub; intro ub) | intro _); (first | (refine SL.stR tabOk ?_) | (refine SL.stQ tabOk ?_ (hsz := by first | (simp [ints_size, *]; done) | (simp [ints_size, *]; omega)) (hA := by first | exact (put_x (by simp [*])) | exact (put_z (by first | assumption | rfl) (by simp [*]))))); refine nlx ?_) | ((with_reducible show SP _ _ _ (Code.region _ _ true) _ _ _); first | (refine SPa (id := 1) [20, 21] [] ([]) [0, 1, 2, 3, 4, 5, 6, 7, 8, 9, 10, 11, 12, 13, 14, 15, 16, 17, 18, 19, 20, 21] follows ?_; refine fPv ?_; refine SF.nc ?_; refine SF.e tabOk ?_; (first | (refine SF.ldR tabOk ?_) | (refine SF.ldP tabOk ?_ (hn := by first | (simp [ints_size, *]; done) | (simp [ints_size, *]; omega)) (hB := by first | exact (ap_x (by first | assumption | rfl)) | exact (ap_z (by first | assumption | rfl) (by first | assumption | rfl))))); refine fPv ?_; refine SF.nc ?_; refine SF.e tabOk ?_; (first | (refine SF.ldR tabOk ?_) | (refine SF.ldP tabOk ?_ (hn := by first | (simp [ints_size, *]; done) | (simp [ints_size, *]; omega)) (hB := by first | exact (ap_x (by first | assumption | rfl)) | exact (ap_z (by first | assumption | rfl) (by first | assumption | rfl))))); refine SF.v (ValO.call ent_66 _ rfl _ (fun w _ => addE_any _ _ (by assumption) (by assumption) w)) ?_; refine fPv ?_; refine SF.nc ?_; refine SF.e tabOk ?_; (first | (refine SF.ldR tabOk ?_) | (refine SF.ldP tabOk ?_ (hn := by first | (simp [ints_size, *]; done) | (simp [ints_size, *]; omega)) (hB := by first | exact (ap_x (by first | assumption | rfl)) | exact (ap_z (by first | assumption | rfl) (by first | assumption | rfl))))); refine fPv ?_; refine SF.nc ?_; refine SF.e tabOk ?_; (first | (refine SF.ldR tabOk ?_) | (refine SF.ldP tabOk ?_ (hn := by first | (simp [ints_size, *]; done) | (simp [ints_size, *]; omega)) (hB := by first | exact (ap_x (by first | assumption | rfl)) | exact (ap_z (by first | assumption | rfl) (by first | assumption | rfl))))); refine SF.v (ValO.call ent_67 _ rfl _ (fun w _ => subE_any _ _ (by assumption) (by assumption) w)) ?_; refine SF.al zero_82 ?_; (first | (have _t := tok_ub; clear _t tok_ub; intro ub) | intro _); refine SF.al zero_82 ?_; (first | (have _t := tok_ub; clear _t tok_ub; intro ub) | intro _); (first | (refine SF.stR tabOk ?_) | (refine SF.stQ tabOk ?_ (hsz := by first | (simp [ints_size, *]; done) | (simp [ints_size, *]; omega)) (hA := by first | exact (put_x (by simp [*])) | exact (put_z (by first | assumption | rfl) (by simp [*]))))); (first | (refine SF.stR tabOk ?_) | (refine SF.stQ tabOk ?_ (hsz := by first | (simp [ints_size, *]; done) | (simp [ints_size, *]; omega)) (hA := by first | exact (put_x (by simp [*])) | exact (put_z (by first | assumption | rfl) (by simp [*]))))); refine SF.done ?_) | (refine SPa (id := 2) [24, 25] [] ([]) [0, 1, 2, 3, 4, 5, 6, 7, 8, 9, 10, 11, 12, 13, 14, 15, 16, 17, 18, 19, 20, 21, 22, 23, 24, 25] follows ?_; refine fPv ?_; refine SF.nc ?_; refine SF.e tabOk ?_; (first | (refine SF.ldR tabOk ?_) | (refine SF.ldP tabOk ?_ (hn := by first | (simp [ints_size, *]; done) | (simp [ints_size, *]; omega)) (hB := by first | exact (ap_x (by first | assumption | rfl)) | exact (ap_z (by first | assumption | rfl) (by first | assumption | rfl))))); refine fPv ?_; refine SF.nc ?_; refine SF.e tabOk ?_; (first | (refine SF.ldR tabOk ?_) | (refine SF.ldP tabOk ?_ (hn := by first | (simp [ints_size, *]; done) | (simp [ints_size, *]; omega)) (hB := by first | exact (ap_x (by first | assumption | rfl)) | exact (ap_z (by first | assumption | rfl) (by first | assumption | rfl))))); refine SF.v (ValO.call ent_67 _ rfl _ (fun w _ => subE_any _ _ (by assumption) (by assumption) w)) ?_; (first | (refine SF.ldR tabOk ?_) | (refine SF.ldP tabOk ?_ (hn := by first | (simp [ints_size, *]; done) | (simp [ints_size, *]; omega)) (hB := by first | exact (ap_x (by first | assumption | rfl)) | exact (ap_z (by first | assumption | rfl) (by first | assumption | rfl))))); refine SF.v (ValO.call ent_48 _ rfl _ (fun w _ => mulE_any _ _ (by assumption) (by assumption) w)) ?_; refine fPv ?_; refine SF.nc ?_; refine SF.e tabOk ?_; (first | (refine SF.ldR tabOk ?_) | (refine SF.ldP tabOk ?_ (hn := by first | (simp [ints_size, *]; done) | (simp [ints_size, *]; omega)) (hB := by first | exact (ap_x (by first | assumption | rfl)) | exact (ap_z (by first | assumption | rfl) (by first | assumption | rfl))))); refine fPv ?_; refine SF.nc ?_; refine SF.e tabOk ?_; (first | (refine SF.ldR tabOk ?_) | (refine SF.ldP tabOk ?_ (hn := by first | (simp [ints_size, *]; done) | (simp [ints_size, *]; omega)) (hB := by first | exact (ap_x (by first | assumption | rfl)) | exact (ap_z (by first | assumption | rfl) (by first | assumption | rfl))))); refine SF.v (ValO.call ent_66 _ rfl _ (fun w _ => addE_any _ _ (by assumption) (by assumption) w)) ?_; (first | (refine SF.ldR tabOk ?_) | (refine SF.ldP tabOk ?_ (hn := by first | (simp [ints_size, *]; done) | (simp [ints_size, *]; omega)) (hB := by first | exact (ap_x (by first | assumption | rfl)) | exact (ap_z (by first | assumption | rfl) (by first | assumption | rfl))))); refine SF.v (ValO.call ent_48 _ rfl _ (fun w _ => mulE_any _ _ (by assumption) (by assumption) w)) ?_; refine SF.al zero_82 ?_; (first | (have _t := tok_ub; clear _t tok_ub; intro ub) | intro _); refine SF.al zero_82 ?_; (first | (have _t := tok_ub; clear _t tok_ub; intro ub) | intro _); (first | (refine SF.stR tabOk ?_) | (refine SF.stQ tabOk ?_ (hsz := by first | (simp [ints_size, *]; done) | (simp [ints_size, *]; omega)) (hA := by first | exact (put_x (by simp [*])) | exact (put_z (by first | assumption | rfl) (by simp [*]))))); (first | (refine SF.stR tabOk ?_) | (refine SF.stQ tabOk ?_ (hsz := by first | (simp [ints_size, *]; done) | (simp [ints_size, *]; omega)) (hA := by first | exact (put_x (by simp [*])) | exact (put_z (by first | assumption | rfl) (by simp [*]))))); refine SF.done ?_) | (refine SPa (id := 3) [14, 17] [] ([]) [0, 1, 2, 3, 4, 5, 6, 7, 8, 9, 10, 11, 12, 13, 14, 15, 16, 17] follows ?_; refine fPv ?_; refine fPv ?_; (first | (refine SF.ldR tabOk ?_) | (refine SF.ldP tabOk ?_ (hn := by first | (simp [ints_size, *]; done) | (simp [ints_size, *]; omega)) (hB := by first | exact (ap_x (by first | assumption | rfl)) | exact (ap_z (by first | assumption | rfl) (by first | assumption | rfl))))); (first | (refine SF.ldR tabOk ?_) | (refine SF.ldP tabOk ?_ (hn := by first | (simp [ints_size, *]; done) | (simp [ints_size, *]; omega)) (hB := by first | exact (ap_x (by first | assumption | rfl)) | exact (ap_z (by first | assumption | rfl) (by first | assumption | rfl))))); refine SF.v (ValO.call ent_66 _ rfl _ (fun w _ => addE_any _ _ (by assumption) (by assumption) w)) ?_; refine SF.v (ValO.call ent_68 _ rfl _ (fun w _ => square_any _ (by assumption) w)) ?_; (first | (refine SF.ldR tabOk ?_) | (refine SF.ldP tabOk ?_ (hn := by first | (simp [ints_size, *]; done) | (simp [ints_size, *]; omega)) (hB := by first | exact (ap_x (by first | assumption | rfl)) | exact (ap_z (by first | assumption | rfl) (by first | assumption | rfl))))); (first | (refine SF.ldR tabOk ?_) | (refine SF.ldP tabOk ?_ (hn := by first | (simp [ints_size, *]; done) | (simp [ints_size, *]; omega)) (hB := by first | exact (ap_x (by first | assumption | rfl)) | exact (ap_z (by first | assumption | rfl) (by first | assumption | rfl))))); (first | (refine SF.ldR tabOk ?_) | (refine SF.ldP tabOk ?_ (hn := by first | (simp [ints_size, *]; done) | (simp [ints_size, *]; omega)) (hB := by first | exact (ap_x (by first | assumption | rfl)) | exact (ap_z (by first | assumption | rfl) (by first | assumption | rfl))))); refine SF.v (ValO.call ent_67 _ rfl _ (fun w _ => subE_any _ _ (by assumption) (by assumption) w)) ?_; refine SF.v (ValO.call ent_68 _ rfl _ (fun w _ => square_any _ (by assumption) w)) ?_; refine SF.v (ValO.call ent_48 _ rfl _ (fun w _ => mulE_any _ _ (by assumption) (by assumption) w)) ?_; refine SF.nc ?_; refine SF.e tabOk ?_; (first | (refine SF.stR tabOk ?_) | (refine SF.stQ tabOk ?_ (hsz := by first | (simp [ints_size, *]; done) | (simp [ints_size, *]; omega)) (hA := by first | exact (put_x (by simp [*])) | exact (put_z (by first | assumption | rfl) (by simp [*]))))); refine SF.nc ?_; refine SF.e tabOk ?_; (first | (refine SF.stR tabOk ?_) | (refine SF.stQ tabOk ?_ (hsz := by first | (simp [ints_size, *]; done) | (simp [ints_size, *]; omega)) (hA := by first | exact (put_x (by simp [*])) | exact (put_z (by first | assumption | rfl) (by simp [*]))))); refine SF.done ?_) | (refine SPa (id := 4) [6, 7] [] ([]) [0, 1, 2, 3, 4, 5, 6, 7] follows ?_; (first | (refine SF.ldR tabOk ?_) | (refine SF.ldP tabOk ?_ (hn := by first | (simp [ints_size, *]; done) | (simp [ints_size, *]; omega)) (hB := by first | exact (ap_x (by first | assumption | rfl)) | exact (ap_z (by first | assumption | rfl) (by first | assumption | rfl))))); refine SF.v (ValO.call ent_68 _ rfl _ (fun w _ => square_any _ (by assumption) w)) ?_; (first | (refine SF.ldR tabOk ?_) | (refine SF.ldP tabOk ?_ (hn := by first | (simp [ints_size, *]; done) | (simp [ints_size, *]; omega)) (hB := by first | exact (ap_x (by first | assumption | rfl)) | exact (ap_z (by first | assumption | rfl) (by first | assumption | rfl))))); refine SF.v (ValO.call ent_68 _ rfl _ (fun w _ => square_any _ (by assumption) w)) ?_; refine SF.al zero_82 ?_; (first | (have _t := tok_ub; clear _t tok_ub; intro ub) | intro _); refine SF.al zero_82 ?_; (first | (have _t := tok_ub; clear _t tok_ub; intro ub) | intro _); (first | (refine SF.stR tabOk ?_) | (refine SF.stQ tabOk ?_ (hsz := by first | (simp [ints_size, *]; done) | (simp [ints_size, *]; omega)) (hA := by first | exact (put_x (by simp [*])) | exact (put_z (by first | assumption | rfl) (by simp [*]))))); (first | (refine SF.stR tabOk ?_) | (refine SF.stQ tabOk ?_ (hsz := by first | (simp [ints_size, *]; done) | (simp [ints_size, *]; omega)) (hA := by first | exact (put_x (by simp [*])) | exact (put_z (by first | assumption | rfl) (by simp [*]))))); refine SF.done ?_) | (refine SPa (id := 6) [14, 17] [] ([]) [0, 1, 2, 3, 4, 5, 6, 7, 8, 9, 10, 11, 12, 13, 14, 15, 16, 17] follows ?_; refine fPv ?_; refine fPv ?_; (first | (refine SF.ldR tabOk ?_) | (refine SF.ldP tabOk ?_ (hn := by first | (simp [ints_size, *]; done) | (simp [ints_size, *]; omega)) (hB := by first | exact (ap_x (by first | assumption | rfl)) | exact (ap_z (by first | assumption | rfl) (by first | assumption | rfl))))); (first | (refine SF.ldR tabOk ?_) | (refine SF.ldP tabOk ?_ (hn := by first | (simp [ints_size, *]; done) | (simp [ints_size, *]; omega)) (hB := by first | exact (ap_x (by first | assumption | rfl)) | exact (ap_z (by first | assumption | rfl) (by first | assumption | rfl))))); refine SF.v (ValO.call ent_48 _ rfl _ (fun w _ => mulE_any _ _ (by assumption) (by assumption) w)) ?_; (first | (refine SF.ldR tabOk ?_) | (refine SF.ldP tabOk ?_ (hn := by first | (simp [ints_size, *]; done) | (simp [ints_size, *]; omega)) (hB := by first | exact (ap_x (by first | assumption | rfl)) | exact (ap_z (by first | assumption | rfl) (by first | assumption | rfl))))); (first | (refine SF.ldR tabOk ?_) | (refine SF.ldP tabOk ?_ (hn := by first | (simp [ints_size, *]; done) | (simp [ints_size, *]; omega)) (hB := by first | exact (ap_x (by first | assumption | rfl)) | exact (ap_z (by first | assumption | rfl) (by first | assumption | rfl))))); refine SF.v (ValO.call ent_45 _ rfl _ (fun w _ => smallE_any _ (by omega) w)) ?_; (first | (refine SF.ldR tabOk ?_) | (refine SF.ldP tabOk ?_ (hn := by first | (simp [ints_size, *]; done) | (simp [ints_size, *]; omega)) (hB := by first | exact (ap_x (by first | assumption | rfl)) | exact (ap_z (by first | assumption | rfl) (by first | assumption | rfl))))); refine SF.v (ValO.call ent_48 _ rfl _ (fun w _ => mulE_any _ _ (by assumption) (by assumption) w)) ?_; refine SF.v (ValO.call ent_66 _ rfl _ (fun w _ => addE_any _ _ (by assumption) (by assumption) w)) ?_; refine SF.v (ValO.call ent_48 _ rfl _ (fun w _ => mulE_any _ _ (by assumption) (by assumption) w)) ?_; refine SF.nc ?_; refine SF.e tabOk ?_; (first | (refine SF.stR tabOk ?_) | (refine SF.stQ tabOk ?_ (hsz := by first | (simp [ints_size, *]; done) | (simp [ints_size, *]; omega)) (hA := by first | exact (put_x (by simp [*])) | exact (put_z (by first | assumption | rfl) (by simp [*]))))); refine SF.nc ?_; refine SF.e tabOk ?_; (first | (refine SF.stR tabOk ?_) | (refine SF.stQ tabOk ?_ (hsz := by first | (simp [ints_size, *]; done) | (simp [ints_size, *]; omega)) (hA := by first | exact (put_x (by simp [*])) | exact (put_z (by first | assumption | rfl) (by simp [*]))))); refine SF.done ?_)) | (refine zsq ?_; intro _ _) | (with_reducible refine zkN ?_) | (refine useK (by assumption) ?_) | (with_reducible first | refine zsB ?_ | refine zkX ?_ | refine zkR ?_ | refine zbN ?_ | refine zbR ?_ | refine zbE ?_ | refine zbX ?_ | refine zsS ?_ | refine zsR ?_ | refine zsX ?_) | (refine cdT ?_) | (refine cdF ?_))
  exact doneK.mk rfl ResO.nil ⟨rfl, (by first | exact List.Sublist.refl _ | exact (List.Sublist.refl _).cons _ | (repeat (first | exact List.Sublist.refl _ | apply List.Sublist.cons)))⟩
end
section
open Go Go.RowKit
def clampL (L : List Int) : List Int :=
  let L1 := L.set 0 (bits .and .u8 (gi L 0) 248)
  L1.set 31 (bits .or .u8 (bits .and .u8 (gi L1 31) 127) 64)
theorem info_key : (Try.prog.info? 23).map (·.size) = some 32 := by kernel_rfl
theorem zero_key : (Try.prog.info? 23).map (·.zero) = some (some (.agg (ints .u8 (List.replicate 32 0)))) := by kernel_rfl
theorem info_key_sz {k : IntKind} (L : List Int) (h : L.length = 32) : (Try.prog.info? 23).map (·.size) = some (ints k L).size := by rw [ints_size, h]; exact info_key
theorem clamp_any (L : List Int) (hL : L.length = 32) (w : World) :
    Calls Try.prog 43 #[.agg (ints .u8 L)] w fun e w' => e = .returned (.agg (ints .u8 (clampL L))) ∧ Below w.heap.size w w' := by
  have hown := Own.start w
  go_enter Try.func43, Try.ntmps43
  go_wp2_with (first | (refine wpl_box hown rfl _ _ rfl _ rfl ?_; clear hown; intro _ _ hown; dsimp only [putL, setNth]) | (refine wpl_alloc hown rfl _ rfl _ zero_key ?_; clear hown; intro _ _ hown; dsimp only [putL, setNth]) | (refine wpl_load_int hown rfl 5 _ rfl _ _ rfl _ Try.underlying5 1 _ _ rfl (by simp [ints_size, List.length_set, hL]) ?_; dsimp only [putL, setNth]) | (refine wpl_store_int hown rfl 5 _ _ rfl _ _ rfl _ _ rfl size_u8 1 _ _ rfl (by simp [ints_size, List.length_set, hL]) ?_; clear hown; intro _ hown; dsimp only [putL]; simp only [List.set_cons_zero, List.set_cons_succ] at hown) | (refine wpl_load_row hown rfl 23 _ rfl _ rfl 1 _ _ rfl _ Try.underlying23 rfl (info_key_sz _ (by simp [hL])) ?_; dsimp only [putL, setNth]) | (refine wpl_store_row hown rfl 23 _ _ rfl _ rfl _ rfl (ints_cell _ _) (info_key_sz _ (by simp [hL])) 0 _ _ rfl (by simp [ints_size, List.length_set, hL]) ?_; clear hown; intro _ hown; dsimp only [putL]; simp only [List.set_cons_zero, List.set_cons_succ] at hown))
  refine bodyPost_ret (results_own hown rfl _ rfl 0 _ _ rfl _ Try.underlying23 rfl (info_key_sz _ (by simp [hL]))) rfl ⟨rfl, hown.below⟩
end
section
open Go Go.RowKit
open Sp F
@[irreducible] def bitE (K : List Int) (k : Nat) : Int := bits .and .u8 ((gi K ((254 - k) / 8)).fdiv (2 ^ min (((254 : Int) - (k : Int)).tmod 8).toNat IntKind.u8.bits)) 1
def Byt (K : List Int) : Prop := ∀ j, 0 ≤ gi K j ∧ gi K j < 256
theorem bitE_01 {K : List Int} (hK : Byt K) (k : Nat) : bitE K k = 0 ∨ bitE K k = 1 := by
  unfold bitE
  have h := hK ((254 - k) / 8)
  have hp : (0 : Int) < 2 ^ min (((254 : Int) - (k : Int)).tmod 8).toNat IntKind.u8.bits := Int.pow_pos (by omega)
  rw [Int.fdiv_eq_ediv_of_nonneg _ (Int.le_of_lt hp)]
  have h0 : 0 ≤ gi K ((254 - k) / 8) / 2 ^ min (((254 : Int) - (k : Int)).tmod 8).toNat IntKind.u8.bits := Int.ediv_nonneg h.1 (Int.le_of_lt hp)
  have h1 : gi K ((254 - k) / 8) / 2 ^ min (((254 : Int) - (k : Int)).tmod 8).toNat IntKind.u8.bits ≤ gi K ((254 - k) / 8) := Int.ediv_le_self _ h.1
  rw [u8_bit h0 (by omega)]
  omega
structure VS where
  px : Int
  pz : Int
  qx : Int
  qz : Int
  last : Int
@[irreducible] def vStep (U px pz qx qz bt : Int) : VS :=
  ⟨(px + pz) * (px + pz) * ((px - pz) * (px - pz)),
   ((px + pz) * (px + pz) - (px - pz) * (px - pz)) * ((px + pz) * (px + pz) + 121665 * ((px + pz) * (px + pz) - (px - pz) * (px - pz))),
   ((qx - qz) * (px + pz) + (qx + qz) * (px - pz)) * ((qx - qz) * (px + pz) + (qx + qz) * (px - pz)),
   U * (((qx - qz) * (px + pz) - (qx + qz) * (px - pz)) * ((qx - qz) * (px + pz) - (qx + qz) * (px - pz))), bt⟩
def vI' (K : List Int) (U : Int) : Nat → VS
  | 0 => ⟨1, 0, U, 1, 0⟩
  | i + 1 => if bitE K i = (vI' K U i).last then vStep U (vI' K U i).px (vI' K U i).pz (vI' K U i).qx (vI' K U i).qz (bitE K i) else vStep U (vI' K U i).qx (vI' K U i).qz (vI' K U i).px (vI' K U i).pz (bitE K i)
@[irreducible] def vI (K : List Int) (U : Int) (i : Nat) : VS := vI' K U i
theorem vI_0 (K : List Int) (U : Int) : vI K U 0 = ⟨1, 0, U, 1, 0⟩ := by unfold vI; rfl
theorem vI_s (K : List Int) (U : Int) (i : Nat) : vI K U (i + 1) = if bitE K i = (vI K U i).last then vStep U (vI K U i).px (vI K U i).pz (vI K U i).qx (vI K U i).qz (bitE K i) else vStep U (vI K U i).qx (vI K U i).qz (vI K U i).px (vI K U i).pz (bitE K i) := by unfold vI; rfl
theorem vStep_last (U px pz qx qz bt : Int) : (vStep U px pz qx qz bt).last = bt := by unfold vStep; rfl
theorem vI_last {K : List Int} (hK : Byt K) (U : Int) : ∀ k, (vI K U k).last = 0 ∨ (vI K U k).last = 1
  | 0 => by rw [vI_0]; exact .inl rfl
  | k + 1 => by
    rw [vI_s]
    split <;> rw [vStep_last] <;> exact bitE_01 hK k
@[irreducible] def vX (K : List Int) (U : Int) : Int :=
  if (vI K U 255).last = 0 then (vI K U 255).px * invV (vI K U 255).pz 255 else (vI K U 255).qx * invV (vI K U 255).qz 255
structure ES where
  px : List Int
  pz : List Int
  qx : List Int
  qz : List Int
  last : Int
@[irreducible] def eStep (u px pz qx qz : List Int) (bt : Int) : ES := ⟨lpx px pz, lpz px pz, lqx px pz qx qz, lqz u px pz qx qz, bt⟩
def eI' (K u : List Int) : Nat → ES
  | 0 => ⟨smallE 1, List.replicate 5 0, u, smallE 1, 0⟩
  | i + 1 => if bitE K i = (eI' K u i).last then eStep u (eI' K u i).px (eI' K u i).pz (eI' K u i).qx (eI' K u i).qz (bitE K i) else eStep u (eI' K u i).qx (eI' K u i).qz (eI' K u i).px (eI' K u i).pz (bitE K i)
@[irreducible] def eI (K u : List Int) (i : Nat) : ES := eI' K u i
theorem eI_0 (K u : List Int) : eI K u 0 = ⟨smallE 1, List.replicate 5 0, u, smallE 1, 0⟩ := by unfold eI; rfl
theorem eI_s (K u : List Int) (i : Nat) : eI K u (i + 1) = if bitE K i = (eI K u i).last then eStep u (eI K u i).px (eI K u i).pz (eI K u i).qx (eI K u i).qz (bitE K i) else eStep u (eI K u i).qx (eI K u i).qz (eI K u i).px (eI K u i).pz (bitE K i) := by unfold eI; rfl
structure EOk (s : ES) (v : VS) : Prop where
  px : IsE s.px v.px
  pz : IsE s.pz v.pz
  qx : IsE s.qx v.qx
  qz : IsE s.qz v.qz
  last : s.last = v.last
theorem eStep_ok {u px pz qx qz : List Int} {U v1 v2 v3 v4 : Int} (hu : IsE u U) (hpx : IsE px v1) (hpz : IsE pz v2) (hqx : IsE qx v3) (hqz : IsE qz v4) (bt : Int) : EOk (eStep u px pz qx qz bt) (vStep U v1 v2 v3 v4 bt) := by
  have h1 := addE_is hpx hpz
  have h2 := subE_is hpx hpz
  have h3 := subE_is hqx hqz
  have h4 := mulE_is h3 h1
  have h5 := addE_is hqx hqz
  have h6 := mulE_is h5 h2
  have h7 := addE_is h4 h6
  have h8 := mulE_is h7 h7
  have h9 := subE_is h4 h6
  have h10 := mulE_is h9 h9
  have h11 := mulE_is hu h10
  have h12 := mulE_is h1 h1
  have h13 := mulE_is h2 h2
  have h14 := subE_is h12 h13
  have h15 := mulE_is h12 h13
  have h16 := smallE_is (n := 121665) (by omega)
  have h17 := mulE_is h16 h14
  have h18 := addE_is h12 h17
  have h19 := mulE_is h14 h18
  unfold eStep vStep lpx lpz lqx lqz
  exact ⟨h15, h19, h8, h11, rfl⟩
theorem zero5_is : IsE (List.replicate 5 0) 0 := by
  have h := smallE_is (n := 0) (by omega)
  rw [smallE_eq] at h
  exact h
theorem eI_ok {K u : List Int} {U : Int} (hu : IsE u U) : ∀ k, EOk (eI K u k) (vI K U k)
  | 0 => by rw [eI_0, vI_0]; exact ⟨smallE_is (by omega), zero5_is, hu, smallE_is (by omega), rfl⟩
  | k + 1 => by
    have h := eI_ok (K := K) hu k
    rw [eI_s, vI_s, h.last]
    split
    · exact eStep_ok hu h.px h.pz h.qx h.qz _
    · exact eStep_ok hu h.qx h.qz h.px h.pz _
theorem xor_same {a b : Int} (ha : a = 0 ∨ a = 1) (h : a = b) : bits .xor .i64 a b % 2 = 0 := by
  subst h
  rcases ha with rfl | rfl <;> decide
theorem xor_other {a b : Int} (ha : a = 0 ∨ a = 1) (hb : b = 0 ∨ b = 1) (h : ¬ a = b) : bits .xor .i64 a b % 2 = 1 := by
  rcases ha with rfl | rfl <;> rcases hb with rfl | rfl <;> first | exact absurd rfl h | decide
theorem list5 {x : List Int} (h : x.length = 5) : ∃ a b c d e, x = [a, b, c, d, e] := by
  match x, h with
  | [a, b, c, d, e], _ => exact ⟨a, b, c, d, e, rfl⟩
theorem bldPt1 (x : List Int) (h : x.length = 5) : Try.prog.built 87 [(0, .agg (ints .u64 x))] = some (ints .u64 (x ++ List.replicate 5 0)) := by
  obtain ⟨a, b, c, d, e, rfl⟩ := list5 h
  kernel_rfl
theorem bldPt2 (x z : List Int) (h : x.length = 5) (h' : z.length = 5) : Try.prog.built 87 [(0, .agg (ints .u64 x)), (1, .agg (ints .u64 z))] = some (ints .u64 (x ++ z)) := by
  obtain ⟨a, b, c, d, e, rfl⟩ := list5 h
  obtain ⟨f, g, i, j, k, rfl⟩ := list5 h'
  kernel_rfl
theorem clampL_length {L : List Int} (h : L.length = 32) : (clampL L).length = 32 := by simp [clampL, h]
attribute [simp] le32_length
theorem curveX_any (k0 u0 : List Int) (lk : k0.length = 32) (hu0 : Bytes32 u0) (hKb : Byt (clampL k0)) (w : World) :
    Calls Try.prog 33 #[.agg (ints .u8 k0), .agg (ints .u8 u0)] w fun e w' => e = .returned (.agg (ints .u8 (le32 (vX (clampL k0) (v32 u0 % H255) % PP)))) ∧ Below w.heap.size w w' := by
  have lu := hu0.1
  have lc := clampL_length lk
  have hfu := fromE_is hu0
  have lf := hfu.1
  have hsm := smallE_is (n := 1) (by omega)
  have lsm := hsm.1
  have lp1 := lsm
  have lp2 := lsm
  have lq1 := lsm
  have lq2 := lsm
  refine pureE Try.func33 Try.ntmps33 Try.results33 ?_
  have tok_kb : True := trivial
  have tok_ub : True := trivial
  have tok_ob : True := trivial
  have tok_xb : True := trivial
  have tok_pb : True := trivial
  have tok_qb : True := trivial
  have fq : True := trivial
  repeat (first | (refine rgn 0 ?_; refine SL.bx ?_; (first | (have _t := tok_kb; clear _t tok_kb; intro kb) | (have _t := tok_ub; clear _t tok_ub; intro ub) | (have _t := tok_ob; clear _t tok_ob; intro ob) | (have _t := tok_xb; clear _t tok_xb; intro xb) | (have _t := tok_pb; clear _t tok_pb; intro pb) | (have _t := tok_qb; clear _t tok_qb; intro qb) | intro _); refine SL.bx ?_; (first | (have _t := tok_kb; clear _t tok_kb; intro kb) | (have _t := tok_ub; clear _t tok_ub; intro ub) | (have _t := tok_ob; clear _t tok_ob; intro ob) | (have _t := tok_xb; clear _t tok_xb; intro xb) | (have _t := tok_pb; clear _t tok_pb; intro pb) | (have _t := tok_qb; clear _t tok_qb; intro qb) | intro _); refine SL.al zero_23 ?_; (first | (have _t := tok_kb; clear _t tok_kb; intro kb) | (have _t := tok_ub; clear _t tok_ub; intro ub) | (have _t := tok_ob; clear _t tok_ob; intro ob) | (have _t := tok_xb; clear _t tok_xb; intro xb) | (have _t := tok_pb; clear _t tok_pb; intro pb) | (have _t := tok_qb; clear _t tok_qb; intro qb) | intro _); refine nlx ?_) | (refine rgn 1 ?_; (first | (refine SL.ldR tabOk ?_) | (refine SL.ldP tabOk ?_ (hn := by first | (simp [ints_size, *]; done) | (simp [ints_size, *]; omega)) (hB := by first | exact (ap_x (by first | assumption | rfl)) | exact (ap_z (by first | assumption | rfl) (by first | assumption | rfl))))); refine SL.v (ValO.call ent_43 _ rfl _ (fun w _ => clamp_any _ lk w)) ?_; (first | (refine SL.stR tabOk ?_) | (refine SL.stQ tabOk ?_ (hsz := by first | (simp [ints_size, *]; done) | (simp [ints_size, *]; omega)) (hA := by first | exact (put_x (by simp [*]))))); refine nlx ?_) | (refine rgn 2 ?_; (first | (refine SL.ldR tabOk ?_) | (refine SL.ldP tabOk ?_ (hn := by first | (simp [ints_size, *]; done) | (simp [ints_size, *]; omega)) (hB := by first | exact (ap_x (by first | assumption | rfl)) | exact (ap_z (by first | assumption | rfl) (by first | assumption | rfl))))); refine SL.v (ValO.call ent_44 _ rfl _ (fun w _ => fromE_any u0 hu0 w)) ?_; refine SL.al zero_82 ?_; (first | (have _t := tok_kb; clear _t tok_kb; intro kb) | (have _t := tok_ub; clear _t tok_ub; intro ub) | (have _t := tok_ob; clear _t tok_ob; intro ob) | (have _t := tok_xb; clear _t tok_xb; intro xb) | (have _t := tok_pb; clear _t tok_pb; intro pb) | (have _t := tok_qb; clear _t tok_qb; intro qb) | intro _); (first | (refine SL.stR tabOk ?_) | (refine SL.stQ tabOk ?_ (hsz := by first | (simp [ints_size, *]; done) | (simp [ints_size, *]; omega)) (hA := by first | exact (put_x (by simp [*]))))); refine nlx ?_) | (refine rgn 4 ?_; refine sEv ?_; refine nlx ?_) | (refine rgn 5 ?_; refine sEv ?_; refine nlx ?_) | ((with_reducible show SP _ _ _ (Code.region _ _ true) _ _ _); first | (refine SPa (id := 3) [7, 8] [2, 4] ([(xb, ints .u64 (fromE u0), 82)]) [0, 1, 2, 3, 4, 5, 6, 7, 8] follows ?_; refine SF.v (ValO.call ent_45 _ rfl _ (fun w _ => smallE_any _ (by omega) w)) ?_; refine SF.val rfl rfl rfl rfl (ValO.build (by first | (dsimp only [List.map, evL, nth]; done) | (dsimp only [List.map, evL, nth]; rfl)) (by first | exact bldPt1 _ lsm | exact bldPt2 _ _ lf lsm)) bpp ?_; (first | (refine SF.valK rfl rfl rfl rfl (fun m hm => ValO.ldRow tabOk _ rfl _ _ rfl rfl _ (by first | exact RdA.kept hm g0 | exact RdA.kept hm g1 | exact RdA.kept hm g2 | exact RdA.kept hm g3) (by first | (simp [ints_size, lk, lu, lc, lf, lsm, lp1, lp2, lq1, lq2, le32_length]; done) | (simp [ints_size, lk, lu, lc, lf, lsm, lp1, lp2, lq1, lq2, le32_length]; omega))) bpp ?_) | (refine SF.valK rfl rfl rfl rfl (fun m hm => ValO.ldPart tabOk _ _ rfl _ _ rfl rfl _ (by first | exact RdA.kept hm g0 | exact RdA.kept hm g1 | exact RdA.kept hm g2 | exact RdA.kept hm g3) (by first | (simp [ints_size, *]; done) | (simp [ints_size, *]; omega)) _ (by first | exact (ap_x (by first | assumption | rfl)) | exact (ap_z (by first | assumption | rfl) (by first | assumption | rfl)))) bpp ?_)); refine SF.v (ValO.call ent_45 _ rfl _ (fun w _ => smallE_any _ (by omega) w)) ?_; refine SF.valK rfl rfl rfl rfl (fun m hm => ValO.build (by first | (dsimp only [List.map, evL, nth]; done) | (dsimp only [List.map, evL, nth]; rfl)) (by first | exact bldPt1 _ lsm | exact bldPt2 _ _ lf lsm)) bpp ?_; refine SF.al zero_87 ?_; (first | (have _t := tok_kb; clear _t tok_kb; intro kb) | (have _t := tok_ub; clear _t tok_ub; intro ub) | (have _t := tok_ob; clear _t tok_ob; intro ob) | (have _t := tok_xb; clear _t tok_xb; intro xb) | (have _t := tok_pb; clear _t tok_pb; intro pb) | (have _t := tok_qb; clear _t tok_qb; intro qb) | intro _); refine SF.al zero_87 ?_; (first | (have _t := tok_kb; clear _t tok_kb; intro kb) | (have _t := tok_ub; clear _t tok_ub; intro ub) | (have _t := tok_ob; clear _t tok_ob; intro ob) | (have _t := tok_xb; clear _t tok_xb; intro xb) | (have _t := tok_pb; clear _t tok_pb; intro pb) | (have _t := tok_qb; clear _t tok_qb; intro qb) | intro _); (first | (refine SF.stR tabOk ?_) | (refine SF.stQ tabOk ?_ (hsz := by first | (simp [ints_size, *]; done) | (simp [ints_size, *]; omega)) (hA := by first | exact (put_x (by simp [*]))))); (first | (refine SF.stR tabOk ?_) | (refine SF.stQ tabOk ?_ (hsz := by first | (simp [ints_size, *]; done) | (simp [ints_size, *]; omega)) (hA := by first | exact (put_x (by simp [*]))))); refine SF.done ?_)) | (refine zsq ?_; intro _ _) | (with_reducible refine zkN ?_) | (refine useK (by assumption) ?_) | (with_reducible first | refine zsB ?_ | refine zkX ?_ | refine zkR ?_ | refine zbN ?_ | refine zbR ?_ | refine zbE ?_ | refine zbX ?_ | refine zsS ?_ | refine zsR ?_ | refine zsX ?_) | (refine cdT ?_) | (refine cdF ?_))
  clear fq lp1 lp2 lq1 lq2
  refine SP.loopN (fun k l bs => l = [nth l 0, nth l 1, .pointer (some ⟨kb, 0, none⟩), .pointer (some ⟨ub, 0, none⟩), .pointer (some ⟨ob, 0, none⟩), .pointer (some ⟨xb, 0, none⟩), .pointer (some ⟨pb, 0, none⟩), .pointer (some ⟨qb, 0, none⟩), .int .i64 (eI (clampL k0) (fromE u0) k).last, .int .i64 (254 - (k : Int)), nth l 10, nth l 11, nth l 12, nth l 13, nth l 14, nth l 15, nth l 16, nth l 17, nth l 18, nth l 19, nth l 20, nth l 21, nth l 22, nth l 23, nth l 24, nth l 25, nth l 26, nth l 27, nth l 28, nth l 29, nth l 30, nth l 31, nth l 32, nth l 33, nth l 34, nth l 35, nth l 36, nth l 37, nth l 38, nth l 39, nth l 40, nth l 41, nth l 42, nth l 43, nth l 44, nth l 45, nth l 46, nth l 47, nth l 48] ∧ bs = [(qb, ints .u64 ((eI (clampL k0) (fromE u0) k).qx ++ (eI (clampL k0) (fromE u0) k).qz), 87), (pb, ints .u64 ((eI (clampL k0) (fromE u0) k).px ++ (eI (clampL k0) (fromE u0) k).pz), 87), (xb, ints .u64 (fromE u0), 82), (ob, ints .u8 (List.replicate 32 0), 23), (ub, ints .u8 u0, 23), (kb, ints .u8 (clampL k0), 23)]) 255 ⟨(by rw [eI_0]; rfl), (by rw [eI_0])⟩ ?_
  rintro k lf_ _ hk ⟨hl, rfl⟩
  refine SP.cast hl ?_
  clear hl
  have hS := eI_ok (K := clampL k0) hfu k
  have hl01 := vI_last (K := clampL k0) hKb (v32 u0 % H255) k
  rw [← hS.last] at hl01
  have lp1 := hS.px.1
  have lp2 := hS.pz.1
  have lq1 := hS.qx.1
  have lq2 := hS.qz.1
  by_cases hlt : k < 255
  · have hb01 := bitE_01 hKb k
    have hk1 : IntKind.i64.wrap (254 - (k : Int) - 1) = 254 - ((k + 1 : Nat) : Int) := by rw [IntWalk.i64_in _ (by omega)]; omega
    have fq : IntKind.i64.wrap ((254 - (k : Int)).tdiv 8) = (((254 - k) / 8 : Nat) : Int) := by rw [Int.tdiv_eq_ediv_of_nonneg (by omega), IntWalk.i64_in _ (by omega)]; omega
    have ft : 0 ≤ (254 - (k : Int)).tmod 8 := by rw [Int.tmod_eq_emod_of_nonneg (by omega)]; omega
    have hbe : bits .and .u8 ((gi (clampL k0) ((254 - k) / 8)).fdiv (2 ^ min (((254 : Int) - (k : Int)).tmod 8).toNat IntKind.u8.bits)) 1 = bitE (clampL k0) k := by unfold bitE; rfl
    have fw : IntKind.i64.wrap (bitE (clampL k0) k) = bitE (clampL k0) k := by rw [IntWalk.i64_in _ (by omega)]
    by_cases hsame : bitE (clampL k0) k = (eI (clampL k0) (fromE u0) k).last
    · have hx : bits .xor .i64 (IntKind.i64.wrap (bits .and .u8 ((gi (clampL k0) ((254 - k) / 8)).fdiv (2 ^ min (((254 : Int) - (k : Int)).tmod 8).toNat IntKind.u8.bits)) 1)) (eI (clampL k0) (fromE u0) k).last % 2 = 0 := by rw [hbe, fw]; exact xor_same hb01 hsame
      repeat (first | (refine rgn 6 ?_; refine sEv ?_; refine sEv ?_; refine nlx ?_) | (refine rgn 7 ?_; (iterate 3 refine sEv ?_); refine nlx ?_) | (refine rgn 8 ?_; refine sEv ?_; refine sEv ?_; refine SL.ixA tabOk ?_ (hm := by first | (simp only [fq, Nat.zero_add, Nat.mul_one, Nat.one_mul, Int.toNat_natCast]; done) | (simp only [fq, Nat.zero_add, Nat.mul_one, Nat.one_mul, Int.toNat_natCast]; rfl) | rfl); refine SL.ldI tabOk ?_; refine sEv ?_; refine sEv ?_; refine SL.sh ?_; (iterate 3 refine sEv ?_); refine nlx ?_) | (refine rgn 9 ?_; (iterate 3 refine sEv ?_); refine SL.call2 (b := pb) (b2 := qb) ent_46 rfl (gbk _) (gbk _) (by decide) (fun w hw hne => by have hbb := hw.block (mbk pb); have hcc := hw.block (mbk qb); exact cswap0_any _ _ _ _ _ _ _ _ hS.px hS.pz hS.qx hS.qz _ hx w hne hbb hcc) stt bpp ?_; refine nlx ?_) | (refine rgn 10 ?_; refine sEv ?_; refine sEv ?_; refine nlx ?_) | (refine rgn 11 ?_; (first | (refine SL.ldR tabOk ?_) | (refine SL.ldP tabOk ?_ (hn := by first | (simp [ints_size, *]; done) | (simp [ints_size, *]; omega)) (hB := by first | exact (ap_x (by first | assumption | rfl)) | exact (ap_z (by first | assumption | rfl) (by first | assumption | rfl))))); refine SL.call2 (b := pb) (b2 := qb) ent_47 rfl (gbk _) (gbk _) (by decide) (fun w hw hne => by have hbb := hw.block (mbk pb); have hcc := hw.block (mbk qb); exact ladder_any _ _ _ _ _ _ _ _ _ hS.px hS.pz hS.qx hS.qz hfu w hne hbb hcc) stt bpp ?_; refine nlx ?_) | (refine zsq ?_; intro _ _) | (with_reducible refine zkN ?_) | (refine useK (by assumption) ?_) | (with_reducible first | refine zsB ?_ | refine zkX ?_ | refine zkR ?_ | refine zbN ?_ | refine zbR ?_ | refine zbE ?_ | refine zbX ?_ | refine zsS ?_ | refine zsR ?_ | refine zsX ?_) | (refine cdT ?_) | (refine cdF ?_))
      simp only [hk1, hbe, fw]
      refine ⟨by omega, ?_⟩
      rw [eI_s, if_pos hsame, eStep]
      exact ⟨rfl, rfl⟩
    · have hx : bits .xor .i64 (IntKind.i64.wrap (bits .and .u8 ((gi (clampL k0) ((254 - k) / 8)).fdiv (2 ^ min (((254 : Int) - (k : Int)).tmod 8).toNat IntKind.u8.bits)) 1)) (eI (clampL k0) (fromE u0) k).last % 2 = 1 := by rw [hbe, fw]; exact xor_other hb01 hl01 hsame
      repeat (first | (refine rgn 6 ?_; refine sEv ?_; refine sEv ?_; refine nlx ?_) | (refine rgn 7 ?_; (iterate 3 refine sEv ?_); refine nlx ?_) | (refine rgn 8 ?_; refine sEv ?_; refine sEv ?_; refine SL.ixA tabOk ?_ (hm := by first | (simp only [fq, Nat.zero_add, Nat.mul_one, Nat.one_mul, Int.toNat_natCast]; done) | (simp only [fq, Nat.zero_add, Nat.mul_one, Nat.one_mul, Int.toNat_natCast]; rfl) | rfl); refine SL.ldI tabOk ?_; refine sEv ?_; refine sEv ?_; refine SL.sh ?_; (iterate 3 refine sEv ?_); refine nlx ?_) | (refine rgn 9 ?_; (iterate 3 refine sEv ?_); refine SL.call2 (b := pb) (b2 := qb) ent_46 rfl (gbk _) (gbk _) (by decide) (fun w hw hne => by have hbb := hw.block (mbk pb); have hcc := hw.block (mbk qb); exact cswap1_any _ _ _ _ _ _ _ _ hS.px hS.pz hS.qx hS.qz _ hx w hne hbb hcc) stt bpp ?_; refine nlx ?_) | (refine rgn 10 ?_; refine sEv ?_; refine sEv ?_; refine nlx ?_) | (refine rgn 11 ?_; (first | (refine SL.ldR tabOk ?_) | (refine SL.ldP tabOk ?_ (hn := by first | (simp [ints_size, *]; done) | (simp [ints_size, *]; omega)) (hB := by first | exact (ap_x (by first | assumption | rfl)) | exact (ap_z (by first | assumption | rfl) (by first | assumption | rfl))))); refine SL.call2 (b := pb) (b2 := qb) ent_47 rfl (gbk _) (gbk _) (by decide) (fun w hw hne => by have hbb := hw.block (mbk pb); have hcc := hw.block (mbk qb); exact ladder_any _ _ _ _ _ _ _ _ _ hS.qx hS.qz hS.px hS.pz hfu w hne hbb hcc) stt bpp ?_; refine nlx ?_) | (refine zsq ?_; intro _ _) | (with_reducible refine zkN ?_) | (refine useK (by assumption) ?_) | (with_reducible first | refine zsB ?_ | refine zkX ?_ | refine zkR ?_ | refine zbN ?_ | refine zbR ?_ | refine zbE ?_ | refine zbX ?_ | refine zsS ?_ | refine zsR ?_ | refine zsX ?_) | (refine cdT ?_) | (refine cdF ?_))
      simp only [hk1, hbe, fw]
      refine ⟨by omega, ?_⟩
      rw [eI_s, if_neg hsame, eStep]
      exact ⟨rfl, rfl⟩
  · rcases hl01 with hl0 | hl0
    · have hlast : (eI (clampL k0) (fromE u0) k).last % 2 = 0 := by rw [hl0]; rfl
      rw [hS.last] at hl0
      have hiz := invE_is hS.pz
      have hmx := mulE_is hS.px hiz
      have hpx := hS.px
      have hpz := hS.pz
      have lm1 := hiz.1
      have lm2 := hmx.1
      have fq : True := trivial
      repeat (first | (refine rgn 6 ?_; refine sEv ?_; refine sEv ?_; refine nlx ?_) | (refine rgn 12 ?_; refine sEv ?_; refine SL.call2 (b := pb) (b2 := qb) ent_46 rfl (gbk _) (gbk _) (by decide) (fun w hw hne => by have hbb := hw.block (mbk pb); have hcc := hw.block (mbk qb); exact cswap0_any _ _ _ _ _ _ _ _ hS.px hS.pz hS.qx hS.qz _ hlast w hne hbb hcc) stt bpp ?_; refine nlx ?_) | ((with_reducible show SP _ _ _ (Code.region _ _ true) _ _ _); first | (refine SPa (id := 13) [7] [] ([]) [0, 1, 2, 3, 4, 5, 6, 7] follows ?_; refine SF.e tabOk ?_; (first | (refine SF.ldR tabOk ?_) | (refine SF.ldP tabOk ?_ (hn := by first | (simp [ints_size, *]; done) | (simp [ints_size, *]; omega)) (hB := by first | exact (ap_x (by first | assumption | rfl)) | exact (ap_z (by first | assumption | rfl) (by first | assumption | rfl))))); refine SF.e tabOk ?_; (first | (refine SF.ldR tabOk ?_) | (refine SF.ldP tabOk ?_ (hn := by first | (simp [ints_size, *]; done) | (simp [ints_size, *]; omega)) (hB := by first | exact (ap_x (by first | assumption | rfl)) | exact (ap_z (by first | assumption | rfl) (by first | assumption | rfl))))); refine SF.v (ValO.call ent_49 _ rfl _ (fun w _ => invE_any _ (by assumption) w)) ?_; refine SF.v (ValO.call ent_48 _ rfl _ (fun w _ => mulE_any _ _ (by assumption) (by assumption) w)) ?_; refine SF.v (ValO.call ent_50 _ rfl _ (fun w _ => bytesE_any (by assumption) w)) ?_; (first | (refine SF.stR tabOk ?_) | (refine SF.stQ tabOk ?_ (hsz := by first | (simp [ints_size, *]; done) | (simp [ints_size, *]; omega)) (hA := by first | exact (put_x (by simp [*]))))); refine SF.done ?_)) | (refine zsq ?_; intro _ _) | (with_reducible refine zkN ?_) | (refine useK (by assumption) ?_) | (with_reducible first | refine zsB ?_ | refine zkX ?_ | refine zkR ?_ | refine zbN ?_ | refine zbR ?_ | refine zbE ?_ | refine zbX ?_ | refine zsS ?_ | refine zsR ?_ | refine zsX ?_) | (refine cdT ?_) | (refine cdF ?_))
      refine doneK.mk rfl (ResO.cell tabOk rfl rfl rfl (by first | exact RdA.own g0 | exact RdA.own g1 | exact RdA.own g2 | exact RdA.own g3 | exact RdA.own g4 | exact RdA.own g5 | exact RdA.own g6 | exact RdA.own g7 | exact RdA.own g8 | exact RdA.own g9 | exact RdA.own g10 | exact RdA.own g11 | exact RdA.own g12 | exact RdA.own g13 | exact RdA.own g14 | exact RdA.own g15) (by rw [ints_size, le32_length])) ?_
      have hq : k = 255 := by omega
      subst hq
      rw [vX, if_pos hl0]
    · have hlast : (eI (clampL k0) (fromE u0) k).last % 2 = 1 := by rw [hl0]; rfl
      have hl0 : ¬ (vI (clampL k0) (v32 u0 % H255) k).last = 0 := by rw [← hS.last, hl0]; decide
      have hiz := invE_is hS.qz
      have hmx := mulE_is hS.qx hiz
      have hpx := hS.qx
      have hpz := hS.qz
      have lm1 := hiz.1
      have lm2 := hmx.1
      have fq : True := trivial
      repeat (first | (refine rgn 6 ?_; refine sEv ?_; refine sEv ?_; refine nlx ?_) | (refine rgn 12 ?_; refine sEv ?_; refine SL.call2 (b := pb) (b2 := qb) ent_46 rfl (gbk _) (gbk _) (by decide) (fun w hw hne => by have hbb := hw.block (mbk pb); have hcc := hw.block (mbk qb); exact cswap1_any _ _ _ _ _ _ _ _ hS.px hS.pz hS.qx hS.qz _ hlast w hne hbb hcc) stt bpp ?_; refine nlx ?_) | ((with_reducible show SP _ _ _ (Code.region _ _ true) _ _ _); first | (refine SPa (id := 13) [7] [] ([]) [0, 1, 2, 3, 4, 5, 6, 7] follows ?_; refine SF.e tabOk ?_; (first | (refine SF.ldR tabOk ?_) | (refine SF.ldP tabOk ?_ (hn := by first | (simp [ints_size, *]; done) | (simp [ints_size, *]; omega)) (hB := by first | exact (ap_x (by first | assumption | rfl)) | exact (ap_z (by first | assumption | rfl) (by first | assumption | rfl))))); refine SF.e tabOk ?_; (first | (refine SF.ldR tabOk ?_) | (refine SF.ldP tabOk ?_ (hn := by first | (simp [ints_size, *]; done) | (simp [ints_size, *]; omega)) (hB := by first | exact (ap_x (by first | assumption | rfl)) | exact (ap_z (by first | assumption | rfl) (by first | assumption | rfl))))); refine SF.v (ValO.call ent_49 _ rfl _ (fun w _ => invE_any _ (by assumption) w)) ?_; refine SF.v (ValO.call ent_48 _ rfl _ (fun w _ => mulE_any _ _ (by assumption) (by assumption) w)) ?_; refine SF.v (ValO.call ent_50 _ rfl _ (fun w _ => bytesE_any (by assumption) w)) ?_; (first | (refine SF.stR tabOk ?_) | (refine SF.stQ tabOk ?_ (hsz := by first | (simp [ints_size, *]; done) | (simp [ints_size, *]; omega)) (hA := by first | exact (put_x (by simp [*]))))); refine SF.done ?_)) | (refine zsq ?_; intro _ _) | (with_reducible refine zkN ?_) | (refine useK (by assumption) ?_) | (with_reducible first | refine zsB ?_ | refine zkX ?_ | refine zkR ?_ | refine zbN ?_ | refine zbR ?_ | refine zbE ?_ | refine zbX ?_ | refine zsS ?_ | refine zsR ?_ | refine zsX ?_) | (refine cdT ?_) | (refine cdF ?_))
      refine doneK.mk rfl (ResO.cell tabOk rfl rfl rfl (by first | exact RdA.own g0 | exact RdA.own g1 | exact RdA.own g2 | exact RdA.own g3 | exact RdA.own g4 | exact RdA.own g5 | exact RdA.own g6 | exact RdA.own g7 | exact RdA.own g8 | exact RdA.own g9 | exact RdA.own g10 | exact RdA.own g11 | exact RdA.own g12 | exact RdA.own g13 | exact RdA.own g14 | exact RdA.own g15) (by rw [ints_size, le32_length])) ?_
      have hq : k = 255 := by omega
      subst hq
      rw [vX, if_neg hl0]
end
end Go.Proofs.Ytdjecenggngdjaa
