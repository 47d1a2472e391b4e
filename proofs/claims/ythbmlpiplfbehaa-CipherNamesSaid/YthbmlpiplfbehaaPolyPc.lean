/-
  The poly's product: the sum times r.
-/
import Derived.Test.YthbmlpiplfbehaaPolyPb
import Derived.KernelRfl
import Derived.Lib.Hide
namespace Go.Proofs.Ythbmlpiplfbehaa
set_option linter.unusedSimpArgs false
set_option linter.unusedVariables false
open Go Go.RowKit

namespace Sp
open F

def AllW (L : List Int) : Prop := ∀ j, W64 (gi L j)
theorem AllW.set {L : List Int} (h : AllW L) (i : Nat) {v : Int} (hv : W64 v) : AllW (L.set i v) := by
  intro j
  unfold gi at *
  rw [List.getD_eq_getElem?_getD, List.getElem?_set]
  split
  · split
    · exact hv
    · exact w64_0
  · have := h j
    unfold gi at this
    rwa [List.getD_eq_getElem?_getD] at this
theorem AllW.zero (n : Nat) : AllW (List.replicate n 0) := by
  intro j
  unfold gi
  rw [List.getD_eq_getElem?_getD, List.getElem?_replicate]
  split <;> exact w64_0

theorem W64.bits (op : BinOp) (x y : Int) : W64 (Go.bits op .u64 x y) := by
  have hw : ∀ n, W64 (IntKind.u64.wrap n) := fun n => by unfold W64 M64; rw [IntKind.wrap_u64]; omega
  unfold Go.bits
  cases op <;> first | exact hw _ | exact w64_0
theorem W64.shr2 {x : Int} (h : W64 x) : W64 (x.fdiv (2 ^ min (Int.toNat 2) IntKind.u64.bits)) := by
  have e : min (Int.toNat 2) IntKind.u64.bits = 2 := rfl
  rw [e, Int.fdiv_eq_ediv_of_nonneg _ (by decide)]
  unfold W64 M64 at *
  omega
def cst' (hi up : Int) (pr : List Int) (at1 : Nat) : Nat → Int × Int × List Int
  | 0 => (hi, up, pr)
  | i + 1 => (0, addHi (gi (cst' hi up pr at1 i).2.2 (at1 + i)) (cst' hi up pr at1 i).1 (cst' hi up pr at1 i).2.1, (cst' hi up pr at1 i).2.2.set (at1 + i) (addLo (gi (cst' hi up pr at1 i).2.2 (at1 + i)) (cst' hi up pr at1 i).1 (cst' hi up pr at1 i).2.1))
@[irreducible] def cst (hi up : Int) (pr : List Int) (at1 : Nat) (i : Nat) : Int × Int × List Int := cst' hi up pr at1 i
theorem cst_0 (hi up : Int) (pr : List Int) (at1 : Nat) : cst hi up pr at1 0 = (hi, up, pr) := by unfold cst; rfl
theorem cst_s (hi up : Int) (pr : List Int) (at1 : Nat) (i : Nat) : cst hi up pr at1 (i + 1) = (0, addHi (gi (cst hi up pr at1 i).2.2 (at1 + i)) (cst hi up pr at1 i).1 (cst hi up pr at1 i).2.1, (cst hi up pr at1 i).2.2.set (at1 + i) (addLo (gi (cst hi up pr at1 i).2.2 (at1 + i)) (cst hi up pr at1 i).1 (cst hi up pr at1 i).2.1)) := by unfold cst; rfl

theorem cst_length (hi up : Int) (pr : List Int) (at1 : Nat) : ∀ j, (cst hi up pr at1 j).2.2.length = pr.length
  | 0 => by rw [cst_0]
  | j + 1 => by rw [cst_s]; simp [cst_length hi up pr at1 j]
theorem cst_ok {hi up : Int} {pr : List Int} {at1 : Nat} (h1 : W64 hi) (h2 : Bit up) (h3 : AllW pr) : ∀ j, W64 (cst hi up pr at1 j).1 ∧ Bit (cst hi up pr at1 j).2.1 ∧ AllW (cst hi up pr at1 j).2.2
  | 0 => by rw [cst_0]; exact ⟨h1, h2, h3⟩
  | j + 1 => by
    obtain ⟨a, b, c⟩ := cst_ok (at1 := at1) h1 h2 h3 j
    rw [cst_s]
    exact ⟨w64_0, Bit.addHi (c _) a b, c.set _ (W64.addLo _ _ _)⟩
/-- Where nothing is carried any more, nothing turns. -/
theorem cst_still {hi up : Int} {pr : List Int} {at1 : Nat} (h3 : AllW pr) (h1 : W64 hi) (h2 : Bit up) {j : Nat} (ha : (cst hi up pr at1 j).1 = 0) (hu : (cst hi up pr at1 j).2.1 = 0) : ∀ d, (cst hi up pr at1 (j + d)).2.2 = (cst hi up pr at1 j).2.2 ∧ (cst hi up pr at1 (j + d)).1 = 0 ∧ (cst hi up pr at1 (j + d)).2.1 = 0
  | 0 => ⟨rfl, ha, hu⟩
  | d + 1 => by
    obtain ⟨e1, e2, e3⟩ := cst_still (at1 := at1) h3 h1 h2 ha hu d
    have hw := (cst_ok (at1 := at1) h1 h2 h3 (j + d)).2.2 (at1 + (j + d))
    rw [show j + (d + 1) = (j + d) + 1 by omega, cst_s, e2, e3]
    have hx : addLo (gi (cst hi up pr at1 (j + d)).2.2 (at1 + (j + d))) 0 0 = gi (cst hi up pr at1 (j + d)).2.2 (at1 + (j + d)) := by
      unfold W64 M64 at hw; unfold addLo M64; omega
    have hy : addHi (gi (cst hi up pr at1 (j + d)).2.2 (at1 + (j + d))) 0 0 = 0 := by
      unfold W64 M64 at hw; unfold addHi M64; omega
    rw [hx, hy]
    refine ⟨?_, rfl, rfl⟩
    rw [← e1]
    apply List.ext_getElem?
    intro k
    rw [List.getElem?_set]
    split
    · rename_i hk
      subst hk
      split
      · rename_i hl; simp [gi, hl]
      · rename_i hl; simp at hl; simp [hl]
    · rfl
/-- A product is added at a place. -/
@[irreducible] def mac (pr : List Int) (pos : Nat) (h r : Int) : List Int :=
  (cst (mulHi h r) (addHi (gi pr pos) (mulLo h r) 0) (pr.set pos (addLo (gi pr pos) (mulLo h r) 0)) (pos + 1) (3 - pos)).2.2
theorem mac_length (pr : List Int) (pos : Nat) (h r : Int) : (mac pr pos h r).length = pr.length := by unfold mac; rw [cst_length]; simp
theorem mac_ok {pr : List Int} {pos : Nat} {h r : Int} (hp : AllW pr) (hh : W64 h) (hr : W64 r) : AllW (mac pr pos h r) := by
  unfold mac
  exact (cst_ok (hh.hi hr) (Bit.addHi (hp _) (W64.lo _ _) Bit.zero) (hp.set _ (W64.addLo _ _ _)) _).2.2

def prI' (pr H R : List Int) (a : Nat) : Nat → List Int
  | 0 => pr
  | i + 1 => mac (prI' pr H R a i) (a + i) (gi H a) (gi R i)
@[irreducible] def prI (pr H R : List Int) (a : Nat) (i : Nat) : List Int := prI' pr H R a i
theorem prI_0 (pr H R : List Int) (a : Nat) : prI pr H R a 0 = pr := by unfold prI; rfl
theorem prI_s (pr H R : List Int) (a : Nat) (i : Nat) : prI pr H R a (i + 1) = mac (prI pr H R a i) (a + i) (gi H a) (gi R i) := by unfold prI; rfl
def prO' (H R : List Int) : Nat → List Int
  | 0 => List.replicate 4 0
  | i + 1 => prI (prO' H R i) H R i 2
@[irreducible] def prO (H R : List Int) (i : Nat) : List Int := prO' H R i
theorem prO_0 (H R : List Int) : prO H R 0 = List.replicate 4 0 := by unfold prO; rfl
theorem prO_s (H R : List Int) (i : Nat) : prO H R (i + 1) = prI (prO H R i) H R i 2 := by unfold prO; rfl

theorem prI_length (pr H R : List Int) (a : Nat) : ∀ k, (prI pr H R a k).length = pr.length
  | 0 => by rw [prI_0]
  | k + 1 => by rw [prI_s, mac_length, prI_length pr H R a k]
theorem prO_length (H R : List Int) : ∀ i, (prO H R i).length = 4
  | 0 => by rw [prO_0]; rfl
  | i + 1 => by rw [prO_s, prI_length, prO_length H R i]
theorem prI_ok {pr H R : List Int} {a : Nat} (hp : AllW pr) (hH : AllW H) (hR : AllW R) : ∀ k, AllW (prI pr H R a k)
  | 0 => by rw [prI_0]; exact hp
  | k + 1 => by rw [prI_s]; exact mac_ok (prI_ok hp hH hR k) (hH _) (hR _)
theorem prO_ok {H R : List Int} (hH : AllW H) (hR : AllW R) : ∀ i, AllW (prO H R i)
  | 0 => by rw [prO_0]; exact AllW.zero 4
  | i + 1 => by rw [prO_s]; exact prI_ok (prO_ok hH hR i) hH hR 2
/-- The sum behind a product (h0, h1, h2). -/
@[irreducible] def redP (p : List Int) : Int × Int × Int :=
  let q0 := gi p 0; let q1 := gi p 1; let q2 := bits .and .u64 (gi p 2) 3
  let f0 := bits .andNot .u64 (gi p 2) 3; let f1 := gi p 3
  let o0 := bits .or .u64 ((gi p 2).fdiv (2 ^ min (Int.toNat 2) IntKind.u64.bits)) (IntKind.u64.wrap (gi p 3 * 2 ^ min (Int.toNat 62) IntKind.u64.bits)); let o1 := (gi p 3).fdiv (2 ^ min (Int.toNat 2) IntKind.u64.bits)
  let a0 := addLo q0 f0 0; let a1 := addLo q1 f1 (addHi q0 f0 0); let a2 := IntKind.u64.wrap (q2 + IntKind.u64.wrap (0 + addHi q1 f1 (addHi q0 f0 0)))
  (addLo a0 o0 0, addLo a1 o1 (addHi a0 o0 0), IntKind.u64.wrap (a2 + IntKind.u64.wrap (0 + addHi a1 o1 (addHi a0 o0 0))))

attribute [simp] prO_length prI_length cst_length mac_length
theorem bld2 (a b : Int) : Try.prog.built 92 [(0, .int .u64 a), (1, .int .u64 b)] = some (ints .u64 [a, b]) := by kernel_rfl
theorem bld3 (a b c : Int) : Try.prog.built 93 [(0, .int .u64 a), (1, .int .u64 b), (2, .int .u64 c)] = some (ints .u64 [a, b, c]) := by kernel_rfl
set_option maxRecDepth 20000 in
set_option maxHeartbeats 1000000 in
theorem ptimes_any (b : Nat) (T : TypeId) (g : Bool) (r0 r1 s0 s1 h0 h1 h2 : Int) (bl : List Int) (n : Int) (hbl : bl.length = 16) (hH : AllW [h0, h1, h2]) (hR : AllW [r0, r1]) (w : World)
    (hb : w.heap[b]? = some (.cells (polyRow g r0 r1 s0 s1 h0 h1 h2 bl n) T (0, 0))) :
    Calls Try.prog 71 #[.pointer (some ⟨b, 0, none⟩)] w fun e w' => e = .returned (.tuple #[]) ∧ OwnM w [b] w' [(b, polyRow g r0 r1 s0 s1 (redP (prO [h0, h1, h2] [r0, r1] 3)).1 (redP (prO [h0, h1, h2] [r0, r1] 3)).2.1 (redP (prO [h0, h1, h2] [r0, r1] 3)).2.2 bl n, T)] := by
  refine mutE Try.func71 Try.ntmps71 Try.results71 hb ?_
  have tok_pb : True := trivial
  have tok_ob : True := trivial
  have tok_fb : True := trivial
  have fik : True := trivial
  have fik1 : True := trivial
  repeat (first | ((with_reducible refine SP.region (id := 0) ?_); refine SL.al zero_112 ?_; (first | (have _t := tok_pb; clear _t tok_pb; intro pb) | (have _t := tok_ob; clear _t tok_ob; intro ob) | (have _t := tok_fb; clear _t tok_fb; intro fb) | intro _); (with_reducible refine SL.nil ?_)) | ((with_reducible refine SP.region (id := 1) ?_); refine SL.e tabOk ?_; refine SL.nc ?_; refine SL.e tabOk ?_; (first | (refine SL.ldR tabOk ?_) | (refine SL.ldP tabOk ?_ (hn := by first | (rw [pr_size hbl]; omega) | (rw [pr_size (by assumption)]; omega)) (hB := by first | exact (pr_xr hbl) | exact (pr_xh hbl)))); refine SL.e tabOk ?_; (with_reducible refine SL.nil ?_)) | ((with_reducible refine SP.seqK ?_); intro _ _) | (with_reducible refine thenK_normal ?_) | (refine useK (by assumption) ?_) | (with_reducible refine SP.block ?_))
  clear fik fik1
  refine SP.loopN (fun i l bs => l = [.pointer (some ⟨b, 0, none⟩), nth l 1, .pointer (some ⟨pb, 0, none⟩), nth l 3, nth l 4, nth l 5, nth l 6, nth l 7, nth l 8, nth l 9, nth l 10, nth l 11, nth l 12, nth l 13, nth l 14, nth l 15, nth l 16, .agg (ints .u64 [h0, h1, h2]), .int .i64 ((i : Nat)), nth l 19, nth l 20, nth l 21, nth l 22, nth l 23, nth l 24, nth l 25, nth l 26, nth l 27, nth l 28, nth l 29, nth l 30, nth l 31, nth l 32, nth l 33, nth l 34, nth l 35, nth l 36, nth l 37, nth l 38, nth l 39, nth l 40, nth l 41, nth l 42, nth l 43, nth l 44, nth l 45, nth l 46, nth l 47, nth l 48, nth l 49, nth l 50, nth l 51, nth l 52, nth l 53, nth l 54, nth l 55, nth l 56, nth l 57, nth l 58, nth l 59, nth l 60, nth l 61, nth l 62, nth l 63, nth l 64, nth l 65, nth l 66, nth l 67, nth l 68, nth l 69, nth l 70, nth l 71, nth l 72, nth l 73, nth l 74, nth l 75, nth l 76, nth l 77, nth l 78, nth l 79, nth l 80, nth l 81, nth l 82, nth l 83, nth l 84, nth l 85, nth l 86, nth l 87, nth l 88, nth l 89, nth l 90, nth l 91, nth l 92, nth l 93, nth l 94, nth l 95, nth l 96, nth l 97, nth l 98, nth l 99, nth l 100, nth l 101, nth l 102, nth l 103, nth l 104, nth l 105, nth l 106, nth l 107, nth l 108, nth l 109, nth l 110, nth l 111, nth l 112, nth l 113, nth l 114, nth l 115, nth l 116, nth l 117, nth l 118, nth l 119] ∧ bs = [(pb, ints .u64 (prO [h0, h1, h2] [r0, r1] i), 112), (b, polyRow g r0 r1 s0 s1 h0 h1 h2 bl n, T)]) 3 ⟨(by first | rfl | (simp only [prO_0]; done) | (simp only [prO_0]; rfl) | (rw [prO_0]; rfl)), (by first | rfl | (simp only [prO_0]; done) | (simp only [prO_0]; rfl) | (rw [prO_0]; rfl))⟩ ?_
  rintro i lfi _ hki ⟨hli, rfl⟩
  refine SP.cast hli ?_
  clear hli
  by_cases hlti : i < 3
  · have hi1 : IntKind.i64.wrap ((i : Int) + 1) = ((i + 1 : Nat) : Int) := by rw [IntWalk.i64_in _ (by omega)]; omega
    have fik : True := trivial
    have fik1 : True := trivial
    repeat (first | ((with_reducible refine SP.region (id := 2) ?_); refine SL.e tabOk ?_; (with_reducible refine SL.nil ?_)) | ((with_reducible refine SP.region (id := 3) ?_); refine SL.e tabOk ?_; refine SL.ix tabOk ?_; refine SL.e tabOk ?_; refine SL.e tabOk ?_; (with_reducible refine SL.nil ?_)) | ((with_reducible refine SP.region (id := 4) ?_); refine SL.e tabOk ?_; refine SL.nc ?_; refine SL.e tabOk ?_; (first | (refine SL.ldR tabOk ?_) | (refine SL.ldP tabOk ?_ (hn := by first | (rw [pr_size hbl]; omega) | (rw [pr_size (by assumption)]; omega)) (hB := by first | exact (pr_xr hbl) | exact (pr_xh hbl)))); refine SL.e tabOk ?_; (with_reducible refine SL.nil ?_)) | ((with_reducible refine SP.seqK ?_); intro _ _) | (with_reducible refine thenK_normal ?_) | (refine useK (by assumption) ?_) | (with_reducible refine SP.block ?_) | (with_reducible refine SP.skip ?_) | ((with_reducible show SP _ _ _ (Code.cond _ _ _) _ _ _); first | (refine SP.condT rfl (by first | rfl | (simp only [decide_eq_true_eq, beq_iff_eq, bne_iff_ne]; omega)) ?_)))
    clear fik fik1
    refine SP.loopN (fun k l bs => l = [.pointer (some ⟨b, 0, none⟩), nth l 1, .pointer (some ⟨pb, 0, none⟩), .int .i64 ((i : Nat)), .int .u64 (gi [h0, h1, h2] i), nth l 5, nth l 6, nth l 7, nth l 8, nth l 9, nth l 10, nth l 11, nth l 12, nth l 13, nth l 14, nth l 15, nth l 16, .agg (ints .u64 [h0, h1, h2]), .int .i64 ((i : Nat)), nth l 19, nth l 20, nth l 21, nth l 22, nth l 23, nth l 24, .agg (ints .u64 [r0, r1]), .int .i64 ((k : Nat)), nth l 27, nth l 28, nth l 29, nth l 30, nth l 31, nth l 32, nth l 33, nth l 34, nth l 35, nth l 36, nth l 37, nth l 38, nth l 39, nth l 40, nth l 41, nth l 42, nth l 43, nth l 44, nth l 45, nth l 46, nth l 47, nth l 48, nth l 49, nth l 50, nth l 51, nth l 52, nth l 53, nth l 54, nth l 55, nth l 56, nth l 57, nth l 58, nth l 59, nth l 60, nth l 61, nth l 62, nth l 63, nth l 64, nth l 65, nth l 66, nth l 67, nth l 68, nth l 69, nth l 70, nth l 71, nth l 72, nth l 73, nth l 74, nth l 75, nth l 76, nth l 77, nth l 78, nth l 79, nth l 80, nth l 81, nth l 82, nth l 83, nth l 84, nth l 85, nth l 86, nth l 87, nth l 88, nth l 89, nth l 90, nth l 91, nth l 92, nth l 93, nth l 94, nth l 95, nth l 96, nth l 97, nth l 98, nth l 99, nth l 100, nth l 101, nth l 102, nth l 103, nth l 104, nth l 105, nth l 106, nth l 107, nth l 108, nth l 109, nth l 110, nth l 111, nth l 112, nth l 113, nth l 114, nth l 115, nth l 116, nth l 117, nth l 118, nth l 119] ∧ bs = [(pb, ints .u64 (prI (prO [h0, h1, h2] [r0, r1] i) [h0, h1, h2] [r0, r1] i k), 112), (b, polyRow g r0 r1 s0 s1 h0 h1 h2 bl n, T)]) 2 ⟨(by first | rfl | (simp only [prI_0]; done) | (simp only [prI_0]; rfl) | (rw [prI_0]; rfl)), (by first | rfl | (simp only [prI_0]; done) | (simp only [prI_0]; rfl) | (rw [prI_0]; rfl))⟩ ?_
    rintro k lfk _ hkk ⟨hlk, rfl⟩
    refine SP.cast hlk ?_
    clear hlk
    by_cases hltk : k < 2
    · have hk1 : IntKind.i64.wrap ((k : Int) + 1) = ((k + 1 : Nat) : Int) := by rw [IntWalk.i64_in _ (by omega)]; omega
      have fik : IntKind.i64.wrap ((i : Int) + (k : Int)) = ((i + k : Nat) : Int) := by rw [IntWalk.i64_in _ (by omega)]; omega
      have fik1 : IntKind.i64.wrap (((i + k : Nat) : Int) + 1) = ((i + k + 1 : Nat) : Int) := by rw [IntWalk.i64_in _ (by omega)]; omega
      have hpr := prI_ok (a := i) (prO_ok hH hR i) hH hR k
      repeat (first | ((with_reducible refine SP.region (id := 5) ?_); refine SL.e tabOk ?_; (with_reducible refine SL.nil ?_)) | ((with_reducible refine SP.region (id := 6) ?_); refine SL.e tabOk ?_; refine SL.ix tabOk ?_; refine SL.e tabOk ?_; refine SL.e tabOk ?_; (with_reducible refine SL.nil ?_)) | ((with_reducible refine SP.region (id := 7) ?_); refine SL.e tabOk ?_; refine SL.e tabOk ?_; refine SL.v (ValO.call ent_73 _ rfl _ (fun w _ => mul64_grow _ _ (by first | assumption | exact hH _) (by first | assumption | exact hR _) w)) ?_; refine SL.e tabOk ?_; refine SL.e tabOk ?_; refine SL.e tabOk ?_; refine SL.e tabOk ?_; refine SL.e tabOk ?_; (with_reducible refine SL.nil ?_)) | ((with_reducible refine SP.region (id := 8) ?_); refine SL.e tabOk ?_; (with_reducible refine SL.nil ?_)) | ((with_reducible refine SP.region (id := 9) ?_); refine SL.e tabOk ?_; refine SL.e tabOk ?_; refine SL.e tabOk ?_; refine SL.e tabOk ?_; refine SL.e tabOk ?_; refine SL.e tabOk ?_; refine SL.ixA tabOk ?_ (hm := by first | (simp only [fik, fik1, Nat.zero_add, Nat.mul_one, Nat.one_mul, Int.toNat_natCast]; done) | (simp only [fik, fik1, Nat.zero_add, Nat.mul_one, Nat.one_mul, Int.toNat_natCast]; rfl) | rfl); (first | (refine SL.ldI tabOk ?_) | (refine SL.ldC tabOk ?_ (hv := by first | exact pr_g0 | exact pr_g5 | exact pr_g6 | exact pr_g7 | exact pr_g3 | exact pr_g4 | exact (pr_gn hbl)))); refine SL.e tabOk ?_; refine SL.v (ValO.ext _ rfl _ (fun w => add64_run _ _ _ (by first | assumption | exact W64.addLo _ _ _ | exact w64_0 | exact W64.lo _ _ | exact hpr _ | exact hcs.1 | exact hcs.2.2 _ | exact hpr3 _ | exact W64.bits _ _ _ | exact W64.shr2 (hpr3 _)) (by first | assumption | exact W64.addLo _ _ _ | exact w64_0 | exact W64.lo _ _ | exact hpr _ | exact hcs.1 | exact hcs.2.2 _ | exact hpr3 _ | exact W64.bits _ _ _ | exact W64.shr2 (hpr3 _)) (by first | exact Bit.zero | assumption | exact hcs.2.1) w)) ?_; refine SL.e tabOk ?_; refine SL.e tabOk ?_; refine SL.e tabOk ?_; refine SL.ixA tabOk ?_ (hm := by first | (simp only [fik, fik1, Nat.zero_add, Nat.mul_one, Nat.one_mul, Int.toNat_natCast]; done) | (simp only [fik, fik1, Nat.zero_add, Nat.mul_one, Nat.one_mul, Int.toNat_natCast]; rfl) | rfl); (first | (refine SL.stI tabOk ?_) | (refine SL.stP tabOk ?_ (hsz := by first | (rw [pr_size hbl]; omega) | (rw [pr_size (by assumption)]; omega)) (hA := by first | exact pr_p5 | exact pr_p6 | exact pr_p7 | exact (pr_pn hbl)))); refine SL.e tabOk ?_; (with_reducible refine SL.nil ?_)) | ((with_reducible refine SP.region (id := 10) ?_); refine SL.e tabOk ?_; refine SL.e tabOk ?_; refine SL.e tabOk ?_; refine SL.e tabOk ?_; refine SL.e tabOk ?_; refine SL.e tabOk ?_; refine SL.e tabOk ?_; (with_reducible refine SL.nil ?_)) | ((with_reducible refine SP.seqK ?_); intro _ _) | (with_reducible refine thenK_normal ?_) | (refine useK (by assumption) ?_) | (with_reducible refine SP.block ?_) | (with_reducible refine SP.skip ?_) | ((with_reducible show SP _ _ _ (Code.cond _ _ _) _ _ _); first | (refine SP.condT rfl (by first | rfl | (simp only [decide_eq_true_eq, beq_iff_eq, bne_iff_ne]; omega)) ?_)))
      refine SP.loopN (fun j l bs => l = [.pointer (some ⟨b, 0, none⟩), nth l 1, .pointer (some ⟨pb, 0, none⟩), .int .i64 ((i : Nat)), .int .u64 (gi [h0, h1, h2] i), .int .i64 ((k : Nat)), nth l 6, nth l 7, nth l 8, .int .u64 (cst (mulHi (gi [h0, h1, h2] i) (gi [r0, r1] k)) (addHi (gi (prI (prO [h0, h1, h2] [r0, r1] i) [h0, h1, h2] [r0, r1] i k) (i + k)) (mulLo (gi [h0, h1, h2] i) (gi [r0, r1] k)) 0) ((prI (prO [h0, h1, h2] [r0, r1] i) [h0, h1, h2] [r0, r1] i k).set (i + k) (addLo (gi (prI (prO [h0, h1, h2] [r0, r1] i) [h0, h1, h2] [r0, r1] i k) (i + k)) (mulLo (gi [h0, h1, h2] i) (gi [r0, r1] k)) 0)) (i + k + 1) j).2.1, .int .i64 ((i + k + 1 + j : Nat)), .int .u64 (cst (mulHi (gi [h0, h1, h2] i) (gi [r0, r1] k)) (addHi (gi (prI (prO [h0, h1, h2] [r0, r1] i) [h0, h1, h2] [r0, r1] i k) (i + k)) (mulLo (gi [h0, h1, h2] i) (gi [r0, r1] k)) 0) ((prI (prO [h0, h1, h2] [r0, r1] i) [h0, h1, h2] [r0, r1] i k).set (i + k) (addLo (gi (prI (prO [h0, h1, h2] [r0, r1] i) [h0, h1, h2] [r0, r1] i k) (i + k)) (mulLo (gi [h0, h1, h2] i) (gi [r0, r1] k)) 0)) (i + k + 1) j).1, nth l 12, nth l 13, nth l 14, nth l 15, nth l 16, .agg (ints .u64 [h0, h1, h2]), .int .i64 ((i : Nat)), nth l 19, nth l 20, nth l 21, nth l 22, nth l 23, nth l 24, .agg (ints .u64 [r0, r1]), .int .i64 ((k : Nat)), nth l 27, nth l 28, nth l 29, nth l 30, nth l 31, nth l 32, nth l 33, nth l 34, nth l 35, nth l 36, nth l 37, nth l 38, nth l 39, nth l 40, nth l 41, nth l 42, nth l 43, nth l 44, nth l 45, nth l 46, nth l 47, nth l 48, nth l 49, nth l 50, nth l 51, nth l 52, nth l 53, nth l 54, nth l 55, nth l 56, nth l 57, nth l 58, nth l 59, nth l 60, nth l 61, nth l 62, nth l 63, nth l 64, nth l 65, nth l 66, nth l 67, nth l 68, nth l 69, nth l 70, nth l 71, nth l 72, nth l 73, nth l 74, nth l 75, nth l 76, nth l 77, nth l 78, nth l 79, nth l 80, nth l 81, nth l 82, nth l 83, nth l 84, nth l 85, nth l 86, nth l 87, nth l 88, nth l 89, nth l 90, nth l 91, nth l 92, nth l 93, nth l 94, nth l 95, nth l 96, nth l 97, nth l 98, nth l 99, nth l 100, nth l 101, nth l 102, nth l 103, nth l 104, nth l 105, nth l 106, nth l 107, nth l 108, nth l 109, nth l 110, nth l 111, nth l 112, nth l 113, nth l 114, nth l 115, nth l 116, nth l 117, nth l 118, nth l 119] ∧ bs = [(pb, ints .u64 (cst (mulHi (gi [h0, h1, h2] i) (gi [r0, r1] k)) (addHi (gi (prI (prO [h0, h1, h2] [r0, r1] i) [h0, h1, h2] [r0, r1] i k) (i + k)) (mulLo (gi [h0, h1, h2] i) (gi [r0, r1] k)) 0) ((prI (prO [h0, h1, h2] [r0, r1] i) [h0, h1, h2] [r0, r1] i k).set (i + k) (addLo (gi (prI (prO [h0, h1, h2] [r0, r1] i) [h0, h1, h2] [r0, r1] i k) (i + k)) (mulLo (gi [h0, h1, h2] i) (gi [r0, r1] k)) 0)) (i + k + 1) j).2.2, 112), (b, polyRow g r0 r1 s0 s1 h0 h1 h2 bl n, T)]) (3 - (i + k)) ⟨(by rw [cst_0]; simp only [fik, fik1]; rfl), (by rw [cst_0])⟩ ?_
      rintro j lfj _ hkj ⟨hlj, rfl⟩
      refine SP.cast hlj ?_
      clear hlj
      have hcs := cst_ok (at1 := i + k + 1) ((hH i).hi (hR k)) (Bit.addHi (hpr (i + k)) (W64.lo (gi [h0, h1, h2] i) (gi [r0, r1] k)) Bit.zero) (hpr.set (i + k) (W64.addLo (gi (prI (prO [h0, h1, h2] [r0, r1] i) [h0, h1, h2] [r0, r1] i k) (i + k)) (mulLo (gi [h0, h1, h2] i) (gi [r0, r1] k)) 0)) j
      by_cases hltj : j < 3 - (i + k)
      · have hj1 : IntKind.i64.wrap (((i + k + 1 + j : Nat) : Int) + 1) = ((i + k + 1 + (j + 1) : Nat) : Int) := by rw [IntWalk.i64_in _ (by omega)]; omega
        by_cases hadd : 0 < (cst (mulHi (gi [h0, h1, h2] i) (gi [r0, r1] k)) (addHi (gi (prI (prO [h0, h1, h2] [r0, r1] i) [h0, h1, h2] [r0, r1] i k) (i + k)) (mulLo (gi [h0, h1, h2] i) (gi [r0, r1] k)) 0) ((prI (prO [h0, h1, h2] [r0, r1] i) [h0, h1, h2] [r0, r1] i k).set (i + k) (addLo (gi (prI (prO [h0, h1, h2] [r0, r1] i) [h0, h1, h2] [r0, r1] i k) (i + k)) (mulLo (gi [h0, h1, h2] i) (gi [r0, r1] k)) 0)) (i + k + 1) j).1
        · repeat (first | ((with_reducible refine SP.region (id := 11) ?_); refine SL.e tabOk ?_; (first | (refine SL.c true tabOk ?_) | (refine SL.c false tabOk ?_) | (refine SL.e tabOk ?_)); refine SL.e tabOk ?_; (first | (refine SL.gT ?_; refine SL.e tabOk ?_) | refine SL.gF ?_); (first | (refine SL.gT ?_; (first | (refine SL.c true tabOk ?_) | (refine SL.c false tabOk ?_) | (refine SL.e tabOk ?_))) | refine SL.gF ?_); (first | (refine SL.gT ?_; refine SL.e tabOk ?_) | refine SL.gF ?_); (first | (refine SL.gT ?_; refine SL.e tabOk ?_) | refine SL.gF ?_); (first | (refine SL.gT ?_; (first | (refine SL.c true tabOk ?_) | (refine SL.c false tabOk ?_) | (refine SL.e tabOk ?_))) | refine SL.gF ?_); (first | (refine SL.gT ?_; refine SL.e tabOk ?_) | refine SL.gF ?_); refine SL.e tabOk ?_; (with_reducible refine SL.nil ?_)) | ((with_reducible refine SP.region (id := 12) ?_); refine SL.e tabOk ?_; refine SL.e tabOk ?_; refine SL.e tabOk ?_; refine SL.e tabOk ?_; (with_reducible refine SL.nil ?_)) | ((with_reducible refine SP.region (id := 13) ?_); refine SL.e tabOk ?_; refine SL.e tabOk ?_; refine SL.ixA tabOk ?_ (hm := by first | (simp only [fik, fik1, Nat.zero_add, Nat.mul_one, Nat.one_mul, Int.toNat_natCast]; done) | (simp only [fik, fik1, Nat.zero_add, Nat.mul_one, Nat.one_mul, Int.toNat_natCast]; rfl) | rfl); (first | (refine SL.ldI tabOk ?_) | (refine SL.ldC tabOk ?_ (hv := by first | exact pr_g0 | exact pr_g5 | exact pr_g6 | exact pr_g7 | exact pr_g3 | exact pr_g4 | exact (pr_gn hbl)))); refine SL.e tabOk ?_; refine SL.e tabOk ?_; refine SL.v (ValO.ext _ rfl _ (fun w => add64_run _ _ _ (by first | assumption | exact W64.addLo _ _ _ | exact w64_0 | exact W64.lo _ _ | exact hpr _ | exact hcs.1 | exact hcs.2.2 _ | exact hpr3 _ | exact W64.bits _ _ _ | exact W64.shr2 (hpr3 _)) (by first | assumption | exact W64.addLo _ _ _ | exact w64_0 | exact W64.lo _ _ | exact hpr _ | exact hcs.1 | exact hcs.2.2 _ | exact hpr3 _ | exact W64.bits _ _ _ | exact W64.shr2 (hpr3 _)) (by first | exact Bit.zero | assumption | exact hcs.2.1) w)) ?_; refine SL.e tabOk ?_; refine SL.e tabOk ?_; refine SL.e tabOk ?_; refine SL.ixA tabOk ?_ (hm := by first | (simp only [fik, fik1, Nat.zero_add, Nat.mul_one, Nat.one_mul, Int.toNat_natCast]; done) | (simp only [fik, fik1, Nat.zero_add, Nat.mul_one, Nat.one_mul, Int.toNat_natCast]; rfl) | rfl); (first | (refine SL.stI tabOk ?_) | (refine SL.stP tabOk ?_ (hsz := by first | (rw [pr_size hbl]; omega) | (rw [pr_size (by assumption)]; omega)) (hA := by first | exact pr_p5 | exact pr_p6 | exact pr_p7 | exact (pr_pn hbl)))); refine SL.e tabOk ?_; (with_reducible refine SL.nil ?_)) | ((with_reducible refine SP.seqK ?_); intro _ _) | (with_reducible refine thenK_normal ?_) | (refine useK (by assumption) ?_) | (with_reducible refine SP.block ?_) | (with_reducible refine SP.skip ?_) | ((with_reducible show SP _ _ _ (Code.cond _ _ _) _ _ _); first | (refine SP.condT rfl (by first | rfl | (simp only [decide_eq_true_eq, beq_iff_eq, bne_iff_ne]; omega)) ?_)))
          simp only [hj1]
          exact ⟨hltj, (by rw [cst_s]; rfl), (by rw [cst_s])⟩
        · by_cases hup : 0 < (cst (mulHi (gi [h0, h1, h2] i) (gi [r0, r1] k)) (addHi (gi (prI (prO [h0, h1, h2] [r0, r1] i) [h0, h1, h2] [r0, r1] i k) (i + k)) (mulLo (gi [h0, h1, h2] i) (gi [r0, r1] k)) 0) ((prI (prO [h0, h1, h2] [r0, r1] i) [h0, h1, h2] [r0, r1] i k).set (i + k) (addLo (gi (prI (prO [h0, h1, h2] [r0, r1] i) [h0, h1, h2] [r0, r1] i k) (i + k)) (mulLo (gi [h0, h1, h2] i) (gi [r0, r1] k)) 0)) (i + k + 1) j).2.1
          · repeat (first | ((with_reducible refine SP.region (id := 11) ?_); refine SL.e tabOk ?_; (first | (refine SL.c true tabOk ?_) | (refine SL.c false tabOk ?_) | (refine SL.e tabOk ?_)); refine SL.e tabOk ?_; (first | (refine SL.gT ?_; refine SL.e tabOk ?_) | refine SL.gF ?_); (first | (refine SL.gT ?_; (first | (refine SL.c true tabOk ?_) | (refine SL.c false tabOk ?_) | (refine SL.e tabOk ?_))) | refine SL.gF ?_); (first | (refine SL.gT ?_; refine SL.e tabOk ?_) | refine SL.gF ?_); (first | (refine SL.gT ?_; refine SL.e tabOk ?_) | refine SL.gF ?_); (first | (refine SL.gT ?_; (first | (refine SL.c true tabOk ?_) | (refine SL.c false tabOk ?_) | (refine SL.e tabOk ?_))) | refine SL.gF ?_); (first | (refine SL.gT ?_; refine SL.e tabOk ?_) | refine SL.gF ?_); refine SL.e tabOk ?_; (with_reducible refine SL.nil ?_)) | ((with_reducible refine SP.region (id := 12) ?_); refine SL.e tabOk ?_; refine SL.e tabOk ?_; refine SL.e tabOk ?_; refine SL.e tabOk ?_; (with_reducible refine SL.nil ?_)) | ((with_reducible refine SP.region (id := 13) ?_); refine SL.e tabOk ?_; refine SL.e tabOk ?_; refine SL.ixA tabOk ?_ (hm := by first | (simp only [fik, fik1, Nat.zero_add, Nat.mul_one, Nat.one_mul, Int.toNat_natCast]; done) | (simp only [fik, fik1, Nat.zero_add, Nat.mul_one, Nat.one_mul, Int.toNat_natCast]; rfl) | rfl); (first | (refine SL.ldI tabOk ?_) | (refine SL.ldC tabOk ?_ (hv := by first | exact pr_g0 | exact pr_g5 | exact pr_g6 | exact pr_g7 | exact pr_g3 | exact pr_g4 | exact (pr_gn hbl)))); refine SL.e tabOk ?_; refine SL.e tabOk ?_; refine SL.v (ValO.ext _ rfl _ (fun w => add64_run _ _ _ (by first | assumption | exact W64.addLo _ _ _ | exact w64_0 | exact W64.lo _ _ | exact hpr _ | exact hcs.1 | exact hcs.2.2 _ | exact hpr3 _ | exact W64.bits _ _ _ | exact W64.shr2 (hpr3 _)) (by first | assumption | exact W64.addLo _ _ _ | exact w64_0 | exact W64.lo _ _ | exact hpr _ | exact hcs.1 | exact hcs.2.2 _ | exact hpr3 _ | exact W64.bits _ _ _ | exact W64.shr2 (hpr3 _)) (by first | exact Bit.zero | assumption | exact hcs.2.1) w)) ?_; refine SL.e tabOk ?_; refine SL.e tabOk ?_; refine SL.e tabOk ?_; refine SL.ixA tabOk ?_ (hm := by first | (simp only [fik, fik1, Nat.zero_add, Nat.mul_one, Nat.one_mul, Int.toNat_natCast]; done) | (simp only [fik, fik1, Nat.zero_add, Nat.mul_one, Nat.one_mul, Int.toNat_natCast]; rfl) | rfl); (first | (refine SL.stI tabOk ?_) | (refine SL.stP tabOk ?_ (hsz := by first | (rw [pr_size hbl]; omega) | (rw [pr_size (by assumption)]; omega)) (hA := by first | exact pr_p5 | exact pr_p6 | exact pr_p7 | exact (pr_pn hbl)))); refine SL.e tabOk ?_; (with_reducible refine SL.nil ?_)) | ((with_reducible refine SP.seqK ?_); intro _ _) | (with_reducible refine thenK_normal ?_) | (refine useK (by assumption) ?_) | (with_reducible refine SP.block ?_) | (with_reducible refine SP.skip ?_) | ((with_reducible show SP _ _ _ (Code.cond _ _ _) _ _ _); first | (refine SP.condT rfl (by first | rfl | (simp only [decide_eq_true_eq, beq_iff_eq, bne_iff_ne]; omega)) ?_)))
            simp only [hj1]
            exact ⟨hltj, (by rw [cst_s]; rfl), (by rw [cst_s])⟩
          · have hmac : (cst (mulHi (gi [h0, h1, h2] i) (gi [r0, r1] k)) (addHi (gi (prI (prO [h0, h1, h2] [r0, r1] i) [h0, h1, h2] [r0, r1] i k) (i + k)) (mulLo (gi [h0, h1, h2] i) (gi [r0, r1] k)) 0) ((prI (prO [h0, h1, h2] [r0, r1] i) [h0, h1, h2] [r0, r1] i k).set (i + k) (addLo (gi (prI (prO [h0, h1, h2] [r0, r1] i) [h0, h1, h2] [r0, r1] i k) (i + k)) (mulLo (gi [h0, h1, h2] i) (gi [r0, r1] k)) 0)) (i + k + 1) j).2.2 = mac (prI (prO [h0, h1, h2] [r0, r1] i) [h0, h1, h2] [r0, r1] i k) (i + k) (gi [h0, h1, h2] i) (gi [r0, r1] k) := by
              have ha0 : (cst (mulHi (gi [h0, h1, h2] i) (gi [r0, r1] k)) (addHi (gi (prI (prO [h0, h1, h2] [r0, r1] i) [h0, h1, h2] [r0, r1] i k) (i + k)) (mulLo (gi [h0, h1, h2] i) (gi [r0, r1] k)) 0) ((prI (prO [h0, h1, h2] [r0, r1] i) [h0, h1, h2] [r0, r1] i k).set (i + k) (addLo (gi (prI (prO [h0, h1, h2] [r0, r1] i) [h0, h1, h2] [r0, r1] i k) (i + k)) (mulLo (gi [h0, h1, h2] i) (gi [r0, r1] k)) 0)) (i + k + 1) j).1 = 0 := by have := hcs.1.1; omega
              have hu0 : (cst (mulHi (gi [h0, h1, h2] i) (gi [r0, r1] k)) (addHi (gi (prI (prO [h0, h1, h2] [r0, r1] i) [h0, h1, h2] [r0, r1] i k) (i + k)) (mulLo (gi [h0, h1, h2] i) (gi [r0, r1] k)) 0) ((prI (prO [h0, h1, h2] [r0, r1] i) [h0, h1, h2] [r0, r1] i k).set (i + k) (addLo (gi (prI (prO [h0, h1, h2] [r0, r1] i) [h0, h1, h2] [r0, r1] i k) (i + k)) (mulLo (gi [h0, h1, h2] i) (gi [r0, r1] k)) 0)) (i + k + 1) j).2.1 = 0 := by have := hcs.2.1.1; omega
              have := (cst_still (at1 := i + k + 1) (hpr.set (i + k) (W64.addLo _ _ _)) ((hH i).hi (hR k)) (Bit.addHi (hpr (i + k)) (W64.lo _ _) Bit.zero) ha0 hu0 (3 - (i + k) - j)).1
              rw [show j + (3 - (i + k) - j) = 3 - (i + k) by omega] at this
              unfold mac; exact this.symm
            repeat (first | ((with_reducible refine SP.region (id := 11) ?_); refine SL.e tabOk ?_; (first | (refine SL.c true tabOk ?_) | (refine SL.c false tabOk ?_) | (refine SL.e tabOk ?_)); refine SL.e tabOk ?_; (first | (refine SL.gT ?_; refine SL.e tabOk ?_) | refine SL.gF ?_); (first | (refine SL.gT ?_; (first | (refine SL.c true tabOk ?_) | (refine SL.c false tabOk ?_) | (refine SL.e tabOk ?_))) | refine SL.gF ?_); (first | (refine SL.gT ?_; refine SL.e tabOk ?_) | refine SL.gF ?_); (first | (refine SL.gT ?_; refine SL.e tabOk ?_) | refine SL.gF ?_); (first | (refine SL.gT ?_; (first | (refine SL.c true tabOk ?_) | (refine SL.c false tabOk ?_) | (refine SL.e tabOk ?_))) | refine SL.gF ?_); (first | (refine SL.gT ?_; refine SL.e tabOk ?_) | refine SL.gF ?_); refine SL.e tabOk ?_; (with_reducible refine SL.nil ?_)) | ((with_reducible refine SP.region (id := 14) ?_); refine SL.e tabOk ?_; refine SL.e tabOk ?_; (with_reducible refine SL.nil ?_)) | ((with_reducible refine SP.seqK ?_); intro _ _) | (with_reducible refine thenK_normal ?_) | (refine useK (by assumption) ?_) | (with_reducible refine SP.exit ?_) | ((with_reducible show SP _ _ _ (Code.cond _ _ _) _ _ _); first | (refine SP.condF rfl (by first | rfl | (simp only [decide_eq_false_iff_not, beq_eq_false_iff_ne, bne_eq_false_iff_eq]; omega)) ?_)))
            simp only [hk1]
            exact ⟨hltk, rfl, (by rw [prI_s, ← hmac])⟩
      · have hmac : (cst (mulHi (gi [h0, h1, h2] i) (gi [r0, r1] k)) (addHi (gi (prI (prO [h0, h1, h2] [r0, r1] i) [h0, h1, h2] [r0, r1] i k) (i + k)) (mulLo (gi [h0, h1, h2] i) (gi [r0, r1] k)) 0) ((prI (prO [h0, h1, h2] [r0, r1] i) [h0, h1, h2] [r0, r1] i k).set (i + k) (addLo (gi (prI (prO [h0, h1, h2] [r0, r1] i) [h0, h1, h2] [r0, r1] i k) (i + k)) (mulLo (gi [h0, h1, h2] i) (gi [r0, r1] k)) 0)) (i + k + 1) j).2.2 = mac (prI (prO [h0, h1, h2] [r0, r1] i) [h0, h1, h2] [r0, r1] i k) (i + k) (gi [h0, h1, h2] i) (gi [r0, r1] k) := by
          unfold mac; rw [show 3 - (i + k) = j by omega]
        repeat (first | ((with_reducible refine SP.region (id := 11) ?_); refine SL.e tabOk ?_; (first | (refine SL.c true tabOk ?_) | (refine SL.c false tabOk ?_) | (refine SL.e tabOk ?_)); refine SL.e tabOk ?_; (first | (refine SL.gT ?_; refine SL.e tabOk ?_) | refine SL.gF ?_); (first | (refine SL.gT ?_; (first | (refine SL.c true tabOk ?_) | (refine SL.c false tabOk ?_) | (refine SL.e tabOk ?_))) | refine SL.gF ?_); (first | (refine SL.gT ?_; refine SL.e tabOk ?_) | refine SL.gF ?_); (first | (refine SL.gT ?_; refine SL.e tabOk ?_) | refine SL.gF ?_); (first | (refine SL.gT ?_; (first | (refine SL.c true tabOk ?_) | (refine SL.c false tabOk ?_) | (refine SL.e tabOk ?_))) | refine SL.gF ?_); (first | (refine SL.gT ?_; refine SL.e tabOk ?_) | refine SL.gF ?_); refine SL.e tabOk ?_; (with_reducible refine SL.nil ?_)) | ((with_reducible refine SP.region (id := 14) ?_); refine SL.e tabOk ?_; refine SL.e tabOk ?_; (with_reducible refine SL.nil ?_)) | ((with_reducible refine SP.seqK ?_); intro _ _) | (with_reducible refine thenK_normal ?_) | (refine useK (by assumption) ?_) | (with_reducible refine SP.exit ?_) | ((with_reducible show SP _ _ _ (Code.cond _ _ _) _ _ _); first | (refine SP.condF rfl (by first | rfl | (simp only [decide_eq_false_iff_not, beq_eq_false_iff_ne, bne_eq_false_iff_eq]; omega)) ?_)))
        simp only [hk1]
        exact ⟨hltk, rfl, (by rw [prI_s, ← hmac])⟩
    · have hendk : k = 2 := by omega
      replace hendk := Lib.hid hendk
      repeat (first | ((with_reducible refine SP.region (id := 5) ?_); refine SL.e tabOk ?_; (with_reducible refine SL.nil ?_)) | ((with_reducible refine SP.region (id := 15) ?_); refine SL.e tabOk ?_; refine SL.e tabOk ?_; (with_reducible refine SL.nil ?_)) | ((with_reducible refine SP.seqK ?_); intro _ _) | (with_reducible refine thenK_normal ?_) | (refine useK (by assumption) ?_) | (with_reducible refine SP.exit ?_) | ((with_reducible show SP _ _ _ (Code.cond _ _ _) _ _ _); first | (refine SP.condF rfl (by first | rfl | (simp only [decide_eq_false_iff_not, beq_eq_false_iff_ne, bne_eq_false_iff_eq]; omega)) ?_)))
      have hq := hendk.out; clear hendk; subst hq
      simp only [hi1]
      exact ⟨hlti, rfl, (by rw [prO_s])⟩
  · have hendi : i = 3 := by omega
    replace hendi := Lib.hid hendi
    have hpr3 := prO_ok hH hR i
    have fik : True := trivial
    have fik1 : True := trivial
    repeat (first | ((with_reducible refine SP.region (id := 2) ?_); refine SL.e tabOk ?_; (with_reducible refine SL.nil ?_)) | ((with_reducible refine SP.region (id := 16) ?_); refine SL.e tabOk ?_; (first | (refine SL.ldI tabOk ?_) | (refine SL.ldC tabOk ?_ (hv := by first | exact pr_g0 | exact pr_g5 | exact pr_g6 | exact pr_g7 | exact pr_g3 | exact pr_g4 | exact (pr_gn hbl)))); refine SL.e tabOk ?_; refine SL.e tabOk ?_; (first | (refine SL.ldI tabOk ?_) | (refine SL.ldC tabOk ?_ (hv := by first | exact pr_g0 | exact pr_g5 | exact pr_g6 | exact pr_g7 | exact pr_g3 | exact pr_g4 | exact (pr_gn hbl)))); refine SL.e tabOk ?_; refine SL.e tabOk ?_; refine SL.e tabOk ?_; (first | (refine SL.ldI tabOk ?_) | (refine SL.ldC tabOk ?_ (hv := by first | exact pr_g0 | exact pr_g5 | exact pr_g6 | exact pr_g7 | exact pr_g3 | exact pr_g4 | exact (pr_gn hbl)))); refine SL.e tabOk ?_; refine SL.val (ValO.build (by first | (dsimp only [List.map, evL, nth]; done) | (dsimp only [List.map, evL, nth]; rfl)) (bld2 _ _)) bpp ?_; refine SL.al zero_92 ?_; (first | (have _t := tok_pb; clear _t tok_pb; intro pb) | (have _t := tok_ob; clear _t tok_ob; intro ob) | (have _t := tok_fb; clear _t tok_fb; intro fb) | intro _); (first | (refine SL.stR tabOk ?_) | (refine SL.stQ tabOk ?_ (hsz := by first | (rw [pr_size hbl]; omega) | (rw [pr_size (by assumption)]; omega)) (hA := by first | exact pr_ph))); (with_reducible refine SL.nil ?_)) | ((with_reducible refine SP.region (id := 17) ?_); refine SL.e tabOk ?_; refine SL.e tabOk ?_; (first | (refine SL.ldI tabOk ?_) | (refine SL.ldC tabOk ?_ (hv := by first | exact pr_g0 | exact pr_g5 | exact pr_g6 | exact pr_g7 | exact pr_g3 | exact pr_g4 | exact (pr_gn hbl)))); refine SL.e tabOk ?_; (first | (refine SL.ldI tabOk ?_) | (refine SL.ldC tabOk ?_ (hv := by first | exact pr_g0 | exact pr_g5 | exact pr_g6 | exact pr_g7 | exact pr_g3 | exact pr_g4 | exact (pr_gn hbl)))); refine SL.e tabOk ?_; (first | (refine SL.ldI tabOk ?_) | (refine SL.ldC tabOk ?_ (hv := by first | exact pr_g0 | exact pr_g5 | exact pr_g6 | exact pr_g7 | exact pr_g3 | exact pr_g4 | exact (pr_gn hbl)))); refine SL.e tabOk ?_; refine SL.val (ValO.build (by first | (dsimp only [List.map, evL, nth]; done) | (dsimp only [List.map, evL, nth]; rfl)) (bld3 _ _ _)) bpp ?_; refine SL.nc ?_; refine SL.e tabOk ?_; (first | (refine SL.stR tabOk ?_) | (refine SL.stQ tabOk ?_ (hsz := by first | (rw [pr_size hbl]; omega) | (rw [pr_size (by assumption)]; omega)) (hA := by first | exact pr_ph))); (with_reducible refine SL.nil ?_)) | ((with_reducible refine SP.region (id := 18) ?_); refine SL.e tabOk ?_; (first | (refine SL.ldI tabOk ?_) | (refine SL.ldC tabOk ?_ (hv := by first | exact pr_g0 | exact pr_g5 | exact pr_g6 | exact pr_g7 | exact pr_g3 | exact pr_g4 | exact (pr_gn hbl)))); refine SL.e tabOk ?_; refine SL.e tabOk ?_; (first | (refine SL.ldI tabOk ?_) | (refine SL.ldC tabOk ?_ (hv := by first | exact pr_g0 | exact pr_g5 | exact pr_g6 | exact pr_g7 | exact pr_g3 | exact pr_g4 | exact (pr_gn hbl)))); refine SL.val (ValO.build (by first | (dsimp only [List.map, evL, nth]; done) | (dsimp only [List.map, evL, nth]; rfl)) (bld2 _ _)) bpp ?_; refine SL.al zero_92 ?_; (first | (have _t := tok_pb; clear _t tok_pb; intro pb) | (have _t := tok_ob; clear _t tok_ob; intro ob) | (have _t := tok_fb; clear _t tok_fb; intro fb) | intro _); (first | (refine SL.stR tabOk ?_) | (refine SL.stQ tabOk ?_ (hsz := by first | (rw [pr_size hbl]; omega) | (rw [pr_size (by assumption)]; omega)) (hA := by first | exact pr_ph))); (with_reducible refine SL.nil ?_)) | ((with_reducible refine SP.region (id := 19) ?_); refine SL.e tabOk ?_; refine SL.e tabOk ?_; (first | (refine SL.ldI tabOk ?_) | (refine SL.ldC tabOk ?_ (hv := by first | exact pr_g0 | exact pr_g5 | exact pr_g6 | exact pr_g7 | exact pr_g3 | exact pr_g4 | exact (pr_gn hbl)))); refine SL.e tabOk ?_; (first | (refine SL.ldI tabOk ?_) | (refine SL.ldC tabOk ?_ (hv := by first | exact pr_g0 | exact pr_g5 | exact pr_g6 | exact pr_g7 | exact pr_g3 | exact pr_g4 | exact (pr_gn hbl)))); refine SL.call1 (b := b) ent_70 rfl (gbk _) (fun w hw => by have hbb := hw.block (mbk b); exact padd_any _ _ _ _ _ _ _ _ _ _ _ _ _ _ _ hbl (by first | assumption | exact W64.addLo _ _ _ | exact w64_0 | exact W64.lo _ _ | exact hpr _ | exact hcs.1 | exact hcs.2.2 _ | exact hpr3 _ | exact W64.bits _ _ _ | exact W64.shr2 (hpr3 _)) (by first | assumption | exact W64.addLo _ _ _ | exact w64_0 | exact W64.lo _ _ | exact hpr _ | exact hcs.1 | exact hcs.2.2 _ | exact hpr3 _ | exact W64.bits _ _ _ | exact W64.shr2 (hpr3 _)) (by first | assumption | exact W64.addLo _ _ _ | exact w64_0 | exact W64.lo _ _ | exact hpr _ | exact hcs.1 | exact hcs.2.2 _ | exact hpr3 _ | exact W64.bits _ _ _ | exact W64.shr2 (hpr3 _)) (by first | assumption | exact W64.addLo _ _ _ | exact w64_0 | exact W64.lo _ _ | exact hpr _ | exact hcs.1 | exact hcs.2.2 _ | exact hpr3 _ | exact W64.bits _ _ _ | exact W64.shr2 (hpr3 _)) w hbb) stt bpp ?_; (with_reducible refine SL.nil ?_)) | ((with_reducible refine SP.region (id := 20) ?_); refine SL.e tabOk ?_; refine SL.e tabOk ?_; (first | (refine SL.ldI tabOk ?_) | (refine SL.ldC tabOk ?_ (hv := by first | exact pr_g0 | exact pr_g5 | exact pr_g6 | exact pr_g7 | exact pr_g3 | exact pr_g4 | exact (pr_gn hbl)))); refine SL.e tabOk ?_; (first | (refine SL.ldI tabOk ?_) | (refine SL.ldC tabOk ?_ (hv := by first | exact pr_g0 | exact pr_g5 | exact pr_g6 | exact pr_g7 | exact pr_g3 | exact pr_g4 | exact (pr_gn hbl)))); refine SL.call1 (b := b) ent_70 rfl (gbk _) (fun w hw => by have hbb := hw.block (mbk b); exact padd_any _ _ _ _ _ _ _ _ _ _ _ _ _ _ _ hbl (by first | assumption | exact W64.addLo _ _ _ | exact w64_0 | exact W64.lo _ _ | exact hpr _ | exact hcs.1 | exact hcs.2.2 _ | exact hpr3 _ | exact W64.bits _ _ _ | exact W64.shr2 (hpr3 _)) (by first | assumption | exact W64.addLo _ _ _ | exact w64_0 | exact W64.lo _ _ | exact hpr _ | exact hcs.1 | exact hcs.2.2 _ | exact hpr3 _ | exact W64.bits _ _ _ | exact W64.shr2 (hpr3 _)) (by first | assumption | exact W64.addLo _ _ _ | exact w64_0 | exact W64.lo _ _ | exact hpr _ | exact hcs.1 | exact hcs.2.2 _ | exact hpr3 _ | exact W64.bits _ _ _ | exact W64.shr2 (hpr3 _)) (by first | assumption | exact W64.addLo _ _ _ | exact w64_0 | exact W64.lo _ _ | exact hpr _ | exact hcs.1 | exact hcs.2.2 _ | exact hpr3 _ | exact W64.bits _ _ _ | exact W64.shr2 (hpr3 _)) w hbb) stt bpp ?_; (with_reducible refine SL.nil ?_)) | ((with_reducible refine SP.seqK ?_); intro _ _) | (with_reducible refine thenK_normal ?_) | (refine useK (by assumption) ?_) | (with_reducible refine SP.exit ?_) | ((with_reducible show SP _ _ _ (Code.cond _ _ _) _ _ _); first | (refine SP.condF rfl (by first | rfl | (simp only [decide_eq_false_iff_not, beq_eq_false_iff_ne, bne_eq_false_iff_eq]; omega)) ?_)))
    have hq := hendi.out; clear hendi; subst hq
    refine doneK.mk rfl ResO.nil ⟨rfl, ?_⟩
    simp only [redP]
    exact (by first | exact sub1 | exact subc sub1 | exact subc (subc sub1) | exact subc (subc (subc sub1)) | exact subc (subc (subc (subc sub1))))
end Sp

end Go.Proofs.Ythbmlpiplfbehaa
