/-
  The document's ChaCha: words, the quarter round, places.
  The document's block is the code's.
  The document's block of the key stream is the code's.
  The document's bytes with the key stream are the code's.
  The document's boxes: what it computes.
  The document's Seal and Open are the code's.
-/
import Derived.Test.YthbmlpiplfbehaaChX1
import Derived.Test.YthbmlpiplfbehaaBitm
import Derived.Test.YthbmlpiplfbehaaAeTS
import Derived.Test.YthbmlpiplfbehaaSlX
namespace Go.Proofs.Ythbmlpiplfbehaa
set_option linter.unusedSimpArgs false
set_option linter.unusedVariables false
open Go Go.RowKit

namespace Sp
open F M
theorem turn_rot (x k : Int) (hk : k = 16 ∨ k = 12 ∨ k = 8 ∨ k = 7) : bits .or .u32 (IntKind.u32.wrap (x * 2 ^ (min (Int.toNat k) IntKind.u32.bits))) (x.fdiv (2 ^ (min (Int.toNat (IntKind.i64.wrap (32 - k))) IntKind.u32.bits))) = rot x k := by
  unfold rot
  rcases hk with rfl | rfl | rfl | rfl
  · rw [show bits .and .u64 (IntKind.u64.wrap 16) 31 = 16 by decide +kernel]; rfl
  · rw [show bits .and .u64 (IntKind.u64.wrap 12) 31 = 12 by decide +kernel]; rfl
  · rw [show bits .and .u64 (IntKind.u64.wrap 8) 31 = 8 by decide +kernel]; rfl
  · rw [show bits .and .u64 (IntKind.u64.wrap 7) 31 = 7 by decide +kernel]; rfl
set_option maxRecDepth 20000 in
theorem turn_any (x k : Int) (hk : k = 16 ∨ k = 12 ∨ k = 8 ∨ k = 7) (w : World) :
    Calls Try.prog 72 #[.int .u32 x, .int .i64 k] w fun e w' => e = .returned (.int .u32 (rot x k)) ∧ Below w.heap.size w w' := by
  have h0 : 0 ≤ k := by omega
  have h1 : 0 ≤ IntKind.i64.wrap (32 - k) := by rw [IntWalk.i64_in _ (by omega)]; omega
  refine pureE Try.func72 Try.ntmps72 Try.results72 ?_
  repeat (first | ((with_reducible refine SP.region (id := 0) ?_); refine SL.e tabOk ?_; (with_reducible refine SL.nil ?_)) | ((with_reducible show SP _ _ _ (Code.region _ _ true) _ _ _); first | (refine SPa (id := 1) [] [] ([]) [0, 1, 2, 3, 4, 5, 6, 7, 8] follows ?_; refine SF.p tabOk ?_; refine SF.p tabOk ?_; refine SF.sh ?_; refine SF.p tabOk ?_; refine SF.p tabOk ?_; refine SF.e tabOk ?_; refine SF.sh ?_; refine SF.e tabOk ?_; refine SF.p tabOk ?_; refine SF.done ?_)) | ((with_reducible refine SP.seqK ?_); intro _ _) | (with_reducible refine thenK_normal ?_) | (refine useK (by assumption) ?_) | (with_reducible refine SP.ret ?_))
  refine doneK.mk rfl (ResO.tmp rfl) (by simp only [nth]; rw [turn_rot x k hk])

/-- A quarter round of four words. -/
@[irreducible] def q4 (a b c d : Int) : List Int :=
  let a1 := IntKind.u32.wrap (a + b); let d1 := rot (bits .xor .u32 d a1) 16
  let c1 := IntKind.u32.wrap (c + d1); let b1 := rot (bits .xor .u32 b c1) 12
  let a2 := IntKind.u32.wrap (a1 + b1); let d2 := rot (bits .xor .u32 d1 a2) 8
  let c2 := IntKind.u32.wrap (c1 + d2); let b2 := rot (bits .xor .u32 b1 c2) 7
  [a2, b2, c2, d2]
theorem q4_length (a b c d : Int) : (q4 a b c d).length = 4 := by unfold q4; rfl
attribute [simp] q4_length
theorem b_u4 (a b c d : Int) : Try.prog.built 103 [(0, .int .u32 a), (1, .int .u32 b), (2, .int .u32 c), (3, .int .u32 d)] = some (ints .u32 [a, b, c, d]) := by kernel_rfl
set_option maxRecDepth 20000 in
set_option maxHeartbeats 1000000 in
theorem rquarter_any (a b c d : Int) (w : World) :
    Calls Try.prog 64 #[.agg (ints .u32 [a, b, c, d])] w fun e w' => e = .returned (.agg (ints .u32 (q4 a b c d))) ∧ Below w.heap.size w w' := by
  have tok_xb : True := trivial
  have tok_ob : True := trivial
  refine pureE Try.func64 Try.ntmps64 Try.results64 ?_
  repeat (first | ((with_reducible refine SP.region (id := 0) ?_); refine SL.bx ?_; (first | (have _t := tok_xb; clear _t tok_xb; intro xb) | (have _t := tok_ob; clear _t tok_ob; intro ob) | intro _); refine SL.al zero_103 ?_; (first | (have _t := tok_xb; clear _t tok_xb; intro xb) | (have _t := tok_ob; clear _t tok_ob; intro ob) | intro _); (with_reducible refine SL.nil ?_)) | ((with_reducible show SP _ _ _ (Code.region _ _ true) _ _ _); first | (refine SPa (id := 1) [] [] ([]) [0, 1, 2, 3, 4, 5, 6, 7, 8, 9, 10, 11] follows ?_; refine SF.e tabOk ?_; refine SF.ldI tabOk ?_; refine SF.e tabOk ?_; refine SF.ldI tabOk ?_; refine SF.e tabOk ?_; refine SF.ldI tabOk ?_; refine SF.e tabOk ?_; refine SF.ldI tabOk ?_; refine SF.p tabOk ?_; refine SF.p tabOk ?_; refine SF.p tabOk ?_; refine SF.p tabOk ?_; refine SF.done ?_)) | ((with_reducible refine SP.seqK ?_); intro _ _) | (with_reducible refine thenK_normal ?_) | (refine useK (by assumption) ?_))
  repeat (first | ((with_reducible refine SP.region (id := 2) ?_); refine SL.e tabOk ?_; refine SL.e tabOk ?_; refine SL.e tabOk ?_; refine SL.e tabOk ?_; (with_reducible refine SL.nil ?_)) | ((with_reducible refine SP.seqK ?_); intro _ _) | (with_reducible refine thenK_normal ?_) | (refine useK (by assumption) ?_))
  repeat (first | ((with_reducible refine SP.region (id := 3) ?_); refine SL.e tabOk ?_; refine SL.e tabOk ?_; refine SL.e tabOk ?_; refine SL.v (ValO.call ent_72 _ rfl _ (fun w1 _ => turn_any _ 16 (by decide) w1)) ?_; refine SL.e tabOk ?_; (with_reducible refine SL.nil ?_)) | ((with_reducible refine SP.seqK ?_); intro _ _) | (with_reducible refine thenK_normal ?_) | (refine useK (by assumption) ?_))
  repeat (first | ((with_reducible refine SP.region (id := 4) ?_); refine SL.e tabOk ?_; refine SL.e tabOk ?_; refine SL.e tabOk ?_; refine SL.e tabOk ?_; (with_reducible refine SL.nil ?_)) | ((with_reducible refine SP.seqK ?_); intro _ _) | (with_reducible refine thenK_normal ?_) | (refine useK (by assumption) ?_))
  repeat (first | ((with_reducible refine SP.region (id := 5) ?_); refine SL.e tabOk ?_; refine SL.e tabOk ?_; refine SL.e tabOk ?_; refine SL.v (ValO.call ent_72 _ rfl _ (fun w1 _ => turn_any _ 12 (by decide) w1)) ?_; refine SL.e tabOk ?_; (with_reducible refine SL.nil ?_)) | ((with_reducible refine SP.seqK ?_); intro _ _) | (with_reducible refine thenK_normal ?_) | (refine useK (by assumption) ?_))
  repeat (first | ((with_reducible refine SP.region (id := 6) ?_); refine SL.e tabOk ?_; refine SL.e tabOk ?_; refine SL.e tabOk ?_; refine SL.e tabOk ?_; (with_reducible refine SL.nil ?_)) | ((with_reducible refine SP.seqK ?_); intro _ _) | (with_reducible refine thenK_normal ?_) | (refine useK (by assumption) ?_))
  repeat (first | ((with_reducible refine SP.region (id := 7) ?_); refine SL.e tabOk ?_; refine SL.e tabOk ?_; refine SL.e tabOk ?_; refine SL.v (ValO.call ent_72 _ rfl _ (fun w1 _ => turn_any _ 8 (by decide) w1)) ?_; refine SL.e tabOk ?_; (with_reducible refine SL.nil ?_)) | ((with_reducible refine SP.seqK ?_); intro _ _) | (with_reducible refine thenK_normal ?_) | (refine useK (by assumption) ?_))
  repeat (first | ((with_reducible refine SP.region (id := 8) ?_); refine SL.e tabOk ?_; refine SL.e tabOk ?_; refine SL.e tabOk ?_; refine SL.e tabOk ?_; (with_reducible refine SL.nil ?_)) | ((with_reducible refine SP.seqK ?_); intro _ _) | (with_reducible refine thenK_normal ?_) | (refine useK (by assumption) ?_))
  repeat (first | ((with_reducible refine SP.region (id := 9) ?_); refine SL.e tabOk ?_; refine SL.e tabOk ?_; refine SL.e tabOk ?_; refine SL.v (ValO.call ent_72 _ rfl _ (fun w1 _ => turn_any _ 7 (by decide) w1)) ?_; refine SL.e tabOk ?_; (with_reducible refine SL.nil ?_)) | ((with_reducible refine SP.seqK ?_); intro _ _) | (with_reducible refine thenK_normal ?_) | (refine useK (by assumption) ?_))
  repeat (first | ((with_reducible refine SP.region (id := 10) ?_); refine SL.e tabOk ?_; refine SL.e tabOk ?_; refine SL.e tabOk ?_; refine SL.e tabOk ?_; refine SL.v (ValO.build (by first | (dsimp only [List.map, evL, nth]; done) | (dsimp only [List.map, evL, nth]; rfl)) (b_u4 _ _ _ _)) ?_; refine SL.stR tabOk ?_; (with_reducible refine SL.nil ?_)) | (with_reducible refine thenK_normal ?_) | (refine useK (by assumption) ?_) | (with_reducible refine SP.ret ?_))
  exact doneK.mk rfl (ResO.cell tabOk rfl rfl rfl (by first | exact RdA.own g0 | exact RdA.own g1 | exact RdA.own g2 | exact RdA.own g3 | exact RdA.own g4 | exact RdA.own g5 | exact RdA.own g6 | exact RdA.own g7 | exact RdA.own g8 | exact RdA.own g9 | exact RdA.own g10 | exact RdA.own g11 | exact RdA.own g12 | exact RdA.own g13 | exact RdA.own g14 | exact RdA.own g15) rfl) (by unfold q4; rfl)

@[irreducible] def numR (L : List Int) : Int := IntKind.u32.wrap (IntKind.u32.wrap (IntKind.u32.wrap (IntKind.u32.wrap (gi L 0) + IntKind.u32.wrap (IntKind.u32.wrap (gi L 1) * 2 ^ (min (Int.toNat 8) IntKind.u32.bits))) + IntKind.u32.wrap (IntKind.u32.wrap (gi L 2) * 2 ^ (min (Int.toNat 16) IntKind.u32.bits))) + IntKind.u32.wrap (IntKind.u32.wrap (gi L 3) * 2 ^ (min (Int.toNat 24) IntKind.u32.bits)))
set_option maxRecDepth 20000 in
set_option maxHeartbeats 1000000 in
theorem rnumber_any (b n c a : Nat) (L : List Int) (A : Array Value) (T : TypeId) (fz : Nat × Nat) (w : World) (hb : w.heap[b]? = some (.cells A T fz)) (hA : ∀ j, j < 4 → A[a + j]? = some (.int .u8 (gi L j))) (hn : a + 4 ≤ n) (hc : n ≤ c) (ha : a < 4096) :
    Calls Try.prog 62 #[.slice (some ⟨b, 0, none⟩) n c, .int .i64 ((a : Nat) : Int)] w fun e w' => e = .returned (.int .u32 (numR L)) ∧ Below w.heap.size w w' := by
  have f1 : IntKind.i64.wrap ((a : Int) + 1) = ((a + 1 : Nat) : Int) := by rw [IntWalk.i64_in _ (by omega)]; omega
  have f2 : IntKind.i64.wrap ((a : Int) + 2) = ((a + 2 : Nat) : Int) := by rw [IntWalk.i64_in _ (by omega)]; omega
  have f3 : IntKind.i64.wrap ((a : Int) + 3) = ((a + 3 : Nat) : Int) := by rw [IntWalk.i64_in _ (by omega)]; omega
  have c0 : A[a]? = some (.int .u8 (gi L 0)) := hA 0 (by decide)
  have c1 := hA 1 (by decide)
  have c2 := hA 2 (by decide)
  have c3 := hA 3 (by decide)
  refine pureE Try.func62 Try.ntmps62 Try.results62 ?_
  repeat (first | ((with_reducible refine SP.region (id := 0) ?_); refine SL.e tabOk ?_; (with_reducible refine SL.nil ?_)) | ((with_reducible show SP _ _ _ (Code.region _ _ true) _ _ _); first | (refine SPa (id := 1) [] [] ([]) [0, 1, 2, 3, 4, 5, 6, 7, 8, 9, 10, 11, 12, 13, 14, 15, 16, 17, 18, 19, 20, 21, 22, 23, 24, 25, 26, 27, 28, 29] follows ?_; refine SF.p tabOk ?_; refine SF.p tabOk ?_; refine SF.ixS tabOk ?_ (hm := by first | (simp only [f1, f2, f3, Nat.zero_add, Nat.mul_one, Nat.one_mul, Int.toNat_natCast]; done) | (simp only [f1, f2, f3, Nat.zero_add, Nat.mul_one, Nat.one_mul, Int.toNat_natCast]; rfl) | rfl); (first | (refine SF.ldI tabOk ?_) | (refine SF.ldC tabOk ?_ (hv := by first | exact c0 | exact c1 | exact c2 | exact c3))); refine SF.e tabOk ?_; refine SF.p tabOk ?_; refine SF.p tabOk ?_; refine SF.e tabOk ?_; refine SF.ixS tabOk ?_ (hm := by first | (simp only [f1, f2, f3, Nat.zero_add, Nat.mul_one, Nat.one_mul, Int.toNat_natCast]; done) | (simp only [f1, f2, f3, Nat.zero_add, Nat.mul_one, Nat.one_mul, Int.toNat_natCast]; rfl) | rfl); (first | (refine SF.ldI tabOk ?_) | (refine SF.ldC tabOk ?_ (hv := by first | exact c0 | exact c1 | exact c2 | exact c3))); refine SF.e tabOk ?_; refine SF.e tabOk ?_; refine SF.e tabOk ?_; refine SF.p tabOk ?_; refine SF.p tabOk ?_; refine SF.e tabOk ?_; refine SF.ixS tabOk ?_ (hm := by first | (simp only [f1, f2, f3, Nat.zero_add, Nat.mul_one, Nat.one_mul, Int.toNat_natCast]; done) | (simp only [f1, f2, f3, Nat.zero_add, Nat.mul_one, Nat.one_mul, Int.toNat_natCast]; rfl) | rfl); (first | (refine SF.ldI tabOk ?_) | (refine SF.ldC tabOk ?_ (hv := by first | exact c0 | exact c1 | exact c2 | exact c3))); refine SF.e tabOk ?_; refine SF.e tabOk ?_; refine SF.e tabOk ?_; refine SF.p tabOk ?_; refine SF.p tabOk ?_; refine SF.e tabOk ?_; refine SF.ixS tabOk ?_ (hm := by first | (simp only [f1, f2, f3, Nat.zero_add, Nat.mul_one, Nat.one_mul, Int.toNat_natCast]; done) | (simp only [f1, f2, f3, Nat.zero_add, Nat.mul_one, Nat.one_mul, Int.toNat_natCast]; rfl) | rfl); (first | (refine SF.ldI tabOk ?_) | (refine SF.ldC tabOk ?_ (hv := by first | exact c0 | exact c1 | exact c2 | exact c3))); refine SF.e tabOk ?_; refine SF.e tabOk ?_; refine SF.e tabOk ?_; refine SF.p tabOk ?_; refine SF.done ?_)) | ((with_reducible refine SP.seqK ?_); intro _ _) | (with_reducible refine thenK_normal ?_) | (refine useK (by assumption) ?_) | (with_reducible refine SP.ret ?_))
  refine doneK.mk rfl (ResO.tmp rfl) (by simp only [nth]; unfold numR; rfl)

theorem u32_or_high {x a : Int} (i : Nat) (h0 : 0 ≤ x) (h1 : x < 2 ^ i) (ha : 0 ≤ a) (hw : x + a * 2 ^ i < 4294967296) : bits .or .u32 x (a * 2 ^ i) = x + a * 2 ^ i := by
  obtain ⟨n, rfl⟩ := Int.eq_ofNat_of_zero_le h0
  obtain ⟨m, rfl⟩ := Int.eq_ofNat_of_zero_le ha
  have e : ((m : Int) * 2 ^ i) = ((m * 2 ^ i : Nat) : Int) := by simp
  have e2 : ((2 : Int) ^ i) = ((2 ^ i : Nat) : Int) := by simp
  rw [e2] at h1
  rw [e] at hw ⊢
  rw [u32_or_nat n (m * 2 ^ i) (by omega) (by omega), nat_or_high n m i (by omega)]
  rfl
theorem wrd_num {L : List Int} (h : Byts L) : wrdN L 4 = numR L := by
  have b0 := h 0
  have b1 := h 1
  have b2 := h 2
  have b3 := h 3
  have w0 : ∀ x : Int, 0 ≤ x ∧ x < 4294967296 → IntKind.u32.wrap x = x := fun x hx => by rw [IntKind.wrap_u32]; omega
  have e0 : bits .or .u32 0 (gi L 0) = gi L 0 := by
    have := u32_or_high (x := 0) (a := gi L 0) 0 (by omega) (by decide) b0.1 (by simp; omega)
    simpa using this
  have e1 : wrdN L 1 = gi L 0 := by
    rw [wrdN_s, wrdN_0]
    show bits .or .u32 0 (IntKind.u32.wrap (IntKind.u32.wrap (gi L 0) * 1)) = _
    rw [w0 (gi L 0) (by omega), Int.mul_one, w0 _ (by omega), e0]
  have e2 : wrdN L 2 = gi L 0 + gi L 1 * 256 := by
    rw [wrdN_s, e1]
    show bits .or .u32 (gi L 0) (IntKind.u32.wrap (IntKind.u32.wrap (gi L 1) * 256)) = _
    rw [w0 (gi L 1) (by omega), w0 _ (by omega)]
    exact u32_or_high 8 b0.1 (by omega) b1.1 (by omega)
  have e3 : wrdN L 3 = gi L 0 + gi L 1 * 256 + gi L 2 * 65536 := by
    rw [wrdN_s, e2]
    show bits .or .u32 (gi L 0 + gi L 1 * 256) (IntKind.u32.wrap (IntKind.u32.wrap (gi L 2) * 65536)) = _
    rw [w0 (gi L 2) (by omega), w0 _ (by omega)]
    exact u32_or_high 16 (by omega) (by omega) b2.1 (by omega)
  have e4 : wrdN L 4 = gi L 0 + gi L 1 * 256 + gi L 2 * 65536 + gi L 3 * 16777216 := by
    rw [wrdN_s, e3]
    show bits .or .u32 (gi L 0 + gi L 1 * 256 + gi L 2 * 65536) (IntKind.u32.wrap (IntKind.u32.wrap (gi L 3) * 16777216)) = _
    rw [w0 (gi L 3) (by omega), w0 _ (by omega)]
    exact u32_or_high 24 (by omega) (by omega) b3.1 (by omega)
  rw [e4]
  unfold numR
  show _ = IntKind.u32.wrap (IntKind.u32.wrap (IntKind.u32.wrap (IntKind.u32.wrap (gi L 0) + IntKind.u32.wrap (IntKind.u32.wrap (gi L 1) * 256)) + IntKind.u32.wrap (IntKind.u32.wrap (gi L 2) * 65536)) + IntKind.u32.wrap (IntKind.u32.wrap (gi L 3) * 16777216))
  rw [w0 (gi L 0) (by omega), w0 (gi L 1) (by omega), w0 (gi L 2) (by omega), w0 (gi L 3) (by omega), w0 (gi L 1 * 256) (by omega), w0 (gi L 2 * 65536) (by omega), w0 (gi L 3 * 16777216) (by omega), w0 (gi L 0 + _) (by omega), w0 (gi L 0 + gi L 1 * 256 + _) (by omega), w0 _ (by omega)]

theorem b_p0 : Try.prog.built 100 [(0, .int .i64 0), (1, .int .i64 4), (2, .int .i64 8), (3, .int .i64 12)] = some (ints .i64 [0, 4, 8, 12]) := by kernel_rfl
theorem b_p1 : Try.prog.built 100 [(0, .int .i64 1), (1, .int .i64 5), (2, .int .i64 9), (3, .int .i64 13)] = some (ints .i64 [1, 5, 9, 13]) := by kernel_rfl
theorem b_p2 : Try.prog.built 100 [(0, .int .i64 2), (1, .int .i64 6), (2, .int .i64 10), (3, .int .i64 14)] = some (ints .i64 [2, 6, 10, 14]) := by kernel_rfl
theorem b_p3 : Try.prog.built 100 [(0, .int .i64 3), (1, .int .i64 7), (2, .int .i64 11), (3, .int .i64 15)] = some (ints .i64 [3, 7, 11, 15]) := by kernel_rfl
theorem b_p4 : Try.prog.built 100 [(0, .int .i64 0), (1, .int .i64 5), (2, .int .i64 10), (3, .int .i64 15)] = some (ints .i64 [0, 5, 10, 15]) := by kernel_rfl
theorem b_p5 : Try.prog.built 100 [(0, .int .i64 1), (1, .int .i64 6), (2, .int .i64 11), (3, .int .i64 12)] = some (ints .i64 [1, 6, 11, 12]) := by kernel_rfl
theorem b_p6 : Try.prog.built 100 [(0, .int .i64 2), (1, .int .i64 7), (2, .int .i64 8), (3, .int .i64 13)] = some (ints .i64 [2, 7, 8, 13]) := by kernel_rfl
theorem b_p7 : Try.prog.built 100 [(0, .int .i64 3), (1, .int .i64 4), (2, .int .i64 9), (3, .int .i64 14)] = some (ints .i64 [3, 4, 9, 14]) := by kernel_rfl
@[irreducible] def plL : List Int := [0, 4, 8, 12, 1, 5, 9, 13, 2, 6, 10, 14, 3, 7, 11, 15, 0, 5, 10, 15, 1, 6, 11, 12, 2, 7, 8, 13, 3, 4, 9, 14]
theorem plL_length : plL.length = 32 := by unfold plL; rfl
attribute [simp] plL_length
theorem b_pl : Try.prog.built 101 [(0, .agg (ints .i64 [0, 4, 8, 12])), (1, .agg (ints .i64 [1, 5, 9, 13])), (2, .agg (ints .i64 [2, 6, 10, 14])), (3, .agg (ints .i64 [3, 7, 11, 15])), (4, .agg (ints .i64 [0, 5, 10, 15])), (5, .agg (ints .i64 [1, 6, 11, 12])), (6, .agg (ints .i64 [2, 7, 8, 13])), (7, .agg (ints .i64 [3, 4, 9, 14]))] = some (ints .i64 plL) := by unfold plL; kernel_rfl
set_option maxRecDepth 20000 in
set_option maxHeartbeats 1000000 in
theorem places_any (w : World) : Calls Try.prog 63 #[] w fun e w' => e = .returned (.agg (ints .i64 plL)) ∧ Below w.heap.size w w' := by
  have tok_ob : True := trivial
  refine pureE Try.func63 Try.ntmps63 Try.results63 ?_
  repeat (first | ((with_reducible refine SP.region (id := 0) ?_); refine SL.al zero_101 ?_; (first | (have _t := tok_ob; clear _t tok_ob; intro ob) | intro _); (with_reducible refine SL.nil ?_)) | ((with_reducible refine SP.region (id := 1) ?_); refine SL.v (ValO.build (by first | (dsimp only [List.map, evL, nth]; done) | (dsimp only [List.map, evL, nth]; rfl)) b_p0) ?_; refine SL.v (ValO.build (by first | (dsimp only [List.map, evL, nth]; done) | (dsimp only [List.map, evL, nth]; rfl)) b_p1) ?_; refine SL.v (ValO.build (by first | (dsimp only [List.map, evL, nth]; done) | (dsimp only [List.map, evL, nth]; rfl)) b_p2) ?_; refine SL.v (ValO.build (by first | (dsimp only [List.map, evL, nth]; done) | (dsimp only [List.map, evL, nth]; rfl)) b_p3) ?_; refine SL.v (ValO.build (by first | (dsimp only [List.map, evL, nth]; done) | (dsimp only [List.map, evL, nth]; rfl)) b_p4) ?_; refine SL.v (ValO.build (by first | (dsimp only [List.map, evL, nth]; done) | (dsimp only [List.map, evL, nth]; rfl)) b_p5) ?_; refine SL.v (ValO.build (by first | (dsimp only [List.map, evL, nth]; done) | (dsimp only [List.map, evL, nth]; rfl)) b_p6) ?_; refine SL.v (ValO.build (by first | (dsimp only [List.map, evL, nth]; done) | (dsimp only [List.map, evL, nth]; rfl)) b_p7) ?_; refine SL.v (ValO.build (by first | (dsimp only [List.map, evL, nth]; done) | (dsimp only [List.map, evL, nth]; rfl)) b_pl) ?_; refine SL.stR tabOk ?_; (with_reducible refine SL.nil ?_)) | ((with_reducible refine SP.seqK ?_); intro _ _) | (with_reducible refine thenK_normal ?_) | (refine useK (by assumption) ?_) | (with_reducible refine SP.ret ?_))
  exact doneK.mk rfl (ResO.cell tabOk rfl rfl rfl (by first | exact RdA.own g0 | exact RdA.own g1 | exact RdA.own g2 | exact RdA.own g3 | exact RdA.own g4 | exact RdA.own g5 | exact RdA.own g6 | exact RdA.own g7 | exact RdA.own g8 | exact RdA.own g9 | exact RdA.own g10 | exact RdA.own g11 | exact RdA.own g12 | exact RdA.own g13 | exact RdA.own g14 | exact RdA.own g15) (by first | (simp [ints_size]; done) | (simp [ints_size]; omega))) rfl

end Sp

end Go.Proofs.Ythbmlpiplfbehaa

namespace Go.Proofs.Ythbmlpiplfbehaa
set_option linter.unusedSimpArgs false
set_option linter.unusedVariables false
open Go Go.RowKit

namespace Sp
open F M
/-- The places of a quarter round. -/
def plN (k i : Nat) : Nat := 4 * i + (k % 4 + i * (k / 4)) % 4
theorem plN_lt (k i : Nat) (hi : i < 4) : plN k i < 16 := by unfold plN; omega
@[irreducible] def plK (k : Nat) : List Int := (plL.drop (4 * k)).take 4
theorem plK_length (k : Nat) (hk : k < 8) : (plK k).length = 4 := by unfold plK; simp; omega
theorem plK_part (k : Nat) (hk : k < 8) : (ints .i64 plL).extract (4 * k) (4 * k + 4) = ints .i64 (plK k) := by
  unfold plK
  apply Array.ext'
  simp [ints, List.map_drop, List.map_take]
theorem plK_gi : ∀ k, k < 8 → ∀ i, i < 4 → gi (plK k) i = ((plN k i : Nat) : Int) := by unfold plK plL; decide +kernel
def stR' (K : List Int) : Nat → List Int
  | 0 => stC
  | i + 1 => (stR' K i).set (4 + i) (numR (K.drop (4 * i)))
@[irreducible] def stR (K : List Int) (i : Nat) : List Int := stR' K i
theorem stR_0 (K : List Int) : stR K 0 = stC := by unfold stR; rfl
theorem stR_s (K : List Int) (i : Nat) : stR K (i + 1) = (stR K i).set (4 + i) (numR (K.drop (4 * i))) := by unfold stR; rfl
theorem stR_length (K : List Int) : ∀ i, (stR K i).length = 16
  | 0 => by rw [stR_0]; simp
  | i + 1 => by rw [stR_s]; simp [stR_length K i]
attribute [simp] stR_length
def snR' (B N : List Int) : Nat → List Int
  | 0 => B
  | i + 1 => (snR' B N i).set (13 + i) (numR (N.drop (4 * i)))
@[irreducible] def snR (B N : List Int) (i : Nat) : List Int := snR' B N i
theorem snR_0 (B N : List Int) : snR B N 0 = B := by unfold snR; rfl
theorem snR_s (B N : List Int) (i : Nat) : snR B N (i + 1) = (snR B N i).set (13 + i) (numR (N.drop (4 * i))) := by unfold snR; rfl
theorem snR_length (B N : List Int) : ∀ i, (snR B N i).length = B.length
  | 0 => by rw [snR_0]
  | i + 1 => by rw [snR_s]; simp [snR_length B N i]
attribute [simp] snR_length
def svI' (V Q : List Int) (k : Nat) : Nat → List Int
  | 0 => V
  | i + 1 => (svI' V Q k i).set (plN k i) (gi Q i)
@[irreducible] def svI (V Q : List Int) (k : Nat) (i : Nat) : List Int := svI' V Q k i
theorem svI_0 (V Q : List Int) (k : Nat) : svI V Q k 0 = V := by unfold svI; rfl
theorem svI_s (V Q : List Int) (k : Nat) (i : Nat) : svI V Q k (i + 1) = (svI V Q k i).set (plN k i) (gi Q i) := by unfold svI; rfl
theorem svI_length (V Q : List Int) (k : Nat) : ∀ i, (svI V Q k i).length = V.length
  | 0 => by rw [svI_0]
  | i + 1 => by rw [svI_s]; simp [svI_length V Q k i]
attribute [simp] svI_length
@[irreducible] def qrR (V : List Int) (k : Nat) : List Int := svI V (q4 (gi V (plN k 0)) (gi V (plN k 1)) (gi V (plN k 2)) (gi V (plN k 3))) k 4
theorem qrR_length (V : List Int) (k : Nat) : (qrR V k).length = V.length := by unfold qrR; simp
attribute [simp] qrR_length
def rdK' (V : List Int) : Nat → List Int
  | 0 => V
  | i + 1 => qrR (rdK' V i) i
@[irreducible] def rdK (V : List Int) (i : Nat) : List Int := rdK' V i
theorem rdK_0 (V : List Int) : rdK V 0 = V := by unfold rdK; rfl
theorem rdK_s (V : List Int) (i : Nat) : rdK V (i + 1) = qrR (rdK V i) i := by unfold rdK; rfl
theorem rdK_length (V : List Int) : ∀ i, (rdK V i).length = V.length
  | 0 => by rw [rdK_0]
  | i + 1 => by rw [rdK_s]; simp [rdK_length V i]
attribute [simp] rdK_length
def rdT' (V : List Int) : Nat → List Int
  | 0 => V
  | i + 1 => rdK (rdT' V i) 8
@[irreducible] def rdT (V : List Int) (i : Nat) : List Int := rdT' V i
theorem rdT_0 (V : List Int) : rdT V 0 = V := by unfold rdT; rfl
theorem rdT_s (V : List Int) (i : Nat) : rdT V (i + 1) = rdK (rdT V i) 8 := by unfold rdT; rfl
theorem rdT_length (V : List Int) : ∀ i, (rdT V i).length = V.length
  | 0 => by rw [rdT_0]
  | i + 1 => by rw [rdT_s]; simp [rdT_length V i]
attribute [simp] rdT_length
def ouR' (V S : List Int) : Nat → List Int
  | 0 => List.replicate 64 0
  | i + 1 => (ouR' V S i).set i (IntKind.u8.wrap ((IntKind.u32.wrap (gi V (i / 4) + gi S (i / 4))).fdiv (2 ^ (min (IntKind.i64.wrap (8 * Int.tmod (i : Int) 4)).toNat IntKind.u32.bits))))
@[irreducible] def ouR (V S : List Int) (i : Nat) : List Int := ouR' V S i
theorem ouR_0 (V S : List Int) : ouR V S 0 = List.replicate 64 0 := by unfold ouR; rfl
theorem ouR_s (V S : List Int) (i : Nat) : ouR V S (i + 1) = (ouR V S i).set i (IntKind.u8.wrap ((IntKind.u32.wrap (gi V (i / 4) + gi S (i / 4))).fdiv (2 ^ (min (IntKind.i64.wrap (8 * Int.tmod (i : Int) 4)).toNat IntKind.u32.bits)))) := by unfold ouR; rfl
theorem ouR_length (V S : List Int) : ∀ i, (ouR V S i).length = 64
  | 0 => by rw [ouR_0]; simp
  | i + 1 => by rw [ouR_s]; simp [ouR_length V S i]
attribute [simp] ouR_length
@[irreducible] def chSR (K : List Int) (ct : Int) (N : List Int) : List Int := snR ((stR K 8).set 12 ct) N 3
theorem chSR_length (K : List Int) (ct : Int) (N : List Int) : (chSR K ct N).length = 16 := by unfold chSR; simp
attribute [simp] chSR_length
@[irreducible] def chBR (K : List Int) (ct : Int) (N : List Int) : List Int := ouR (rdT (chSR K ct N) 10) (chSR K ct N) 64
theorem chBR_length (K : List Int) (ct : Int) (N : List Int) : (chBR K ct N).length = 64 := by unfold chBR; simp
attribute [simp] chBR_length
theorem b_st : Try.prog.built 86 [(0, .int .u32 1634760805), (1, .int .u32 857760878), (2, .int .u32 2036477234), (3, .int .u32 1797285236)] = some (ints .u32 stC) := by unfold stC; kernel_rfl
set_option maxRecDepth 20000 in
set_option maxHeartbeats 4000000 in
theorem rblock_any (K : List Int) (ct : Int) (N : List Int) (hK : K.length = 32) (hN : N.length = 12) (w : World) :
    Calls Try.prog 52 #[.agg (ints .u8 K), .int .u32 ct, .agg (ints .u8 N)] w fun e w' => e = .returned (.agg (ints .u8 (chBR K ct N))) ∧ Below w.heap.size w w' := by
  have tok_kb : True := trivial
  have tok_nb : True := trivial
  have tok_ob : True := trivial
  have tok_sb : True := trivial
  have tok_vb : True := trivial
  have tok_ab : True := trivial
  have tok_pb : True := trivial
  have tok_qb : True := trivial
  refine pureE Try.func52 Try.ntmps52 Try.results52 ?_
  repeat (first | ((with_reducible refine SP.region (id := 0) ?_); refine SL.bx ?_; (first | (have _t := tok_kb; clear _t tok_kb; intro kb) | (have _t := tok_nb; clear _t tok_nb; intro nb) | (have _t := tok_ob; clear _t tok_ob; intro ob) | (have _t := tok_sb; clear _t tok_sb; intro sb) | (have _t := tok_vb; clear _t tok_vb; intro vb) | (have _t := tok_ab; clear _t tok_ab; intro ab) | (have _t := tok_pb; clear _t tok_pb; intro pb) | (have _t := tok_qb; clear _t tok_qb; intro qb) | intro _); refine SL.bx ?_; (first | (have _t := tok_kb; clear _t tok_kb; intro kb) | (have _t := tok_nb; clear _t tok_nb; intro nb) | (have _t := tok_ob; clear _t tok_ob; intro ob) | (have _t := tok_sb; clear _t tok_sb; intro sb) | (have _t := tok_vb; clear _t tok_vb; intro vb) | (have _t := tok_ab; clear _t tok_ab; intro ab) | (have _t := tok_pb; clear _t tok_pb; intro pb) | (have _t := tok_qb; clear _t tok_qb; intro qb) | intro _); refine SL.al zero_77 ?_; (first | (have _t := tok_kb; clear _t tok_kb; intro kb) | (have _t := tok_nb; clear _t tok_nb; intro nb) | (have _t := tok_ob; clear _t tok_ob; intro ob) | (have _t := tok_sb; clear _t tok_sb; intro sb) | (have _t := tok_vb; clear _t tok_vb; intro vb) | (have _t := tok_ab; clear _t tok_ab; intro ab) | (have _t := tok_pb; clear _t tok_pb; intro pb) | (have _t := tok_qb; clear _t tok_qb; intro qb) | intro _); (with_reducible refine SL.nil ?_)) | ((with_reducible refine SP.region (id := 1) ?_); refine SL.v (ValO.build (by first | (dsimp only [List.map, evL, nth]; done) | (dsimp only [List.map, evL, nth]; rfl)) b_st) ?_; refine SL.al zero_86 ?_; (first | (have _t := tok_kb; clear _t tok_kb; intro kb) | (have _t := tok_nb; clear _t tok_nb; intro nb) | (have _t := tok_ob; clear _t tok_ob; intro ob) | (have _t := tok_sb; clear _t tok_sb; intro sb) | (have _t := tok_vb; clear _t tok_vb; intro vb) | (have _t := tok_ab; clear _t tok_ab; intro ab) | (have _t := tok_pb; clear _t tok_pb; intro pb) | (have _t := tok_qb; clear _t tok_qb; intro qb) | intro _); refine SL.stR tabOk ?_; (with_reducible refine SL.nil ?_)) | ((with_reducible refine SP.region (id := 2) ?_); refine SL.e tabOk ?_; (with_reducible refine SL.nil ?_)) | ((with_reducible refine SP.seqK ?_); intro _ _) | (with_reducible refine thenK_normal ?_) | (refine useK (by assumption) ?_) | (with_reducible refine SP.block ?_))
  refine SP.loopN (fun k l bs => l = [nth l 0, .int .u32 ct, nth l 2, .pointer (some ⟨kb, 0, none⟩), nth l 4, .pointer (some ⟨nb, 0, none⟩), .pointer (some ⟨ob, 0, none⟩), .pointer (some ⟨sb, 0, none⟩), .int .i64 ((k : Nat)), nth l 9, nth l 10, nth l 11, nth l 12, nth l 13, nth l 14, nth l 15, nth l 16, nth l 17, nth l 18, nth l 19, nth l 20, nth l 21, nth l 22, nth l 23, nth l 24, nth l 25, nth l 26, nth l 27, nth l 28, nth l 29, nth l 30, nth l 31, nth l 32, nth l 33, nth l 34, nth l 35, nth l 36, nth l 37, nth l 38, nth l 39, nth l 40, nth l 41, nth l 42, nth l 43, nth l 44, nth l 45, nth l 46, nth l 47, nth l 48, nth l 49, nth l 50, nth l 51, nth l 52, nth l 53, nth l 54, nth l 55, nth l 56, nth l 57, nth l 58, nth l 59, nth l 60, nth l 61, nth l 62, nth l 63, nth l 64, nth l 65, nth l 66, nth l 67, nth l 68, nth l 69, nth l 70, nth l 71, nth l 72, nth l 73, nth l 74, nth l 75, nth l 76, nth l 77, nth l 78, nth l 79, nth l 80, nth l 81, nth l 82, nth l 83, nth l 84, nth l 85, nth l 86, nth l 87, nth l 88, nth l 89, nth l 90, nth l 91, nth l 92, nth l 93, nth l 94, nth l 95, nth l 96, nth l 97, nth l 98, nth l 99, nth l 100, nth l 101, nth l 102, nth l 103, nth l 104, nth l 105, nth l 106] ∧ bs = [(sb, ints .u32 (stR K k), 86), (ob, ints .u8 (List.replicate 64 0), 77), (nb, ints .u8 N, 44), (kb, ints .u8 K, 23)]) 8 ⟨(by first | rfl | (simp only [stR_0]; done) | (simp only [stR_0]; rfl) | (rw [stR_0]; rfl)), (by first | rfl | (simp only [stR_0]; done) | (simp only [stR_0]; rfl) | (rw [stR_0]; rfl))⟩ ?_
  rintro k lfk _ hkk ⟨hlk, rfl⟩
  refine SP.cast hlk ?_
  clear hlk
  by_cases hltk : k < 8
  · have hk1 : IntKind.i64.wrap ((k : Int) + 1) = ((k + 1 : Nat) : Int) := by rw [IntWalk.i64_in _ (by omega)]; omega
    have f4 : IntKind.i64.wrap (4 * (k : Int)) = ((4 * k : Nat) : Int) := by rw [IntWalk.i64_in _ (by omega)]; omega
    have fc : IntKind.i64.wrap (4 + (k : Int)) = ((4 + k : Nat) : Int) := by rw [IntWalk.i64_in _ (by omega)]; omega
    repeat (first | ((with_reducible refine SP.region (id := 3) ?_); refine SL.e tabOk ?_; refine SL.e tabOk ?_; (with_reducible refine SL.nil ?_)) | ((with_reducible refine SP.region (id := 4) ?_); refine SL.e tabOk ?_; refine SL.e tabOk ?_; refine SL.e tabOk ?_; (with_reducible refine SL.nil ?_)) | ((with_reducible refine SP.region (id := 5) ?_); refine SL.e tabOk ?_; refine SL.e tabOk ?_; refine SL.ctA tabOk 0 32 ?_; refine SL.e tabOk ?_; refine SL.e tabOk ?_; refine SL.v (ValO.call ent_62 _ (by rw [← f4]; rfl) _ (fun w1 hw1 => rnumber_any kb 32 32 (4 * k) (K.drop (4 * k)) _ _ _ w1 (hbk hw1 kb) (fun j hj => ints_drop (by omega)) (by omega) (by omega) (by omega))) ?_; refine SL.ixA tabOk ?_ (hm := by first | (simp only [f4, fc, Nat.zero_add, Nat.mul_one, Nat.one_mul, Int.toNat_natCast]; done) | (simp only [f4, fc, Nat.zero_add, Nat.mul_one, Nat.one_mul, Int.toNat_natCast]; rfl) | rfl); refine SL.stI tabOk ?_; (with_reducible refine SL.nil ?_)) | ((with_reducible refine SP.seqK ?_); intro _ _) | (with_reducible refine thenK_normal ?_) | (refine useK (by assumption) ?_) | (with_reducible refine SP.block ?_) | (with_reducible refine SP.skip ?_) | ((with_reducible show SP _ _ _ (Code.cond _ _ _) _ _ _); first | (refine SP.condT rfl (by first | rfl | (simp only [decide_eq_true_eq, beq_iff_eq, bne_iff_ne]; first | done | omega)) ?_)))
    simp only [hk1]
    exact ⟨hltk, (by first | rfl | (simp only [stR_s]; done) | (simp only [stR_s]; rfl) | (rw [stR_s]; rfl)), (by first | rfl | (simp only [stR_s]; done) | (simp only [stR_s]; rfl) | (rw [stR_s]; rfl))⟩
  · have hendk : k = 8 := by omega
    replace hendk := Lib.hid hendk
    repeat (first | ((with_reducible refine SP.region (id := 3) ?_); refine SL.e tabOk ?_; refine SL.e tabOk ?_; (with_reducible refine SL.nil ?_)) | ((with_reducible refine SP.seqK ?_); intro _ _) | (with_reducible refine thenK_normal ?_) | (refine useK (by assumption) ?_) | (with_reducible refine SP.exit ?_) | ((with_reducible show SP _ _ _ (Code.cond _ _ _) _ _ _); first | (refine SP.condF rfl (by first | rfl | (simp only [decide_eq_false_iff_not, beq_eq_false_iff_ne, bne_eq_false_iff_eq]; first | done | omega)) ?_)))
    have hq := hendk.out; clear hendk; subst hq
    repeat (first | ((with_reducible refine SP.region (id := 6) ?_); refine SL.e tabOk ?_; refine SL.e tabOk ?_; refine SL.stI tabOk ?_; (with_reducible refine SL.nil ?_)) | ((with_reducible refine SP.region (id := 7) ?_); refine SL.e tabOk ?_; (with_reducible refine SL.nil ?_)) | ((with_reducible refine SP.seqK ?_); intro _ _) | (with_reducible refine thenK_normal ?_) | (refine useK (by assumption) ?_) | (with_reducible refine SP.block ?_))
    refine SP.loopN (fun k l bs => l = [nth l 0, .int .u32 ct, nth l 2, .pointer (some ⟨kb, 0, none⟩), nth l 4, .pointer (some ⟨nb, 0, none⟩), .pointer (some ⟨ob, 0, none⟩), .pointer (some ⟨sb, 0, none⟩), nth l 8, .int .i64 ((k : Nat)), nth l 10, nth l 11, nth l 12, nth l 13, nth l 14, nth l 15, nth l 16, nth l 17, nth l 18, nth l 19, nth l 20, nth l 21, nth l 22, nth l 23, nth l 24, nth l 25, nth l 26, nth l 27, nth l 28, nth l 29, nth l 30, nth l 31, nth l 32, nth l 33, nth l 34, nth l 35, nth l 36, nth l 37, nth l 38, nth l 39, nth l 40, nth l 41, nth l 42, nth l 43, nth l 44, nth l 45, nth l 46, nth l 47, nth l 48, nth l 49, nth l 50, nth l 51, nth l 52, nth l 53, nth l 54, nth l 55, nth l 56, nth l 57, nth l 58, nth l 59, nth l 60, nth l 61, nth l 62, nth l 63, nth l 64, nth l 65, nth l 66, nth l 67, nth l 68, nth l 69, nth l 70, nth l 71, nth l 72, nth l 73, nth l 74, nth l 75, nth l 76, nth l 77, nth l 78, nth l 79, nth l 80, nth l 81, nth l 82, nth l 83, nth l 84, nth l 85, nth l 86, nth l 87, nth l 88, nth l 89, nth l 90, nth l 91, nth l 92, nth l 93, nth l 94, nth l 95, nth l 96, nth l 97, nth l 98, nth l 99, nth l 100, nth l 101, nth l 102, nth l 103, nth l 104, nth l 105, nth l 106] ∧ bs = [(sb, ints .u32 (snR ((stR K 8).set 12 ct) N k), 86), (ob, ints .u8 (List.replicate 64 0), 77), (nb, ints .u8 N, 44), (kb, ints .u8 K, 23)]) 3 ⟨(by first | rfl | (simp only [snR_0]; done) | (simp only [snR_0]; rfl) | (rw [snR_0]; rfl)), (by first | rfl | (simp only [snR_0]; done) | (simp only [snR_0]; rfl) | (rw [snR_0]; rfl))⟩ ?_
    rintro k lfk _ hkk ⟨hlk, rfl⟩
    refine SP.cast hlk ?_
    clear hlk
    by_cases hltk : k < 3
    · have hk1 : IntKind.i64.wrap ((k : Int) + 1) = ((k + 1 : Nat) : Int) := by rw [IntWalk.i64_in _ (by omega)]; omega
      have f4 : IntKind.i64.wrap (4 * (k : Int)) = ((4 * k : Nat) : Int) := by rw [IntWalk.i64_in _ (by omega)]; omega
      have fc : IntKind.i64.wrap (13 + (k : Int)) = ((13 + k : Nat) : Int) := by rw [IntWalk.i64_in _ (by omega)]; omega
      repeat (first | ((with_reducible refine SP.region (id := 8) ?_); refine SL.e tabOk ?_; refine SL.e tabOk ?_; (with_reducible refine SL.nil ?_)) | ((with_reducible refine SP.region (id := 9) ?_); refine SL.e tabOk ?_; refine SL.e tabOk ?_; refine SL.e tabOk ?_; (with_reducible refine SL.nil ?_)) | ((with_reducible refine SP.region (id := 10) ?_); refine SL.e tabOk ?_; refine SL.e tabOk ?_; refine SL.ctA tabOk 0 12 ?_; refine SL.e tabOk ?_; refine SL.e tabOk ?_; refine SL.v (ValO.call ent_62 _ (by rw [← f4]; rfl) _ (fun w1 hw1 => rnumber_any nb 12 12 (4 * k) (N.drop (4 * k)) _ _ _ w1 (hbk hw1 nb) (fun j hj => ints_drop (by omega)) (by omega) (by omega) (by omega))) ?_; refine SL.ixA tabOk ?_ (hm := by first | (simp only [f4, fc, Nat.zero_add, Nat.mul_one, Nat.one_mul, Int.toNat_natCast]; done) | (simp only [f4, fc, Nat.zero_add, Nat.mul_one, Nat.one_mul, Int.toNat_natCast]; rfl) | rfl); refine SL.stI tabOk ?_; (with_reducible refine SL.nil ?_)) | ((with_reducible refine SP.seqK ?_); intro _ _) | (with_reducible refine thenK_normal ?_) | (refine useK (by assumption) ?_) | (with_reducible refine SP.block ?_) | (with_reducible refine SP.skip ?_) | ((with_reducible show SP _ _ _ (Code.cond _ _ _) _ _ _); first | (refine SP.condT rfl (by first | rfl | (simp only [decide_eq_true_eq, beq_iff_eq, bne_iff_ne]; first | done | omega)) ?_)))
      simp only [hk1]
      exact ⟨hltk, (by first | rfl | (simp only [snR_s]; done) | (simp only [snR_s]; rfl) | (rw [snR_s]; rfl)), (by first | rfl | (simp only [snR_s]; done) | (simp only [snR_s]; rfl) | (rw [snR_s]; rfl))⟩
    · have hendk : k = 3 := by omega
      replace hendk := Lib.hid hendk
      repeat (first | ((with_reducible refine SP.region (id := 8) ?_); refine SL.e tabOk ?_; refine SL.e tabOk ?_; (with_reducible refine SL.nil ?_)) | ((with_reducible refine SP.seqK ?_); intro _ _) | (with_reducible refine thenK_normal ?_) | (refine useK (by assumption) ?_) | (with_reducible refine SP.exit ?_) | ((with_reducible show SP _ _ _ (Code.cond _ _ _) _ _ _); first | (refine SP.condF rfl (by first | rfl | (simp only [decide_eq_false_iff_not, beq_eq_false_iff_ne, bne_eq_false_iff_eq]; first | done | omega)) ?_)))
      have hq := hendk.out; clear hendk; subst hq
      rw [show snR ((stR K 8).set 12 ct) N 3 = (chSR K ct N) by unfold chSR; rfl]
      repeat (first | ((with_reducible refine SP.region (id := 11) ?_); refine SL.ldR tabOk ?_; refine SL.al zero_86 ?_; (first | (have _t := tok_kb; clear _t tok_kb; intro kb) | (have _t := tok_nb; clear _t tok_nb; intro nb) | (have _t := tok_ob; clear _t tok_ob; intro ob) | (have _t := tok_sb; clear _t tok_sb; intro sb) | (have _t := tok_vb; clear _t tok_vb; intro vb) | (have _t := tok_ab; clear _t tok_ab; intro ab) | (have _t := tok_pb; clear _t tok_pb; intro pb) | (have _t := tok_qb; clear _t tok_qb; intro qb) | intro _); refine SL.stR tabOk ?_; (with_reducible refine SL.nil ?_)) | ((with_reducible refine SP.region (id := 12) ?_); refine SL.v (ValO.call ent_63 _ rfl _ (fun w1 hw1 => places_any w1)) ?_; refine SL.al zero_101 ?_; (first | (have _t := tok_kb; clear _t tok_kb; intro kb) | (have _t := tok_nb; clear _t tok_nb; intro nb) | (have _t := tok_ob; clear _t tok_ob; intro ob) | (have _t := tok_sb; clear _t tok_sb; intro sb) | (have _t := tok_vb; clear _t tok_vb; intro vb) | (have _t := tok_ab; clear _t tok_ab; intro ab) | (have _t := tok_pb; clear _t tok_pb; intro pb) | (have _t := tok_qb; clear _t tok_qb; intro qb) | intro _); refine SL.stR tabOk ?_; (with_reducible refine SL.nil ?_)) | ((with_reducible refine SP.region (id := 13) ?_); refine SL.e tabOk ?_; (with_reducible refine SL.nil ?_)) | ((with_reducible refine SP.seqK ?_); intro _ _) | (with_reducible refine thenK_normal ?_) | (refine useK (by assumption) ?_) | (with_reducible refine SP.block ?_))
      refine SP.loopN (fun r l bs => l = [nth l 0, .int .u32 ct, nth l 2, .pointer (some ⟨kb, 0, none⟩), nth l 4, .pointer (some ⟨nb, 0, none⟩), .pointer (some ⟨ob, 0, none⟩), .pointer (some ⟨sb, 0, none⟩), nth l 8, nth l 9, .pointer (some ⟨vb, 0, none⟩), .pointer (some ⟨ab, 0, none⟩), .int .i64 ((r : Nat)), nth l 13, nth l 14, nth l 15, nth l 16, nth l 17, nth l 18, nth l 19, nth l 20, nth l 21, nth l 22, nth l 23, nth l 24, nth l 25, nth l 26, nth l 27, nth l 28, nth l 29, nth l 30, nth l 31, nth l 32, nth l 33, nth l 34, nth l 35, nth l 36, nth l 37, nth l 38, nth l 39, nth l 40, nth l 41, nth l 42, nth l 43, nth l 44, nth l 45, nth l 46, nth l 47, nth l 48, nth l 49, nth l 50, nth l 51, nth l 52, nth l 53, nth l 54, nth l 55, nth l 56, nth l 57, nth l 58, nth l 59, nth l 60, nth l 61, nth l 62, nth l 63, nth l 64, nth l 65, nth l 66, nth l 67, nth l 68, nth l 69, nth l 70, nth l 71, nth l 72, nth l 73, nth l 74, nth l 75, nth l 76, nth l 77, nth l 78, nth l 79, nth l 80, nth l 81, nth l 82, nth l 83, nth l 84, nth l 85, nth l 86, nth l 87, nth l 88, nth l 89, nth l 90, nth l 91, nth l 92, nth l 93, nth l 94, nth l 95, nth l 96, nth l 97, nth l 98, nth l 99, nth l 100, nth l 101, nth l 102, nth l 103, nth l 104, nth l 105, nth l 106] ∧ bs = [(ab, ints .i64 plL, 101), (vb, ints .u32 (rdT (chSR K ct N) r), 86), (sb, ints .u32 (chSR K ct N), 86), (ob, ints .u8 (List.replicate 64 0), 77), (nb, ints .u8 N, 44), (kb, ints .u8 K, 23)]) 10 ⟨(by first | rfl | (simp only [rdT_0]; done) | (simp only [rdT_0]; rfl) | (rw [rdT_0]; rfl)), (by first | rfl | (simp only [rdT_0]; done) | (simp only [rdT_0]; rfl) | (rw [rdT_0]; rfl))⟩ ?_
      rintro r lfr _ hkr ⟨hlr, rfl⟩
      refine SP.cast hlr ?_
      clear hlr
      by_cases hltr : r < 10
      · have hr1 : IntKind.i64.wrap ((r : Int) + 1) = ((r + 1 : Nat) : Int) := by rw [IntWalk.i64_in _ (by omega)]; omega
        repeat (first | ((with_reducible refine SP.region (id := 14) ?_); refine SL.e tabOk ?_; refine SL.e tabOk ?_; (with_reducible refine SL.nil ?_)) | ((with_reducible refine SP.region (id := 16) ?_); refine SL.e tabOk ?_; (with_reducible refine SL.nil ?_)) | ((with_reducible refine SP.seqK ?_); intro _ _) | (with_reducible refine thenK_normal ?_) | (refine useK (by assumption) ?_) | (with_reducible refine SP.block ?_) | (with_reducible refine SP.skip ?_) | ((with_reducible show SP _ _ _ (Code.cond _ _ _) _ _ _); first | (refine SP.condT rfl (by first | rfl | (simp only [decide_eq_true_eq, beq_iff_eq, bne_iff_ne]; first | done | omega)) ?_)))
        refine SP.loopN (fun k l bs => l = [nth l 0, .int .u32 ct, nth l 2, .pointer (some ⟨kb, 0, none⟩), nth l 4, .pointer (some ⟨nb, 0, none⟩), .pointer (some ⟨ob, 0, none⟩), .pointer (some ⟨sb, 0, none⟩), nth l 8, nth l 9, .pointer (some ⟨vb, 0, none⟩), .pointer (some ⟨ab, 0, none⟩), .int .i64 ((r : Nat)), .int .i64 ((k : Nat)), nth l 14, nth l 15, nth l 16, nth l 17, nth l 18, nth l 19, nth l 20, nth l 21, nth l 22, nth l 23, nth l 24, nth l 25, nth l 26, nth l 27, nth l 28, nth l 29, nth l 30, nth l 31, nth l 32, nth l 33, nth l 34, nth l 35, nth l 36, nth l 37, nth l 38, nth l 39, nth l 40, nth l 41, nth l 42, nth l 43, nth l 44, nth l 45, nth l 46, nth l 47, nth l 48, nth l 49, nth l 50, nth l 51, nth l 52, nth l 53, nth l 54, nth l 55, nth l 56, nth l 57, nth l 58, nth l 59, nth l 60, nth l 61, nth l 62, nth l 63, nth l 64, nth l 65, nth l 66, nth l 67, nth l 68, nth l 69, nth l 70, nth l 71, nth l 72, nth l 73, nth l 74, nth l 75, nth l 76, nth l 77, nth l 78, nth l 79, nth l 80, nth l 81, nth l 82, nth l 83, nth l 84, nth l 85, nth l 86, nth l 87, nth l 88, nth l 89, nth l 90, nth l 91, nth l 92, nth l 93, nth l 94, nth l 95, nth l 96, nth l 97, nth l 98, nth l 99, nth l 100, nth l 101, nth l 102, nth l 103, nth l 104, nth l 105, nth l 106] ∧ bs = [(ab, ints .i64 plL, 101), (vb, ints .u32 (rdK (rdT (chSR K ct N) r) k), 86), (sb, ints .u32 (chSR K ct N), 86), (ob, ints .u8 (List.replicate 64 0), 77), (nb, ints .u8 N, 44), (kb, ints .u8 K, 23)]) 8 ⟨(by first | rfl | (simp only [rdK_0]; done) | (simp only [rdK_0]; rfl) | (rw [rdK_0]; rfl)), (by first | rfl | (simp only [rdK_0]; done) | (simp only [rdK_0]; rfl) | (rw [rdK_0]; rfl))⟩ ?_
        rintro k lfk _ hkk ⟨hlk, rfl⟩
        refine SP.cast hlk ?_
        clear hlk
        by_cases hltk : k < 8
        · have hk1 : IntKind.i64.wrap ((k : Int) + 1) = ((k + 1 : Nat) : Int) := by rw [IntWalk.i64_in _ (by omega)]; omega
          have hk8 := hltk
          have f4 : IntKind.i64.wrap (4 * (k : Int)) = ((4 * k : Nat) : Int) := by rw [IntWalk.i64_in _ (by omega)]; omega
          have hlk := plK_length k hk8
          have hp0 := plK_gi k hk8 0 (by decide)
          have hp1 := plK_gi k hk8 1 (by decide)
          have hp2 := plK_gi k hk8 2 (by decide)
          have hp3 := plK_gi k hk8 3 (by decide)
          have hq0 := plN_lt k 0 (by decide)
          have hq1 := plN_lt k 1 (by decide)
          have hq2 := plN_lt k 2 (by decide)
          have hq3 := plN_lt k 3 (by decide)
          repeat (first | ((with_reducible refine SP.region (id := 17) ?_); refine SL.e tabOk ?_; refine SL.e tabOk ?_; (with_reducible refine SL.nil ?_)) | ((with_reducible refine SP.region (id := 19) ?_); refine SL.e tabOk ?_; refine SL.ixA tabOk ?_ (hm := by first | (simp only [f4, Nat.mul_comm k 4, Nat.zero_add, Nat.mul_one, Nat.one_mul, Int.toNat_natCast]; done) | (simp only [f4, Nat.mul_comm k 4, Nat.zero_add, Nat.mul_one, Nat.one_mul, Int.toNat_natCast]; rfl) | rfl); refine SL.ldP tabOk ?_ (hn := by simp [ints_size]; omega) (hB := plK_part k hk8); refine SL.al zero_100 ?_; (first | (have _t := tok_kb; clear _t tok_kb; intro kb) | (have _t := tok_nb; clear _t tok_nb; intro nb) | (have _t := tok_ob; clear _t tok_ob; intro ob) | (have _t := tok_sb; clear _t tok_sb; intro sb) | (have _t := tok_vb; clear _t tok_vb; intro vb) | (have _t := tok_ab; clear _t tok_ab; intro ab) | (have _t := tok_pb; clear _t tok_pb; intro pb) | (have _t := tok_qb; clear _t tok_qb; intro qb) | intro _); refine SL.stR tabOk ?_; (with_reducible refine SL.nil ?_)) | ((with_reducible refine SP.seqK ?_); intro _ _) | (with_reducible refine thenK_normal ?_) | (refine useK (by assumption) ?_) | (with_reducible refine SP.block ?_) | (with_reducible refine SP.skip ?_) | ((with_reducible show SP _ _ _ (Code.cond _ _ _) _ _ _); first | (refine SP.condT rfl (by first | rfl | (simp only [decide_eq_true_eq, beq_iff_eq, bne_iff_ne]; first | done | omega)) ?_)))
          repeat (first | ((with_reducible refine SP.region (id := 21) ?_); refine SL.e tabOk ?_; (with_reducible refine SL.nil ?_)) | ((with_reducible show SP _ _ _ (Code.region _ _ true) _ _ _); first | (refine SPa (id := 20) [19] [] ([]) [0, 1, 2, 3, 4, 5, 6, 7, 8, 9, 10, 11, 12, 13, 14, 15, 16, 17, 18, 19] follows ?_; refine SF.e tabOk ?_; refine SF.ldI tabOk ?_; refine SF.ixA tabOk ?_ (hm := by first | (simp only [hp0, hp1, hp2, hp3, Nat.zero_add, Nat.mul_one, Nat.one_mul, Int.toNat_natCast]; done) | (simp only [hp0, hp1, hp2, hp3, Nat.zero_add, Nat.mul_one, Nat.one_mul, Int.toNat_natCast]; rfl) | rfl); refine SF.ldI tabOk ?_; refine SF.e tabOk ?_; refine SF.ldI tabOk ?_; refine SF.ixA tabOk ?_ (hm := by first | (simp only [hp0, hp1, hp2, hp3, Nat.zero_add, Nat.mul_one, Nat.one_mul, Int.toNat_natCast]; done) | (simp only [hp0, hp1, hp2, hp3, Nat.zero_add, Nat.mul_one, Nat.one_mul, Int.toNat_natCast]; rfl) | rfl); refine SF.ldI tabOk ?_; refine SF.e tabOk ?_; refine SF.ldI tabOk ?_; refine SF.ixA tabOk ?_ (hm := by first | (simp only [hp0, hp1, hp2, hp3, Nat.zero_add, Nat.mul_one, Nat.one_mul, Int.toNat_natCast]; done) | (simp only [hp0, hp1, hp2, hp3, Nat.zero_add, Nat.mul_one, Nat.one_mul, Int.toNat_natCast]; rfl) | rfl); refine SF.ldI tabOk ?_; refine SF.e tabOk ?_; refine SF.ldI tabOk ?_; refine SF.ixA tabOk ?_ (hm := by first | (simp only [hp0, hp1, hp2, hp3, Nat.zero_add, Nat.mul_one, Nat.one_mul, Int.toNat_natCast]; done) | (simp only [hp0, hp1, hp2, hp3, Nat.zero_add, Nat.mul_one, Nat.one_mul, Int.toNat_natCast]; rfl) | rfl); refine SF.ldI tabOk ?_; refine SF.v (ValO.build (by first | (dsimp only [List.map, evL, nth]; done) | (dsimp only [List.map, evL, nth]; rfl)) (b_u4 _ _ _ _)) ?_; refine SF.v (ValO.call ent_64 _ rfl _ (fun w1 hw1 => rquarter_any _ _ _ _ w1)) ?_; refine SF.al zero_103 ?_; (first | (have _t := tok_kb; clear _t tok_kb; intro kb) | (have _t := tok_nb; clear _t tok_nb; intro nb) | (have _t := tok_ob; clear _t tok_ob; intro ob) | (have _t := tok_sb; clear _t tok_sb; intro sb) | (have _t := tok_vb; clear _t tok_vb; intro vb) | (have _t := tok_ab; clear _t tok_ab; intro ab) | (have _t := tok_pb; clear _t tok_pb; intro pb) | (have _t := tok_qb; clear _t tok_qb; intro qb) | intro _); refine SF.stR tabOk ?_; refine SF.done ?_)) | ((with_reducible refine SP.seqK ?_); intro _ _) | (with_reducible refine thenK_normal ?_) | (refine useK (by assumption) ?_) | (with_reducible refine SP.block ?_))
          refine SP.loopN (fun i l bs => l = [nth l 0, .int .u32 ct, nth l 2, .pointer (some ⟨kb, 0, none⟩), nth l 4, .pointer (some ⟨nb, 0, none⟩), .pointer (some ⟨ob, 0, none⟩), .pointer (some ⟨sb, 0, none⟩), nth l 8, nth l 9, .pointer (some ⟨vb, 0, none⟩), .pointer (some ⟨ab, 0, none⟩), .int .i64 ((r : Nat)), .int .i64 ((k : Nat)), .pointer (some ⟨pb, 0, none⟩), .pointer (some ⟨qb, 0, none⟩), .int .i64 ((i : Nat)), nth l 17, nth l 18, nth l 19, nth l 20, nth l 21, nth l 22, nth l 23, nth l 24, nth l 25, nth l 26, nth l 27, nth l 28, nth l 29, nth l 30, nth l 31, nth l 32, nth l 33, nth l 34, nth l 35, nth l 36, nth l 37, nth l 38, nth l 39, nth l 40, nth l 41, nth l 42, nth l 43, nth l 44, nth l 45, nth l 46, nth l 47, nth l 48, nth l 49, nth l 50, nth l 51, nth l 52, nth l 53, nth l 54, nth l 55, nth l 56, nth l 57, nth l 58, nth l 59, nth l 60, nth l 61, nth l 62, nth l 63, nth l 64, nth l 65, nth l 66, nth l 67, nth l 68, nth l 69, nth l 70, nth l 71, nth l 72, nth l 73, nth l 74, nth l 75, nth l 76, nth l 77, nth l 78, nth l 79, nth l 80, nth l 81, nth l 82, nth l 83, nth l 84, nth l 85, nth l 86, nth l 87, nth l 88, nth l 89, nth l 90, nth l 91, nth l 92, nth l 93, nth l 94, nth l 95, nth l 96, nth l 97, nth l 98, nth l 99, nth l 100, nth l 101, nth l 102, nth l 103, nth l 104, nth l 105, nth l 106] ∧ bs = [(qb, ints .u32 (q4 (gi (rdK (rdT (chSR K ct N) r) k) (plN k 0)) (gi (rdK (rdT (chSR K ct N) r) k) (plN k 1)) (gi (rdK (rdT (chSR K ct N) r) k) (plN k 2)) (gi (rdK (rdT (chSR K ct N) r) k) (plN k 3))), 103), (pb, ints .i64 (plK k), 100), (ab, ints .i64 plL, 101), (vb, ints .u32 (svI (rdK (rdT (chSR K ct N) r) k) (q4 (gi (rdK (rdT (chSR K ct N) r) k) (plN k 0)) (gi (rdK (rdT (chSR K ct N) r) k) (plN k 1)) (gi (rdK (rdT (chSR K ct N) r) k) (plN k 2)) (gi (rdK (rdT (chSR K ct N) r) k) (plN k 3))) k i), 86), (sb, ints .u32 (chSR K ct N), 86), (ob, ints .u8 (List.replicate 64 0), 77), (nb, ints .u8 N, 44), (kb, ints .u8 K, 23)]) 4 ⟨(by first | rfl | (simp only [svI_0]; done) | (simp only [svI_0]; rfl) | (rw [svI_0]; rfl)), (by first | rfl | (simp only [svI_0]; done) | (simp only [svI_0]; rfl) | (rw [svI_0]; rfl))⟩ ?_
          rintro i lfi _ hki ⟨hli, rfl⟩
          refine SP.cast hli ?_
          clear hli
          by_cases hlti : i < 4
          · have hi1 : IntKind.i64.wrap ((i : Int) + 1) = ((i + 1 : Nat) : Int) := by rw [IntWalk.i64_in _ (by omega)]; omega
            have hpi := plK_gi k hk8 i hlti
            have hpl := plN_lt k i hlti
            repeat (first | ((with_reducible refine SP.region (id := 22) ?_); refine SL.e tabOk ?_; refine SL.e tabOk ?_; (with_reducible refine SL.nil ?_)) | ((with_reducible refine SP.region (id := 23) ?_); refine SL.e tabOk ?_; refine SL.e tabOk ?_; refine SL.e tabOk ?_; (with_reducible refine SL.nil ?_)) | ((with_reducible show SP _ _ _ (Code.region _ _ true) _ _ _); first | (refine SPa (id := 24) [7] [] ([]) [0, 1, 2, 3, 4, 5, 6, 7] follows ?_; refine SF.p tabOk ?_; refine SF.ixA tabOk ?_ (hm := by first | (simp only [hpi, Nat.zero_add, Nat.mul_one, Nat.one_mul, Int.toNat_natCast]; done) | (simp only [hpi, Nat.zero_add, Nat.mul_one, Nat.one_mul, Int.toNat_natCast]; rfl) | rfl); refine SF.ldI tabOk ?_; refine SF.p tabOk ?_; refine SF.ixA tabOk ?_ (hm := by first | (simp only [hpi, Nat.zero_add, Nat.mul_one, Nat.one_mul, Int.toNat_natCast]; done) | (simp only [hpi, Nat.zero_add, Nat.mul_one, Nat.one_mul, Int.toNat_natCast]; rfl) | rfl); refine SF.ldI tabOk ?_; refine SF.ixA tabOk ?_ (hm := by first | (simp only [hpi, Nat.zero_add, Nat.mul_one, Nat.one_mul, Int.toNat_natCast]; done) | (simp only [hpi, Nat.zero_add, Nat.mul_one, Nat.one_mul, Int.toNat_natCast]; rfl) | rfl); refine SF.stI tabOk ?_; refine SF.done ?_)) | ((with_reducible refine SP.seqK ?_); intro _ _) | (with_reducible refine thenK_normal ?_) | (refine useK (by assumption) ?_) | (with_reducible refine SP.block ?_) | (with_reducible refine SP.skip ?_) | ((with_reducible show SP _ _ _ (Code.cond _ _ _) _ _ _); first | (refine SP.condT rfl (by first | rfl | (simp only [decide_eq_true_eq, beq_iff_eq, bne_iff_ne]; first | done | omega)) ?_)))
            simp only [hi1]
            exact ⟨hlti, (by first | rfl | (simp only [svI_s]; done) | (simp only [svI_s]; rfl) | (rw [svI_s]; rfl)), (by first | rfl | (simp only [svI_s]; done) | (simp only [svI_s]; rfl) | (rw [svI_s]; rfl))⟩
          · have hendi : i = 4 := by omega
            replace hendi := Lib.hid hendi
            repeat (first | ((with_reducible refine SP.region (id := 22) ?_); refine SL.e tabOk ?_; refine SL.e tabOk ?_; (with_reducible refine SL.nil ?_)) | ((with_reducible refine SP.seqK ?_); intro _ _) | (with_reducible refine thenK_normal ?_) | (refine useK (by assumption) ?_) | (with_reducible refine SP.exit ?_) | ((with_reducible show SP _ _ _ (Code.cond _ _ _) _ _ _); first | (refine SP.condF rfl (by first | rfl | (simp only [decide_eq_false_iff_not, beq_eq_false_iff_ne, bne_eq_false_iff_eq]; first | done | omega)) ?_)))
            have hq := hendi.out; clear hendi; subst hq
            rw [show svI (rdK (rdT (chSR K ct N) r) k) (q4 (gi (rdK (rdT (chSR K ct N) r) k) (plN k 0)) (gi (rdK (rdT (chSR K ct N) r) k) (plN k 1)) (gi (rdK (rdT (chSR K ct N) r) k) (plN k 2)) (gi (rdK (rdT (chSR K ct N) r) k) (plN k 3))) k 4 = qrR (rdK (rdT (chSR K ct N) r) k) k by unfold qrR; rfl]
            repeat (first | ((with_reducible refine SP.region (id := 18) ?_); refine SL.sub ?_ (List.Sublist.cons _ (List.Sublist.cons _ (List.Sublist.refl _))); refine SL.e tabOk ?_; refine SL.e tabOk ?_; refine SL.e tabOk ?_; (with_reducible refine SL.nil ?_)) | (with_reducible refine thenK_normal ?_))
            simp only [hk1]
            exact ⟨hltk, (by first | rfl | (simp only [rdK_s]; done) | (simp only [rdK_s]; rfl) | (rw [rdK_s]; rfl)), (by first | rfl | (simp only [rdK_s]; done) | (simp only [rdK_s]; rfl) | (rw [rdK_s]; rfl))⟩
        · have hendk : k = 8 := by omega
          replace hendk := Lib.hid hendk
          repeat (first | ((with_reducible refine SP.region (id := 17) ?_); refine SL.e tabOk ?_; refine SL.e tabOk ?_; (with_reducible refine SL.nil ?_)) | ((with_reducible refine SP.seqK ?_); intro _ _) | (with_reducible refine thenK_normal ?_) | (refine useK (by assumption) ?_) | (with_reducible refine SP.exit ?_) | ((with_reducible show SP _ _ _ (Code.cond _ _ _) _ _ _); first | (refine SP.condF rfl (by first | rfl | (simp only [decide_eq_false_iff_not, beq_eq_false_iff_ne, bne_eq_false_iff_eq]; first | done | omega)) ?_)))
          have hq := hendk.out; clear hendk; subst hq
          repeat (first | ((with_reducible refine SP.region (id := 15) ?_); refine SL.e tabOk ?_; refine SL.e tabOk ?_; refine SL.e tabOk ?_; (with_reducible refine SL.nil ?_)) | (with_reducible refine thenK_normal ?_))
          simp only [hr1]
          exact ⟨hltr, (by first | rfl | (simp only [rdT_s]; done) | (simp only [rdT_s]; rfl) | (rw [rdT_s]; rfl)), (by first | rfl | (simp only [rdT_s]; done) | (simp only [rdT_s]; rfl) | (rw [rdT_s]; rfl))⟩
      · have hendr : r = 10 := by omega
        replace hendr := Lib.hid hendr
        repeat (first | ((with_reducible refine SP.region (id := 14) ?_); refine SL.e tabOk ?_; refine SL.e tabOk ?_; (with_reducible refine SL.nil ?_)) | ((with_reducible refine SP.seqK ?_); intro _ _) | (with_reducible refine thenK_normal ?_) | (refine useK (by assumption) ?_) | (with_reducible refine SP.exit ?_) | ((with_reducible show SP _ _ _ (Code.cond _ _ _) _ _ _); first | (refine SP.condF rfl (by first | rfl | (simp only [decide_eq_false_iff_not, beq_eq_false_iff_ne, bne_eq_false_iff_eq]; first | done | omega)) ?_)))
        have hq := hendr.out; clear hendr; subst hq
        repeat (first | ((with_reducible refine SP.region (id := 25) ?_); refine SL.al zero_77 ?_; (first | (have _t := tok_kb; clear _t tok_kb; intro kb) | (have _t := tok_nb; clear _t tok_nb; intro nb) | (have _t := tok_ob; clear _t tok_ob; intro ob) | (have _t := tok_sb; clear _t tok_sb; intro sb) | (have _t := tok_vb; clear _t tok_vb; intro vb) | (have _t := tok_ab; clear _t tok_ab; intro ab) | (have _t := tok_pb; clear _t tok_pb; intro pb) | (have _t := tok_qb; clear _t tok_qb; intro qb) | intro _); (with_reducible refine SL.nil ?_)) | ((with_reducible refine SP.region (id := 26) ?_); refine SL.e tabOk ?_; (with_reducible refine SL.nil ?_)) | ((with_reducible refine SP.seqK ?_); intro _ _) | (with_reducible refine thenK_normal ?_) | (refine useK (by assumption) ?_) | (with_reducible refine SP.block ?_))
        refine SP.loopN (fun k l bs => l = [nth l 0, .int .u32 ct, nth l 2, .pointer (some ⟨kb, 0, none⟩), nth l 4, .pointer (some ⟨nb, 0, none⟩), .pointer (some ⟨ob, 0, none⟩), .pointer (some ⟨sb, 0, none⟩), nth l 8, nth l 9, .pointer (some ⟨vb, 0, none⟩), nth l 11, nth l 12, nth l 13, nth l 14, nth l 15, nth l 16, .pointer (some ⟨pb, 0, none⟩), .int .i64 ((k : Nat)), nth l 19, nth l 20, nth l 21, nth l 22, nth l 23, nth l 24, nth l 25, nth l 26, nth l 27, nth l 28, nth l 29, nth l 30, nth l 31, nth l 32, nth l 33, nth l 34, nth l 35, nth l 36, nth l 37, nth l 38, nth l 39, nth l 40, nth l 41, nth l 42, nth l 43, nth l 44, nth l 45, nth l 46, nth l 47, nth l 48, nth l 49, nth l 50, nth l 51, nth l 52, nth l 53, nth l 54, nth l 55, nth l 56, nth l 57, nth l 58, nth l 59, nth l 60, nth l 61, nth l 62, nth l 63, nth l 64, nth l 65, nth l 66, nth l 67, nth l 68, nth l 69, nth l 70, nth l 71, nth l 72, nth l 73, nth l 74, nth l 75, nth l 76, nth l 77, nth l 78, nth l 79, nth l 80, nth l 81, nth l 82, nth l 83, nth l 84, nth l 85, nth l 86, nth l 87, nth l 88, nth l 89, nth l 90, nth l 91, nth l 92, nth l 93, nth l 94, nth l 95, nth l 96, nth l 97, nth l 98, nth l 99, nth l 100, nth l 101, nth l 102, nth l 103, nth l 104, nth l 105, nth l 106] ∧ bs = [(pb, ints .u8 (ouR (rdT (chSR K ct N) 10) (chSR K ct N) k), 77), (ab, ints .i64 plL, 101), (vb, ints .u32 (rdT (chSR K ct N) 10), 86), (sb, ints .u32 (chSR K ct N), 86), (ob, ints .u8 (List.replicate 64 0), 77), (nb, ints .u8 N, 44), (kb, ints .u8 K, 23)]) 64 ⟨(by first | rfl | (simp only [ouR_0]; done) | (simp only [ouR_0]; rfl) | (rw [ouR_0]; rfl)), (by first | rfl | (simp only [ouR_0]; done) | (simp only [ouR_0]; rfl) | (rw [ouR_0]; rfl))⟩ ?_
        rintro k lfk _ hkk ⟨hlk, rfl⟩
        refine SP.cast hlk ?_
        clear hlk
        by_cases hltk : k < 64
        · have hk1 : IntKind.i64.wrap ((k : Int) + 1) = ((k + 1 : Nat) : Int) := by rw [IntWalk.i64_in _ (by omega)]; omega
          have hd : IntKind.i64.wrap (Int.tdiv (k : Int) 4) = ((k / 4 : Nat) : Int) := by rw [show Int.tdiv (k : Int) 4 = ((k / 4 : Nat) : Int) from rfl, IntWalk.i64_in _ (by omega)]
          have hm8 : 0 ≤ IntKind.i64.wrap (8 * Int.tmod (k : Int) 4) := by rw [show Int.tmod (k : Int) 4 = ((k % 4 : Nat) : Int) from rfl, IntWalk.i64_in _ (by omega)]; omega
          repeat (first | ((with_reducible refine SP.region (id := 27) ?_); refine SL.e tabOk ?_; refine SL.e tabOk ?_; (with_reducible refine SL.nil ?_)) | ((with_reducible refine SP.region (id := 28) ?_); refine SL.e tabOk ?_; refine SL.e tabOk ?_; refine SL.e tabOk ?_; (with_reducible refine SL.nil ?_)) | ((with_reducible show SP _ _ _ (Code.region _ _ true) _ _ _); first | (refine SPa (id := 29) [16] [] ([]) [0, 1, 2, 3, 4, 5, 6, 7, 8, 9, 10, 11, 12, 13, 14, 15, 16] follows ?_; refine SF.p tabOk ?_; refine SF.p tabOk ?_; refine SF.e tabOk ?_; refine SF.ixA tabOk ?_ (hm := by first | (simp only [hd, Nat.zero_add, Nat.mul_one, Nat.one_mul, Int.toNat_natCast]; done) | (simp only [hd, Nat.zero_add, Nat.mul_one, Nat.one_mul, Int.toNat_natCast]; rfl) | rfl); refine SF.ldI tabOk ?_; refine SF.p tabOk ?_; refine SF.e tabOk ?_; refine SF.ixA tabOk ?_ (hm := by first | (simp only [hd, Nat.zero_add, Nat.mul_one, Nat.one_mul, Int.toNat_natCast]; done) | (simp only [hd, Nat.zero_add, Nat.mul_one, Nat.one_mul, Int.toNat_natCast]; rfl) | rfl); refine SF.ldI tabOk ?_; refine SF.e tabOk ?_; refine SF.p tabOk ?_; refine SF.e tabOk ?_; refine SF.e tabOk ?_; refine SF.sh ?_; refine SF.e tabOk ?_; refine SF.ixA tabOk ?_ (hm := by first | (simp only [hd, Nat.zero_add, Nat.mul_one, Nat.one_mul, Int.toNat_natCast]; done) | (simp only [hd, Nat.zero_add, Nat.mul_one, Nat.one_mul, Int.toNat_natCast]; rfl) | rfl); refine SF.stI tabOk ?_; refine SF.done ?_)) | ((with_reducible refine SP.seqK ?_); intro _ _) | (with_reducible refine thenK_normal ?_) | (refine useK (by assumption) ?_) | (with_reducible refine SP.block ?_) | (with_reducible refine SP.skip ?_) | ((with_reducible show SP _ _ _ (Code.cond _ _ _) _ _ _); first | (refine SP.condT rfl (by first | rfl | (simp only [decide_eq_true_eq, beq_iff_eq, bne_iff_ne]; first | done | omega)) ?_)))
          simp only [hk1]
          exact ⟨hltk, (by first | rfl | (simp only [ouR_s]; done) | (simp only [ouR_s]; rfl) | (rw [ouR_s]; rfl)), (by first | rfl | (simp only [ouR_s]; done) | (simp only [ouR_s]; rfl) | (rw [ouR_s]; rfl))⟩
        · have hendk : k = 64 := by omega
          replace hendk := Lib.hid hendk
          repeat (first | ((with_reducible refine SP.region (id := 27) ?_); refine SL.e tabOk ?_; refine SL.e tabOk ?_; (with_reducible refine SL.nil ?_)) | ((with_reducible refine SP.seqK ?_); intro _ _) | (with_reducible refine thenK_normal ?_) | (refine useK (by assumption) ?_) | (with_reducible refine SP.exit ?_) | ((with_reducible show SP _ _ _ (Code.cond _ _ _) _ _ _); first | (refine SP.condF rfl (by first | rfl | (simp only [decide_eq_false_iff_not, beq_eq_false_iff_ne, bne_eq_false_iff_eq]; first | done | omega)) ?_)))
          have hq := hendk.out; clear hendk; subst hq
          repeat (first | ((with_reducible refine SP.region (id := 30) ?_); refine SL.ldR tabOk ?_; refine SL.stR tabOk ?_; (with_reducible refine SL.nil ?_)) | (with_reducible refine thenK_normal ?_) | (refine useK (by assumption) ?_) | (with_reducible refine SP.ret ?_))
          exact doneK.mk rfl (ResO.cell tabOk rfl rfl rfl (by first | exact RdA.own g0 | exact RdA.own g1 | exact RdA.own g2 | exact RdA.own g3 | exact RdA.own g4 | exact RdA.own g5 | exact RdA.own g6 | exact RdA.own g7 | exact RdA.own g8 | exact RdA.own g9 | exact RdA.own g10 | exact RdA.own g11 | exact RdA.own g12 | exact RdA.own g13 | exact RdA.own g14 | exact RdA.own g15) (by first | (simp [ints_size]; done) | (simp [ints_size]; omega))) (by unfold chBR; rfl)
end Sp

end Go.Proofs.Ythbmlpiplfbehaa

namespace Go.Proofs.Ythbmlpiplfbehaa
set_option linter.unusedSimpArgs false
set_option linter.unusedVariables false
open Go Go.RowKit
namespace Sp
open F M
/-- What four places of a list hold, the others as before. -/
structure PQ (V : List Int) (a b c d : Nat) (L : List Int) (x y z w : Int) : Prop where
  len : L.length = V.length
  pa : gi L a = x
  pb : gi L b = y
  pc : gi L c = z
  pd : gi L d = w
  rest : ∀ j, j ≠ a → j ≠ b → j ≠ c → j ≠ d → gi L j = gi V j
section
variable {V L : List Int} {a b c d : Nat} {x y z w v : Int}
structure Four (V : List Int) (a b c d : Nat) : Prop where
  ab : a ≠ b
  ac : a ≠ c
  ad : a ≠ d
  bc : b ≠ c
  bd : b ≠ d
  cd : c ≠ d
  la : a < V.length
  lb : b < V.length
  lc : c < V.length
  ld : d < V.length
theorem PQ.setA (h : PQ V a b c d L x y z w) (f : Four V a b c d) : PQ V a b c d (L.set a v) v y z w :=
  ⟨by rw [List.length_set]; exact h.len, gi_same _ _ _ (by rw [h.len]; exact f.la), by rw [gi_upd _ _ _ _ f.ab.symm]; exact h.pb, by rw [gi_upd _ _ _ _ f.ac.symm]; exact h.pc, by rw [gi_upd _ _ _ _ f.ad.symm]; exact h.pd, fun j h1 h2 h3 h4 => by rw [gi_upd _ _ _ _ h1]; exact h.rest j h1 h2 h3 h4⟩
theorem PQ.setB (h : PQ V a b c d L x y z w) (f : Four V a b c d) : PQ V a b c d (L.set b v) x v z w :=
  ⟨by rw [List.length_set]; exact h.len, by rw [gi_upd _ _ _ _ f.ab]; exact h.pa, gi_same _ _ _ (by rw [h.len]; exact f.lb), by rw [gi_upd _ _ _ _ f.bc.symm]; exact h.pc, by rw [gi_upd _ _ _ _ f.bd.symm]; exact h.pd, fun j h1 h2 h3 h4 => by rw [gi_upd _ _ _ _ h2]; exact h.rest j h1 h2 h3 h4⟩
theorem PQ.setC (h : PQ V a b c d L x y z w) (f : Four V a b c d) : PQ V a b c d (L.set c v) x y v w :=
  ⟨by rw [List.length_set]; exact h.len, by rw [gi_upd _ _ _ _ f.ac]; exact h.pa, by rw [gi_upd _ _ _ _ f.bc]; exact h.pb, gi_same _ _ _ (by rw [h.len]; exact f.lc), by rw [gi_upd _ _ _ _ f.cd.symm]; exact h.pd, fun j h1 h2 h3 h4 => by rw [gi_upd _ _ _ _ h3]; exact h.rest j h1 h2 h3 h4⟩
theorem PQ.setD (h : PQ V a b c d L x y z w) (f : Four V a b c d) : PQ V a b c d (L.set d v) x y z v :=
  ⟨by rw [List.length_set]; exact h.len, by rw [gi_upd _ _ _ _ f.ad]; exact h.pa, by rw [gi_upd _ _ _ _ f.bd]; exact h.pb, by rw [gi_upd _ _ _ _ f.cd]; exact h.pc, gi_same _ _ _ (by rw [h.len]; exact f.ld), fun j h1 h2 h3 h4 => by rw [gi_upd _ _ _ _ h4]; exact h.rest j h1 h2 h3 h4⟩
theorem PQ.start : PQ V a b c d V (gi V a) (gi V b) (gi V c) (gi V d) := ⟨rfl, rfl, rfl, rfl, rfl, fun _ _ _ _ _ => rfl⟩
theorem PQ.eq {L' : List Int} (h : PQ V a b c d L x y z w) (h' : PQ V a b c d L' x y z w) : L = L' := by
  refine eqb_any_ext (by rw [h.len, h'.len]) (fun j _ => ?_)
  by_cases ha : j = a
  · subst ha; rw [h.pa, h'.pa]
  by_cases hb : j = b
  · subst hb; rw [h.pb, h'.pb]
  by_cases hc : j = c
  · subst hc; rw [h.pc, h'.pc]
  by_cases hd : j = d
  · subst hd; rw [h.pd, h'.pd]
  rw [h.rest j ha hb hc hd, h'.rest j ha hb hc hd]
theorem PQ.add_ab (h : PQ V a b c d L x y z w) (f : Four V a b c d) : PQ V a b c d (qadd L a b) (IntKind.u32.wrap (x + y)) y z w := by unfold qadd; rw [h.pa, h.pb]; exact h.setA f
theorem PQ.add_cd (h : PQ V a b c d L x y z w) (f : Four V a b c d) : PQ V a b c d (qadd L c d) x y (IntKind.u32.wrap (z + w)) w := by unfold qadd; rw [h.pc, h.pd]; exact h.setC f
theorem PQ.xor_da (h : PQ V a b c d L x y z w) (f : Four V a b c d) (r : Int) : PQ V a b c d (qxor L d a r) x y z (rot (bits .xor .u32 w x) r) := by unfold qxor; rw [h.pa, h.pd]; exact h.setD f
theorem PQ.xor_bc (h : PQ V a b c d L x y z w) (f : Four V a b c d) (r : Int) : PQ V a b c d (qxor L b c r) x (rot (bits .xor .u32 y z) r) z w := by unfold qxor; rw [h.pb, h.pc]; exact h.setB f
end
theorem plN_four {V : List Int} (hV : V.length = 16) (k : Nat) : Four V (plN k 0) (plN k 1) (plN k 2) (plN k 3) := by
  have h0 : plN k 0 < 4 := by unfold plN; omega
  have h1 : 4 ≤ plN k 1 ∧ plN k 1 < 8 := by unfold plN; omega
  have h2 : 8 ≤ plN k 2 ∧ plN k 2 < 12 := by unfold plN; omega
  have h3 : 12 ≤ plN k 3 ∧ plN k 3 < 16 := by unfold plN; omega
  constructor <;> omega
theorem qrR_qr {V : List Int} (hV : V.length = 16) (k : Nat) : qrR V k = qr V (plN k 0) (plN k 1) (plN k 2) (plN k 3) := by
  have f := plN_four hV k
  have h := (((((((PQ.start.add_ab f).xor_da f 16).add_cd f).xor_bc f 12).add_ab f).xor_da f 8).add_cd f).xor_bc f 7
  refine PQ.eq ?_ (L' := qr V (plN k 0) (plN k 1) (plN k 2) (plN k 3)) (by unfold qr; exact h)
  unfold qrR
  rw [svI_s, svI_s, svI_s, svI_s, svI_0]
  have h2 := (((PQ.start.setA (v := gi (q4 (gi V (plN k 0)) (gi V (plN k 1)) (gi V (plN k 2)) (gi V (plN k 3))) 0) f).setB (v := gi (q4 (gi V (plN k 0)) (gi V (plN k 1)) (gi V (plN k 2)) (gi V (plN k 3))) 1) f).setC (v := gi (q4 (gi V (plN k 0)) (gi V (plN k 1)) (gi V (plN k 2)) (gi V (plN k 3))) 2) f).setD (v := gi (q4 (gi V (plN k 0)) (gi V (plN k 1)) (gi V (plN k 2)) (gi V (plN k 3))) 3) f
  unfold q4 at h2 ⊢
  exact h2
theorem rdK_two {V : List Int} (hV : V.length = 16) : rdK V 8 = rdI (rdI V 0 4) 1 4 := by
  have l : ∀ k, (rdK V k).length = 16 := fun k => by rw [rdK_length, hV]
  have a1 : rdK V 1 = rdI V 0 1 := by rw [rdK_s V 0, rdI_s V 0 0, rdK_0, rdI_0, qrR_qr hV]; rfl
  have a2 : rdK V 2 = rdI V 0 2 := by rw [rdK_s V 1, rdI_s V 0 1, ← a1, qrR_qr (l 1)]; rfl
  have a3 : rdK V 3 = rdI V 0 3 := by rw [rdK_s V 2, rdI_s V 0 2, ← a2, qrR_qr (l 2)]; rfl
  have a4 : rdK V 4 = rdI V 0 4 := by rw [rdK_s V 3, rdI_s V 0 3, ← a3, qrR_qr (l 3)]; rfl
  have a5 : rdK V 5 = rdI (rdI V 0 4) 1 1 := by rw [rdK_s V 4, rdI_s _ 1 0, rdI_0, ← a4, qrR_qr (l 4)]; rfl
  have a6 : rdK V 6 = rdI (rdI V 0 4) 1 2 := by rw [rdK_s V 5, rdI_s _ 1 1, ← a5, qrR_qr (l 5)]; rfl
  have a7 : rdK V 7 = rdI (rdI V 0 4) 1 3 := by rw [rdK_s V 6, rdI_s _ 1 2, ← a6, qrR_qr (l 6)]; rfl
  rw [rdK_s V 7, rdI_s _ 1 3, ← a7, qrR_qr (l 7)]
  rfl
theorem rdT_rdO {V : List Int} (hV : V.length = 16) : ∀ r, rdT V r = rdO V (2 * r)
  | 0 => by rw [rdT_0, Nat.mul_zero, rdO_0]
  | r + 1 => by
    rw [rdT_s, rdK_two (by rw [rdT_length, hV]), rdT_rdO hV r, show 2 * (r + 1) = (2 * r + 1) + 1 by omega, rdO_s, rdO_s, show (2 * r) % 2 = 0 by omega, show (2 * r + 1) % 2 = 1 by omega]
theorem stR_stI {K : List Int} (h : Byts K) : ∀ i, stR K i = stI K i
  | 0 => by rw [stR_0, stI_0]
  | i + 1 => by rw [stR_s, stI_s, stR_stI h i, wrd_num (h.drop2 _)]
theorem snR_snI {B N : List Int} (h : Byts N) : ∀ i, snR B N i = snI B N i
  | 0 => by rw [snR_0, snI_0]
  | i + 1 => by rw [snR_s, snI_s, snR_snI h i, wrd_num (h.drop2 _)]
/-- A byte of a word. -/
@[irreducible] def byW (x : Int) (b : Nat) : Int := IntKind.u8.wrap (x.fdiv (2 ^ (min (IntKind.i64.wrap (8 * (b : Int))).toNat IntKind.u32.bits)))
theorem ptN_gi (L : List Int) (off : Nat) (x : Int) (hl : off + 4 ≤ L.length) (j : Nat) : ∀ k, k ≤ 4 → gi (ptN L off x k) j = if off ≤ j ∧ j < off + k then byW x (j - off) else gi L j
  | 0, _ => by rw [ptN_0, if_neg (by omega)]
  | k + 1, hk => by
    rw [ptN_s]
    by_cases h : j = off + k
    · subst h
      rw [gi_same _ _ _ (by simp; omega), if_pos (by omega), show off + k - off = k by omega]
      unfold byW
      rfl
    · rw [gi_upd _ _ _ _ h, ptN_gi L off x hl j k (by omega)]
      by_cases h2 : off ≤ j ∧ j < off + k
      · rw [if_pos h2, if_pos (by omega)]
      · rw [if_neg h2, if_neg (by omega)]
theorem ouI_gi (V S : List Int) (j : Nat) : ∀ i, i ≤ 16 → j < 4 * i → gi (ouI V S i) j = byW (IntKind.u32.wrap (gi V (j / 4) + gi S (j / 4))) (j % 4)
  | i + 1, hi, h => by
    rw [ouI_s, ptN_gi _ _ _ (by simp; omega) j 4 (by omega)]
    by_cases h2 : 4 * i ≤ j ∧ j < 4 * i + 4
    · rw [if_pos h2, show j - 4 * i = j % 4 by omega, show i = j / 4 by omega]
    · rw [if_neg h2, ouI_gi V S j i (by omega) (by omega)]
theorem ouR_gi (V S : List Int) (j : Nat) : ∀ i, i ≤ 64 → j < i → gi (ouR V S i) j = byW (IntKind.u32.wrap (gi V (j / 4) + gi S (j / 4))) (j % 4)
  | i + 1, hi, h => by
    rw [ouR_s]
    by_cases h2 : j = i
    · subst h2
      rw [gi_same _ _ _ (by simp; omega)]
      unfold byW
      rfl
    · rw [gi_upd _ _ _ _ h2, ouR_gi V S j i (by omega) (by omega)]
theorem chBR_eq {K N : List Int} (ct : Int) (hK : Byts K) (hN : Byts N) : chBR K ct N = chB K ct N := by
  have e : chSR K ct N = chS K ct N := by unfold chSR chS; rw [stR_stI hK, snR_snI hN]
  unfold chBR chB
  rw [e, rdT_rdO (by simp)]
  refine eqb_any_ext (by simp) (fun j hj => ?_)
  have hj' : j < 64 := by simpa using hj
  rw [ouR_gi _ _ j 64 (by decide) hj', ouI_gi _ _ j 16 (by decide) (by omega)]
theorem rblock_h (K : List Int) (ct : Int) (N : List Int) (hK : K.length = 32) (hN : N.length = 12) (bK : Byts K) (bN : Byts N) (w : World) :
    Calls Try.prog 52 #[.agg (ints .u8 K), .int .u32 ct, .agg (ints .u8 N)] w fun e w' => e = .returned (.agg (ints .u8 (chB K ct N))) ∧ Below w.heap.size w w' := by
  rw [← chBR_eq ct bK bN]
  exact rblock_any K ct N hK hN w
end Sp
end Go.Proofs.Ythbmlpiplfbehaa

namespace Go.Proofs.Ythbmlpiplfbehaa
set_option linter.unusedSimpArgs false
set_option linter.unusedVariables false
open Go Go.RowKit

namespace Sp
open F M
theorem AllO.ao {v : Value} {X : List Int} {m : Mem} {n : Nat} (h : AllO v X m) (hn : X.length = n) : ∃ q c, v = .slice q n c ∧ AO q n c X m := by
  subst hn
  rcases h with ⟨rfl, rfl, rfl⟩ | ⟨b, cap, J, T, rfl, rfl, hc⟩
  · exact ⟨none, 0, rfl, AO.nil⟩
  · exact ⟨_, cap, rfl, AO.row rfl (by omega)⟩
theorem xlimR (ct : Int) (n : Nat) (h0 : 0 ≤ ct) (h1 : ct + n < 4294967296) : decide (IntKind.i64.wrap (Int.tdiv (IntKind.i64.wrap ((n : Int) + 63)) 64) > IntKind.i64.wrap (4294967296 - IntKind.i64.wrap ct)) = false := by
  rw [decide_eq_false_iff_not, IntWalk.i64_in ct (by omega), IntWalk.i64_in (4294967296 - ct) (by omega), IntWalk.i64_in ((n : Int) + 63) (by omega), show ((n : Int) + 63) = ((n + 63 : Nat) : Int) by omega, show Int.tdiv ((n + 63 : Nat) : Int) 64 = (((n + 63) / 64 : Nat) : Int) from rfl, IntWalk.i64_in _ (by omega)]
  omega
theorem xo_step (K : List Int) (ct : Int) (N B : List Int) (k i : Nat) (hi : i < 64) (hm : 64 * k + i < B.length) : (xo K ct N B).take (64 * k + i) ++ [bits .xor .u8 (gi B (64 * k + i)) (gi (chB K (ct + (k : Int)) N) i)] = (xo K ct N B).take (64 * k + (i + 1)) := by
  rw [← strm_at K ct N k i hi, ← Nat.add_assoc, List.take_add_one, xo_get _ _ _ _ _ hm]
  rfl

set_option maxRecDepth 20000 in
set_option maxHeartbeats 2000000 in
theorem rxor_any (K : List Int) (ct : Int) (N : List Int) (hK : K.length = 32) (hN : N.length = 12) (bK : Byts K) (bN : Byts N) (p : Option Addr) (n c : Nat) (B : List Int) (h0 : 0 ≤ ct) (h1 : ct + n < 4294967296) (w : World) (hS : Sl w p n c B) :
    Calls Try.prog 44 #[.agg (ints .u8 K), .int .u32 ct, .agg (ints .u8 N), .slice p n c] w fun e w' => ∃ av abs, e = .returned (.tuple #[av, .int .i64 0]) ∧ AllO av (xo K ct N B) abs ∧ OwnM w [] w' abs := by
  have hlen := hS.len
  have hcap := hS.cap
  have tok_kb : True := trivial
  have tok_nb : True := trivial
  have tok_s2 : True := trivial
  refine (callE (mu := []) Try.func44 Try.ntmps44 Try.results44 (OwnM.start w) (fun v bs => ∃ av abs, v = .tuple #[av, .int .i64 0] ∧ AllO av (xo K ct N B) abs ∧ abs.Sublist bs) ?_).mono ?_
  · repeat (first | ((with_reducible refine SP.region (id := 0) ?_); refine SL.bx ?_; (first | (have _t := tok_kb; clear _t tok_kb; intro kb) | (have _t := tok_nb; clear _t tok_nb; intro nb) | (have _t := tok_s2; clear _t tok_s2; intro s2) | intro _); refine SL.bx ?_; (first | (have _t := tok_kb; clear _t tok_kb; intro kb) | (have _t := tok_nb; clear _t tok_nb; intro nb) | (have _t := tok_s2; clear _t tok_s2; intro s2) | intro _); refine SL.e tabOk ?_; refine SL.e tabOk ?_; (with_reducible refine SL.nil ?_)) | ((with_reducible refine SP.region (id := 1) ?_); refine SL.e tabOk ?_; refine SL.v (ValO.len tabOk (by rfl)) ?_; refine SL.e tabOk ?_; refine SL.e tabOk ?_; refine SL.e tabOk ?_; refine SL.e tabOk ?_; refine SL.e tabOk ?_; refine SL.c false tabOk ?_ (hb := xlimR ct n h0 h1); (with_reducible refine SL.nil ?_)) | ((with_reducible refine SP.region (id := 3) ?_); refine SL.e tabOk ?_; (with_reducible refine SL.nil ?_)) | ((with_reducible refine SP.region (id := 4) ?_); refine SL.e tabOk ?_; (with_reducible refine SL.nil ?_)) | ((with_reducible refine SP.seqK ?_); intro _ _) | (with_reducible refine thenK_normal ?_) | (refine useK (by assumption) ?_) | (with_reducible refine SP.block ?_) | (with_reducible refine SP.skip ?_) | ((with_reducible show SP _ _ _ (Code.cond _ _ _) _ _ _); first | (refine SP.condF rfl (by first | rfl | (simp only [decide_eq_false_iff_not, beq_eq_false_iff_ne, bne_eq_false_iff_eq]; first | done | omega)) ?_)))
    refine SP.loopN (fun k l bs => ∃ av abs, AllO av ((xo K ct N B).take (min (64 * k) n)) abs ∧ l = [nth l 0, .int .u32 ct, nth l 2, .slice p n c, .pointer (some ⟨kb, 0, none⟩), nth l 5, .pointer (some ⟨nb, 0, none⟩), nth l 7, nth l 8, nth l 9, av, .int .i64 ((64 * k : Nat)), nth l 12, nth l 13, nth l 14, nth l 15, nth l 16, nth l 17, nth l 18, nth l 19, nth l 20, nth l 21, nth l 22, nth l 23, nth l 24, nth l 25, nth l 26, nth l 27, nth l 28, nth l 29, nth l 30, nth l 31, nth l 32, nth l 33, nth l 34, nth l 35, nth l 36, nth l 37, nth l 38, nth l 39, nth l 40, nth l 41, nth l 42, nth l 43, nth l 44, nth l 45, nth l 46, nth l 47, nth l 48, nth l 49, nth l 50, nth l 51, nth l 52, nth l 53, nth l 54, nth l 55, nth l 56, nth l 57, nth l 58, nth l 59, nth l 60, nth l 61, nth l 62] ∧ bs = (nb, ints .u8 N, 44) :: (kb, ints .u8 K, 23) :: abs) ((n + 63) / 64) ⟨.slice none 0 0, [], by rw [Nat.mul_zero, Nat.zero_min, List.take_zero]; exact AllO.start, rfl, rfl⟩ ?_
    rintro k lfk _ hkk ⟨av, abs, hO, hlk, rfl⟩
    refine SP.cast hlk ?_
    clear hlk
    by_cases hltk : k < (n + 63) / 64
    · have h64 : 64 * k < n := by omega
      obtain ⟨sb, so, A, T, fz, rfl, hb, hA⟩ := hS.at_ (by omega)
      rw [show min (64 * k) n = 64 * k by omega] at hO
      have fa : IntKind.i64.wrap (((64 * k : Nat) : Int) + 64) = ((64 * (k + 1) : Nat) : Int) := by rw [IntWalk.i64_in _ (by omega)]; omega
      have fct : IntKind.u32.wrap (ct + IntKind.u32.wrap (IntKind.i64.wrap (Int.tdiv ((64 * k : Nat) : Int) 64))) = ct + (k : Int) := by rw [show Int.tdiv ((64 * k : Nat) : Int) 64 = ((64 * k / 64 : Nat) : Int) from rfl, Nat.mul_div_cancel_left k (by decide), IntWalk.i64_in _ (by omega), IntKind.wrap_u32, IntKind.wrap_u32]; omega
      obtain ⟨z, hz⟩ : ∃ z, z = min (64 * (k + 1)) n := ⟨_, rfl⟩
      repeat (first | ((with_reducible refine SP.region (id := 5) ?_); refine SL.e tabOk ?_; refine SL.e tabOk ?_; refine SL.v (ValO.len tabOk (by rfl)) ?_; refine SL.e tabOk ?_; (with_reducible refine SL.nil ?_)) | ((with_reducible refine SP.region (id := 7) ?_); refine SL.ldR tabOk ?_; refine SL.e tabOk ?_; refine SL.e tabOk ?_; refine SL.e tabOk ?_; refine SL.e tabOk ?_; refine SL.e tabOk ?_; refine SL.ldR tabOk ?_; refine SL.v (ValO.call ent_52 _ (by rw [← fct]; rfl) _ (fun w1 hw1 => rblock_h K (ct + (k : Int)) N hK hN bK bN w1)) ?_; refine SL.al zero_77 ?_; (first | (have _t := tok_kb; clear _t tok_kb; intro kb) | (have _t := tok_nb; clear _t tok_nb; intro nb) | (have _t := tok_s2; clear _t tok_s2; intro s2) | intro _); refine SL.stR tabOk ?_; (with_reducible refine SL.nil ?_)) | ((with_reducible refine SP.region (id := 8) ?_); refine SL.e tabOk ?_; refine SL.e tabOk ?_; (with_reducible refine SL.nil ?_)) | ((with_reducible refine SP.seqK ?_); intro _ _) | (with_reducible refine thenK_normal ?_) | (refine useK (by assumption) ?_) | (with_reducible refine SP.block ?_) | (with_reducible refine SP.skip ?_) | ((with_reducible show SP _ _ _ (Code.cond _ _ _) _ _ _); first | (refine SP.condT rfl (by first | rfl | (simp only [decide_eq_true_eq, beq_iff_eq, bne_iff_ne]; first | done | omega)) ?_)))
      refine SP.loopN (fun i l bs => ∃ av abs, AllO av ((xo K ct N B).take (64 * k + i)) abs ∧ l = [nth l 0, .int .u32 ct, nth l 2, .slice (some ⟨sb, so, none⟩) n c, .pointer (some ⟨kb, 0, none⟩), nth l 5, .pointer (some ⟨nb, 0, none⟩), nth l 7, nth l 8, nth l 9, av, .int .i64 ((64 * k : Nat)), .pointer (some ⟨s2, 0, none⟩), .int .i64 ((64 * k + i : Nat)), nth l 14, nth l 15, nth l 16, nth l 17, nth l 18, nth l 19, nth l 20, nth l 21, nth l 22, nth l 23, nth l 24, nth l 25, nth l 26, nth l 27, nth l 28, nth l 29, nth l 30, nth l 31, nth l 32, nth l 33, nth l 34, nth l 35, nth l 36, nth l 37, nth l 38, nth l 39, nth l 40, nth l 41, nth l 42, nth l 43, nth l 44, nth l 45, nth l 46, nth l 47, nth l 48, nth l 49, nth l 50, nth l 51, nth l 52, nth l 53, nth l 54, nth l 55, nth l 56, nth l 57, nth l 58, nth l 59, nth l 60, nth l 61, nth l 62] ∧ bs = (s2, ints .u8 (chB K (ct + (k : Int)) N), 77) :: (nb, ints .u8 N, 44) :: (kb, ints .u8 K, 23) :: abs) (z - 64 * k) ⟨av, abs, by rw [Nat.add_zero]; exact hO, rfl, rfl⟩ ?_
      clear hO
      rintro i lfi _ hki ⟨av, abs, hO, hli, rfl⟩
      refine SP.cast hli ?_
      clear hli
      by_cases hlti : i < z - 64 * k
      · have hi1 : IntKind.i64.wrap (((64 * k + i : Nat) : Int) + 1) = ((64 * k + (i + 1) : Nat) : Int) := by rw [IntWalk.i64_in _ (by omega)]; omega
        have fs : IntKind.i64.wrap (((64 * k + i : Nat) : Int) - ((64 * k : Nat) : Int)) = ((i : Nat) : Int) := by rw [IntWalk.i64_in _ (by omega)]; omega
        have hc1 : A[so + (64 * k + i)]? = some (.int .u8 (gi B (64 * k + i))) := hA _ (by omega)
        repeat (first | ((with_reducible refine SP.region (id := 9) ?_); refine SL.e tabOk ?_; refine SL.e tabOk ?_; refine SL.v (ValO.len tabOk (by rfl)) ?_; (first | (refine SL.c true tabOk ?_) | (refine SL.c false tabOk ?_) | (refine SL.e tabOk ?_)); refine SL.e tabOk ?_; (first | (refine SL.gT ?_; refine SL.e tabOk ?_) | refine SL.gF ?_); (first | (refine SL.gT ?_; refine SL.e tabOk ?_) | refine SL.gF ?_); (first | (refine SL.gT ?_; refine SL.e tabOk ?_) | refine SL.gF ?_); (first | (refine SL.gT ?_; (first | (refine SL.c true tabOk ?_) | (refine SL.c false tabOk ?_) | (refine SL.e tabOk ?_))) | refine SL.gF ?_); refine SL.e tabOk ?_; (with_reducible refine SL.nil ?_)) | ((with_reducible refine SP.region (id := 10) ?_); refine SL.sub ?_ (List.Sublist.cons _ (List.Sublist.refl _)); refine SL.e tabOk ?_; refine SL.e tabOk ?_; refine SL.e tabOk ?_; (with_reducible refine SL.nil ?_)) | ((with_reducible show SP _ _ _ (Code.region _ _ true) _ _ _); first | (refine SPa (id := 11) [11, 12] [] ([]) [0, 1, 2, 3, 4, 5, 6, 7, 8, 9, 10, 11, 12, 13] follows ?_; refine SF.p tabOk ?_; refine SF.p tabOk ?_; refine SF.p tabOk ?_; refine SF.ixS tabOk ?_ (hm := by first | (simp only [fs, Nat.zero_add, Nat.mul_one, Nat.one_mul, Int.toNat_natCast]; done) | (simp only [fs, Nat.zero_add, Nat.mul_one, Nat.one_mul, Int.toNat_natCast]; rfl) | rfl); (first | (refine SF.ldI tabOk ?_) | (refine SF.ldC tabOk ?_ (hv := by first | exact hc1))); refine SF.p tabOk ?_; refine SF.p tabOk ?_; refine SF.e tabOk ?_; refine SF.ixA tabOk ?_ (hm := by first | (simp only [fs, Nat.zero_add, Nat.mul_one, Nat.one_mul, Int.toNat_natCast]; done) | (simp only [fs, Nat.zero_add, Nat.mul_one, Nat.one_mul, Int.toNat_natCast]; rfl) | rfl); (first | (refine SF.ldI tabOk ?_) | (refine SF.ldC tabOk ?_ (hv := by first | exact hc1))); refine SF.e tabOk ?_; refine SF.build1 tabOk zero_u8 (fun yb => ?_); refine SF.appAny tabOk (m := 1) (c := 1) hO (Lies.whole [_]) rfl (by decide) (RdA.own g0) (by decide) (by rw [List.length_take]; omega) (pre := [_, _, _, _]) (fun av2 abs2 hO2 => ?_) zero_u8; refine SF.p tabOk ?_; refine SF.done ?_)) | ((with_reducible refine SP.seqK ?_); intro _ _) | (with_reducible refine thenK_normal ?_) | (refine useK (by assumption) ?_) | (with_reducible refine SP.block ?_) | (with_reducible refine SP.skip ?_) | ((with_reducible show SP _ _ _ (Code.cond _ _ _) _ _ _); first | (refine SP.condT rfl (by first | rfl | (simp only [decide_eq_true_eq, beq_iff_eq, bne_iff_ne]; first | done | omega)) ?_)))
        simp only [hi1]
        rw [xo_step K ct N B k i (by omega) (by omega)] at hO2
        exact ⟨hlti, av2, abs2, hO2, rfl, rfl⟩
      · have hendi : i = z - 64 * k := by omega
        replace hendi := Lib.hid hendi
        have hz2 := hendi.out
        have hO3 : AllO av ((xo K ct N B).take (min (64 * (k + 1)) n)) abs := by rwa [show 64 * k + i = min (64 * (k + 1)) n by omega] at hO
        by_cases hzz : 64 * k + i < n
        · repeat (first | ((with_reducible refine SP.region (id := 6) ?_); refine SL.sub ?_ (List.Sublist.cons _ (List.Sublist.refl _)); refine SL.e tabOk ?_; refine SL.e tabOk ?_; refine SL.e tabOk ?_; (with_reducible refine SL.nil ?_)) | ((with_reducible refine SP.region (id := 9) ?_); refine SL.e tabOk ?_; refine SL.e tabOk ?_; refine SL.v (ValO.len tabOk (by rfl)) ?_; (first | (refine SL.c true tabOk ?_) | (refine SL.c false tabOk ?_) | (refine SL.e tabOk ?_)); refine SL.e tabOk ?_; (first | (refine SL.gT ?_; refine SL.e tabOk ?_) | refine SL.gF ?_); (first | (refine SL.gT ?_; refine SL.e tabOk ?_) | refine SL.gF ?_); (first | (refine SL.gT ?_; refine SL.e tabOk ?_) | refine SL.gF ?_); (first | (refine SL.gT ?_; (first | (refine SL.c true tabOk ?_) | (refine SL.c false tabOk ?_) | (refine SL.e tabOk ?_))) | refine SL.gF ?_); refine SL.e tabOk ?_; (with_reducible refine SL.nil ?_)) | ((with_reducible refine SP.seqK ?_); intro _ _) | (with_reducible refine thenK_normal ?_) | (refine useK (by assumption) ?_) | (with_reducible refine SP.exit ?_) | ((with_reducible show SP _ _ _ (Code.cond _ _ _) _ _ _); first | (refine SP.condF rfl (by first | rfl | (simp only [decide_eq_false_iff_not, beq_eq_false_iff_ne, bne_eq_false_iff_eq]; first | done | omega)) ?_)))
          simp only [fa]
          exact ⟨hltk, av, abs, hO3, rfl, rfl⟩
        · repeat (first | ((with_reducible refine SP.region (id := 6) ?_); refine SL.sub ?_ (List.Sublist.cons _ (List.Sublist.refl _)); refine SL.e tabOk ?_; refine SL.e tabOk ?_; refine SL.e tabOk ?_; (with_reducible refine SL.nil ?_)) | ((with_reducible refine SP.region (id := 9) ?_); refine SL.e tabOk ?_; refine SL.e tabOk ?_; refine SL.v (ValO.len tabOk (by rfl)) ?_; (first | (refine SL.c true tabOk ?_) | (refine SL.c false tabOk ?_) | (refine SL.e tabOk ?_)); refine SL.e tabOk ?_; (first | (refine SL.gT ?_; refine SL.e tabOk ?_) | refine SL.gF ?_); (first | (refine SL.gT ?_; refine SL.e tabOk ?_) | refine SL.gF ?_); (first | (refine SL.gT ?_; refine SL.e tabOk ?_) | refine SL.gF ?_); (first | (refine SL.gT ?_; (first | (refine SL.c true tabOk ?_) | (refine SL.c false tabOk ?_) | (refine SL.e tabOk ?_))) | refine SL.gF ?_); refine SL.e tabOk ?_; (with_reducible refine SL.nil ?_)) | ((with_reducible refine SP.seqK ?_); intro _ _) | (with_reducible refine thenK_normal ?_) | (refine useK (by assumption) ?_) | (with_reducible refine SP.exit ?_) | ((with_reducible show SP _ _ _ (Code.cond _ _ _) _ _ _); first | (refine SP.condF rfl (by first | rfl | (simp only [decide_eq_false_iff_not, beq_eq_false_iff_ne, bne_eq_false_iff_eq]; first | done | omega)) ?_)))
          simp only [fa]
          exact ⟨hltk, av, abs, hO3, rfl, rfl⟩
    · have hendk : k = (n + 63) / 64 := by omega
      replace hendk := Lib.hid hendk
      have hmm : min (64 * k) n = n := by have := hendk.out; omega
      rw [hmm, List.take_of_length_le (by simp [hlen])] at hO
      repeat (first | ((with_reducible refine SP.region (id := 5) ?_); refine SL.e tabOk ?_; refine SL.e tabOk ?_; refine SL.v (ValO.len tabOk (by rfl)) ?_; refine SL.e tabOk ?_; (with_reducible refine SL.nil ?_)) | ((with_reducible refine SP.region (id := 12) ?_); refine SL.e tabOk ?_; refine SL.e tabOk ?_; refine SL.e tabOk ?_; (with_reducible refine SL.nil ?_)) | ((with_reducible refine SP.seqK ?_); intro _ _) | (with_reducible refine thenK_normal ?_) | (refine useK (by assumption) ?_) | (with_reducible refine SP.ret ?_) | (with_reducible refine SP.exit ?_) | ((with_reducible show SP _ _ _ (Code.cond _ _ _) _ _ _); first | (refine SP.condF rfl (by first | rfl | (simp only [decide_eq_false_iff_not, beq_eq_false_iff_ne, bne_eq_false_iff_eq]; first | done | omega)) ?_)))
      exact doneK.mk rfl (ResO.tmp2 rfl rfl) ⟨av, abs, rfl, hO, by first | exact (List.sublist_cons_self _ _).trans (List.sublist_cons_self _ _) | simp⟩
  · rintro e w' ⟨v, bs', rfl, ⟨av, abs, rfl, ha, hs⟩, hw'⟩
    exact ⟨av, abs, rfl, ha, hw'.sub hs⟩
end Sp

end Go.Proofs.Ythbmlpiplfbehaa

namespace Go.Proofs.Ythbmlpiplfbehaa
set_option linter.unusedSimpArgs false
set_option linter.unusedVariables false
open Go Go.RowKit

namespace Sp
open F M
set_option maxRecDepth 20000 in
set_option maxHeartbeats 1000000 in
theorem filled_any {av : Value} {X : List Int} {abs pre : Mem} (hO : AllO av X abs) (q : Option Addr) (n c : Nat) (B : List Int) (hlB : B.length = n) {w0 w : World} {mu : List Nat} (hw : OwnM w0 mu w (pre ++ abs)) (hSB : ∀ w1, OwnM w (abs.map (·.1)) w1 ([] ++ abs) → Sl w1 q n c B) (hmax : X.length + n ≤ 100000) :
    Calls Try.prog 53 #[av, .slice q n c] w fun e w' => ∃ av' abs', e = .returned av' ∧ AllO av' (X ++ B ++ List.replicate (padN n) 0) abs' ∧ OwnM w (abs.map (·.1)) w' abs' := by
  refine (callE (mu := abs.map (·.1)) Try.func53 Try.ntmps53 Try.results53 (OwnM.startL hw) (fun v bs => ∃ abs', AllO v (X ++ B ++ List.replicate (padN n) 0) abs' ∧ bs = abs') ?_).mono ?_
  · have hp16 := padN_le n
    repeat (first | ((with_reducible refine SP.region (id := 0) ?_); refine SL.e tabOk ?_; (with_reducible refine SL.nil ?_)) | ((with_reducible refine SP.region (id := 1) ?_); refine SL.e tabOk ?_; refine SL.e tabOk ?_; refine SL.appS tabOk hO (pre := []) (fun w1 hw1 => hSB w1 hw1) hlB (by omega) (fun av1 abs1 hO1 => ?_) zero_u8; refine SL.e tabOk ?_; (with_reducible refine SL.nil ?_)) | ((with_reducible refine SP.region (id := 2) ?_); refine SL.e tabOk ?_; refine SL.v (ValO.len tabOk (by rfl)) ?_; refine SL.e tabOk ?_; (with_reducible refine SL.nil ?_)) | ((with_reducible refine SP.seqK ?_); intro _ _) | (with_reducible refine thenK_normal ?_) | (refine useK (by assumption) ?_) | (with_reducible refine SP.block ?_))
    refine SP.loopN (fun j l bs => ∃ av2 abs2, AllO av2 (X ++ B ++ List.replicate j 0) abs2 ∧ l = [av2, .slice q n c, nth l 2, nth l 3, nth l 4, .int .i64 ((n + j : Nat)), nth l 6, nth l 7, nth l 8, nth l 9, nth l 10, nth l 11, nth l 12, nth l 13, nth l 14, nth l 15, nth l 16, nth l 17, nth l 18, nth l 19] ∧ bs = abs2) (padN n) ⟨av1, abs1, by rw [List.replicate_zero, List.append_nil]; exact hO1, rfl, rfl⟩ ?_
    rintro j lfj _ hkj ⟨av2, abs2, hO2, hlj, rfl⟩
    refine SP.cast hlj ?_
    clear hlj
    have ht : Int.tmod ((n + j : Nat) : Int) 16 = (((n + j) % 16 : Nat) : Int) := rfl
    have hpn : padN n = (16 - n % 16) % 16 := rfl
    by_cases hltj : j < padN n
    · have hj1 : IntKind.i64.wrap (((n + j : Nat) : Int) + 1) = ((n + (j + 1) : Nat) : Int) := by rw [IntWalk.i64_in _ (by omega)]; omega
      repeat (first | ((with_reducible refine SP.region (id := 3) ?_); refine SL.e tabOk ?_; refine SL.e tabOk ?_; refine SL.c true tabOk ?_ (hb := by simp only [bne_iff_ne, ne_eq]; omega); (with_reducible refine SL.nil ?_)) | ((with_reducible refine SP.region (id := 4) ?_); refine SL.sub ?_ (List.Sublist.cons _ (List.Sublist.refl _)); refine SL.e tabOk ?_; refine SL.e tabOk ?_; refine SL.e tabOk ?_; (with_reducible refine SL.nil ?_)) | ((with_reducible refine SP.region (id := 5) ?_); refine SL.e tabOk ?_; refine SL.build1 tabOk zero_u8 (fun yb => ?_); refine SL.appS tabOk (m := 1) (c := 1) (M := [0]) hO2 (pre := [_]) (fun w1 hw1 => Sl.of (B := [0]) hw1 (RdA.own g0) (Lies.whole [0]) rfl (by decide)) rfl (by simp only [List.length_append, List.length_replicate]; omega) (fun av3 abs3 hO3 => ?_) zero_u8; refine SL.e tabOk ?_; (with_reducible refine SL.nil ?_)) | ((with_reducible refine SP.seqK ?_); intro _ _) | (with_reducible refine thenK_normal ?_) | (refine useK (by assumption) ?_) | (with_reducible refine SP.block ?_) | (with_reducible refine SP.skip ?_) | ((with_reducible show SP _ _ _ (Code.cond _ _ _) _ _ _); first | (refine SP.condT rfl (by first | rfl | (simp only [decide_eq_true_eq, beq_iff_eq, bne_iff_ne]; first | done | omega)) ?_)))
      simp only [hj1]
      exact ⟨hltj, av3, abs3, by rw [List.replicate_succ', ← List.append_assoc]; exact hO3, rfl, rfl⟩
    · have hendj : j = padN n := by omega
      repeat (first | ((with_reducible refine SP.region (id := 3) ?_); refine SL.e tabOk ?_; refine SL.e tabOk ?_; refine SL.c false tabOk ?_ (hb := by simp only [bne_eq_false_iff_eq]; omega); (with_reducible refine SL.nil ?_)) | ((with_reducible refine SP.region (id := 6) ?_); refine SL.e tabOk ?_; refine SL.e tabOk ?_; (with_reducible refine SL.nil ?_)) | ((with_reducible refine SP.seqK ?_); intro _ _) | (with_reducible refine thenK_normal ?_) | (refine useK (by assumption) ?_) | (with_reducible refine SP.ret ?_) | (with_reducible refine SP.exit ?_) | ((with_reducible show SP _ _ _ (Code.cond _ _ _) _ _ _); first | (refine SP.condF rfl (by first | rfl | (simp only [decide_eq_false_iff_not, beq_eq_false_iff_ne, bne_eq_false_iff_eq]; first | done | omega)) ?_)))
      subst hendj
      exact doneK.mk rfl (ResO.tmp rfl) ⟨_, hO2, rfl⟩
  · rintro e w' ⟨v, bs', rfl, ⟨abs', ha, rfl⟩, hw'⟩
    exact ⟨v, bs', rfl, ha, hw'⟩

set_option maxRecDepth 20000 in
set_option maxHeartbeats 1000000 in
theorem long_any {av : Value} {X : List Int} {abs pre : Mem} (hO : AllO av X abs) (a : Nat) {w0 w : World} {mu : List Nat} (hw : OwnM w0 mu w (pre ++ abs)) (hmax : X.length ≤ 100000) :
    Calls Try.prog 54 #[av, .int .i64 ((a : Nat) : Int)] w fun e w' => ∃ av' abs', e = .returned av' ∧ AllO av' (X ++ (List.range 8).map (lb8 a)) abs' ∧ OwnM w (abs.map (·.1)) w' abs' := by
  refine (callE (mu := abs.map (·.1)) Try.func54 Try.ntmps54 Try.results54 (OwnM.startL hw) (fun v bs => ∃ abs', AllO v (X ++ (List.range 8).map (lb8 a)) abs' ∧ bs = abs') ?_).mono ?_
  · repeat (first | ((with_reducible refine SP.region (id := 0) ?_); refine SL.e tabOk ?_; (with_reducible refine SL.nil ?_)) | ((with_reducible refine SP.region (id := 1) ?_); refine SL.e tabOk ?_; (with_reducible refine SL.nil ?_)) | ((with_reducible refine SP.seqK ?_); intro _ _) | (with_reducible refine thenK_normal ?_) | (refine useK (by assumption) ?_) | (with_reducible refine SP.block ?_))
    refine SP.loopN (fun k l bs => ∃ av2 abs2, AllO av2 (X ++ ((List.range 8).map (lb8 a)).take k) abs2 ∧ l = [av2, .int .i64 ((a : Nat) : Int), nth l 2, nth l 3, nth l 4, .int .i64 ((k : Nat)), nth l 6, nth l 7, nth l 8, nth l 9, nth l 10, nth l 11, nth l 12, nth l 13, nth l 14, nth l 15, nth l 16, nth l 17, nth l 18] ∧ bs = abs2) 8 ⟨av, abs, by rw [List.take_zero, List.append_nil]; exact hO, rfl, rfl⟩ ?_
    rintro k lfk _ hkk ⟨av2, abs2, hO2, hlk, rfl⟩
    refine SP.cast hlk ?_
    clear hlk
    by_cases hltk : k < 8
    · have hk1 : IntKind.i64.wrap ((k : Int) + 1) = ((k + 1 : Nat) : Int) := by rw [IntWalk.i64_in _ (by omega)]; omega
      have f8 : IntKind.i64.wrap (8 * (k : Int)) = 8 * (k : Int) := IntWalk.i64_in _ (by omega)
      repeat (first | ((with_reducible refine SP.region (id := 2) ?_); refine SL.e tabOk ?_; refine SL.e tabOk ?_; (with_reducible refine SL.nil ?_)) | ((with_reducible refine SP.region (id := 3) ?_); refine SL.sub ?_ (List.Sublist.cons _ (List.Sublist.refl _)); refine SL.e tabOk ?_; refine SL.e tabOk ?_; refine SL.e tabOk ?_; (with_reducible refine SL.nil ?_)) | ((with_reducible refine SP.region (id := 4) ?_); refine SL.e tabOk ?_; refine SL.e tabOk ?_; refine SL.e tabOk ?_; refine SL.e tabOk ?_; refine SL.sh ?_; refine SL.e tabOk ?_; refine SL.build1 tabOk zero_u8 (fun yb => ?_); refine SL.appS tabOk (m := 1) (c := 1) (M := [_]) hO2 (pre := [_]) (fun w1 hw1 => Sl.of hw1 (RdA.own g0) (Lies.whole [_]) rfl (Nat.le_refl 1)) rfl (by simp only [List.length_append, List.length_take, List.length_map, List.length_range]; omega) (fun av3 abs3 hO3 => ?_) zero_u8; refine SL.e tabOk ?_; (with_reducible refine SL.nil ?_)) | ((with_reducible refine SP.seqK ?_); intro _ _) | (with_reducible refine thenK_normal ?_) | (refine useK (by assumption) ?_) | (with_reducible refine SP.block ?_) | (with_reducible refine SP.skip ?_) | ((with_reducible show SP _ _ _ (Code.cond _ _ _) _ _ _); first | (refine SP.condT rfl (by first | rfl | (simp only [decide_eq_true_eq, beq_iff_eq, bne_iff_ne]; first | done | omega)) ?_)))
      simp only [hk1]
      exact ⟨hltk, av3, abs3, by rw [List.take_add_one, show ((List.range 8).map (lb8 a))[k]? = some (lb8 a k) by simp [hltk]]; rw [List.append_assoc, show (IntKind.u8.wrap ((a : Int).fdiv (2 ^ min (IntKind.i64.wrap (8 * (k : Int))).toNat IntKind.i64.bits)) : Int) = lb8 a k by unfold lb8; rfl] at hO3; exact hO3, rfl, rfl⟩
    · have hendk : k = 8 := by omega
      replace hendk := Lib.hid hendk
      repeat (first | ((with_reducible refine SP.region (id := 2) ?_); refine SL.e tabOk ?_; refine SL.e tabOk ?_; (with_reducible refine SL.nil ?_)) | ((with_reducible refine SP.seqK ?_); intro _ _) | (with_reducible refine thenK_normal ?_) | (refine useK (by assumption) ?_) | (with_reducible refine SP.exit ?_) | ((with_reducible show SP _ _ _ (Code.cond _ _ _) _ _ _); first | (refine SP.condF rfl (by first | rfl | (simp only [decide_eq_false_iff_not, beq_eq_false_iff_ne, bne_eq_false_iff_eq]; first | done | omega)) ?_)))
      have hq := hendk.out; clear hendk; subst hq
      rw [List.take_of_length_le (by simp)] at hO2
      repeat (first | ((with_reducible refine SP.region (id := 5) ?_); refine SL.e tabOk ?_; refine SL.e tabOk ?_; (with_reducible refine SL.nil ?_)) | (with_reducible refine thenK_normal ?_) | (refine useK (by assumption) ?_) | (with_reducible refine SP.ret ?_))
      exact doneK.mk rfl (ResO.tmp rfl) ⟨_, hO2, rfl⟩
  · rintro e w' ⟨v, bs', rfl, ⟨abs', ha, rfl⟩, hw'⟩
    exact ⟨v, bs', rfl, ha, hw'⟩

theorem Sl.far {w w1 w2 : World} {p : Option Addr} {n c : Nat} {A : List Int} {pre abs bs2 : Mem} (h : Sl w p n c A) (h1 : OwnM w [] w1 (pre ++ abs)) (h2 : OwnM w1 (abs.map (·.1)) w2 bs2) : Sl w2 p n c A :=
  ⟨h.len, h.cap, fun h0 => by
    obtain ⟨sb, off, A, T, fz, e, hh, hl⟩ := h.at_ h0
    have hlt := (Array.getElem?_eq_some_iff.1 hh).1
    refine ⟨sb, off, A, T, fz, e, ?_, hl⟩
    rw [h2.rest sb (Nat.lt_of_lt_of_le hlt h1.size) (fun hm => by
      obtain ⟨p, hp, rfl⟩ := List.mem_map.1 hm
      have := (h1.here p (List.mem_append_right _ hp)).1
      simp at this
      omega), h1.rest sb hlt (by simp)]
    exact hh⟩
theorem rtag_m {K : List Int} (hK : K.length = 32) (hKb : Byts K) {w : World} {pre m : Mem} {av : Value} {X : List Int} (hO : AllO av X m) (hX : Byts X) (hmax : X.length ≤ 140737488355328) {w1 : World} (hw : OwnM w [] w1 (pre ++ m)) :
    Calls Try.prog 55 #[.agg (ints .u8 K), av] w1 fun e w' => e = .returned (.agg (ints .u8 (tg K X))) ∧ Below w1.heap.size w1 w' := by
  obtain ⟨q, c, rfl, hS⟩ := hO.sl hw
  have := rtag_any K hK q X.length c X w1 hS hmax
  rw [rtag_val hKb hX] at this
  unfold tg
  exact this
@[irreducible] def onP (K N : List Int) (k : Nat) : List Int := (onceK K N).take k ++ List.replicate (32 - k) 0
theorem onP_0 (K N : List Int) : onP K N 0 = List.replicate 32 0 := by unfold onP; simp
theorem onP_all (K N : List Int) : onP K N 32 = onceK K N := by unfold onP; rw [List.take_of_length_le (by simp)]; simp
theorem onP_length (K N : List Int) (k : Nat) (hk : k ≤ 32) : (onP K N k).length = 32 := by unfold onP; simp; omega
theorem onP_s (K N : List Int) (k : Nat) (hk : k < 32) : (onP K N k).set k (gi (chB K 0 N) k) = onP K N (k + 1) := by
  have h : (onceK K N)[k]? = some (gi (chB K 0 N) k) := by
    unfold onceK gi
    rw [List.getElem?_take, if_pos hk, List.getD_eq_getElem?_getD, List.getElem?_eq_getElem (by simp; omega)]
    rfl
  unfold onP
  exact set_take (onceK_length K N) hk h
theorem aeM_eq (A B : List Int) (n m : Nat) (hA : A.length = n) (hB : B.length = m) : [] ++ A ++ List.replicate (padN n) 0 ++ B ++ List.replicate (padN m) 0 ++ (List.range 8).map (lb8 n) ++ (List.range 8).map (lb8 m) = aeM A B := by
  unfold aeM lnF
  rw [aeC_2, aeC_1, aeC_0, hA, hB, List.append_assoc (_ ++ _)]
theorem aeM_byts {A B : List Int} (hA : Byts A) (hB : Byts B) : Byts (aeM A B) := by unfold aeM; exact (aeC_byts hA hB 2).app2 (lnF_byts _ _)
theorem aeM_len (A B : List Int) : (aeM A B).length ≤ A.length + B.length + 46 := by
  have h1 := padN_le A.length
  have h2 := padN_le B.length
  rw [← aeM_eq A B _ _ rfl rfl]
  simp
  omega
theorem SL.clL {P : Program} {ops : Array Oper} {rest : List Oper} {dst : Option Tmp} {ty : TypeId} {pos : String} {af : Array Edge} {l : List Value} {w0 : World} {mu : List Nat} {bs : Mem} {Q : ExitP} {f : FuncId} {args : List Operand} {ats : Array TypeId} (hent : ∀ (A : Array Value) (w : World), (callFunc f A).run P w = .ok (.enter f A) w) {vals : List Value} (hv : args.map (evL l) = vals)
    {V : Value → Value} {X : List Int} {l' : Value → List Value} {bs' : Mem → Mem} (hc : ∀ w, OwnM w0 mu w bs → Calls P f vals.toArray w fun e w' => ∃ av abs, e = .returned (V av) ∧ AllO av X abs ∧ OwnM w [] w' abs)
    (h : ∀ av abs, AllO av X abs → SL P ops w0 mu rest Q (l' av) (bs' abs)) (hbs : ∀ abs, bs ++ abs = bs' abs := by intro _; first | (dsimp only [List.cons_append, List.nil_append]; done) | (dsimp only [List.cons_append, List.nil_append]; rfl))
    (hp : ∀ v, putL l dst (V v) = l' v := by intro _; first | (dsimp only [putL, setNth]; done) | (dsimp only [putL, setNth]; rfl)) :
    SL P ops w0 mu (⟨dst, .call { callee := .value (.func f), args := args.toArray, argTypes := ats }, ty, pos, af, none⟩ :: rest) Q l bs := by
  refine SL.callG hent hv (R := fun v' bs2 => ∃ av abs, AllO av X abs ∧ v' = V av ∧ bs2 = bs' abs) (fun w hw => (hc w hw).mono fun e w' hx => ?_) (by rintro v' bs2 ⟨av, abs, ha, rfl, rfl⟩; rw [hp]; exact h av abs ha)
  obtain ⟨av, abs, rfl, ha, hw'⟩ := hx
  exact ⟨_, _, rfl, ⟨av, abs, ha, rfl, rfl⟩, by rw [← hbs]; exact OwnM.freshL hw hw'⟩
theorem SF.clL {P : Program} {ops : Array Oper} {rest : List (Nat × Oper)} {dst : Option Tmp} {ty : TypeId} {pos : String} {af : Array Edge} {l : List Value} {w0 : World} {mu : List Nat} {bs : Mem} {Q : ExitP} {E D : List Nat} {i0 : Nat} {f : FuncId} {args : List Operand} {ats : Array TypeId} (hent : ∀ (A : Array Value) (w : World), (callFunc f A).run P w = .ok (.enter f A) w) {vals : List Value} (hv : args.map (evL l) = vals)
    {V : Value → Value} {X : List Int} {l' : Value → List Value} {bs' : Mem → Mem} (hc : ∀ w, OwnM w0 mu w bs → Calls P f vals.toArray w fun e w' => ∃ av abs, e = .returned (V av) ∧ AllO av X abs ∧ OwnM w [] w' abs)
    (h : ∀ av abs, AllO av X abs → SF P ops w0 mu E D [] rest Q (l' av) (bs' abs)) (hE : E.contains i0 = true := by rfl) (hbs : ∀ abs, bs ++ abs = bs' abs := by intro _; first | (dsimp only [List.cons_append, List.nil_append]; done) | (dsimp only [List.cons_append, List.nil_append]; rfl))
    (hp : ∀ v, putL l dst (V v) = l' v := by intro _; first | (dsimp only [putL, setNth]; done) | (dsimp only [putL, setNth]; rfl)) :
    SF P ops w0 mu E D [] ((i0, ⟨dst, .call { callee := .value (.func f), args := args.toArray, argTypes := ats }, ty, pos, af, none⟩) :: rest) Q l bs := by
  refine SF.callG hE hent hv (R := fun v' bs2 => ∃ av abs, AllO av X abs ∧ v' = V av ∧ bs2 = bs' abs) (fun w hw => (hc w hw).mono fun e w' hx => ?_) (fun _ _ _ => Kept.nil) (by rintro v' bs2 ⟨av, abs, ha, rfl, rfl⟩; rw [hp]; exact h av abs ha)
  obtain ⟨av, abs, rfl, ha, hw'⟩ := hx
  exact ⟨_, _, rfl, ⟨av, abs, ha, rfl, rfl⟩, by rw [← hbs]; exact OwnM.freshL hw hw'⟩

set_option maxRecDepth 20000 in
set_option maxHeartbeats 2000000 in
theorem raetag_any (K N : List Int) (hK : K.length = 32) (hN : N.length = 12) (bK : Byts K) (bN : Byts N) (p q : Option Addr) (n c m d : Nat) (A B : List Int) (bA : Byts A) (bB : Byts B) (hn : n ≤ 8192) (hm : m ≤ 8192) (w : World) (SA : Sl w p n c A) (SB : Sl w q m d B) :
    Calls Try.prog 45 #[.agg (ints .u8 K), .agg (ints .u8 N), .slice p n c, .slice q m d] w fun e w' => e = .returned (.agg (ints .u8 (aeT K N A B))) ∧ Below w.heap.size w w' := by
  have tok_kb : True := trivial
  have tok_nb : True := trivial
  have tok_rb : True := trivial
  have tok_cb : True := trivial
  have tok_bb : True := trivial
  refine pureE Try.func45 Try.ntmps45 Try.results45 ?_
  repeat (first | ((with_reducible refine SP.region (id := 0) ?_); refine SL.bx ?_; (first | (have _t := tok_kb; clear _t tok_kb; intro kb) | (have _t := tok_nb; clear _t tok_nb; intro nb) | (have _t := tok_rb; clear _t tok_rb; intro rb) | (have _t := tok_cb; clear _t tok_cb; intro cb) | (have _t := tok_bb; clear _t tok_bb; intro bb) | intro _); refine SL.bx ?_; (first | (have _t := tok_kb; clear _t tok_kb; intro kb) | (have _t := tok_nb; clear _t tok_nb; intro nb) | (have _t := tok_rb; clear _t tok_rb; intro rb) | (have _t := tok_cb; clear _t tok_cb; intro cb) | (have _t := tok_bb; clear _t tok_bb; intro bb) | intro _); refine SL.al zero_72 ?_; (first | (have _t := tok_kb; clear _t tok_kb; intro kb) | (have _t := tok_nb; clear _t tok_nb; intro nb) | (have _t := tok_rb; clear _t tok_rb; intro rb) | (have _t := tok_cb; clear _t tok_cb; intro cb) | (have _t := tok_bb; clear _t tok_bb; intro bb) | intro _); (with_reducible refine SL.nil ?_)) | ((with_reducible refine SP.region (id := 1) ?_); refine SL.al zero_23 ?_; (first | (have _t := tok_kb; clear _t tok_kb; intro kb) | (have _t := tok_nb; clear _t tok_nb; intro nb) | (have _t := tok_rb; clear _t tok_rb; intro rb) | (have _t := tok_cb; clear _t tok_cb; intro cb) | (have _t := tok_bb; clear _t tok_bb; intro bb) | intro _); (with_reducible refine SL.nil ?_)) | ((with_reducible refine SP.region (id := 2) ?_); refine SL.ldR tabOk ?_; refine SL.ldR tabOk ?_; refine SL.v (ValO.call ent_52 _ rfl _ (fun w1 hw1 => rblock_h K 0 N hK hN bK bN w1)) ?_; refine SL.al zero_77 ?_; (first | (have _t := tok_kb; clear _t tok_kb; intro kb) | (have _t := tok_nb; clear _t tok_nb; intro nb) | (have _t := tok_rb; clear _t tok_rb; intro rb) | (have _t := tok_cb; clear _t tok_cb; intro cb) | (have _t := tok_bb; clear _t tok_bb; intro bb) | intro _); refine SL.stR tabOk ?_; (with_reducible refine SL.nil ?_)) | ((with_reducible refine SP.region (id := 3) ?_); refine SL.e tabOk ?_; (with_reducible refine SL.nil ?_)) | ((with_reducible refine SP.seqK ?_); intro _ _) | (with_reducible refine thenK_normal ?_) | (refine useK (by assumption) ?_) | (with_reducible refine SP.block ?_))
  refine SP.loopN (fun k l bs => l = [nth l 0, nth l 1, .slice p n c, .slice q m d, nth l 4, nth l 5, nth l 6, nth l 7, .pointer (some ⟨rb, 0, none⟩), .pointer (some ⟨cb, 0, none⟩), .pointer (some ⟨bb, 0, none⟩), .int .i64 ((k : Nat)), nth l 12, nth l 13, nth l 14, nth l 15, nth l 16, nth l 17, nth l 18, nth l 19, nth l 20, nth l 21, nth l 22, nth l 23, nth l 24, nth l 25, nth l 26, nth l 27, nth l 28, nth l 29, nth l 30, nth l 31, nth l 32, nth l 33, nth l 34, nth l 35, nth l 36, nth l 37, nth l 38, nth l 39, nth l 40, nth l 41] ∧ bs = [(bb, ints .u8 (chB K 0 N), 77), (cb, ints .u8 (onP K N k), 23), (rb, ints .u8 (List.replicate 16 0), 72), (nb, ints .u8 N, 44), (kb, ints .u8 K, 23)]) 32 ⟨rfl, by rw [onP_0]⟩ ?_
  rintro k lfk _ hkk ⟨hlk, rfl⟩
  refine SP.cast hlk ?_
  clear hlk
  have hlx := onP_length K N k (by omega)
  by_cases hltk : k < 32
  · have hk1 : IntKind.i64.wrap ((k : Int) + 1) = ((k + 1 : Nat) : Int) := by rw [IntWalk.i64_in _ (by omega)]; omega
    repeat (first | ((with_reducible refine SP.region (id := 4) ?_); refine SL.e tabOk ?_; refine SL.e tabOk ?_; (with_reducible refine SL.nil ?_)) | ((with_reducible refine SP.region (id := 5) ?_); refine SL.e tabOk ?_; refine SL.e tabOk ?_; refine SL.e tabOk ?_; (with_reducible refine SL.nil ?_)) | ((with_reducible refine SP.region (id := 6) ?_); refine SL.e tabOk ?_; refine SL.e tabOk ?_; refine SL.ixA tabOk ?_; refine SL.ldI tabOk ?_; refine SL.ixA tabOk ?_; refine SL.stI tabOk ?_; (with_reducible refine SL.nil ?_)) | ((with_reducible refine SP.seqK ?_); intro _ _) | (with_reducible refine thenK_normal ?_) | (refine useK (by assumption) ?_) | (with_reducible refine SP.block ?_) | (with_reducible refine SP.skip ?_) | ((with_reducible show SP _ _ _ (Code.cond _ _ _) _ _ _); first | (refine SP.condT rfl (by first | rfl | (simp only [decide_eq_true_eq, beq_iff_eq, bne_iff_ne]; first | done | omega)) ?_)))
    simp only [hk1]
    exact ⟨hltk, rfl, by rw [onP_s K N k hltk]⟩
  · have hendk : k = 32 := by omega
    replace hendk := Lib.hid hendk
    repeat (first | ((with_reducible refine SP.region (id := 4) ?_); refine SL.e tabOk ?_; refine SL.e tabOk ?_; (with_reducible refine SL.nil ?_)) | ((with_reducible refine SP.seqK ?_); intro _ _) | (with_reducible refine thenK_normal ?_) | (refine useK (by assumption) ?_) | (with_reducible refine SP.exit ?_) | ((with_reducible show SP _ _ _ (Code.cond _ _ _) _ _ _); first | (refine SP.condF rfl (by first | rfl | (simp only [decide_eq_false_iff_not, beq_eq_false_iff_ne, bne_eq_false_iff_eq]; first | done | omega)) ?_)))
    have hq := hendk.out; clear hendk; subst hq
    rw [onP_all]
    repeat (first | ((with_reducible refine SP.region (id := 7) ?_); refine SL.e tabOk ?_; (with_reducible refine SL.nil ?_)) | ((with_reducible refine SP.seqK ?_); intro _ _) | (with_reducible refine thenK_normal ?_) | (refine useK (by assumption) ?_))
    repeat (first | ((with_reducible refine SP.region (id := 8) ?_); refine SL.e tabOk ?_; refine SL.e tabOk ?_; refine SL.clF ent_53 rfl (pre := [_, _, _, _, _]) (fun w1 hw1 => filled_any AllO.start _ _ _ A SA.len hw1 (fun w2 hw2 => SA.far hw1 hw2) (by simp only [List.length_append, List.length_replicate, List.length_nil]; have := SA.len; have := padN_le n; omega)) (fun av1 abs1 hO1 => ?_); refine SL.e tabOk ?_; (with_reducible refine SL.nil ?_)) | ((with_reducible refine SP.seqK ?_); intro _ _) | (with_reducible refine thenK_normal ?_) | (refine useK (by assumption) ?_))
    repeat (first | ((with_reducible refine SP.region (id := 9) ?_); refine SL.e tabOk ?_; refine SL.e tabOk ?_; refine SL.clF ent_53 rfl (pre := [_, _, _, _, _]) (fun w1 hw1 => filled_any hO1 _ _ _ B SB.len hw1 (fun w2 hw2 => SB.far hw1 hw2) (by simp only [List.length_append, List.length_replicate, List.length_nil]; have := SA.len; have := padN_le n; omega)) (fun av2 abs2 hO2 => ?_); refine SL.e tabOk ?_; (with_reducible refine SL.nil ?_)) | ((with_reducible refine SP.seqK ?_); intro _ _) | (with_reducible refine thenK_normal ?_) | (refine useK (by assumption) ?_))
    repeat (first | ((with_reducible refine SP.region (id := 10) ?_); refine SL.e tabOk ?_; refine SL.e tabOk ?_; refine SL.v (ValO.len tabOk (by rfl)) ?_; refine SL.clF ent_54 rfl (pre := [_, _, _, _, _]) (fun w1 hw1 => long_any hO2 _ hw1 (by simp only [List.length_append, List.length_replicate, List.length_nil, List.length_map, List.length_range]; have := SA.len; have := SB.len; have := padN_le n; have := padN_le m; omega)) (fun av3 abs3 hO3 => ?_); refine SL.e tabOk ?_; (with_reducible refine SL.nil ?_)) | ((with_reducible refine SP.seqK ?_); intro _ _) | (with_reducible refine thenK_normal ?_) | (refine useK (by assumption) ?_))
    repeat (first | ((with_reducible refine SP.region (id := 11) ?_); refine SL.e tabOk ?_; refine SL.e tabOk ?_; refine SL.v (ValO.len tabOk (by rfl)) ?_; refine SL.clF ent_54 rfl (pre := [_, _, _, _, _]) (fun w1 hw1 => long_any hO3 _ hw1 (by simp only [List.length_append, List.length_replicate, List.length_nil, List.length_map, List.length_range]; have := SA.len; have := SB.len; have := padN_le n; have := padN_le m; omega)) (fun av4 abs4 hO4 => ?_); refine SL.e tabOk ?_; (with_reducible refine SL.nil ?_)) | ((with_reducible refine SP.seqK ?_); intro _ _) | (with_reducible refine thenK_normal ?_) | (refine useK (by assumption) ?_))
    rw [aeM_eq A B n m SA.len SB.len] at hO4
    have hML := aeM_len A B
    rw [SA.len, SB.len] at hML
    simp only [List.cons_append, List.nil_append]
    repeat (first | ((with_reducible refine SP.region (id := 12) ?_); refine SL.ldR tabOk ?_; refine SL.e tabOk ?_; refine SL.v (ValO.call ent_55 _ rfl _ (fun w1 hw1 => rtag_m (onceK_length K N) (onceK_byts K N) hO4 (aeM_byts bA bB) (by omega) (pre := [_, _, _, _, _]) hw1)) ?_; refine SL.stR tabOk ?_; (with_reducible refine SL.nil ?_)) | (with_reducible refine thenK_normal ?_) | (refine useK (by assumption) ?_) | (with_reducible refine SP.ret ?_))
    exact doneK.mk rfl (ResO.cell tabOk rfl rfl rfl (by first | exact RdA.own g0 | exact RdA.own g1 | exact RdA.own g2 | exact RdA.own g3 | exact RdA.own g4 | exact RdA.own g5 | exact RdA.own g6 | exact RdA.own g7 | exact RdA.own g8 | exact RdA.own g9 | exact RdA.own g10 | exact RdA.own g11 | exact RdA.own g12 | exact RdA.own g13 | exact RdA.own g14 | exact RdA.own g15) (by first | (simp [ints_size]; done) | (simp [ints_size]; omega))) (by unfold aeT; rfl)

end Sp

end Go.Proofs.Ythbmlpiplfbehaa

namespace Go.Proofs.Ythbmlpiplfbehaa
set_option linter.unusedSimpArgs false
set_option linter.unusedVariables false
open Go Go.RowKit

namespace Sp
open F M
theorem eqb_yes (p q : Option Addr) (n m c d : Nat) (A B : List Int) (w : World) (hA : Sl w p n c A) (hB : Sl w q m d B) (hmax : n ≤ 140737488355328) (h : A = B) : Calls Try.prog 16 #[.slice p n c, .slice q m d] w fun e w' => e = .returned (.bool true) ∧ Below w.heap.size w w' := by
  have := eqb_any p q n m c d A B w hA hB hmax
  rwa [decide_eq_true h] at this
theorem eqb_no (p q : Option Addr) (n m c d : Nat) (A B : List Int) (w : World) (hA : Sl w p n c A) (hB : Sl w q m d B) (hmax : n ≤ 140737488355328) (h : A ≠ B) : Calls Try.prog 16 #[.slice p n c, .slice q m d] w fun e w' => e = .returned (.bool false) ∧ Below w.heap.size w w' := by
  have := eqb_any p q n m c d A B w hA hB hmax
  rwa [decide_eq_false h] at this

set_option maxRecDepth 20000 in
set_option maxHeartbeats 2000000 in
theorem rseal_ok (K N : List Int) (hK : K.length = 32) (hN : N.length = 12) (p q : Option Addr) (n c m d : Nat) (A B : List Int) (w : World) (hSA : Sl w p n c A) (hSB : Sl w q m d B) (bK : Byts K) (bN : Byts N) (bA : Byts A) (bB : Byts B) (hn : n ≤ 4096) (hm : m ≤ 4096) :
    Calls Try.prog 34 #[.agg (ints .u8 K), .agg (ints .u8 N), .slice p n c, .slice q m d] w fun e w' => ∃ av abs, e = .returned (.tuple #[av, .int .i64 0]) ∧ AllO av (sealV K N A B) abs ∧ OwnM w [] w' abs := by
  have tok_kb : True := trivial
  have tok_nb : True := trivial
  have tok_tb : True := trivial
  have hlA := hSA.len
  have hlB := hSB.len
  refine (callE (mu := []) Try.func34 Try.ntmps34 Try.results34 (OwnM.start w) (fun v bs => ∃ av abs, v = .tuple #[av, .int .i64 0] ∧ AllO av (sealV K N A B) abs ∧ abs.Sublist bs) ?_).mono ?_
  · repeat (first | ((with_reducible refine SP.region (id := 0) ?_); refine SL.bx ?_; (first | (have _t := tok_kb; clear _t tok_kb; intro kb) | (have _t := tok_nb; clear _t tok_nb; intro nb) | (have _t := tok_tb; clear _t tok_tb; intro tb) | intro _); refine SL.bx ?_; (first | (have _t := tok_kb; clear _t tok_kb; intro kb) | (have _t := tok_nb; clear _t tok_nb; intro nb) | (have _t := tok_tb; clear _t tok_tb; intro tb) | intro _); refine SL.e tabOk ?_; refine SL.e tabOk ?_; (with_reducible refine SL.nil ?_)) | ((with_reducible refine SP.region (id := 1) ?_); refine SL.e tabOk ?_; refine SL.v (ValO.len tabOk (by rfl)) ?_; (first | (refine SL.c true tabOk ?_) | (refine SL.c false tabOk ?_) | (refine SL.e tabOk ?_)); refine SL.e tabOk ?_; (first | (refine SL.gT ?_; refine SL.e tabOk ?_) | refine SL.gF ?_); (first | (refine SL.gT ?_; refine SL.v (ValO.len tabOk (by rfl)) ?_) | refine SL.gF ?_); (first | (refine SL.gT ?_; (first | (refine SL.c true tabOk ?_) | (refine SL.c false tabOk ?_) | (refine SL.e tabOk ?_))) | refine SL.gF ?_); refine SL.e tabOk ?_; (with_reducible refine SL.nil ?_)) | ((with_reducible refine SP.region (id := 3) ?_); refine SL.ldR tabOk ?_; refine SL.ldR tabOk ?_; refine SL.e tabOk ?_; refine SL.clL ent_44 rfl (X := xo K 1 N (B)) (fun w1 hw1 => rxor_any K 1 N hK hN bK bN _ m _ _ (by decide) (by omega) w1 (hSB.old hw1.below)) (fun av abs hO => ?_); have hO' := hO; obtain ⟨qx, cx, rfl, hx⟩ := hO.ao (n := m) (by simp [hlB]); refine SL.e tabOk ?_; refine SL.e tabOk ?_; refine SL.e tabOk ?_; refine SL.e tabOk ?_; refine SL.e tabOk ?_; (with_reducible refine SL.nil ?_)) | ((with_reducible refine SP.region (id := 4) ?_); refine SL.ldR tabOk ?_; refine SL.ldR tabOk ?_; refine SL.e tabOk ?_; refine SL.e tabOk ?_; refine SL.v (ValO.call ent_45 _ rfl _ (fun w1 hw1 => raetag_any K N hK hN bK bN p _ n c m _ A (xo K 1 N B) bA (xo_byts K 1 N bB) (by omega) (by omega) w1 (hSA.old hw1.below) (hx.sl hw1 sbl))) ?_; refine SL.al zero_72 ?_; (first | (have _t := tok_kb; clear _t tok_kb; intro kb) | (have _t := tok_nb; clear _t tok_nb; intro nb) | (have _t := tok_tb; clear _t tok_tb; intro tb) | intro _); refine SL.stR tabOk ?_; (with_reducible refine SL.nil ?_)) | ((with_reducible refine SP.region (id := 5) ?_); refine SL.e tabOk ?_; refine SL.ctA tabOk 0 16 ?_; refine SL.appS tabOk (m := 16) (c := 16) (M := aeT K N A (xo K 1 N B)) hO' (pre := [_, _, _]) (fun w1 hw1 => Sl.of hw1 (RdA.own g0) (Lies.whole _) (by simp) (Nat.le_refl _)) (by simp) (by simp only [xo_length]; omega) (fun av2 abs2 hO2 => ?_) zero_u8; refine SL.e tabOk ?_; refine SL.e tabOk ?_; (with_reducible refine SL.nil ?_)) | ((with_reducible refine SP.seqK ?_); intro _ _) | (with_reducible refine thenK_normal ?_) | (refine useK (by assumption) ?_) | (with_reducible refine SP.skip ?_) | (with_reducible refine SP.ret ?_) | ((with_reducible show SP _ _ _ (Code.cond _ _ _) _ _ _); first | (refine SP.condF rfl (by first | rfl | (simp only [decide_eq_false_iff_not, beq_eq_false_iff_ne, bne_eq_false_iff_eq]; first | done | omega)) ?_)))
    refine doneK.mk rfl (ResO.tmp2 rfl rfl) ⟨av2, abs2, rfl, by unfold sealV; exact hO2, ?_⟩
    simp only [List.cons_append, List.nil_append]
    exact (by repeat (first | exact List.Sublist.refl _ | refine List.Sublist.cons _ ?_))
  · rintro e w' ⟨v, bs', rfl, ⟨av, abs, rfl, ha, hs⟩, hw'⟩
    exact ⟨av, abs, rfl, ha, hw'.sub hs⟩

set_option maxRecDepth 20000 in
set_option maxHeartbeats 2000000 in
theorem rseal_long0 (K N : List Int) (hK : K.length = 32) (hN : N.length = 12) (p q : Option Addr) (n c m d : Nat) (A B : List Int) (w : World) (hSA : Sl w p n c A) (hSB : Sl w q m d B) (hn : 4096 < n) (hmax : n ≤ 140737488355328) (hmax2 : m ≤ 140737488355328) :
    Calls Try.prog 34 #[.agg (ints .u8 K), .agg (ints .u8 N), .slice p n c, .slice q m d] w fun e w' => e = .returned (.tuple #[.slice none 0 0, .int .i64 5]) ∧ Below w.heap.size w w' := by
  have tok_kb : True := trivial
  have tok_nb : True := trivial
  have hlA := hSA.len
  have hlB := hSB.len
  refine pureE Try.func34 Try.ntmps34 Try.results34 ?_
  repeat (first | ((with_reducible refine SP.region (id := 0) ?_); refine SL.bx ?_; (first | (have _t := tok_kb; clear _t tok_kb; intro kb) | (have _t := tok_nb; clear _t tok_nb; intro nb) | (have _t := tok_tb; clear _t tok_tb; intro tb) | intro _); refine SL.bx ?_; (first | (have _t := tok_kb; clear _t tok_kb; intro kb) | (have _t := tok_nb; clear _t tok_nb; intro nb) | (have _t := tok_tb; clear _t tok_tb; intro tb) | intro _); refine SL.e tabOk ?_; refine SL.e tabOk ?_; (with_reducible refine SL.nil ?_)) | ((with_reducible refine SP.region (id := 1) ?_); refine SL.e tabOk ?_; refine SL.v (ValO.len tabOk (by rfl)) ?_; (first | (refine SL.c true tabOk ?_) | (refine SL.c false tabOk ?_) | (refine SL.e tabOk ?_)); refine SL.e tabOk ?_; (first | (refine SL.gT ?_; refine SL.e tabOk ?_) | refine SL.gF ?_); (first | (refine SL.gT ?_; refine SL.v (ValO.len tabOk (by rfl)) ?_) | refine SL.gF ?_); (first | (refine SL.gT ?_; (first | (refine SL.c true tabOk ?_) | (refine SL.c false tabOk ?_) | (refine SL.e tabOk ?_))) | refine SL.gF ?_); refine SL.e tabOk ?_; (with_reducible refine SL.nil ?_)) | ((with_reducible refine SP.region (id := 2) ?_); refine SL.e tabOk ?_; refine SL.e tabOk ?_; (with_reducible refine SL.nil ?_)) | ((with_reducible refine SP.seqK ?_); intro _ _) | (with_reducible refine thenK_normal ?_) | (refine useK (by assumption) ?_) | (with_reducible refine thenK_ret ?_) | (with_reducible refine SP.ret ?_) | ((with_reducible show SP _ _ _ (Code.cond _ _ _) _ _ _); first | (refine SP.condT rfl (by first | rfl | (simp only [decide_eq_true_eq, beq_iff_eq, bne_iff_ne]; first | done | omega)) ?_)))
  exact doneK.mk rfl (ResO.tmp2 rfl rfl) rfl

set_option maxRecDepth 20000 in
set_option maxHeartbeats 2000000 in
theorem rseal_long1 (K N : List Int) (hK : K.length = 32) (hN : N.length = 12) (p q : Option Addr) (n c m d : Nat) (A B : List Int) (w : World) (hSA : Sl w p n c A) (hSB : Sl w q m d B) (hn : n ≤ 4096) (hm : 4096 < m) (hmax : n ≤ 140737488355328) (hmax2 : m ≤ 140737488355328) :
    Calls Try.prog 34 #[.agg (ints .u8 K), .agg (ints .u8 N), .slice p n c, .slice q m d] w fun e w' => e = .returned (.tuple #[.slice none 0 0, .int .i64 5]) ∧ Below w.heap.size w w' := by
  have tok_kb : True := trivial
  have tok_nb : True := trivial
  have hlA := hSA.len
  have hlB := hSB.len
  refine pureE Try.func34 Try.ntmps34 Try.results34 ?_
  repeat (first | ((with_reducible refine SP.region (id := 0) ?_); refine SL.bx ?_; (first | (have _t := tok_kb; clear _t tok_kb; intro kb) | (have _t := tok_nb; clear _t tok_nb; intro nb) | (have _t := tok_tb; clear _t tok_tb; intro tb) | intro _); refine SL.bx ?_; (first | (have _t := tok_kb; clear _t tok_kb; intro kb) | (have _t := tok_nb; clear _t tok_nb; intro nb) | (have _t := tok_tb; clear _t tok_tb; intro tb) | intro _); refine SL.e tabOk ?_; refine SL.e tabOk ?_; (with_reducible refine SL.nil ?_)) | ((with_reducible refine SP.region (id := 1) ?_); refine SL.e tabOk ?_; refine SL.v (ValO.len tabOk (by rfl)) ?_; (first | (refine SL.c true tabOk ?_) | (refine SL.c false tabOk ?_) | (refine SL.e tabOk ?_)); refine SL.e tabOk ?_; (first | (refine SL.gT ?_; refine SL.e tabOk ?_) | refine SL.gF ?_); (first | (refine SL.gT ?_; refine SL.v (ValO.len tabOk (by rfl)) ?_) | refine SL.gF ?_); (first | (refine SL.gT ?_; (first | (refine SL.c true tabOk ?_) | (refine SL.c false tabOk ?_) | (refine SL.e tabOk ?_))) | refine SL.gF ?_); refine SL.e tabOk ?_; (with_reducible refine SL.nil ?_)) | ((with_reducible refine SP.region (id := 2) ?_); refine SL.e tabOk ?_; refine SL.e tabOk ?_; (with_reducible refine SL.nil ?_)) | ((with_reducible refine SP.seqK ?_); intro _ _) | (with_reducible refine thenK_normal ?_) | (refine useK (by assumption) ?_) | (with_reducible refine thenK_ret ?_) | (with_reducible refine SP.ret ?_) | ((with_reducible show SP _ _ _ (Code.cond _ _ _) _ _ _); first | (refine SP.condT rfl (by first | rfl | (simp only [decide_eq_true_eq, beq_iff_eq, bne_iff_ne]; first | done | omega)) ?_)))
  exact doneK.mk rfl (ResO.tmp2 rfl rfl) rfl

theorem rseal_long (K N : List Int) (hK : K.length = 32) (hN : N.length = 12) (p q : Option Addr) (n c m d : Nat) (A B : List Int) (w : World) (hSA : Sl w p n c A) (hSB : Sl w q m d B) (hl : 4096 < n ∨ 4096 < m) (hmax : n ≤ 140737488355328) (hmax2 : m ≤ 140737488355328) : Calls Try.prog 34 #[.agg (ints .u8 K), .agg (ints .u8 N), .slice p n c, .slice q m d] w fun e w' => e = .returned (.tuple #[.slice none 0 0, .int .i64 5]) ∧ Below w.heap.size w w' := by
  by_cases h : 4096 < n
  · exact rseal_long0 K N hK hN p q n c m d A B w hSA hSB h hmax hmax2
  · exact rseal_long1 K N hK hN p q n c m d A B w hSA hSB (by omega) (by omega) hmax hmax2

set_option maxRecDepth 20000 in
set_option maxHeartbeats 2000000 in
theorem ropen_long0 (K N : List Int) (hK : K.length = 32) (hN : N.length = 12) (p q : Option Addr) (n c m d : Nat) (A B : List Int) (w : World) (hSA : Sl w p n c A) (hSB : Sl w q m d B) (hn : 4096 < n) (hmax : n ≤ 140737488355328) (hmax2 : m ≤ 140737488355328) :
    Calls Try.prog 51 #[.agg (ints .u8 K), .agg (ints .u8 N), .slice p n c, .slice q m d] w fun e w' => e = .returned (.tuple #[.slice none 0 0, .int .i64 5]) ∧ Below w.heap.size w w' := by
  have tok_kb : True := trivial
  have tok_nb : True := trivial
  have hlA := hSA.len
  have hlB := hSB.len
  refine pureE Try.func51 Try.ntmps51 Try.results51 ?_
  repeat (first | ((with_reducible refine SP.region (id := 0) ?_); refine SL.bx ?_; (first | (have _t := tok_kb; clear _t tok_kb; intro kb) | (have _t := tok_nb; clear _t tok_nb; intro nb) | (have _t := tok_tb; clear _t tok_tb; intro tb) | intro _); refine SL.bx ?_; (first | (have _t := tok_kb; clear _t tok_kb; intro kb) | (have _t := tok_nb; clear _t tok_nb; intro nb) | (have _t := tok_tb; clear _t tok_tb; intro tb) | intro _); refine SL.e tabOk ?_; refine SL.e tabOk ?_; (with_reducible refine SL.nil ?_)) | ((with_reducible refine SP.region (id := 1) ?_); refine SL.e tabOk ?_; refine SL.v (ValO.len tabOk (by rfl)) ?_; (first | (refine SL.c true tabOk ?_) | (refine SL.c false tabOk ?_) | (refine SL.e tabOk ?_)); refine SL.e tabOk ?_; (first | (refine SL.gT ?_; refine SL.e tabOk ?_) | refine SL.gF ?_); (first | (refine SL.gT ?_; refine SL.v (ValO.len tabOk (by rfl)) ?_) | refine SL.gF ?_); (first | (refine SL.gT ?_; (first | (refine SL.c true tabOk ?_) | (refine SL.c false tabOk ?_) | (refine SL.e tabOk ?_))) | refine SL.gF ?_); refine SL.e tabOk ?_; (with_reducible refine SL.nil ?_)) | ((with_reducible refine SP.region (id := 2) ?_); refine SL.e tabOk ?_; refine SL.e tabOk ?_; (with_reducible refine SL.nil ?_)) | ((with_reducible refine SP.seqK ?_); intro _ _) | (with_reducible refine thenK_normal ?_) | (refine useK (by assumption) ?_) | (with_reducible refine thenK_ret ?_) | (with_reducible refine SP.ret ?_) | ((with_reducible show SP _ _ _ (Code.cond _ _ _) _ _ _); first | (refine SP.condT rfl (by first | rfl | (simp only [decide_eq_true_eq, beq_iff_eq, bne_iff_ne]; first | done | omega)) ?_)))
  exact doneK.mk rfl (ResO.tmp2 rfl rfl) rfl

set_option maxRecDepth 20000 in
set_option maxHeartbeats 2000000 in
theorem ropen_long1 (K N : List Int) (hK : K.length = 32) (hN : N.length = 12) (p q : Option Addr) (n c m d : Nat) (A B : List Int) (w : World) (hSA : Sl w p n c A) (hSB : Sl w q m d B) (hn : n ≤ 4096) (hm : 4112 < m) (hmax : n ≤ 140737488355328) (hmax2 : m ≤ 140737488355328) :
    Calls Try.prog 51 #[.agg (ints .u8 K), .agg (ints .u8 N), .slice p n c, .slice q m d] w fun e w' => e = .returned (.tuple #[.slice none 0 0, .int .i64 5]) ∧ Below w.heap.size w w' := by
  have tok_kb : True := trivial
  have tok_nb : True := trivial
  have hlA := hSA.len
  have hlB := hSB.len
  refine pureE Try.func51 Try.ntmps51 Try.results51 ?_
  repeat (first | ((with_reducible refine SP.region (id := 0) ?_); refine SL.bx ?_; (first | (have _t := tok_kb; clear _t tok_kb; intro kb) | (have _t := tok_nb; clear _t tok_nb; intro nb) | (have _t := tok_tb; clear _t tok_tb; intro tb) | intro _); refine SL.bx ?_; (first | (have _t := tok_kb; clear _t tok_kb; intro kb) | (have _t := tok_nb; clear _t tok_nb; intro nb) | (have _t := tok_tb; clear _t tok_tb; intro tb) | intro _); refine SL.e tabOk ?_; refine SL.e tabOk ?_; (with_reducible refine SL.nil ?_)) | ((with_reducible refine SP.region (id := 1) ?_); refine SL.e tabOk ?_; refine SL.v (ValO.len tabOk (by rfl)) ?_; (first | (refine SL.c true tabOk ?_) | (refine SL.c false tabOk ?_) | (refine SL.e tabOk ?_)); refine SL.e tabOk ?_; (first | (refine SL.gT ?_; refine SL.e tabOk ?_) | refine SL.gF ?_); (first | (refine SL.gT ?_; refine SL.v (ValO.len tabOk (by rfl)) ?_) | refine SL.gF ?_); (first | (refine SL.gT ?_; (first | (refine SL.c true tabOk ?_) | (refine SL.c false tabOk ?_) | (refine SL.e tabOk ?_))) | refine SL.gF ?_); refine SL.e tabOk ?_; (with_reducible refine SL.nil ?_)) | ((with_reducible refine SP.region (id := 2) ?_); refine SL.e tabOk ?_; refine SL.e tabOk ?_; (with_reducible refine SL.nil ?_)) | ((with_reducible refine SP.seqK ?_); intro _ _) | (with_reducible refine thenK_normal ?_) | (refine useK (by assumption) ?_) | (with_reducible refine thenK_ret ?_) | (with_reducible refine SP.ret ?_) | ((with_reducible show SP _ _ _ (Code.cond _ _ _) _ _ _); first | (refine SP.condT rfl (by first | rfl | (simp only [decide_eq_true_eq, beq_iff_eq, bne_iff_ne]; first | done | omega)) ?_)))
  exact doneK.mk rfl (ResO.tmp2 rfl rfl) rfl

theorem ropen_long (K N : List Int) (hK : K.length = 32) (hN : N.length = 12) (p q : Option Addr) (n c m d : Nat) (A B : List Int) (w : World) (hSA : Sl w p n c A) (hSB : Sl w q m d B) (hl : 4096 < n ∨ 4112 < m) (hmax : n ≤ 140737488355328) (hmax2 : m ≤ 140737488355328) : Calls Try.prog 51 #[.agg (ints .u8 K), .agg (ints .u8 N), .slice p n c, .slice q m d] w fun e w' => e = .returned (.tuple #[.slice none 0 0, .int .i64 5]) ∧ Below w.heap.size w w' := by
  by_cases h : 4096 < n
  · exact ropen_long0 K N hK hN p q n c m d A B w hSA hSB h hmax hmax2
  · exact ropen_long1 K N hK hN p q n c m d A B w hSA hSB (by omega) (by omega) hmax hmax2

set_option maxRecDepth 20000 in
set_option maxHeartbeats 2000000 in
theorem ropen_short (K N : List Int) (hK : K.length = 32) (hN : N.length = 12) (p q : Option Addr) (n c m d : Nat) (A B : List Int) (w : World) (hSA : Sl w p n c A) (hSB : Sl w q m d B) (hn : n ≤ 4096) (hm : m < 16) :
    Calls Try.prog 51 #[.agg (ints .u8 K), .agg (ints .u8 N), .slice p n c, .slice q m d] w fun e w' => e = .returned (.tuple #[.slice none 0 0, .int .i64 3]) ∧ Below w.heap.size w w' := by
  have tok_kb : True := trivial
  have tok_nb : True := trivial
  have hlA := hSA.len
  have hlB := hSB.len
  refine pureE Try.func51 Try.ntmps51 Try.results51 ?_
  repeat (first | ((with_reducible refine SP.region (id := 0) ?_); refine SL.bx ?_; (first | (have _t := tok_kb; clear _t tok_kb; intro kb) | (have _t := tok_nb; clear _t tok_nb; intro nb) | (have _t := tok_tb; clear _t tok_tb; intro tb) | intro _); refine SL.bx ?_; (first | (have _t := tok_kb; clear _t tok_kb; intro kb) | (have _t := tok_nb; clear _t tok_nb; intro nb) | (have _t := tok_tb; clear _t tok_tb; intro tb) | intro _); refine SL.e tabOk ?_; refine SL.e tabOk ?_; (with_reducible refine SL.nil ?_)) | ((with_reducible refine SP.region (id := 1) ?_); refine SL.e tabOk ?_; refine SL.v (ValO.len tabOk (by rfl)) ?_; (first | (refine SL.c true tabOk ?_) | (refine SL.c false tabOk ?_) | (refine SL.e tabOk ?_)); refine SL.e tabOk ?_; (first | (refine SL.gT ?_; refine SL.e tabOk ?_) | refine SL.gF ?_); (first | (refine SL.gT ?_; refine SL.v (ValO.len tabOk (by rfl)) ?_) | refine SL.gF ?_); (first | (refine SL.gT ?_; (first | (refine SL.c true tabOk ?_) | (refine SL.c false tabOk ?_) | (refine SL.e tabOk ?_))) | refine SL.gF ?_); refine SL.e tabOk ?_; (with_reducible refine SL.nil ?_)) | ((with_reducible refine SP.region (id := 3) ?_); refine SL.e tabOk ?_; refine SL.v (ValO.len tabOk (by rfl)) ?_; refine SL.e tabOk ?_; (with_reducible refine SL.nil ?_)) | ((with_reducible refine SP.region (id := 4) ?_); refine SL.e tabOk ?_; refine SL.e tabOk ?_; (with_reducible refine SL.nil ?_)) | ((with_reducible refine SP.seqK ?_); intro _ _) | (with_reducible refine thenK_normal ?_) | (refine useK (by assumption) ?_) | (with_reducible refine thenK_ret ?_) | (with_reducible refine SP.skip ?_) | (with_reducible refine SP.ret ?_) | ((with_reducible show SP _ _ _ (Code.cond _ _ _) _ _ _); first | (refine SP.condT rfl (by first | rfl | (simp only [decide_eq_true_eq, beq_iff_eq, bne_iff_ne]; first | done | omega)) ?_) | (refine SP.condF rfl (by first | rfl | (simp only [decide_eq_false_iff_not, beq_eq_false_iff_ne, bne_eq_false_iff_eq]; first | done | omega)) ?_)))
  exact doneK.mk rfl (ResO.tmp2 rfl rfl) rfl

set_option maxRecDepth 20000 in
set_option maxHeartbeats 2000000 in
theorem ropen_bad (K N : List Int) (hK : K.length = 32) (hN : N.length = 12) (p q : Option Addr) (n c m d : Nat) (A B : List Int) (w : World) (hSA : Sl w p n c A) (hSB : Sl w q m d B) (bK : Byts K) (bN : Byts N) (bA : Byts A) (bB : Byts B) (hn : n ≤ 4096) (hm : 16 ≤ m) (hm2 : m ≤ 4112) (hok : ¬ boxOk K N A B m) :
    Calls Try.prog 51 #[.agg (ints .u8 K), .agg (ints .u8 N), .slice p n c, .slice q m d] w fun e w' => e = .returned (.tuple #[.slice none 0 0, .int .i64 60]) ∧ Below w.heap.size w w' := by
  have tok_kb : True := trivial
  have tok_nb : True := trivial
  have tok_tb : True := trivial
  have hlA := hSA.len
  have hlB := hSB.len
  unfold boxOk at hok
  have f16 : IntKind.i64.wrap ((m : Int) - 16) = ((m - 16 : Nat) : Int) := by rw [IntWalk.i64_in _ (by omega)]; omega
  obtain ⟨b0, o0, A0, T0, z0, rfl, hb0, hA0⟩ := hSB.at_ (by omega)
  have hcd := hSB.cap
  have hlT : (B.take (m - 16)).length = m - 16 := by rw [List.length_take]; omega
  refine pureE Try.func51 Try.ntmps51 Try.results51 ?_
  repeat (first | ((with_reducible refine SP.region (id := 0) ?_); refine SL.bx ?_; (first | (have _t := tok_kb; clear _t tok_kb; intro kb) | (have _t := tok_nb; clear _t tok_nb; intro nb) | (have _t := tok_tb; clear _t tok_tb; intro tb) | intro _); refine SL.bx ?_; (first | (have _t := tok_kb; clear _t tok_kb; intro kb) | (have _t := tok_nb; clear _t tok_nb; intro nb) | (have _t := tok_tb; clear _t tok_tb; intro tb) | intro _); refine SL.e tabOk ?_; refine SL.e tabOk ?_; (with_reducible refine SL.nil ?_)) | ((with_reducible refine SP.region (id := 1) ?_); refine SL.e tabOk ?_; refine SL.v (ValO.len tabOk (by rfl)) ?_; (first | (refine SL.c true tabOk ?_) | (refine SL.c false tabOk ?_) | (refine SL.e tabOk ?_)); refine SL.e tabOk ?_; (first | (refine SL.gT ?_; refine SL.e tabOk ?_) | refine SL.gF ?_); (first | (refine SL.gT ?_; refine SL.v (ValO.len tabOk (by rfl)) ?_) | refine SL.gF ?_); (first | (refine SL.gT ?_; (first | (refine SL.c true tabOk ?_) | (refine SL.c false tabOk ?_) | (refine SL.e tabOk ?_))) | refine SL.gF ?_); refine SL.e tabOk ?_; (with_reducible refine SL.nil ?_)) | ((with_reducible refine SP.region (id := 3) ?_); refine SL.e tabOk ?_; refine SL.v (ValO.len tabOk (by rfl)) ?_; refine SL.e tabOk ?_; (with_reducible refine SL.nil ?_)) | ((with_reducible refine SP.region (id := 5) ?_); refine SL.e tabOk ?_; refine SL.v (ValO.len tabOk (by rfl)) ?_; refine SL.e tabOk ?_; refine SL.e tabOk ?_; (with_reducible refine SL.nil ?_)) | ((with_reducible refine SP.region (id := 8) ?_); refine SL.e tabOk ?_; refine SL.e tabOk ?_; (with_reducible refine SL.nil ?_)) | ((with_reducible show SP _ _ _ (Code.region _ _ true) _ _ _); first | (refine SPa (id := 6) [8] [] ([]) [0, 1, 2, 3, 4, 5, 6, 7, 8] follows ?_; refine SF.ldR tabOk ?_; refine SF.ldR tabOk ?_; refine SF.p tabOk ?_; refine SF.p tabOk ?_; refine SF.p tabOk ?_; refine SF.ctS tabOk 0 (m - 16) ?_ (hhi := by exact f16); refine SF.v (ValO.call ent_45 _ rfl _ (fun w1 hw1 => raetag_any K N hK hN bK bN p _ n c (m - 16) _ A (B.take (m - 16)) bA (bB.take2 _) (by omega) (by omega) w1 (hSA.old hw1.below) (((hSB.take (k := m - 16) (by omega)).old hw1.below)))) ?_; refine SF.al zero_72 ?_; (first | (have _t := tok_kb; clear _t tok_kb; intro kb) | (have _t := tok_nb; clear _t tok_nb; intro nb) | (have _t := tok_tb; clear _t tok_tb; intro tb) | intro _); refine SF.stR tabOk ?_; refine SF.done ?_) | (refine SPa (id := 7) [] [] ([]) [0, 1, 2, 3, 4, 5] follows ?_; refine SF.ctA tabOk 0 16 ?_; refine SF.p tabOk ?_; refine SF.p tabOk ?_; refine SF.ctS tabOk (m - 16) m ?_ (hlo := by exact f16); refine SF.v (ValO.call ent_16 _ rfl _ (fun w1 hw1 => eqb_no _ _ _ _ _ _ (aeT K N A (B.take (m - 16))) (B.drop (m - 16)) w1 (Sl.of hw1 (RdA.own g0) (Lies.whole _) (by simp) (Nat.le_refl _)) ((hSB.drop (k := m - 16) (by omega)).old hw1.below) (by decide) hok)) ?_; refine SF.e tabOk ?_; refine SF.done ?_)) | ((with_reducible refine SP.seqK ?_); intro _ _) | (with_reducible refine thenK_normal ?_) | (refine useK (by assumption) ?_) | (with_reducible refine thenK_ret ?_) | (with_reducible refine SP.skip ?_) | (with_reducible refine SP.ret ?_) | ((with_reducible show SP _ _ _ (Code.cond _ _ _) _ _ _); first | (refine SP.condT rfl (by first | rfl | (simp only [decide_eq_true_eq, beq_iff_eq, bne_iff_ne]; first | done | omega)) ?_) | (refine SP.condF rfl (by first | rfl | (simp only [decide_eq_false_iff_not, beq_eq_false_iff_ne, bne_eq_false_iff_eq]; first | done | omega)) ?_)))
  exact doneK.mk rfl (ResO.tmp2 rfl rfl) rfl

set_option maxRecDepth 20000 in
set_option maxHeartbeats 2000000 in
theorem ropen_ok (K N : List Int) (hK : K.length = 32) (hN : N.length = 12) (p q : Option Addr) (n c m d : Nat) (A B : List Int) (w : World) (hSA : Sl w p n c A) (hSB : Sl w q m d B) (bK : Byts K) (bN : Byts N) (bA : Byts A) (bB : Byts B) (hn : n ≤ 4096) (hm : 16 ≤ m) (hm2 : m ≤ 4112) (hok : boxOk K N A B m) :
    Calls Try.prog 51 #[.agg (ints .u8 K), .agg (ints .u8 N), .slice p n c, .slice q m d] w fun e w' => ∃ av abs, e = .returned (.tuple #[av, .int .i64 0]) ∧ AllO av (xo K 1 N (B.take (m - 16))) abs ∧ OwnM w [] w' abs := by
  have tok_kb : True := trivial
  have tok_nb : True := trivial
  have tok_tb : True := trivial
  have hlA := hSA.len
  have hlB := hSB.len
  unfold boxOk at hok
  have f16 : IntKind.i64.wrap ((m : Int) - 16) = ((m - 16 : Nat) : Int) := by rw [IntWalk.i64_in _ (by omega)]; omega
  obtain ⟨b0, o0, A0, T0, z0, rfl, hb0, hA0⟩ := hSB.at_ (by omega)
  have hcd := hSB.cap
  have hlT : (B.take (m - 16)).length = m - 16 := by rw [List.length_take]; omega
  refine (callE (mu := []) Try.func51 Try.ntmps51 Try.results51 (OwnM.start w) (fun v bs => ∃ av abs, v = .tuple #[av, .int .i64 0] ∧ AllO av (xo K 1 N (B.take (m - 16))) abs ∧ abs.Sublist bs) ?_).mono ?_
  · repeat (first | ((with_reducible refine SP.region (id := 0) ?_); refine SL.bx ?_; (first | (have _t := tok_kb; clear _t tok_kb; intro kb) | (have _t := tok_nb; clear _t tok_nb; intro nb) | (have _t := tok_tb; clear _t tok_tb; intro tb) | intro _); refine SL.bx ?_; (first | (have _t := tok_kb; clear _t tok_kb; intro kb) | (have _t := tok_nb; clear _t tok_nb; intro nb) | (have _t := tok_tb; clear _t tok_tb; intro tb) | intro _); refine SL.e tabOk ?_; refine SL.e tabOk ?_; (with_reducible refine SL.nil ?_)) | ((with_reducible refine SP.region (id := 1) ?_); refine SL.e tabOk ?_; refine SL.v (ValO.len tabOk (by rfl)) ?_; (first | (refine SL.c true tabOk ?_) | (refine SL.c false tabOk ?_) | (refine SL.e tabOk ?_)); refine SL.e tabOk ?_; (first | (refine SL.gT ?_; refine SL.e tabOk ?_) | refine SL.gF ?_); (first | (refine SL.gT ?_; refine SL.v (ValO.len tabOk (by rfl)) ?_) | refine SL.gF ?_); (first | (refine SL.gT ?_; (first | (refine SL.c true tabOk ?_) | (refine SL.c false tabOk ?_) | (refine SL.e tabOk ?_))) | refine SL.gF ?_); refine SL.e tabOk ?_; (with_reducible refine SL.nil ?_)) | ((with_reducible refine SP.region (id := 3) ?_); refine SL.e tabOk ?_; refine SL.v (ValO.len tabOk (by rfl)) ?_; refine SL.e tabOk ?_; (with_reducible refine SL.nil ?_)) | ((with_reducible refine SP.region (id := 5) ?_); refine SL.e tabOk ?_; refine SL.v (ValO.len tabOk (by rfl)) ?_; refine SL.e tabOk ?_; refine SL.e tabOk ?_; (with_reducible refine SL.nil ?_)) | ((with_reducible refine SP.region (id := 10) ?_); refine SL.e tabOk ?_; refine SL.e tabOk ?_; refine SL.e tabOk ?_; (with_reducible refine SL.nil ?_)) | ((with_reducible show SP _ _ _ (Code.region _ _ true) _ _ _); first | (refine SPa (id := 6) [8] [] ([]) [0, 1, 2, 3, 4, 5, 6, 7, 8] follows ?_; refine SF.ldR tabOk ?_; refine SF.ldR tabOk ?_; refine SF.p tabOk ?_; refine SF.p tabOk ?_; refine SF.p tabOk ?_; refine SF.ctS tabOk 0 (m - 16) ?_ (hhi := by exact f16); refine SF.v (ValO.call ent_45 _ rfl _ (fun w1 hw1 => raetag_any K N hK hN bK bN p _ n c (m - 16) _ A (B.take (m - 16)) bA (bB.take2 _) (by omega) (by omega) w1 (hSA.old hw1.below) (((hSB.take (k := m - 16) (by omega)).old hw1.below)))) ?_; refine SF.al zero_72 ?_; (first | (have _t := tok_kb; clear _t tok_kb; intro kb) | (have _t := tok_nb; clear _t tok_nb; intro nb) | (have _t := tok_tb; clear _t tok_tb; intro tb) | intro _); refine SF.stR tabOk ?_; refine SF.done ?_) | (refine SPa (id := 7) [] [] ([]) [0, 1, 2, 3, 4, 5] follows ?_; refine SF.ctA tabOk 0 16 ?_; refine SF.p tabOk ?_; refine SF.p tabOk ?_; refine SF.ctS tabOk (m - 16) m ?_ (hlo := by exact f16); refine SF.v (ValO.call ent_16 _ rfl _ (fun w1 hw1 => eqb_yes _ _ _ _ _ _ (aeT K N A (B.take (m - 16))) (B.drop (m - 16)) w1 (Sl.of hw1 (RdA.own g0) (Lies.whole _) (by simp) (Nat.le_refl _)) ((hSB.drop (k := m - 16) (by omega)).old hw1.below) (by decide) hok)) ?_; refine SF.e tabOk ?_; refine SF.done ?_) | (refine SPa (id := 9) [5] [] ([]) [0, 1, 2, 3, 4, 5, 6, 7, 8, 9, 10] follows ?_; refine SF.ldR tabOk ?_; refine SF.ldR tabOk ?_; refine SF.p tabOk ?_; refine SF.p tabOk ?_; refine SF.ctS tabOk 0 (m - 16) ?_ (hhi := by exact f16); refine SF.clL ent_44 rfl (X := xo K 1 N (B.take (m - 16))) (fun w1 hw1 => rxor_any K 1 N hK hN bK bN _ (m - 16) _ _ (by decide) (by omega) w1 (((hSB.take (k := m - 16) (by omega)).old hw1.below))) (fun av abs hO => ?_); have hO' := hO; obtain ⟨qx, cx, rfl, hx⟩ := hO.ao (n := (m - 16)) (by simp [hlT]); refine SF.p tabOk ?_; refine SF.p tabOk ?_; refine SF.p tabOk ?_; refine SF.p tabOk ?_; refine SF.p tabOk ?_; refine SF.done ?_)) | ((with_reducible refine SP.seqK ?_); intro _ _) | (with_reducible refine thenK_normal ?_) | (refine useK (by assumption) ?_) | (with_reducible refine SP.skip ?_) | (with_reducible refine SP.ret ?_) | ((with_reducible show SP _ _ _ (Code.cond _ _ _) _ _ _); first | (refine SP.condF rfl (by first | rfl | (simp only [decide_eq_false_iff_not, beq_eq_false_iff_ne, bne_eq_false_iff_eq]; first | done | omega)) ?_)))
    refine doneK.mk rfl (ResO.tmp2 rfl rfl) ⟨_, _, rfl, hO', ?_⟩
    exact (by repeat (first | exact List.Sublist.refl _ | refine List.Sublist.cons _ ?_))
  · rintro e w' ⟨v, bs', rfl, ⟨av, abs, rfl, ha, hs⟩, hw'⟩
    exact ⟨av, abs, rfl, ha, hw'.sub hs⟩

end Sp

end Go.Proofs.Ythbmlpiplfbehaa
