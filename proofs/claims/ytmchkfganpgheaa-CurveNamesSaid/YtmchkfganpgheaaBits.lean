/-
  Products of 128 bits and sums with carry, as the walk meets them.
-/
import Derived.Test.YtmchkfganpgheaaRows
import Derived.Test.YtmchkfganpgheaaEq
import Derived.Lib.Mul64
import Derived.Laws.Externs
import Derived.Laws.BitsAllLaws
namespace Go.Proofs.Ytmchkfganpgheaa
set_option linter.unusedSimpArgs false
set_option linter.unusedVariables false
open Go Go.RowKit

/-- 2^64, behind a name. -/
def M64 : Int := 18446744073709551616
/-- A number of 64 bits. -/
def W64 (x : Int) : Prop := 0 ≤ x ∧ x < M64

theorem maskN (a : Nat) (ha : a < 18446744073709551616) : bits .and .u64 (a : Int) 4294967295 = ((a % 4294967296 : Nat) : Int) := by
  have h := u64_and_nat a 4294967295 ha (by omega)
  have e : a &&& 4294967295 = a % 4294967296 := Nat.and_two_pow_sub_one_eq_mod a 32
  rw [e] at h
  exact h
theorem divN (a : Nat) : (a : Int) / 4294967296 = ((a / 4294967296 : Nat) : Int) := by omega
theorem mulN (a b : Nat) : (a : Int) * (b : Int) = ((a * b : Nat) : Int) := (Int.natCast_mul a b).symm
theorem addN' (a b : Nat) : (a : Int) + (b : Int) = ((a + b : Nat) : Int) := (Int.natCast_add a b).symm
theorem wrapN (a : Nat) (ha : a < 18446744073709551616) : IntKind.u64.wrap (a : Int) = (a : Int) := by rw [IntKind.wrap_u64]; omega
theorem wrapM (a : Nat) : IntKind.u64.wrap (a : Int) = ((a % 18446744073709551616 : Nat) : Int) := by rw [IntKind.wrap_u64]; omega
set_option maxHeartbeats 1000000 in
theorem mul64_nat (x y : Nat) (hx : x < 18446744073709551616) (hy : y < 18446744073709551616) (w : World) :
    Calls Try.prog 63 #[.int .u64 x, .int .u64 y] w fun e w' => e = .returned (.tuple #[.int .u64 ((x * y / 18446744073709551616 : Nat) : Int), .int .u64 ((x * y % 18446744073709551616 : Nat) : Int)]) ∧ w = w' := by
  obtain ⟨bd, bt, bw, hhi⟩ := Lib.mul64_hi x y hx hy
  have ba := Lib.half_mul_le (a := x / 4294967296) (b := y / 4294967296) (by omega) (by omega)
  have bb := Lib.half_mul_le (a := x / 4294967296) (b := y % 4294967296) (by omega) (by omega)
  have bc := Lib.half_mul_le (a := x % 4294967296) (b := y / 4294967296) (by omega) (by omega)
  have ba' : x / 4294967296 * (y / 4294967296) < 18446744073709551616 := by omega
  have bb' : x / 4294967296 * (y % 4294967296) < 18446744073709551616 := by omega
  have bc' : x % 4294967296 * (y / 4294967296) < 18446744073709551616 := by omega
  have bh1 : x / 4294967296 * (y / 4294967296) + (x / 4294967296 * (y % 4294967296) + x % 4294967296 * (y % 4294967296) / 4294967296) / 4294967296 < 18446744073709551616 := by omega
  have bh : x / 4294967296 * (y / 4294967296) + (x / 4294967296 * (y % 4294967296) + x % 4294967296 * (y % 4294967296) / 4294967296) / 4294967296 + ((x / 4294967296 * (y % 4294967296) + x % 4294967296 * (y % 4294967296) / 4294967296) % 4294967296 + x % 4294967296 * (y / 4294967296)) / 4294967296 < 18446744073709551616 := by omega
  go_enter Try.func63, Try.ntmps63
  go_wp2
  simp only [maskN x hx, maskN y hy, divN, mulN, addN', wrapN _ bd, wrapN _ bb', wrapN _ bt, maskN _ bt, wrapN _ bc', wrapN _ bw, wrapN _ ba', wrapN _ bh1, wrapN _ bh, wrapM (x * y)]
  rw [hhi]
  go_ret2
  exact ⟨rfl, rfl⟩

/-- The two halves of a product. -/
def mulHi (x y : Int) : Int := x * y / M64
def mulLo (x y : Int) : Int := x * y % M64
theorem mul64_any (x y : Int) (hx : W64 x) (hy : W64 y) (w : World) :
    Calls Try.prog 63 #[.int .u64 x, .int .u64 y] w fun e w' => e = .returned (.tuple #[.int .u64 (mulHi x y), .int .u64 (mulLo x y)]) ∧ w = w' := by
  obtain ⟨X, rfl⟩ := Int.eq_ofNat_of_zero_le hx.1
  obtain ⟨Y, rfl⟩ := Int.eq_ofNat_of_zero_le hy.1
  have h1 := hx.2
  have h2 := hy.2
  unfold M64 at h1 h2
  refine (mul64_nat X Y (by omega) (by omega) w).mono ?_
  rintro e w' ⟨rfl, rfl⟩
  refine ⟨?_, rfl⟩
  unfold mulHi mulLo M64
  simp
theorem mul64_grow (x y : Int) (hx : W64 x) (hy : W64 y) (w : World) :
    Calls Try.prog 63 #[.int .u64 x, .int .u64 y] w fun e w' => e = .returned (.tuple #[.int .u64 (mulHi x y), .int .u64 (mulLo x y)]) ∧ Below w.heap.size w w' :=
  (mul64_any x y hx hy w).mono fun _ _ ⟨he, hw⟩ => ⟨he, hw ▸ Below.refl _ _⟩
theorem W64.hi {x y : Int} (hx : W64 x) (hy : W64 y) : W64 (mulHi x y) := by
  obtain ⟨X, rfl⟩ := Int.eq_ofNat_of_zero_le hx.1
  obtain ⟨Y, rfl⟩ := Int.eq_ofNat_of_zero_le hy.1
  have h1 := hx.2
  have h2 := hy.2
  unfold M64 at h1 h2
  unfold W64 mulHi M64
  have : X * Y < 18446744073709551616 * 18446744073709551616 := by
    exact Nat.mul_lt_mul_of_lt_of_le (by omega) (by omega) (by omega)
  have e : (X : Int) * Y = ((X * Y : Nat) : Int) := by simp
  rw [e]
  omega
theorem W64.lo (x y : Int) : W64 (mulLo x y) := by unfold W64 mulLo M64; omega

/-- A sum with carry, and what is carried. -/
def addLo (x y c : Int) : Int := (x + y + c) % M64
def addHi (x y c : Int) : Int := (x + y + c) / M64
theorem W64.addLo (x y c : Int) : W64 (addLo x y c) := by unfold W64 Go.Proofs.Ytmchkfganpgheaa.addLo M64; omega
def Bit (c : Int) : Prop := 0 ≤ c ∧ c ≤ 1
theorem Bit.zero : Bit 0 := by unfold Bit; omega
theorem Bit.w64 {c : Int} (h : Bit c) : W64 c := by unfold W64 M64; unfold Bit at h; omega
theorem Bit.addHi {x y c : Int} (hx : W64 x) (hy : W64 y) (hc : Bit c) : Bit (addHi x y c) := by unfold Bit Go.Proofs.Ytmchkfganpgheaa.addHi W64 M64 at *; omega

theorem add64_run (x y c : Int) (hx : W64 x) (hy : W64 y) (hc : Bit c) (w : World) :
    (callFunc 61 #[.int .u64 x, .int .u64 y, .int .u64 c]).run Try.prog w = .ok (.value (.tuple #[.int .u64 (addLo x y c), .int .u64 (addHi x y c)])) w := by
  rw [run_callFunc_extern Try.func61 (by kernel_rfl) (by kernel_rfl) (by kernel_rfl) (e := add64Entry) (by kernel_rfl), run_add64 x y c hx.1 hy.1 hc.1 hc.2]
  rfl

theorem run_call_f {P : Program} {w : World} {o : Oper} {a : Act} {f : FuncId} {args : Array Operand} {ats : Array TypeId} (hop : o.op = .call { callee := .value (.func f), args, argTypes := ats }) {A : Array Value} (hA : args.map a.eval = A) :
    (execOp a.eval o).run P w = (callFunc f A).run P w := by
  subst hA
  unfold execOp
  simp [hop, resolve, Deferred.ofValue, invoke, Act.eval]

section
variable {ops : Array Oper} {Q : Exit → Act → World → Prop} {lf : List Value} {df : List Deferred} {W w0 : World} {bs : Acc} {rest : List Oper} {o : Oper}
theorem wpl_add64 (hgd : o.guard = none) (p q r : Operand) (ats : Array TypeId) (ho : o.op = .call { callee := .value (.func 61), args := #[p, q, r], argTypes := ats })
    (x y c : Int) (hp : evL lf p = .int .u64 x) (hq : evL lf q = .int .u64 y) (hr : evL lf r = .int .u64 c) (hx : W64 x) (hy : W64 y) (hc : Bit c)
    (h : wpList Try.prog ops Q rest ⟨(putL lf o.dst (.tuple #[.int .u64 (addLo x y c), .int .u64 (addHi x y c)])).toArray, df⟩ W) : wpList Try.prog ops Q (o :: rest) ⟨lf.toArray, df⟩ W :=
  wpList_plain hgd fun _ hK => by
    unfold Oper.wp
    rw [run_call_f ho (A := #[.int .u64 x, .int .u64 y, .int .u64 c]) (by simp [evL_eq, hp, hq, hr]), add64_run x y c hx hy hc]
    exact hK _ _ (by rw [putL_eq]; exact h)
theorem growAt_add64 (p q r : Operand) (ats : Array TypeId) (ho : o.op = .call { callee := .value (.func 61), args := #[p, q, r], argTypes := ats })
    (x y c : Int) (hp : evL lf p = .int .u64 x) (hq : evL lf q = .int .u64 y) (hr : evL lf r = .int .u64 c) (hx : W64 x) (hy : W64 y) (hc : Bit c) :
    Oper.growAt Try.prog w0 bs o ⟨lf.toArray, df⟩ (.tuple #[.int .u64 (addLo x y c), .int .u64 (addHi x y c)]) := by
  intro w _
  rw [run_call_f ho (A := #[.int .u64 x, .int .u64 y, .int .u64 c]) (by simp [evL_eq, hp, hq, hr]), add64_run x y c hx hy hc]
  exact ⟨rfl, rfl⟩
end
end Go.Proofs.Ytmchkfganpgheaa
