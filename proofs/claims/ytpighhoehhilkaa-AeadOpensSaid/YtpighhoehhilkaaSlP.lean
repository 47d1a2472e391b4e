/-
  A slice as a pointer to an array; a slice of two slices; the bytes that fill.
-/
import Derived.Test.YtpighhoehhilkaaSlG
import Derived.Test.YtpighhoehhilkaaBitm
namespace Go.Proofs.Ytpighhoehhilkaa
set_option linter.unusedSimpArgs false
set_option linter.unusedVariables false
open Go Go.RowKit
namespace Sp
open M
section
variable {P : Program} {ops : Array Oper} {rest : List Oper} {dst : Option Tmp} {ty : TypeId} {pos : String} {af : Array Edge} {l : List Value} {w0 : World} {mu : List Nat} {bs : Mem} {Q : ExitP} {tab : Tab}
/-- A slice as a pointer to an array. -/
theorem ValO.s2a (ht : TabOk P tab) {gd : Option (Nat × Bool)} {arr : TypeId} {x : Operand} {q : Option Addr} {n c m e esz sz : Nat} (hx : evL l x = .slice q n c) (hl : look tab arr = some (.arr m e esz, sz)) (hm : m ≤ n) :
    ValO P w0 mu bs l ⟨dst, .sliceToArrayPointer arr x, ty, pos, af, gd⟩ (.pointer q) := by
  have hu := (td_arr (look_ok ht hl)).1
  refine ⟨M.growAt_pure fun w => ?_⟩
  unfold execOp
  simp only [evL_eq, hx]
  simp [Instr.arrayAt, run_underlying hu, Nat.not_lt.2 hm, Sem.run_bind]
/-- A slice of two slices that is built. -/
theorem SL.build2S (ht : TabOk P tab) {t e sz by_ : Nat} {x y : Operand} {p q : Option Addr} {n c m d : Nat} (hz : (P.info? e).map (·.zero) = some (some (.slice none 0 0)))
    {l' : Nat → List Value} (h : ∀ b, SL P ops w0 mu rest Q (l' b) ((b, #[.slice p n c, .slice q m d], e) :: bs)) (hx : evL l x = .slice p n c := by rfl) (hy : evL l y = .slice q m d := by rfl) (hl : look tab t = some (.sl e 1 by_, sz) := by rfl)
    (hp : ∀ b, putL l dst (.slice (some ⟨b, 0, none⟩) 2 2) = l' b := by intro _; first | (dsimp only [putL, setNth]; done) | (dsimp only [putL, setNth]; rfl)) :
    SL P ops w0 mu (⟨dst, .buildSlice t 2 #[(0, x), (1, y)], ty, pos, af, none⟩ :: rest) Q l bs := by
  obtain ⟨hu, hsz, _⟩ := td_sl (look_ok ht hl)
  cases hq : P.info? e with
  | none => simp [hq] at hsz
  | some inf =>
    have hs1 : inf.size = 1 := by simpa [hq] using hsz
    have hz1 : inf.zero = some (.slice none 0 0) := by simpa [hq] using hz
    refine SL.buildSlice (vals := [(0, .slice p n c), (1, .slice q m d)]) hu hq hz1 (by rw [hs1]; decide) (by rw [hs1]; decide) (by simp [hx, hy]) ?_ hp h
    rw [hs1]
    kernel_rfl
end
/-- How many noughts fill up to a multiple of 16. -/
def padN (n : Nat) : Nat := (16 - n % 16) % 16
theorem pad_eq (n : Nat) : bits .and .i64 (IntKind.i64.wrap (0 - (n : Int))) 15 = ((padN n : Nat) : Int) := by
  rw [i64_low 4 (by omega) _ 15 (by decide) 16 rfl, IntKind.wrap_i64]
  unfold padN
  omega
theorem padN_le (n : Nat) : padN n ≤ 15 := by unfold padN; omega
theorem byts_mem {L : List Int} (h : ∀ x ∈ L, 0 ≤ x ∧ x < 256) : Byts L := by
  intro j
  unfold gi
  rw [List.getD_eq_getElem?_getD]
  cases hj : L[j]? with
  | none => simp
  | some x => exact h x (List.mem_of_getElem? hj)
theorem mem_byts {L : List Int} (h : Byts L) {x : Int} (hx : x ∈ L) : 0 ≤ x ∧ x < 256 := by
  obtain ⟨j, hj⟩ := List.mem_iff_getElem?.1 hx
  have h1 := h j
  unfold gi at h1
  rwa [List.getD_eq_getElem?_getD, hj] at h1
theorem Byts.app2 {A B : List Int} (hA : Byts A) (hB : Byts B) : Byts (A ++ B) := byts_mem fun _ hx => (List.mem_append.1 hx).elim (mem_byts hA) (mem_byts hB)
theorem Byts.take2 {A : List Int} (hA : Byts A) (n : Nat) : Byts (A.take n) := byts_mem fun _ hx => mem_byts hA (List.mem_of_mem_take hx)
theorem Byts.drop2 {A : List Int} (hA : Byts A) (n : Nat) : Byts (A.drop n) := byts_mem fun _ hx => mem_byts hA (List.mem_of_mem_drop hx)
theorem Byts.upd2 {A : List Int} (hA : Byts A) (i : Nat) {v : Int} (hv : 0 ≤ v ∧ v < 256) : Byts (A.set i v) := byts_mem fun _ hx => (List.mem_or_eq_of_mem_set hx).elim (mem_byts hA) (fun h => h ▸ hv)
end Sp
end Go.Proofs.Ytpighhoehhilkaa
