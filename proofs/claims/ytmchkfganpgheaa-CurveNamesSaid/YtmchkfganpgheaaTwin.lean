/-
  The ladder's numbers, reckoned modulo p: what the kernel can evaluate. Plain maths, no conditions.
-/
import Derived.Test.YtmchkfganpgheaaCurveB
namespace Go.Proofs.Ytmchkfganpgheaa
set_option linter.unusedSimpArgs false
set_option linter.unusedVariables false
open Go Go.RowKit


structure Md (x y : Int) : Prop where
  e : x % PP = y % PP
theorem Md.rfl' {x : Int} : Md x x := ⟨rfl⟩
theorem Md.add {a b c d : Int} (h : Md a b) (h' : Md c d) : Md (a + c) (b + d) := ⟨by rw [Int.add_emod, h.e, h'.e, ← Int.add_emod]⟩
theorem Md.sub {a b c d : Int} (h : Md a b) (h' : Md c d) : Md (a - c) (b - d) := ⟨by rw [Int.sub_emod, h.e, h'.e, ← Int.sub_emod]⟩
theorem Md.mul {a b c d : Int} (h : Md a b) (h' : Md c d) : Md (a * c) (b * d) := ⟨by rw [Int.mul_emod, h.e, h'.e, ← Int.mul_emod]⟩
theorem Md.md {a b : Int} (h : Md a b) : Md a (b % PP) := ⟨by rw [h.e, Int.emod_emod_of_dvd _ (Int.dvd_refl _)]⟩
def mStep (U px pz qx qz bt : Int) : VS :=
  let a := px + pz
  let b := px - pz
  let aa := a * a % PP
  let bb := b * b % PP
  let e := aa - bb
  let da := (qx - qz) * a % PP
  let cb := (qx + qz) * b % PP
  let s := da + cb
  let t := da - cb
  ⟨aa * bb % PP, e * (aa + 121665 * e) % PP, s * s % PP, U * (t * t % PP) % PP, bt⟩

def mI' (K : List Int) (U : Int) : Nat → VS
  | 0 => ⟨1, 0, U, 1, 0⟩
  | i + 1 => if bitE K i = (mI' K U i).last then mStep U (mI' K U i).px (mI' K U i).pz (mI' K U i).qx (mI' K U i).qz (bitE K i) else mStep U (mI' K U i).qx (mI' K U i).qz (mI' K U i).px (mI' K U i).pz (bitE K i)
@[irreducible] def mI (K : List Int) (U : Int) (i : Nat) : VS := mI' K U i
theorem mI_0 (K : List Int) (U : Int) : mI K U 0 = ⟨1, 0, U, 1, 0⟩ := by unfold mI; rfl
theorem mI_s (K : List Int) (U : Int) (i : Nat) : mI K U (i + 1) = if bitE K i = (mI K U i).last then mStep U (mI K U i).px (mI K U i).pz (mI K U i).qx (mI K U i).qz (bitE K i) else mStep U (mI K U i).qx (mI K U i).qz (mI K U i).px (mI K U i).pz (bitE K i) := by unfold mI; rfl
def mV' (v : Int) : Nat → Int
  | 0 => 1
  | i + 1 => if i = 252 ∨ i = 250 then (mV' v i) * (mV' v i) % PP else (mV' v i) * (mV' v i) % PP * v % PP
@[irreducible] def mV (v : Int) (i : Nat) : Int := mV' v i
theorem mV_0 (v : Int) : mV v 0 = 1 := by unfold mV; rfl
theorem mV_s (v : Int) (i : Nat) : mV v (i + 1) = if i = 252 ∨ i = 250 then (mV v i) * (mV v i) % PP else (mV v i) * (mV v i) % PP * v % PP := by unfold mV; rfl

structure MdV (v m : VS) : Prop where
  px : Md v.px m.px
  pz : Md v.pz m.pz
  qx : Md v.qx m.qx
  qz : Md v.qz m.qz
  last : v.last = m.last
theorem mStep_ok {U px pz qx qz px' pz' qx' qz' : Int} (bt : Int) (h1 : Md px px') (h2 : Md pz pz') (h3 : Md qx qx') (h4 : Md qz qz') : MdV (vStep U px pz qx qz bt) (mStep U px' pz' qx' qz' bt) := by
  have ha := h1.add h2
  have hb := h1.sub h2
  have haa := (ha.mul ha).md
  have hbb := (hb.mul hb).md
  have he := haa.sub hbb
  have hda := ((h3.sub h4).mul ha).md
  have hcb := ((h3.add h4).mul hb).md
  have hs := hda.add hcb
  have ht := hda.sub hcb
  unfold vStep mStep
  exact ⟨(haa.mul hbb).md, (he.mul (haa.add (Md.rfl'.mul he))).md, (hs.mul hs).md, (Md.rfl'.mul (ht.mul ht).md).md, rfl⟩
theorem mI_ok (K : List Int) (U : Int) : ∀ k, MdV (vI K U k) (mI K U k)
  | 0 => by rw [vI_0, mI_0]; exact ⟨⟨rfl⟩, ⟨rfl⟩, ⟨rfl⟩, ⟨rfl⟩, rfl⟩
  | k + 1 => by
    have h := mI_ok K U k
    rw [vI_s, mI_s, h.last]
    split
    · exact mStep_ok _ h.px h.pz h.qx h.qz
    · exact mStep_ok _ h.qx h.qz h.px h.pz
theorem mV_ok {v u : Int} (h : Md v u) : ∀ k, Md (invV v k) (mV u k)
  | 0 => by rw [mV_0]; exact ⟨rfl⟩
  | k + 1 => by
    have ih := mV_ok h k
    rw [mV_s, invV]
    split
    · exact (ih.mul ih).md
    · exact ((ih.mul ih).md.mul h).md
@[irreducible] def mX (K : List Int) (U : Int) : Int :=
  if (mI K U 255).last = 0 then (mI K U 255).px * mV (mI K U 255).pz 255 % PP else (mI K U 255).qx * mV (mI K U 255).qz 255 % PP
/-- The number of a point, as the kernel can evaluate it. -/
theorem vX_mX (K : List Int) (U : Int) : vX K U % PP = mX K U := by
  have h := mI_ok K U 255
  unfold vX mX
  rw [h.last]
  split
  · exact (h.px.mul (mV_ok h.pz 255)).e
  · exact (h.qx.mul (mV_ok h.qz 255)).e

/-- The two private keys that the law wakes the curve with. -/
@[irreducible] def aliceL : List Int := [119, 7, 109, 10, 115, 24, 165, 125, 60, 22, 193, 114, 81, 178, 102, 69, 223, 76, 47, 135, 235, 192, 153, 42, 177, 119, 251, 165, 29, 185, 44, 42]
@[irreducible] def bobL : List Int := [93, 171, 8, 126, 98, 74, 138, 75, 121, 225, 127, 139, 131, 128, 14, 230, 111, 59, 177, 41, 38, 24, 182, 253, 28, 47, 139, 39, 255, 136, 224, 235]
@[irreducible] def alicePub : List Int := [133, 32, 240, 9, 137, 48, 167, 84, 116, 139, 125, 220, 180, 62, 247, 90, 13, 191, 58, 13, 38, 56, 26, 244, 235, 164, 169, 142, 170, 155, 78, 106]
@[irreducible] def bobPub : List Int := [222, 158, 219, 125, 123, 125, 193, 180, 211, 91, 97, 194, 236, 228, 53, 55, 63, 131, 67, 200, 91, 120, 103, 77, 173, 252, 126, 20, 111, 136, 43, 79]
@[irreducible] def bothL : List Int := [74, 93, 157, 91, 164, 206, 45, 225, 114, 142, 59, 244, 128, 53, 15, 37, 224, 126, 33, 201, 71, 209, 158, 51, 118, 240, 155, 60, 30, 22, 23, 66]
theorem alice_pub : le32 (mX (clampL aliceL) 9) = alicePub := by decide +kernel
theorem bob_pub : le32 (mX (clampL bobL) 9) = bobPub := by decide +kernel
theorem both_x : le32 (mX (clampL aliceL) (v32 bobPub % H255)) = bothL := by decide +kernel


end Go.Proofs.Ytmchkfganpgheaa
