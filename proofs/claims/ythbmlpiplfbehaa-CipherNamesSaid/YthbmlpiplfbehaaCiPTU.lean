/-
  The walker's last pieces: copies of bytes at the memory's end, memory in another order, slices apart from several blocks; numbers and slices of a Do.
  The kind of a call.
  step: a call of both states, what it answers and leaves.
  Regions that draw, with a new variable that may be made before or behind calls.
  Calls of step in the walker.
-/
import Derived.Test.YthbmlpiplfbehaaCiG
import Derived.Test.YthbmlpiplfbehaaOpenSN
import Derived.Test.YthbmlpiplfbehaaAny
namespace Go.Proofs.Ythbmlpiplfbehaa
set_option linter.unusedSimpArgs false
set_option linter.unusedVariables false
open Go Go.RowKit
namespace Sp
open F M
section
variable {P : Program} {tab : Tab} {w0 : World} {mu : List Nat} {bs : Mem} {l l' : List Value} {Q : ExitP}
theorem SP.perm {c : Code} {bs' : Mem} (h : SP P w0 mu c Q l bs') (hp : bs.Perm bs') : SP P w0 mu c Q l bs := ⟨fun W Q' hw hA => h.run W Q' (hw.perm hp) hA⟩
/-- A slice that lies in a part of the memory is apart from another block of it. -/
theorem ApartB.aoS {W : World} (hw : OwnM w0 mu W bs) {q : Option Addr} {n c b : Nat} {X : List Int} {abs : Mem} (ha : AO q n c X abs) {A : Array Value} {T : TypeId} (hs : ((b, A, T) :: abs).Sublist bs) : ApartB b q n := by
  refine ApartB.ao ha ?_
  have := hw.apart.sublist (hs.map (·.1))
  rw [List.map_cons, List.nodup_cons] at this
  exact this.1
theorem Sl.oldL {w W : World} {n c : Nat} {p : Option Addr} {B : List Int} (h : Sl w p n c B) (hw : OwnM w mu W bs) (ha : ∀ b ∈ mu, ApartB b p n) : Sl W p n c B :=
  ⟨h.len, h.cap, fun h0 => by
    obtain ⟨sb, off, A, T, fz, rfl, hb, hA⟩ := h.at_ h0
    exact ⟨sb, off, A, T, fz, rfl, by rw [hw.rest sb (Array.getElem?_eq_some_iff.1 hb).1 (fun hm => ha sb hm h0 sb off rfl rfl)]; exact hb, hA⟩⟩
theorem ApartB.oldL {w : World} {W : World} {p : Option Addr} {n c b : Nat} {B : List Int} {A : Array Value} {T : TypeId} (h : Sl w p n c B) (hw : OwnM w mu W bs) (ha : ∀ b ∈ mu, ApartB b p n) (hm : (b, A, T) ∈ bs) : ApartB b p n := fun h0 sb off hq he => by
  subst he
  obtain ⟨sb', off', A', T', fz, h1, hb, _⟩ := h.at_ h0
  rw [h1] at hq
  cases hq
  rcases (hw.here _ hm).1 with hx | hx
  · have := (Array.getElem?_eq_some_iff.1 hb).1
    simp at hx
    omega
  · exact ha _ hx h0 _ _ h1 rfl
end
section
variable {P : Program} {ops : Array Oper} {w0 : World} {mu : List Nat} {bs : Mem} {l : List Value} {E D : List Nat} {rest : List (Nat × Oper)} {Q : ExitP} {i0 : Nat}
variable {dst : Option Tmp} {ty : TypeId} {pos : String} {af : Array Edge}
/-- A call that hands back a slice, where the order is drawn. -/
theorem SF.clA {keep : Mem} {f : FuncId} {args : List Operand} {ats : Array TypeId} (hent : ∀ (A : Array Value) (w : World), (callFunc f A).run P w = .ok (.enter f A) w) {vals : List Value} (hv : args.map (evL l) = vals)
    {V : Option Addr → Nat → Value} {n : Nat} {X : List Int} {l' : Option Addr → Nat → List Value} {bs' : Mem → Mem}
    (hc : ∀ w, OwnM w0 mu w bs → Calls P f vals.toArray w fun e w' => ∃ q c abs, e = .returned (V q c) ∧ AO q n c X abs ∧ OwnM w [] w' abs)
    (h : ∀ q c abs, AO q n c X abs → SF P ops w0 mu E D keep rest Q (l' q c) (bs' abs)) (hE : E.contains i0 = true := by rfl) (hbs : ∀ abs, bs ++ abs = bs' abs := by intro _; first | (simp only [List.cons_append, List.nil_append, List.append_assoc]; done) | (simp only [List.cons_append, List.nil_append, List.append_assoc]; rfl))
    (hp : ∀ q c, putL l dst (V q c) = l' q c := by intro _ _; first | (dsimp only [putL, setNth]; done) | (dsimp only [putL, setNth]; rfl)) (hkp : ∀ q c abs, AO q n c X abs → Kept keep (bs' abs) := by intro _ _ _ _; first | exact Kept.nil | (simp [Kept]; done)) :
    SF P ops w0 mu E D keep ((i0, ⟨dst, .call { callee := .value (.func f), args := args.toArray, argTypes := ats }, ty, pos, af, none⟩) :: rest) Q l bs := by
  refine SF.callG hE hent hv (R := fun v' bs2 => ∃ q c abs, AO q n c X abs ∧ v' = V q c ∧ bs2 = bs' abs) (fun w hw => (hc w hw).mono fun e w' hx => ?_) (by rintro v' bs2 ⟨q, c, abs, ha, rfl, rfl⟩; exact hkp q c abs ha) (by rintro v' bs2 ⟨q, c, abs, ha, rfl, rfl⟩; rw [hp]; exact h q c abs ha)
  obtain ⟨q, c, abs, rfl, ha, hw'⟩ := hx
  exact ⟨_, _, rfl, ⟨q, c, abs, ha, rfl, rfl⟩, by rw [← hbs]; exact OwnM.freshL hw hw'⟩
end
theorem copy_u (p : Option Addr) (n c : Nat) (B : List Int) (w : World) (hB : Sl w p n c B) (hmax : n ≤ 140737488355328) :
    Calls Try.prog 20 #[.slice p n c] w fun e w' => ∃ q c' abs, e = .returned (.slice q n c') ∧ AO q n c' B abs ∧ OwnM w [] w' abs := by
  by_cases h0 : n = 0
  · subst h0
    obtain rfl := List.eq_nil_of_length_eq_zero hB.len
    refine (copy_any_nil p c w).mono ?_
    rintro e w' ⟨rfl, hb⟩
    exact ⟨none, 0, [], rfl, AO.nil, by simpa using (OwnM.start w).grow hb⟩
  · refine (copy_any p n c B w hB (by omega) hmax).mono ?_
    rintro e w' ⟨nb, cap, hc, rfl, hw⟩
    exact ⟨_, _, _, rfl, AO.row hB.len hc, hw⟩
section
variable (d : DoV)
theorem do_k : d.row[0]? = some (.int .i64 d.k) := rfl
theorem do_m : d.row[1]? = some (.int .i64 d.m) := rfl
theorem do_a : d.row[2]? = some (.slice d.p d.la d.ca) := rfl
theorem do_b : d.row[3]? = some (.slice d.q d.lb d.cb) := rfl
theorem do_pb (q : Option Addr) (n c : Nat) (B : List Int) : putAt d.row 3 [.slice q n c] = { d with q := q, lb := n, cb := c, B := B }.row := rfl
theorem do_cells : ∀ u ∈ d.row.toList, u.oneCell' = true := by
  intro u hu
  simp [DoV.row] at hu
  rcases hu with rfl | rfl | rfl | rfl <;> rfl
end
theorem pN_ge {n m : Int} (h : 0 ≤ n) : 0 ≤ pN n m := by
  by_cases h2 : m < n ∨ 9007199254740991 < m
  · rw [pN_out h2]; exact h
  · rw [pN_in (by omega) (by omega)]; omega
theorem seal_stL (K : List Int) (hK : K.length = 32) (n : Int) (hn0 : 0 ≤ n) (b : Nat) (w : World) (p q : Option Addr) (c d k m : Nat) (A B : List Int) (bA : Byts A) (bB : Byts B) (hSA : Sl w p k c A) (hSB : Sl w q m d B) (hmA : k ≤ 140737488355328) (hmB : m ≤ 140737488355328) (hb : w.heap[b]? = some (.cells (stRow true K n) 62 (0, 0))) (hp : ApartB b p k) (hq : ApartB b q m) :
    Calls Try.prog 14 #[.pointer (some ⟨b, 0, none⟩), .slice p k c, .slice q m d] w (StPost w b 62 (stRow true K (kN n (kE n (sE A B)))) (kX n (sX K (nonV n) A B)) (kE n (sE A B))) := by
  obtain rfl := hSA.len
  obtain rfl := hSB.len
  exact seal_st K hK n hn0 b w p q c d A B bA bB hSA hSB hmA hmB hb hp hq
theorem open_stL (K : List Int) (hK : K.length = 32) (n : Int) (hn0 : 0 ≤ n) (b : Nat) (w : World) (p q : Option Addr) (c d k m : Nat) (A B : List Int) (bA : Byts A) (bB : Byts B) (hSA : Sl w p k c A) (hSB : Sl w q m d B) (hmA : k ≤ 140737488355328) (hmB : m ≤ 140737488355328) (hb : w.heap[b]? = some (.cells (stRow true K n) 62 (0, 0))) (hp : ApartB b p k) (hq : ApartB b q m) :
    Calls Try.prog 21 #[.pointer (some ⟨b, 0, none⟩), .slice p k c, .slice q m d] w (StPost w b 62 (stRow true K (kN n (kE n (oE K (nonV n) A B)))) (kX n (oX K (nonV n) A B)) (kE n (oE K (nonV n) A B))) := by
  obtain rfl := hSA.len
  obtain rfl := hSB.len
  exact open_st K hK n hn0 b w p q c d A B bA bB hSA hSB hmA hmB hb hp hq
theorem openAtL (K : List Int) (hK : K.length = 32) (n k0 : Int) (b : Nat) (w : World) (p q : Option Addr) (c d k m : Nat) (A B : List Int) (bA : Byts A) (bB : Byts B) (hSA : Sl w p k c A) (hSB : Sl w q m d B) (hmA : k ≤ 140737488355328) (hmB : m ≤ 140737488355328) {fz : Nat × Nat} {TT : TypeId} (hb : w.heap[b]? = some (.cells (stRow true K k0) TT fz)) :
    Calls Try.prog 23 #[.pointer (some ⟨b, 0, none⟩), .int .i64 n, .slice p k c, .slice q m d] w (BoxPost w (tX n (oX K (nonV n) A B)) (tE n (oE K (nonV n) A B))) := by
  obtain rfl := hSA.len
  obtain rfl := hSB.len
  exact openAt_any K hK n k0 b w p q c d A B bA bB hSA hSB hmA hmB hb
theorem rseal_stL (K : List Int) (hK : K.length = 32) (bK : Byts K) (n : Int) (hn0 : 0 ≤ n) (b : Nat) (w : World) (p q : Option Addr) (c d k m : Nat) (A B : List Int) (bA : Byts A) (bB : Byts B) (hSA : Sl w p k c A) (hSB : Sl w q m d B) (hmA : k ≤ 140737488355328) (hmB : m ≤ 140737488355328) (hb : w.heap[b]? = some (.cells (stRow true K n) 65 (0, 0))) (hp : ApartB b p k) (hq : ApartB b q m) :
    Calls Try.prog 15 #[.pointer (some ⟨b, 0, none⟩), .slice p k c, .slice q m d] w (StPost w b 65 (stRow true K (kN n (kE n (sE A B)))) (kX n (sX K (nonV n) A B)) (kE n (sE A B))) := by
  obtain rfl := hSA.len
  obtain rfl := hSB.len
  exact rseal_st K hK n hn0 b w p q c d A B bA bB hSA hSB hmA hmB bK hb hp hq
theorem ropen_stL (K : List Int) (hK : K.length = 32) (bK : Byts K) (n : Int) (hn0 : 0 ≤ n) (b : Nat) (w : World) (p q : Option Addr) (c d k m : Nat) (A B : List Int) (bA : Byts A) (bB : Byts B) (hSA : Sl w p k c A) (hSB : Sl w q m d B) (hmA : k ≤ 140737488355328) (hmB : m ≤ 140737488355328) (hb : w.heap[b]? = some (.cells (stRow true K n) 65 (0, 0))) (hp : ApartB b p k) (hq : ApartB b q m) :
    Calls Try.prog 41 #[.pointer (some ⟨b, 0, none⟩), .slice p k c, .slice q m d] w (StPost w b 65 (stRow true K (kN n (kE n (oE K (nonV n) A B)))) (kX n (oX K (nonV n) A B)) (kE n (oE K (nonV n) A B))) := by
  obtain rfl := hSA.len
  obtain rfl := hSB.len
  exact ropen_st K hK n hn0 b w p q c d A B bA bB hSA hSB hmA hmB bK hb hp hq
theorem ropenAtL (K : List Int) (hK : K.length = 32) (bK : Byts K) (n k0 : Int) (b : Nat) (w : World) (p q : Option Addr) (c d k m : Nat) (A B : List Int) (bA : Byts A) (bB : Byts B) (hSA : Sl w p k c A) (hSB : Sl w q m d B) (hmA : k ≤ 140737488355328) (hmB : m ≤ 140737488355328) {fz : Nat × Nat} {TT : TypeId} (hb : w.heap[b]? = some (.cells (stRow true K k0) TT fz)) :
    Calls Try.prog 42 #[.pointer (some ⟨b, 0, none⟩), .int .i64 n, .slice p k c, .slice q m d] w (BoxPost w (tX n (oX K (nonV n) A B)) (tE n (oE K (nonV n) A B))) := by
  obtain rfl := hSA.len
  obtain rfl := hSB.len
  exact ropenAt_any K hK bK n k0 b w p q c d A B bA bB hSA hSB hmA hmB hb
end Sp
end Go.Proofs.Ythbmlpiplfbehaa

namespace Go.Proofs.Ythbmlpiplfbehaa
set_option linter.unusedSimpArgs false
set_option linter.unusedVariables false
open Go Go.RowKit

namespace Sp
open F M
set_option maxRecDepth 20000 in
theorem kind_any (d : DoV) (w : World) :
    Calls Try.prog 29 #[.agg d.row] w fun e w' => e = .returned (.int .i64 (d.k % 6)) ∧ Below w.heap.size w w' := by
  have h1 := Int.emod_nonneg d.k (show (6 : Int) ≠ 0 by decide)
  have h2 := Int.emod_lt_of_pos d.k (show (0 : Int) < 6 by decide)
  rcases tmod_cases d.k 6 (by decide) with ⟨h3, h4⟩ | ⟨h3, h4⟩
  · have hw : IntKind.i64.wrap (d.k.tmod 6 + 6) = d.k % 6 := by rw [h4, IntWalk.i64_in _ (by omega)]
    refine pureE Try.func29 Try.ntmps29 Try.results29 ?_
    repeat (first | ((with_reducible refine SP.region (id := 0) ?_); refine SL.bx ?_; intro db; refine SL.e tabOk ?_; (with_reducible refine SL.nil ?_)) | ((with_reducible refine SP.region (id := 1) ?_); refine SL.e tabOk ?_; refine SL.ldC tabOk ?_ (hv := do_k d); refine SL.e tabOk ?_; refine SL.e tabOk ?_; (with_reducible refine SL.nil ?_)) | ((with_reducible refine SP.region (id := 2) ?_); refine SL.e tabOk ?_; refine SL.e tabOk ?_; (with_reducible refine SL.nil ?_)) | ((with_reducible refine SP.region (id := 3) ?_); refine SL.e tabOk ?_; refine SL.e tabOk ?_; refine SL.e tabOk ?_; (with_reducible refine SL.nil ?_)) | ((with_reducible refine SP.region (id := 4) ?_); refine SL.e tabOk ?_; refine SL.e tabOk ?_; (with_reducible refine SL.nil ?_)) | ((with_reducible refine SP.seqK ?_); intro _ _) | (with_reducible refine thenK_normal ?_) | (refine useK (by assumption) ?_) | (with_reducible refine SP.ret ?_) | ((with_reducible show SP _ _ _ (Code.cond _ _ _) _ _ _); first | (refine SP.condT rfl (by first | rfl | (simp only [decide_eq_true_eq, beq_iff_eq, bne_iff_ne]; first | done | omega)) ?_)))
    exact doneK.mk rfl (ResO.tmp rfl) (by simp only [hw]; rfl)
  · refine pureE Try.func29 Try.ntmps29 Try.results29 ?_
    repeat (first | ((with_reducible refine SP.region (id := 0) ?_); refine SL.bx ?_; intro db; refine SL.e tabOk ?_; (with_reducible refine SL.nil ?_)) | ((with_reducible refine SP.region (id := 1) ?_); refine SL.e tabOk ?_; refine SL.ldC tabOk ?_ (hv := do_k d); refine SL.e tabOk ?_; refine SL.e tabOk ?_; (with_reducible refine SL.nil ?_)) | ((with_reducible refine SP.region (id := 2) ?_); refine SL.e tabOk ?_; refine SL.e tabOk ?_; (with_reducible refine SL.nil ?_)) | ((with_reducible refine SP.region (id := 4) ?_); refine SL.e tabOk ?_; refine SL.e tabOk ?_; (with_reducible refine SL.nil ?_)) | ((with_reducible refine SP.seqK ?_); intro _ _) | (with_reducible refine thenK_normal ?_) | (refine useK (by assumption) ?_) | (with_reducible refine SP.skip ?_) | (with_reducible refine SP.ret ?_) | ((with_reducible show SP _ _ _ (Code.cond _ _ _) _ _ _); first | (refine SP.condF rfl (by first | rfl | (simp only [decide_eq_false_iff_not, beq_eq_false_iff_ne, bne_eq_false_iff_eq]; first | done | omega)) ?_)))
    exact doneK.mk rfl (ResO.tmp rfl) (by rw [h4]; rfl)

end Sp

end Go.Proofs.Ythbmlpiplfbehaa

namespace Go.Proofs.Ythbmlpiplfbehaa
set_option linter.unusedSimpArgs false
set_option linter.unusedVariables false
open Go Go.RowKit

namespace Sp
open F M
/-- Behind step's call of both: the same bytes and numbers, the same states. -/
def stepR (bt o db a m : Nat) (d : DoV) (q1 q2 : Option Addr) (c1 c2 : Nat) (abs1 abs2 : Mem) (l : List Value) (bs : Mem) : Prop :=
  ∃ (K' : List Int) (n' e : Int) (X Y : List Int) (q3 q4 q5 : Option Addr) (c3 c4 c5 : Nat) (abs3 abs4 abs5 : Mem), K'.length = 32 ∧ Byts K' ∧ 0 ≤ n' ∧ X.length ≤ 4112 ∧ Byts X ∧ Y.length ≤ 4112 ∧ Byts Y ∧
    AO q3 X.length c3 X abs3 ∧ AO q4 X.length c4 X abs4 ∧ AO q5 Y.length c5 Y abs5 ∧ l = [.pointer (some ⟨bt, o, none⟩), nth l 1, nth l 2, .pointer (some ⟨db, 0, none⟩), nth l 4, nth l 5, .slice q1 d.la c1, .slice q2 d.lb c2, .slice q3 X.length c3, .slice q4 X.length c4, .slice q5 Y.length c5, .int .i64 e, .int .i64 e, nth l 13, nth l 14, nth l 15, nth l 16, nth l 17, nth l 18, nth l 19, nth l 20, nth l 21, nth l 22, nth l 23, nth l 24, nth l 25, nth l 26, nth l 27, nth l 28, nth l 29, nth l 30, nth l 31, nth l 32, nth l 33, nth l 34, nth l 35, nth l 36, nth l 37, nth l 38, nth l 39, nth l 40, nth l 41, nth l 42, nth l 43, nth l 44, nth l 45, nth l 46, nth l 47, nth l 48, nth l 49, nth l 50, nth l 51, nth l 52, nth l 53, nth l 54, nth l 55, nth l 56, nth l 57, nth l 58, nth l 59, nth l 60, nth l 61, nth l 62, nth l 63, nth l 64, nth l 65, nth l 66, nth l 67, nth l 68, nth l 69, nth l 70, nth l 71, nth l 72, nth l 73, nth l 74, nth l 75, nth l 76, nth l 77, nth l 78, nth l 79, nth l 80, nth l 81, nth l 82, nth l 83, nth l 84, nth l 85, nth l 86, nth l 87, nth l 88, nth l 89, nth l 90, nth l 91, nth l 92, nth l 93, nth l 94, nth l 95, nth l 96, nth l 97, nth l 98, nth l 99, nth l 100, nth l 101, nth l 102, nth l 103, nth l 104, nth l 105, nth l 106, nth l 107, nth l 108, nth l 109, nth l 110, nth l 111, nth l 112, nth l 113, nth l 114, nth l 115, nth l 116, nth l 117, nth l 118, nth l 119, nth l 120, nth l 121, nth l 122, nth l 123, nth l 124, nth l 125, nth l 126, nth l 127, nth l 128, nth l 129, nth l 130, nth l 131, nth l 132, nth l 133, nth l 134, nth l 135, nth l 136, nth l 137, nth l 138, nth l 139, nth l 140, nth l 141, nth l 142, nth l 143, nth l 144, nth l 145, nth l 146, nth l 147, nth l 148, nth l 149, nth l 150, nth l 151, nth l 152, nth l 153, nth l 154, nth l 155, nth l 156, nth l 157, nth l 158, nth l 159, nth l 160, nth l 161, nth l 162, nth l 163, nth l 164, nth l 165, nth l 166, nth l 167, nth l 168, nth l 169, nth l 170, nth l 171, nth l 172, nth l 173, nth l 174, nth l 175, nth l 176, nth l 177] ∧ bs = (db, d.row, 57) :: (a, stRow true K' n', 62) :: (m, stRow true K' n', 65) :: (abs1 ++ (abs2 ++ (abs3 ++ (abs4 ++ abs5))))
/-- Where step ends. -/
def StepPost (w : World) (a m : Nat) (e : Ending) (w' : World) : Prop := ∃ (K' : List Int) (n' : Int) (q : Option Addr) (c : Nat) (X : List Int) (abs : Mem), K'.length = 32 ∧ Byts K' ∧ 0 ≤ n' ∧ Byts X ∧ X.length ≤ 4112 ∧
  e = .returned (.tuple #[.slice q X.length c, .bool true]) ∧ AO q X.length c X abs ∧ OwnM w [a, m] w' ((a, stRow true K' n', 62) :: (m, stRow true K' n', 65) :: abs)
def xxI' (L : List Int) : Nat → List Int
  | 0 => L
  | i + 1 => (xxI' L i).set i (bits .xor .u8 (gi (xxI' L i) i) 90)
@[irreducible] def xxI (L : List Int) (i : Nat) : List Int := xxI' L i
theorem xxI_0 (L : List Int) : xxI L 0 = L := by unfold xxI; rfl
theorem xxI_s (L : List Int) (i : Nat) : xxI L (i + 1) = (xxI L i).set i (bits .xor .u8 (gi (xxI L i) i) 90) := by unfold xxI; rfl
theorem xxI_length (L : List Int) : ∀ i, (xxI L i).length = L.length
  | 0 => by rw [xxI_0]
  | i + 1 => by rw [xxI_s, List.length_set, xxI_length L i]
attribute [simp] xxI_length
theorem kind_is (d : DoV) (v : Int) (hk : d.k % 6 = v) (w : World) : Calls Try.prog 29 #[.agg d.row] w fun e w' => e = .returned (.int .i64 v) ∧ Below w.heap.size w w' := by
  have h := kind_any d w
  rwa [hk] at h

/-- What step leaves. -/
def stepQ (a m : Nat) (v : Value) (bs : Mem) : Prop := ∃ (K' : List Int) (n' : Int) (q : Option Addr) (c : Nat) (X : List Int) (abs : Mem), K'.length = 32 ∧ Byts K' ∧ 0 ≤ n' ∧ Byts X ∧ X.length ≤ 4112 ∧ v = .tuple #[.slice q X.length c, .bool true] ∧ AO q X.length c X abs ∧ ((a, stRow true K' n', 62) :: (m, stRow true K' n', 65) :: abs).Sublist bs
/-- What is behind a piece of code. -/
def codeR : Code → Code
  | .seq _ t => t
  | _ => .skip
set_option maxRecDepth 20000 in
set_option maxHeartbeats 4000000 in
theorem step_tail (d : DoV) (bt o db a m : Nat) (w : World) {Z : Array Value} {TZ : TypeId} {fz : Nat × Nat} (hbt : w.heap[bt]? = some (.cells Z TZ fz)) (hva : Z[o]? = some (.pointer (some ⟨a, 0, none⟩))) (hvm : Z[o + 1]? = some (.pointer (some ⟨m, 0, none⟩))) (hnb : bt ∉ [a, m]) (hd : d.ok w) (hpa : ∀ b ∈ [a, m], ApartB b d.p d.la) (hqa : ∀ b ∈ [a, m], ApartB b d.q d.lb)
    (q1 q2 : Option Addr) (c1 c2 : Nat) (abs1 abs2 : Mem) (ha1 : AO q1 d.la c1 d.A abs1) (ha2 : AO q2 d.lb c2 d.B abs2) (l : List Value) (bs : Mem) : stepR bt o db a m d q1 q2 c1 c2 abs1 abs2 l bs →
    SP Try.prog w [a, m] (codeR (codeR (codeR (codeR (codeR (Try.f30.body.getD .skip)))))) (doneK Try.prog w [a, m] #[.tmp 4, .tmp 5] (stepQ a m)) l bs := by
  obtain ⟨SA, SB, bA, bB, hla, hlb, _, _⟩ := hd
  rintro ⟨K', n', e, X, Y, q3, q4, q5, c3, c4, c5, abs3, abs4, abs5, hK', bK', hn', hX, bX, hY, bY, ha3, ha4, ha5, hl, rfl⟩
  refine SP.cast hl ?_
  clear hl
  conv => arg 4; whnf
  repeat (first | ((with_reducible refine SP.region (id := 23) ?_); refine SL.e tabOk ?_; (with_reducible refine SL.nil ?_)) | ((with_reducible show SP _ _ _ (Code.region _ _ true) _ _ _); first | (refine SPa (id := 21) [] [] ([]) [0, 1, 2, 3, 4, 5, 6, 7, 8, 9, 10, 11, 12, 13, 14, 15, 16, 17, 18, 19, 20, 21, 22, 23, 24, 25, 26, 27, 28, 29, 30, 31, 32, 33, 34, 35] follows ?_; refine SF.p tabOk ?_; refine SF.p tabOk ?_; (first | (refine SF.c true tabOk ?_) | (refine SF.c false tabOk ?_) | (refine SF.e tabOk ?_)); refine SF.p tabOk ?_; (first | (refine SF.gT ?_; refine SF.p tabOk ?_) | refine SF.gF ?_); (first | (refine SF.gT ?_; refine SF.p tabOk ?_) | refine SF.gF ?_); (first | (refine SF.gT ?_; refine SF.v (ValO.call ent_16 _ rfl _ (fun w1 hw1 => eqb_t q3 q4 _ _ c3 c4 X X w1 (ha3.sl hw1 sbl) (ha4.sl hw1 sbl) (by omega) rfl)) ?_) | refine SF.gF ?_); (first | (refine SF.gT ?_; refine SF.e tabOk ?_) | refine SF.gF ?_); refine SF.e tabOk ?_; refine SF.p tabOk ?_; (first | (refine SF.gT ?_; refine SF.p tabOk ?_) | refine SF.gF ?_); (first | (refine SF.gT ?_; refine SF.e tabOk ?_) | refine SF.gF ?_); (first | (refine SF.gT ?_; refine SF.ldC tabOk ?_ (hv := do_a d)) | refine SF.gF ?_); (first | (refine SF.gT ?_; refine SF.v (ValO.call ent_16 _ rfl _ (fun w1 hw1 => eqb_t q1 d.p _ _ c1 d.ca d.A d.A w1 (ha1.sl hw1 sbl) (SA.oldL hw1 hpa) (by omega) rfl)) ?_) | refine SF.gF ?_); (first | (refine SF.gT ?_; refine SF.e tabOk ?_) | refine SF.gF ?_); refine SF.e tabOk ?_; refine SF.p tabOk ?_; (first | (refine SF.gT ?_; refine SF.p tabOk ?_) | refine SF.gF ?_); (first | (refine SF.gT ?_; refine SF.e tabOk ?_) | refine SF.gF ?_); (first | (refine SF.gT ?_; refine SF.ldC tabOk ?_ (hv := do_b d)) | refine SF.gF ?_); (first | (refine SF.gT ?_; refine SF.v (ValO.call ent_16 _ rfl _ (fun w1 hw1 => eqb_t q2 d.q _ _ c2 d.cb d.B d.B w1 (ha2.sl hw1 sbl) (SB.oldL hw1 hqa) (by omega) rfl)) ?_) | refine SF.gF ?_); (first | (refine SF.gT ?_; refine SF.e tabOk ?_) | refine SF.gF ?_); refine SF.e tabOk ?_; refine SF.p tabOk ?_; (first | (refine SF.gT ?_; refine SF.p tabOk ?_) | refine SF.gF ?_); (first | (refine SF.gT ?_; refine SF.nc ?_) | refine SF.gF ?_); (first | (refine SF.gT ?_; refine SF.e tabOk ?_) | refine SF.gF ?_); (first | (refine SF.gT ?_; refine SF.ldC tabOk ?_ (hr := RdA.old hbt hnb) (hv := hva)) | refine SF.gF ?_); (first | (refine SF.gT ?_; refine SF.v (ValO.call ent_17 _ rfl _ (fun w1 hw1 => next_any K' hK' n' a w1 (hbk hw1 a))) ?_) | refine SF.gF ?_); (first | (refine SF.gT ?_; refine SF.p tabOk ?_) | refine SF.gF ?_); (first | (refine SF.gT ?_; refine SF.nc ?_) | refine SF.gF ?_); (first | (refine SF.gT ?_; refine SF.e tabOk ?_) | refine SF.gF ?_); (first | (refine SF.gT ?_; refine SF.ldC tabOk ?_ (hr := RdA.old hbt hnb) (hv := hvm)) | refine SF.gF ?_); (first | (refine SF.gT ?_; refine SF.v (ValO.call ent_18 _ rfl _ (fun w1 hw1 => rnext_any K' hK' n' m w1 (hbk hw1 m))) ?_) | refine SF.gF ?_); (first | (refine SF.gT ?_; (first | (refine SF.c true tabOk ?_) | (refine SF.c false tabOk ?_) | (refine SF.e tabOk ?_))) | refine SF.gF ?_); refine SF.e tabOk ?_; refine SF.done ?_)) | ((with_reducible refine SP.seqK ?_); intro _ _) | (with_reducible refine thenK_normal ?_) | (refine useK (by assumption) ?_) | (with_reducible refine SP.block ?_) | (with_reducible refine SP.skip ?_) | ((with_reducible show SP _ _ _ (Code.cond _ _ _) _ _ _); first | (refine SP.condF rfl (by first | rfl | (simp only [decide_eq_false_iff_not, beq_eq_false_iff_ne, bne_eq_false_iff_eq]; first | done | omega)) ?_)))
  by_cases hX0 : X.length = 0
  · refine SP.loopN (fun i l bs => l = [.pointer (some ⟨bt, o, none⟩), nth l 1, nth l 2, .pointer (some ⟨db, 0, none⟩), nth l 4, nth l 5, .slice q1 d.la c1, .slice q2 d.lb c2, .slice q3 X.length c3, .slice q4 X.length c4, .slice q5 Y.length c5, .int .i64 e, .int .i64 e, .int .i64 ((i : Nat)), nth l 14, nth l 15, nth l 16, nth l 17, nth l 18, nth l 19, nth l 20, nth l 21, nth l 22, nth l 23, nth l 24, nth l 25, nth l 26, nth l 27, nth l 28, nth l 29, nth l 30, nth l 31, nth l 32, nth l 33, nth l 34, nth l 35, nth l 36, nth l 37, nth l 38, nth l 39, nth l 40, nth l 41, nth l 42, nth l 43, nth l 44, nth l 45, nth l 46, nth l 47, nth l 48, nth l 49, nth l 50, nth l 51, nth l 52, nth l 53, nth l 54, nth l 55, nth l 56, nth l 57, nth l 58, nth l 59, nth l 60, nth l 61, nth l 62, nth l 63, nth l 64, nth l 65, nth l 66, nth l 67, nth l 68, nth l 69, nth l 70, nth l 71, nth l 72, nth l 73, nth l 74, nth l 75, nth l 76, nth l 77, nth l 78, nth l 79, nth l 80, nth l 81, nth l 82, nth l 83, nth l 84, nth l 85, nth l 86, nth l 87, nth l 88, nth l 89, nth l 90, nth l 91, nth l 92, nth l 93, nth l 94, nth l 95, nth l 96, nth l 97, nth l 98, nth l 99, nth l 100, nth l 101, nth l 102, nth l 103, nth l 104, nth l 105, nth l 106, nth l 107, nth l 108, nth l 109, nth l 110, nth l 111, nth l 112, nth l 113, nth l 114, nth l 115, nth l 116, nth l 117, nth l 118, nth l 119, nth l 120, nth l 121, nth l 122, nth l 123, nth l 124, nth l 125, nth l 126, nth l 127, nth l 128, nth l 129, nth l 130, nth l 131, nth l 132, nth l 133, nth l 134, nth l 135, nth l 136, nth l 137, nth l 138, nth l 139, nth l 140, nth l 141, nth l 142, nth l 143, nth l 144, nth l 145, nth l 146, nth l 147, nth l 148, nth l 149, nth l 150, nth l 151, nth l 152, nth l 153, nth l 154, nth l 155, nth l 156, nth l 157, nth l 158, nth l 159, nth l 160, nth l 161, nth l 162, nth l 163, nth l 164, nth l 165, nth l 166, nth l 167, nth l 168, nth l 169, nth l 170, nth l 171, nth l 172, nth l 173, nth l 174, nth l 175, nth l 176, nth l 177] ∧ bs = (db, d.row, 57) :: (a, stRow true K' n', 62) :: (m, stRow true K' n', 65) :: (abs1 ++ (abs2 ++ (abs3 ++ (abs4 ++ abs5))))) (0) ⟨rfl, rfl⟩ ?_
    rintro i lfi _ hki ⟨hli, rfl⟩
    refine SP.cast hli ?_
    clear hli
    by_cases hlti : i < 0
    · have hi1 : IntKind.i64.wrap ((i : Int) + 1) = ((i + 1 : Nat) : Int) := by rw [IntWalk.i64_in _ (by omega)]; omega
      exact absurd hlti (Nat.not_lt_zero i)
    · have hendi : i = 0 := by omega
      replace hendi := Lib.hid hendi
      have hq := hendi.out
      repeat (first | ((with_reducible refine SP.region (id := 24) ?_); refine SL.e tabOk ?_; refine SL.e tabOk ?_; refine SL.v (ValO.len tabOk (by rfl)) ?_; refine SL.e tabOk ?_; (with_reducible refine SL.nil ?_)) | ((with_reducible refine SP.region (id := 27) ?_); refine SL.e tabOk ?_; refine SL.e tabOk ?_; refine SL.e tabOk ?_; (with_reducible refine SL.nil ?_)) | ((with_reducible refine SP.seqK ?_); intro _ _) | (with_reducible refine thenK_normal ?_) | (refine useK (by assumption) ?_) | (with_reducible refine SP.ret ?_) | (with_reducible refine SP.exit ?_) | ((with_reducible show SP _ _ _ (Code.cond _ _ _) _ _ _); first | (refine SP.condF rfl (by first | rfl | (simp only [decide_eq_false_iff_not, beq_eq_false_iff_ne, bne_eq_false_iff_eq]; first | done | omega)) ?_)))
      exact doneK.mk rfl (ResO.tmp2 rfl rfl) ⟨K', n', q5, c5, Y, abs5, hK', bK', hn', bY, hY, rfl, ha5, (by repeat (first | exact List.Sublist.refl _ | refine List.Sublist.cons_cons _ ?_ | refine List.Sublist.cons _ ?_ | refine List.Sublist.trans ?_ (List.sublist_append_right _ _)))⟩
  · obtain ⟨x3, J3, T3, rfl, rfl⟩ := ha3.at_ (by omega)
    have hc3 := ha3.cap
    refine SP.sub (bs' := (a, stRow true K' n', 62) :: (m, stRow true K' n', 65) :: (x3, ints .u8 (X ++ J3), T3) :: abs5) ?_ (by repeat (first | exact List.Sublist.refl _ | refine List.Sublist.cons_cons _ ?_ | refine List.Sublist.cons _ ?_ | refine List.Sublist.trans ?_ (List.sublist_append_right _ _)))
    refine SP.loopN (fun i l bs => l = [.pointer (some ⟨bt, o, none⟩), nth l 1, nth l 2, .pointer (some ⟨db, 0, none⟩), nth l 4, nth l 5, .slice q1 d.la c1, .slice q2 d.lb c2, .slice (some ⟨x3, 0, none⟩) X.length c3, .slice q4 X.length c4, .slice q5 Y.length c5, .int .i64 e, .int .i64 e, .int .i64 ((i : Nat)), nth l 14, nth l 15, nth l 16, nth l 17, nth l 18, nth l 19, nth l 20, nth l 21, nth l 22, nth l 23, nth l 24, nth l 25, nth l 26, nth l 27, nth l 28, nth l 29, nth l 30, nth l 31, nth l 32, nth l 33, nth l 34, nth l 35, nth l 36, nth l 37, nth l 38, nth l 39, nth l 40, nth l 41, nth l 42, nth l 43, nth l 44, nth l 45, nth l 46, nth l 47, nth l 48, nth l 49, nth l 50, nth l 51, nth l 52, nth l 53, nth l 54, nth l 55, nth l 56, nth l 57, nth l 58, nth l 59, nth l 60, nth l 61, nth l 62, nth l 63, nth l 64, nth l 65, nth l 66, nth l 67, nth l 68, nth l 69, nth l 70, nth l 71, nth l 72, nth l 73, nth l 74, nth l 75, nth l 76, nth l 77, nth l 78, nth l 79, nth l 80, nth l 81, nth l 82, nth l 83, nth l 84, nth l 85, nth l 86, nth l 87, nth l 88, nth l 89, nth l 90, nth l 91, nth l 92, nth l 93, nth l 94, nth l 95, nth l 96, nth l 97, nth l 98, nth l 99, nth l 100, nth l 101, nth l 102, nth l 103, nth l 104, nth l 105, nth l 106, nth l 107, nth l 108, nth l 109, nth l 110, nth l 111, nth l 112, nth l 113, nth l 114, nth l 115, nth l 116, nth l 117, nth l 118, nth l 119, nth l 120, nth l 121, nth l 122, nth l 123, nth l 124, nth l 125, nth l 126, nth l 127, nth l 128, nth l 129, nth l 130, nth l 131, nth l 132, nth l 133, nth l 134, nth l 135, nth l 136, nth l 137, nth l 138, nth l 139, nth l 140, nth l 141, nth l 142, nth l 143, nth l 144, nth l 145, nth l 146, nth l 147, nth l 148, nth l 149, nth l 150, nth l 151, nth l 152, nth l 153, nth l 154, nth l 155, nth l 156, nth l 157, nth l 158, nth l 159, nth l 160, nth l 161, nth l 162, nth l 163, nth l 164, nth l 165, nth l 166, nth l 167, nth l 168, nth l 169, nth l 170, nth l 171, nth l 172, nth l 173, nth l 174, nth l 175, nth l 176, nth l 177] ∧ bs = (a, stRow true K' n', 62) :: (m, stRow true K' n', 65) :: (x3, ints .u8 (xxI (X ++ J3) i), T3) :: abs5) (X.length) ⟨rfl, by rw [xxI_0]⟩ ?_
    rintro i lfi _ hki ⟨hli, rfl⟩
    refine SP.cast hli ?_
    clear hli
    by_cases hlti : i < X.length
    · have hi1 : IntKind.i64.wrap ((i : Int) + 1) = ((i + 1 : Nat) : Int) := by rw [IntWalk.i64_in _ (by omega)]; omega
      have hxl : (xxI (X ++ J3) i).length = X.length + J3.length := by simp
      repeat (first | ((with_reducible refine SP.region (id := 24) ?_); refine SL.e tabOk ?_; refine SL.e tabOk ?_; refine SL.v (ValO.len tabOk (by rfl)) ?_; refine SL.e tabOk ?_; (with_reducible refine SL.nil ?_)) | ((with_reducible refine SP.region (id := 25) ?_); refine SL.e tabOk ?_; refine SL.e tabOk ?_; refine SL.e tabOk ?_; (with_reducible refine SL.nil ?_)) | ((with_reducible refine SP.region (id := 26) ?_); refine SL.e tabOk ?_; refine SL.e tabOk ?_; refine SL.e tabOk ?_; refine SL.e tabOk ?_; refine SL.ixS tabOk ?_; refine SL.ldI tabOk ?_; refine SL.e tabOk ?_; refine SL.ixS tabOk ?_; refine SL.stI tabOk ?_; (with_reducible refine SL.nil ?_)) | ((with_reducible refine SP.seqK ?_); intro _ _) | (with_reducible refine thenK_normal ?_) | (refine useK (by assumption) ?_) | (with_reducible refine SP.block ?_) | (with_reducible refine SP.skip ?_) | ((with_reducible show SP _ _ _ (Code.cond _ _ _) _ _ _); first | (refine SP.condT rfl (by first | rfl | (simp only [decide_eq_true_eq, beq_iff_eq, bne_iff_ne]; first | done | omega)) ?_)))
      simp only [hi1]
      exact ⟨hlti, rfl, by rw [xxI_s]⟩
    · have hendi : i = X.length := by omega
      replace hendi := Lib.hid hendi
      have hq := hendi.out
      repeat (first | ((with_reducible refine SP.region (id := 24) ?_); refine SL.e tabOk ?_; refine SL.e tabOk ?_; refine SL.v (ValO.len tabOk (by rfl)) ?_; refine SL.e tabOk ?_; (with_reducible refine SL.nil ?_)) | ((with_reducible refine SP.region (id := 27) ?_); refine SL.e tabOk ?_; refine SL.e tabOk ?_; refine SL.e tabOk ?_; (with_reducible refine SL.nil ?_)) | ((with_reducible refine SP.seqK ?_); intro _ _) | (with_reducible refine thenK_normal ?_) | (refine useK (by assumption) ?_) | (with_reducible refine SP.ret ?_) | (with_reducible refine SP.exit ?_) | ((with_reducible show SP _ _ _ (Code.cond _ _ _) _ _ _); first | (refine SP.condF rfl (by first | rfl | (simp only [decide_eq_false_iff_not, beq_eq_false_iff_ne, bne_eq_false_iff_eq]; first | done | omega)) ?_)))
      exact doneK.mk rfl (ResO.tmp2 rfl rfl) ⟨K', n', q5, c5, Y, abs5, hK', bK', hn', bY, hY, rfl, ha5, (by repeat (first | exact List.Sublist.refl _ | refine List.Sublist.cons_cons _ ?_ | refine List.Sublist.cons _ ?_))⟩

set_option maxRecDepth 20000 in
set_option maxHeartbeats 4000000 in
theorem step_any (K : List Int) (hK : K.length = 32) (bK : Byts K) (n : Int) (hn0 : 0 ≤ n) (d : DoV) (bt o a m : Nat) (w : World) (ha : w.heap[a]? = some (.cells (stRow true K n) 62 (0, 0))) (hm : w.heap[m]? = some (.cells (stRow true K n) 65 (0, 0))) (hne : a ≠ m) {Z : Array Value} {TZ : TypeId} {fz : Nat × Nat} (hbt : w.heap[bt]? = some (.cells Z TZ fz)) (hva : Z[o]? = some (.pointer (some ⟨a, 0, none⟩))) (hvm : Z[o + 1]? = some (.pointer (some ⟨m, 0, none⟩))) (hnb : bt ∉ [a, m]) (hd : d.ok w) (hpa : ∀ b ∈ [a, m], ApartB b d.p d.la) (hqa : ∀ b ∈ [a, m], ApartB b d.q d.lb) :
    Calls Try.prog 30 #[.pointer (some ⟨bt, o, none⟩), .agg d.row] w (StepPost w a m) := by
  have hd2 := hd
  obtain ⟨SA, SB, bA, bB, hla, hlb, _, _⟩ := hd
  refine (callE (mu := [a, m]) Try.func30 Try.ntmps30 Try.results30 (OwnM.start2 w ha hm hne) (stepQ a m) ?_).mono ?_
  · repeat (first | ((with_reducible refine SP.region (id := 0) ?_); refine SL.bx ?_; intro db; refine SL.e tabOk ?_; refine SL.e tabOk ?_; (with_reducible refine SL.nil ?_)) | ((with_reducible refine SP.region (id := 2) ?_); refine SL.e tabOk ?_; refine SL.e tabOk ?_; refine SL.e tabOk ?_; (with_reducible refine SL.nil ?_)) | ((with_reducible show SP _ _ _ (Code.region _ _ true) _ _ _); first | (refine SPa (id := 1) [2, 5] [3, 4] ([(db, d.row, 57)]) [0, 1, 3, 4, 2, 5, 6, 7] follows ?_; refine SF.e tabOk ?_; refine SF.ldC tabOk ?_ (hv := do_a d); refine SF.valK rfl rfl rfl rfl (fun m hm => ValO.ev tabOk (by rfl)) bpp ?_; refine SF.vK (fun m hm => ValO.ldCell tabOk _ _ rfl _ _ rfl rfl _ (RdA.kept hm g0) _ (do_b d)) ?_; refine SF.clA (V := fun q c => .slice q d.la c) ent_20 rfl (n := d.la) (X := d.A) (fun w1 hw1 => copy_u d.p d.la d.ca d.A w1 (SA.oldL hw1 hpa) (by omega)) (fun q1 c1 abs1 ha1 => ?_); refine SF.clA (V := fun q c => .slice q d.lb c) ent_20 rfl (n := d.lb) (X := d.B) (fun w1 hw1 => copy_u d.q d.lb d.cb d.B w1 (SB.oldL hw1 hqa) (by omega)) (fun q2 c2 abs2 ha2 => ?_); refine SF.p tabOk ?_; refine SF.p tabOk ?_; refine SF.done ?_)) | ((with_reducible refine SP.seqK ?_); intro _ _) | (with_reducible refine thenK_normal ?_) | (refine useK (by assumption) ?_))
    (with_reducible refine SP.region (id := 3) ?_); refine SL.e tabOk ?_; refine SL.e tabOk ?_; (with_reducible refine SL.nil ?_)
    refine thenK_normal ?_
    refine useK (by assumption) ?_
    refine SP.seqK ?_
    intro KK hKK
    have hR : ∀ l bs, stepR bt o db a m d q1 q2 c1 c2 abs1 abs2 l bs → KK l bs := fun l bs h => hKK l bs (step_tail d bt o db a m w hbt hva hvm hnb hd2 hpa hqa q1 q2 c1 c2 abs1 abs2 ha1 ha2 l bs h)
    clear hKK
    have h0 := Int.emod_nonneg d.k (show (6 : Int) ≠ 0 by decide)
    have h6 := Int.emod_lt_of_pos d.k (show (0 : Int) < 6 by decide)
    have hcs : d.k % 6 = 0 ∨ d.k % 6 = 1 ∨ d.k % 6 = 2 ∨ d.k % 6 = 3 ∨ d.k % 6 = 4 ∨ d.k % 6 = 5 := by omega
    rcases hcs with hcs | hcs | hcs | hcs | hcs | hcs
    · have hk : d.k % 6 = 0 := by omega
      have hXl : (kX n (sX K (nonV n) d.A d.B)).length ≤ 4112 := kX_le n (sX_le _ _ _ _)
      have hXb : Byts (kX n (sX K (nonV n) d.A d.B)) := kX_byts n (sX_byts bB)
      repeat (first | ((with_reducible refine SP.region (id := 4) ?_); refine SL.ldP tabOk ?_ (hn := Nat.le_refl _) (hB := rfl); refine SL.v (ValO.call ent_29 _ rfl _ (fun w1 hw1 => kind_is d 0 hk w1)) ?_; (with_reducible refine SL.nil ?_)) | ((with_reducible refine SP.region (id := 7) ?_); refine SL.e tabOk ?_; refine SL.e tabOk ?_; (with_reducible refine SL.nil ?_)) | ((with_reducible refine SP.region (id := 8) ?_); refine SL.e tabOk ?_; refine SL.nc ?_; refine SL.e tabOk ?_; refine SL.ldC tabOk ?_ (hr := RdA.old hbt hnb) (hv := hva); refine SL.e tabOk ?_; refine SL.e tabOk ?_; refine SL.clS (i := 1) ent_14 rfl rfl (X := kX n (sX K (nonV n) d.A d.B)) (n := kE n (sE d.A d.B)) (fun w2 hw2 => seal_stL K hK n hn0 a w2 q1 q2 c1 c2 d.la d.lb d.A d.B bA bB (ha1.sl hw2 sbl) (ha2.sl hw2 sbl) (by omega) (by omega) (hbk hw2 a) (ApartB.aoS (b := a) hw2 ha1 sbm) (ApartB.aoS (b := a) hw2 ha2 sbm)) (fun q3 c3 abs3 ha3 => ?_); refine SL.e tabOk ?_; refine SL.e tabOk ?_; refine SL.e tabOk ?_; refine SL.e tabOk ?_; refine SL.e tabOk ?_; (with_reducible refine SL.nil ?_)) | ((with_reducible refine SP.region (id := 10) ?_); refine SL.e tabOk ?_; refine SL.clA (V := fun q c => .slice q (kX n (sX K (nonV n) d.A d.B)).length c) ent_20 rfl (n := (kX n (sX K (nonV n) d.A d.B)).length) (X := kX n (sX K (nonV n) d.A d.B)) (fun w1 hw1 => copy_u q4 _ c4 (kX n (sX K (nonV n) d.A d.B)) w1 (ha4.sl hw1 sbl) (by omega)) (fun q5 c5 abs5 ha5 => ?_); refine SL.e tabOk ?_; (with_reducible refine SL.nil ?_)) | ((with_reducible show SP _ _ _ (Code.region _ _ true) _ _ _); first | (refine SPa (id := 9) [8] [] ([]) [0, 1, 2, 3, 4, 5, 6, 7, 8, 9, 10, 11, 12, 13] follows ?_; refine SF.p tabOk ?_; refine SF.nc ?_; refine SF.e tabOk ?_; refine SF.ldC tabOk ?_ (hr := RdA.old hbt hnb) (hv := hvm); refine SF.e tabOk ?_; refine SF.ldC tabOk ?_ (hv := do_a d); refine SF.e tabOk ?_; refine SF.ldC tabOk ?_ (hv := do_b d); refine SF.clS (i := 2) ent_15 rfl rfl (X := kX n (sX K (nonV n) d.A d.B)) (n := kE n (sE d.A d.B)) (fun w2 hw2 => rseal_stL K hK bK n hn0 m w2 d.p d.q d.ca d.cb d.la d.lb d.A d.B bA bB (SA.oldL hw2 hpa) (SB.oldL hw2 hqa) (by omega) (by omega) (hbk hw2 m) (ApartB.oldL SA hw2 hpa (mbk m)) (ApartB.oldL SB hw2 hqa (mbk m))) (fun q4 c4 abs4 ha4 => ?_); refine SF.p tabOk ?_; refine SF.p tabOk ?_; refine SF.p tabOk ?_; refine SF.p tabOk ?_; refine SF.p tabOk ?_; refine SF.done ?_)) | ((with_reducible refine SP.seqK ?_); intro _ _) | (with_reducible refine thenK_normal ?_) | (refine useK (by assumption) ?_) | (with_reducible refine SP.block ?_) | ((with_reducible show SP _ _ _ (Code.cond _ _ _) _ _ _); first | (refine SP.condT rfl (by first | rfl | (simp only [decide_eq_true_eq, beq_iff_eq, bne_iff_ne]; first | done | omega)) ?_)))
      exact ⟨K, kN n (kE n (sE d.A d.B)), kE n (sE d.A d.B), kX n (sX K (nonV n) d.A d.B), kX n (sX K (nonV n) d.A d.B), q3, q4, q5, c3, c4, c5, abs3, abs4, abs5, hK, bK, kN_ge _ hn0, hXl, hXb, hXl, hXb, ha3, ha4, ha5, rfl, rfl⟩
    · have hk : d.k % 6 = 1 := by omega
      have hXl : (kX n (oX K (nonV n) d.A d.B)).length ≤ 4112 := Nat.le_trans (kX_le n (oX_le _ _ _ _)) (by decide)
      have hXb : Byts (kX n (oX K (nonV n) d.A d.B)) := kX_byts n (oX_byts bB)
      repeat (first | ((with_reducible refine SP.region (id := 4) ?_); refine SL.ldP tabOk ?_ (hn := Nat.le_refl _) (hB := rfl); refine SL.v (ValO.call ent_29 _ rfl _ (fun w1 hw1 => kind_is d 1 hk w1)) ?_; (with_reducible refine SL.nil ?_)) | ((with_reducible refine SP.region (id := 7) ?_); refine SL.e tabOk ?_; refine SL.e tabOk ?_; (with_reducible refine SL.nil ?_)) | ((with_reducible refine SP.region (id := 11) ?_); refine SL.e tabOk ?_; refine SL.e tabOk ?_; (with_reducible refine SL.nil ?_)) | ((with_reducible refine SP.region (id := 13) ?_); refine SL.e tabOk ?_; refine SL.nc ?_; refine SL.e tabOk ?_; refine SL.ldC tabOk ?_ (hr := RdA.old hbt hnb) (hv := hva); refine SL.e tabOk ?_; refine SL.e tabOk ?_; refine SL.clS (i := 1) ent_21 rfl rfl (X := kX n (oX K (nonV n) d.A d.B)) (n := kE n (oE K (nonV n) d.A d.B)) (fun w2 hw2 => open_stL K hK n hn0 a w2 q1 q2 c1 c2 d.la d.lb d.A d.B bA bB (ha1.sl hw2 sbl) (ha2.sl hw2 sbl) (by omega) (by omega) (hbk hw2 a) (ApartB.aoS (b := a) hw2 ha1 sbm) (ApartB.aoS (b := a) hw2 ha2 sbm)) (fun q3 c3 abs3 ha3 => ?_); refine SL.e tabOk ?_; refine SL.e tabOk ?_; refine SL.e tabOk ?_; refine SL.e tabOk ?_; refine SL.e tabOk ?_; (with_reducible refine SL.nil ?_)) | ((with_reducible show SP _ _ _ (Code.region _ _ true) _ _ _); first | (refine SPa (id := 14) [8] [] ([]) [0, 1, 2, 3, 4, 5, 6, 7, 8, 9, 10, 11, 12, 13] follows ?_; refine SF.p tabOk ?_; refine SF.nc ?_; refine SF.e tabOk ?_; refine SF.ldC tabOk ?_ (hr := RdA.old hbt hnb) (hv := hvm); refine SF.e tabOk ?_; refine SF.ldC tabOk ?_ (hv := do_a d); refine SF.e tabOk ?_; refine SF.ldC tabOk ?_ (hv := do_b d); refine SF.clS (i := 2) ent_41 rfl rfl (X := kX n (oX K (nonV n) d.A d.B)) (n := kE n (oE K (nonV n) d.A d.B)) (fun w2 hw2 => ropen_stL K hK bK n hn0 m w2 d.p d.q d.ca d.cb d.la d.lb d.A d.B bA bB (SA.oldL hw2 hpa) (SB.oldL hw2 hqa) (by omega) (by omega) (hbk hw2 m) (ApartB.oldL SA hw2 hpa (mbk m)) (ApartB.oldL SB hw2 hqa (mbk m))) (fun q4 c4 abs4 ha4 => ?_); refine SF.p tabOk ?_; refine SF.p tabOk ?_; refine SF.p tabOk ?_; refine SF.p tabOk ?_; refine SF.p tabOk ?_; refine SF.done ?_)) | ((with_reducible refine SP.seqK ?_); intro _ _) | (with_reducible refine thenK_normal ?_) | (refine useK (by assumption) ?_) | (with_reducible refine SP.block ?_) | (with_reducible refine SP.skip ?_) | ((with_reducible show SP _ _ _ (Code.cond _ _ _) _ _ _); first | (refine SP.condT rfl (by first | rfl | (simp only [decide_eq_true_eq, beq_iff_eq, bne_iff_ne]; first | done | omega)) ?_) | (refine SP.condF rfl (by first | rfl | (simp only [decide_eq_false_iff_not, beq_eq_false_iff_ne, bne_eq_false_iff_eq]; first | done | omega)) ?_)))
      exact ⟨K, kN n (kE n (oE K (nonV n) d.A d.B)), kE n (oE K (nonV n) d.A d.B), kX n (oX K (nonV n) d.A d.B), [], q3, q4, none, c3, c4, 0, abs3, abs4, [], hK, bK, kN_ge _ hn0, hXl, hXb, by decide, byts_nil, ha3, ha4, AO.nil, rfl, by simp⟩
    · have hk : d.k % 6 = 2 := by omega
      have hXl : (tX d.m (oX K (nonV d.m) d.A d.B)).length ≤ 4112 := Nat.le_trans (tX_le d.m (oX_le _ _ _ _)) (by decide)
      have hXb : Byts (tX d.m (oX K (nonV d.m) d.A d.B)) := tX_byts d.m (oX_byts bB)
      repeat (first | ((with_reducible refine SP.region (id := 4) ?_); refine SL.ldP tabOk ?_ (hn := Nat.le_refl _) (hB := rfl); refine SL.v (ValO.call ent_29 _ rfl _ (fun w1 hw1 => kind_is d 2 hk w1)) ?_; (with_reducible refine SL.nil ?_)) | ((with_reducible refine SP.region (id := 7) ?_); refine SL.e tabOk ?_; refine SL.e tabOk ?_; (with_reducible refine SL.nil ?_)) | ((with_reducible refine SP.region (id := 11) ?_); refine SL.e tabOk ?_; refine SL.e tabOk ?_; (with_reducible refine SL.nil ?_)) | ((with_reducible refine SP.region (id := 12) ?_); refine SL.e tabOk ?_; refine SL.e tabOk ?_; (with_reducible refine SL.nil ?_)) | ((with_reducible refine SP.region (id := 15) ?_); refine SL.e tabOk ?_; refine SL.e tabOk ?_; (with_reducible refine SL.nil ?_)) | ((with_reducible show SP _ _ _ (Code.region _ _ true) _ _ _); first | (refine SPa (id := 16) [8] [] ([]) [0, 1, 2, 3, 4, 5, 6, 7, 8, 9, 10, 11, 12, 13] follows ?_; refine SF.p tabOk ?_; refine SF.nc ?_; refine SF.e tabOk ?_; refine SF.ldC tabOk ?_ (hr := RdA.old hbt hnb) (hv := hva); refine SF.e tabOk ?_; refine SF.ldC tabOk ?_ (hv := do_m d); refine SF.p tabOk ?_; refine SF.p tabOk ?_; refine SF.clB ent_23 rfl (X := tX d.m (oX K (nonV d.m) d.A d.B)) (n := tE d.m (oE K (nonV d.m) d.A d.B)) (fun w2 hw2 => openAtL K hK d.m n a w2 q1 q2 c1 c2 d.la d.lb d.A d.B bA bB (ha1.sl hw2 sbl) (ha2.sl hw2 sbl) (by omega) (by omega) (hbk hw2 a)) (fun q3 c3 abs3 ha3 => ?_); refine SF.p tabOk ?_; refine SF.p tabOk ?_; refine SF.p tabOk ?_; refine SF.p tabOk ?_; refine SF.p tabOk ?_; refine SF.done ?_) | (refine SPa (id := 17) [10] [] ([]) [0, 1, 2, 3, 4, 5, 6, 7, 8, 9, 10, 11, 12, 13, 14, 15] follows ?_; refine SF.p tabOk ?_; refine SF.nc ?_; refine SF.e tabOk ?_; refine SF.ldC tabOk ?_ (hr := RdA.old hbt hnb) (hv := hvm); refine SF.e tabOk ?_; refine SF.ldC tabOk ?_ (hv := do_m d); refine SF.e tabOk ?_; refine SF.ldC tabOk ?_ (hv := do_a d); refine SF.e tabOk ?_; refine SF.ldC tabOk ?_ (hv := do_b d); refine SF.clB ent_42 rfl (X := tX d.m (oX K (nonV d.m) d.A d.B)) (n := tE d.m (oE K (nonV d.m) d.A d.B)) (fun w2 hw2 => ropenAtL K hK bK d.m n m w2 d.p d.q d.ca d.cb d.la d.lb d.A d.B bA bB (SA.oldL hw2 hpa) (SB.oldL hw2 hqa) (by omega) (by omega) (hbk hw2 m)) (fun q4 c4 abs4 ha4 => ?_); refine SF.p tabOk ?_; refine SF.p tabOk ?_; refine SF.p tabOk ?_; refine SF.p tabOk ?_; refine SF.p tabOk ?_; refine SF.done ?_)) | ((with_reducible refine SP.seqK ?_); intro _ _) | (with_reducible refine thenK_normal ?_) | (refine useK (by assumption) ?_) | (with_reducible refine SP.block ?_) | ((with_reducible show SP _ _ _ (Code.cond _ _ _) _ _ _); first | (refine SP.condT rfl (by first | rfl | (simp only [decide_eq_true_eq, beq_iff_eq, bne_iff_ne]; first | done | omega)) ?_) | (refine SP.condF rfl (by first | rfl | (simp only [decide_eq_false_iff_not, beq_eq_false_iff_ne, bne_eq_false_iff_eq]; first | done | omega)) ?_)))
      exact ⟨K, n, tE d.m (oE K (nonV d.m) d.A d.B), tX d.m (oX K (nonV d.m) d.A d.B), [], q3, q4, none, c3, c4, 0, abs3, abs4, [], hK, bK, hn0, hXl, hXb, by decide, byts_nil, ha3, ha4, AO.nil, rfl, by simp⟩
    · have hk : d.k % 6 = 3 := by omega
      repeat (first | ((with_reducible refine SP.region (id := 4) ?_); refine SL.ldP tabOk ?_ (hn := Nat.le_refl _) (hB := rfl); refine SL.v (ValO.call ent_29 _ rfl _ (fun w1 hw1 => kind_is d 3 hk w1)) ?_; (with_reducible refine SL.nil ?_)) | ((with_reducible refine SP.region (id := 7) ?_); refine SL.e tabOk ?_; refine SL.e tabOk ?_; (with_reducible refine SL.nil ?_)) | ((with_reducible refine SP.region (id := 11) ?_); refine SL.e tabOk ?_; refine SL.e tabOk ?_; (with_reducible refine SL.nil ?_)) | ((with_reducible refine SP.region (id := 12) ?_); refine SL.e tabOk ?_; refine SL.e tabOk ?_; (with_reducible refine SL.nil ?_)) | ((with_reducible refine SP.region (id := 15) ?_); refine SL.e tabOk ?_; refine SL.e tabOk ?_; (with_reducible refine SL.nil ?_)) | ((with_reducible refine SP.region (id := 18) ?_); refine SL.e tabOk ?_; refine SL.e tabOk ?_; (with_reducible refine SL.nil ?_)) | ((with_reducible show SP _ _ _ (Code.region _ _ true) _ _ _); first | (refine SPa (id := 19) [6] [] ([]) [0, 1, 2, 3, 4, 5, 6, 7] follows ?_; refine SF.p tabOk ?_; refine SF.nc ?_; refine SF.e tabOk ?_; refine SF.ldC tabOk ?_ (hr := RdA.old hbt hnb) (hv := hva); refine SF.e tabOk ?_; refine SF.ldC tabOk ?_ (hv := do_m d); refine SF.call1 rfl (b := a) ent_24 rfl (gbk _) (fun w1 hw1 => skip_any K hK n d.m a w1 (hbk hw1 a)) stt (by first | exact Kept.nil | (simp [Kept]; done)) bpp ?_; refine SF.p tabOk ?_; refine SF.done ?_) | (refine SPa (id := 20) [6] [] ([]) [0, 1, 2, 3, 4, 5, 6, 7] follows ?_; refine SF.p tabOk ?_; refine SF.nc ?_; refine SF.e tabOk ?_; refine SF.ldC tabOk ?_ (hr := RdA.old hbt hnb) (hv := hvm); refine SF.e tabOk ?_; refine SF.ldC tabOk ?_ (hv := do_m d); refine SF.call1 rfl (b := m) ent_43 rfl (gbk _) (fun w1 hw1 => rskip_any K hK n d.m m w1 (hbk hw1 m)) stt (by first | exact Kept.nil | (simp [Kept]; done)) bpp ?_; refine SF.p tabOk ?_; refine SF.done ?_)) | ((with_reducible refine SP.seqK ?_); intro _ _) | (with_reducible refine thenK_normal ?_) | (refine useK (by assumption) ?_) | (with_reducible refine SP.block ?_) | ((with_reducible show SP _ _ _ (Code.cond _ _ _) _ _ _); first | (refine SP.condT rfl (by first | rfl | (simp only [decide_eq_true_eq, beq_iff_eq, bne_iff_ne]; first | done | omega)) ?_) | (refine SP.condF rfl (by first | rfl | (simp only [decide_eq_false_iff_not, beq_eq_false_iff_ne, bne_eq_false_iff_eq]; first | done | omega)) ?_)))
      exact ⟨K, pN n d.m, pE n d.m, [], [], none, none, none, 0, 0, 0, [], [], [], hK, bK, pN_ge hn0, by decide, byts_nil, by decide, byts_nil, AO.nil, AO.nil, AO.nil, rfl, by simp⟩
    · have hk : d.k % 6 = 4 := by omega
      repeat (first | ((with_reducible refine SP.region (id := 4) ?_); refine SL.ldP tabOk ?_ (hn := Nat.le_refl _) (hB := rfl); refine SL.v (ValO.call ent_29 _ rfl _ (fun w1 hw1 => kind_is d 4 hk w1)) ?_; (with_reducible refine SL.nil ?_)) | ((with_reducible refine SP.region (id := 5) ?_); refine SL.e tabOk ?_; refine SL.nc ?_; refine SL.e tabOk ?_; refine SL.ldC tabOk ?_ (hr := RdA.old hbt hnb) (hv := hva); refine SL.call1 (b := a) ent_27 rfl (gbk _) (fun w1 hw1 => rekey_any K hK n a w1 (hbk hw1 a)) stt bpp ?_; refine SL.e tabOk ?_; (with_reducible refine SL.nil ?_)) | ((with_reducible refine SP.region (id := 6) ?_); refine SL.e tabOk ?_; refine SL.nc ?_; refine SL.e tabOk ?_; refine SL.ldC tabOk ?_ (hr := RdA.old hbt hnb) (hv := hvm); refine SL.call1 (b := m) ent_28 rfl (gbk _) (fun w1 hw1 => rrekey_any K hK bK n m w1 (hbk hw1 m)) stt bpp ?_; refine SL.e tabOk ?_; (with_reducible refine SL.nil ?_)) | ((with_reducible refine SP.region (id := 7) ?_); refine SL.e tabOk ?_; refine SL.e tabOk ?_; (with_reducible refine SL.nil ?_)) | ((with_reducible refine SP.region (id := 11) ?_); refine SL.e tabOk ?_; refine SL.e tabOk ?_; (with_reducible refine SL.nil ?_)) | ((with_reducible refine SP.region (id := 12) ?_); refine SL.e tabOk ?_; refine SL.e tabOk ?_; (with_reducible refine SL.nil ?_)) | ((with_reducible refine SP.region (id := 15) ?_); refine SL.e tabOk ?_; refine SL.e tabOk ?_; (with_reducible refine SL.nil ?_)) | ((with_reducible refine SP.region (id := 18) ?_); refine SL.e tabOk ?_; refine SL.e tabOk ?_; (with_reducible refine SL.nil ?_)) | ((with_reducible refine SP.seqK ?_); intro _ _) | (with_reducible refine thenK_normal ?_) | (refine useK (by assumption) ?_) | (with_reducible refine SP.block ?_) | ((with_reducible show SP _ _ _ (Code.cond _ _ _) _ _ _); first | (refine SP.condF rfl (by first | rfl | (simp only [decide_eq_false_iff_not, beq_eq_false_iff_ne, bne_eq_false_iff_eq]; first | done | omega)) ?_)))
      exact ⟨rkV K, n, 0, [], [], none, none, none, 0, 0, 0, [], [], [], rkV_length _, rkV_byts _, hn0, by decide, byts_nil, by decide, byts_nil, AO.nil, AO.nil, AO.nil, rfl, by simp⟩
    · have hk : d.k % 6 = 5 := by omega
      have hXl : (kX n (oX K (nonV n) d.A d.B)).length ≤ 4112 := Nat.le_trans (kX_le n (oX_le _ _ _ _)) (by decide)
      have hXb : Byts (kX n (oX K (nonV n) d.A d.B)) := kX_byts n (oX_byts bB)
      repeat (first | ((with_reducible refine SP.region (id := 4) ?_); refine SL.ldP tabOk ?_ (hn := Nat.le_refl _) (hB := rfl); refine SL.v (ValO.call ent_29 _ rfl _ (fun w1 hw1 => kind_is d 5 hk w1)) ?_; (with_reducible refine SL.nil ?_)) | ((with_reducible refine SP.region (id := 7) ?_); refine SL.e tabOk ?_; refine SL.e tabOk ?_; (with_reducible refine SL.nil ?_)) | ((with_reducible refine SP.region (id := 11) ?_); refine SL.e tabOk ?_; refine SL.e tabOk ?_; (with_reducible refine SL.nil ?_)) | ((with_reducible refine SP.region (id := 12) ?_); refine SL.e tabOk ?_; refine SL.e tabOk ?_; (with_reducible refine SL.nil ?_)) | ((with_reducible refine SP.region (id := 13) ?_); refine SL.e tabOk ?_; refine SL.nc ?_; refine SL.e tabOk ?_; refine SL.ldC tabOk ?_ (hr := RdA.old hbt hnb) (hv := hva); refine SL.e tabOk ?_; refine SL.e tabOk ?_; refine SL.clS (i := 1) ent_21 rfl rfl (X := kX n (oX K (nonV n) d.A d.B)) (n := kE n (oE K (nonV n) d.A d.B)) (fun w2 hw2 => open_stL K hK n hn0 a w2 q1 q2 c1 c2 d.la d.lb d.A d.B bA bB (ha1.sl hw2 sbl) (ha2.sl hw2 sbl) (by omega) (by omega) (hbk hw2 a) (ApartB.aoS (b := a) hw2 ha1 sbm) (ApartB.aoS (b := a) hw2 ha2 sbm)) (fun q3 c3 abs3 ha3 => ?_); refine SL.e tabOk ?_; refine SL.e tabOk ?_; refine SL.e tabOk ?_; refine SL.e tabOk ?_; refine SL.e tabOk ?_; (with_reducible refine SL.nil ?_)) | ((with_reducible show SP _ _ _ (Code.region _ _ true) _ _ _); first | (refine SPa (id := 14) [8] [] ([]) [0, 1, 2, 3, 4, 5, 6, 7, 8, 9, 10, 11, 12, 13] follows ?_; refine SF.p tabOk ?_; refine SF.nc ?_; refine SF.e tabOk ?_; refine SF.ldC tabOk ?_ (hr := RdA.old hbt hnb) (hv := hvm); refine SF.e tabOk ?_; refine SF.ldC tabOk ?_ (hv := do_a d); refine SF.e tabOk ?_; refine SF.ldC tabOk ?_ (hv := do_b d); refine SF.clS (i := 2) ent_41 rfl rfl (X := kX n (oX K (nonV n) d.A d.B)) (n := kE n (oE K (nonV n) d.A d.B)) (fun w2 hw2 => ropen_stL K hK bK n hn0 m w2 d.p d.q d.ca d.cb d.la d.lb d.A d.B bA bB (SA.oldL hw2 hpa) (SB.oldL hw2 hqa) (by omega) (by omega) (hbk hw2 m) (ApartB.oldL SA hw2 hpa (mbk m)) (ApartB.oldL SB hw2 hqa (mbk m))) (fun q4 c4 abs4 ha4 => ?_); refine SF.p tabOk ?_; refine SF.p tabOk ?_; refine SF.p tabOk ?_; refine SF.p tabOk ?_; refine SF.p tabOk ?_; refine SF.done ?_)) | ((with_reducible refine SP.seqK ?_); intro _ _) | (with_reducible refine thenK_normal ?_) | (refine useK (by assumption) ?_) | (with_reducible refine SP.block ?_) | ((with_reducible show SP _ _ _ (Code.cond _ _ _) _ _ _); first | (refine SP.condT rfl (by first | rfl | (simp only [decide_eq_true_eq, beq_iff_eq, bne_iff_ne]; first | done | omega)) ?_) | (refine SP.condF rfl (by first | rfl | (simp only [decide_eq_false_iff_not, beq_eq_false_iff_ne, bne_eq_false_iff_eq]; first | done | omega)) ?_)))
      exact ⟨K, kN n (kE n (oE K (nonV n) d.A d.B)), kE n (oE K (nonV n) d.A d.B), kX n (oX K (nonV n) d.A d.B), [], q3, q4, none, c3, c4, 0, abs3, abs4, [], hK, bK, kN_ge _ hn0, hXl, hXb, by decide, byts_nil, ha3, ha4, AO.nil, rfl, by simp⟩
  · rintro e w' ⟨v, bs', rfl, ⟨K', n', q, c, X, abs, h1, h2, h3, h4, h5, rfl, h6, hs⟩, hw'⟩
    exact ⟨K', n', q, c, X, abs, h1, h2, h3, h4, h5, rfl, h6, hw'.sub hs⟩

end Sp

end Go.Proofs.Ythbmlpiplfbehaa

namespace Go.Proofs.Ythbmlpiplfbehaa
set_option linter.unusedSimpArgs false
set_option linter.unusedVariables false
open Go Go.RowKit
namespace F
open M Sp
section
variable {P : Program} {ops : Array Oper} {md : Region.Mode} {w0 : World} {mu : List Nat} {E D : List Nat} {keep : Mem}
/-- The walk while the variable x is not made yet: at each call it may be made. -/
def wpP (P : Program) (ops : Array Oper) (w0 : World) (mu : List Nat) (E D : List Nat) (keep : Mem) (L : Act → Mem → Prop) (ox : Oper) (T : TypeId) (A : Array Value) (L2 : List (Nat × Oper)) : List (Nat × Oper) → Act → Mem → Prop
  | [], a, m => ∀ b, wpF P ops w0 mu E D keep L L2 (a.put ox.dst (.pointer (some ⟨b, 0, none⟩))) ((b, A, T) :: m)
  | (i, o) :: rest, a, m => o.guard = none ∧ freshM o.op = none ∧
    if E.contains i then (∀ b, wpF P ops w0 mu E D keep L ((i, o) :: (rest ++ L2)) (a.put ox.dst (.pointer (some ⟨b, 0, none⟩))) ((b, A, T) :: m)) ∧
      ∃ R, effAt P w0 mu m o a R ∧ ∀ v m', R v m' → Kept keep m' ∧ wpP P ops w0 mu E D keep L ox T A L2 rest (a.put o.dst v) m'
    else ∃ v, YieldK P w0 mu keep o v a m (if isPure o.op then 1 else if D.contains i then 2 else 0) ∧ wpP P ops w0 mu E D keep L ox T A L2 rest (a.put o.dst v) m
def ordP (md : Region.Mode) (ops : Array Oper) (E D : List Nat) (x : Nat) (ord2 : List Nat) : List Nat → Array Bool → Bool
  | [], listed => ordF md ops E D (x :: ord2) listed
  | i :: rest, listed =>
    (match ops[i]? with
    | none => false
    | some o => if E.contains i then ((Region.ready md ops listed).all fun j => j == i || j == x) && (Region.ready md ops listed).contains i && (Region.ready md ops listed).contains x && ordF md ops E D (i :: (rest ++ ord2)) (listed.setIfInBounds x true)
      else (Region.ready md ops listed).contains i && Region.free md ops listed i && (isPure o.op || D.contains i || quietB md ops E listed i)) &&
    ordP md ops E D x ord2 rest (listed.setIfInBounds i true)
theorem wpAnyF_pend {L : Act → Mem → Prop} (hL : ∀ a m m', m.Perm m' → L a m → L a m') (hsel : Region.noSelect ops = true) {x : Nat} {ox : Oper} {T : TypeId} {A : Array Value} (hx : ops[x]? = some ox) (hT : freshM ox.op = some T) (hg : ox.guard = none) (hz : (P.info? T).map (·.zero) = some (some (.agg A)))
    {ord2 : List Nat} {l2 : List (Nat × Oper)} (hl2 : l2.map (fun p => (p.1, some p.2)) = ord2.map (fun i => (i, ops[i]?))) :
    ∀ (ord : List Nat) (listed : Array Bool) (a : Act) (m : Mem) (l : List (Nat × Oper)), l.map (fun p => (p.1, some p.2)) = ord.map (fun i => (i, ops[i]?)) → HeadInv md ops ops.size listed → ordP md ops E D x ord2 ord listed = true → Kept keep m → wpP P ops w0 mu E D keep L ox T A l2 l a m →
    wpAnyF P md ops w0 mu E keep L (ord.length + (ord2.length + 1)) listed a m
  | [], listed, a, m, l, hl, inv, hB, hkp, h => by
    cases l with
    | nil =>
      have h1 := wpAnyF_ord (D := D) hL hsel (x :: ord2) listed a m ((x, ox) :: l2) (by simp only [List.map_cons, hl2, hx]) inv hB hkp (by simp only [wpF, hT]; exact ⟨hg, A, hz, h⟩)
      simpa using h1
    | cons o l => simp at hl
  | i :: ord, listed, a, m, l, hl, inv, hB, hkp, h => by
    cases l with
    | nil => simp at hl
    | cons p l =>
      obtain ⟨i', o⟩ := p
      simp only [List.map_cons, List.cons.injEq, Prod.mk.injEq] at hl
      obtain ⟨⟨rfl, ho⟩, hl⟩ := hl
      have ho := ho.symm
      have hlt : i' < ops.size := (Array.getElem?_eq_some_iff.1 ho).1
      have hltx : x < ops.size := (Array.getElem?_eq_some_iff.1 hx).1
      simp only [ordP, ho, Bool.and_eq_true] at hB
      obtain ⟨hB1, hB2⟩ := hB
      simp only [wpP] at h
      obtain ⟨hog, hof, h⟩ := h
      have hw : Region.wanted o (yielded ops a.tmps) = true := by simp [Region.wanted, hog]
      have hlen : (i' :: ord).length + (ord2.length + 1) = (ord.length + (ord2.length + 1)) + 1 := by simp only [List.length_cons]; omega
      rw [hlen]
      by_cases hE : E.contains i' = true
      · rw [if_pos hE] at hB1 h
        simp only [Bool.and_eq_true] at hB1
        obtain ⟨⟨⟨hall, hr⟩, hrx⟩, hord⟩ := hB1
        have hr' : i' ∈ Region.ready md ops listed := by simpa using hr
        have hrx' : x ∈ Region.ready md ops listed := by simpa using hrx
        obtain ⟨hA1, R, hR, hk⟩ := h
        refine ⟨fun h0 => (by rw [h0] at hr'; cases hr'), fun j hj => ?_⟩
        have hjx := List.all_eq_true.1 hall j hj
        simp only [Bool.or_eq_true, beq_iff_eq] at hjx
        by_cases hji : j = i'
        · subst hji
          unfold mOp
          simp only [ho, hof, hw, if_true]
          rw [if_pos hE]
          exact ⟨R, hR, fun v m' hv => ⟨(hk v m' hv).1, wpAnyF_pend hL hsel hx hT hg hz hl2 ord _ _ _ l hl (inv.set hr' hlt) hB2 (hk v m' hv).1 (hk v m' hv).2⟩⟩
        · obtain rfl : j = x := by
            rcases hjx with h1 | h1
            · exact absurd h1 hji
            · exact h1
          unfold mOp
          simp only [hx, hT]
          refine ⟨hg, A, hz, fun b => ?_⟩
          have h1 := wpAnyF_ord (D := D) hL hsel (i' :: (ord ++ ord2)) _ _ _ ((i', o) :: (l ++ l2)) (by simp only [List.map_cons, List.map_append, hl, hl2, ho]) (inv.set hrx' hltx) hord hkp.more (hA1 b)
          have e : (i' :: (ord ++ ord2)).length = ord.length + (ord2.length + 1) := by simp only [List.length_cons, List.length_append]; omega
          rwa [e] at h1
      · rw [if_neg hE] at hB1 h
        simp only [Bool.and_eq_true] at hB1
        obtain ⟨⟨hr, hf⟩, hB3⟩ := hB1
        have hr' : i' ∈ Region.ready md ops listed := by simpa using hr
        have hEf : E.contains i' = false := by simpa using hE
        obtain ⟨v, hv, hk⟩ := h
        simp only [Bool.or_eq_true] at hB3
        have hB4 : ((if isPure o.op then 1 else if D.contains i' then 2 else 0 : Nat) = 1 ∨ (if isPure o.op then 1 else if D.contains i' then 2 else 0 : Nat) = 2) ∨ quietB md ops E listed i' = true := by
          rcases hB3 with (h1 | h1) | h1
          · exact .inl (.inl (by rw [if_pos h1]))
          · by_cases h2 : isPure o.op = true
            · exact .inl (.inl (by rw [if_pos h2]))
            · exact .inl (.inr (by rw [if_neg h2, if_pos h1]))
          · exact .inr h1
        exact F_first (kd := if isPure o.op then 1 else if D.contains i' then 2 else 0) ho hof hEf (Region.noSelect_spec hsel) _ listed a m inv (Region.free_spec ho hf) hB4 hkp hr' (.inl ⟨hw, hv⟩)
          (wpAnyF_pend hL hsel hx hT hg hz hl2 ord _ _ _ l hl (inv.set hr' hlt) hB2 hkp hk)
def pendB (ops : Array Oper) (E D : List Nat) (x : Nat) (ord ord2 : List Nat) : Bool := Region.noSelect ops && decide (ord.length + (ord2.length + 1) = ops.size) && (ord ++ ord2).all (fun i => decide (i < ops.size)) && ordP .any ops E D x ord2 ord (Array.replicate ops.size false)
/-- The operations of such a region while x is not made. -/
structure SFP (P : Program) (ops : Array Oper) (w0 : World) (mu : List Nat) (E D : List Nat) (keep : Mem) (ox : Oper) (T : TypeId) (A : Array Value) (L2 rest : List (Nat × Oper)) (Q : ExitP) (l : List Value) (m : Mem) : Prop where
  run : wpP P ops w0 mu E D keep (fun a m' => ∃ l' : List Value, a = ⟨l'.toArray, []⟩ ∧ ∀ m'', m'.Perm m'' → ∀ W Q', OwnM w0 mu W m'' → After w0 mu Q Q' → Q' .normal a W) ox T A L2 rest ⟨l.toArray, []⟩ m
end
section
variable {P : Program} {tab : Tab} {w0 : World} {mu : List Nat} {bs : Mem} {l l' : List Value} {ops : Array Oper} {E D : List Nat} {keep : Mem} {L2 rest : List (Nat × Oper)} {Q : ExitP} {i0 : Nat} {ox : Oper} {T : TypeId} {A : Array Value}
variable {dst : Option Tmp} {op : Op} {ty : TypeId} {pos : String} {af : Array Edge}
theorem hmap_of (L : List Oper) : ∀ ord : List Nat, ord.all (fun i => decide (i < L.toArray.size)) = true → (ord.filterMap fun i => (L[i]?).map fun o => (i, o)).map (fun p => (p.1, some p.2)) = ord.map fun i => (i, L.toArray[i]?)
  | [], _ => rfl
  | i :: ord, h => by
    simp only [List.all_cons, Bool.and_eq_true, decide_eq_true_eq] at h
    have hlt : i < L.length := by simpa using h.1
    have hi : L[i]? = some L[i] := List.getElem?_eq_getElem hlt
    have ih := hmap_of L ord h.2
    simp only [List.filterMap_cons, hi, Option.map_some, List.map_cons, ih]
    simp [hlt]
theorem SP_pend {id : Nat} {L : List Oper} {L1 L2 : List (Nat × Oper)} (E D : List Nat) (keep : Mem) (x : Nat) (ord ord2 : List Nat) (hm : P.follows .mixedOrders = true) (hB : pendB L.toArray E D x ord ord2 = true) {dx : Option Tmp} {tx : TypeId} {px : String} {ax : Array Edge} (hx : L[x]? = some ⟨dx, .alloc T, tx, px, ax, none⟩)
    (hz : (P.info? T).map (·.zero) = some (some (.agg A))) (h1 : (ord.filterMap fun i => (L[i]?).map fun o => (i, o)) = L1) (h2 : (ord2.filterMap fun i => (L[i]?).map fun o => (i, o)) = L2) (hkp : Kept keep bs)
    (h : SFP P L.toArray w0 mu E D keep ⟨dx, .alloc T, tx, px, ax, none⟩ T A L2 L1 Q l bs) : SP P w0 mu (.region id L.toArray true) Q l bs := by
  subst h1 h2
  simp only [pendB, Bool.and_eq_true, decide_eq_true_eq, List.all_append] at hB
  obtain ⟨⟨⟨hsel, hlen⟩, ha1, ha2⟩, hord⟩ := hB
  refine ⟨fun W Q' hw hA => ?_⟩
  have inv0 : HeadInv .any L.toArray L.toArray.size (Array.replicate L.toArray.size false) :=
    ⟨by simp, fun j oj _ hl => (by rw [getD_replicate_false] at hl; cases hl), fun t h1 h2 => absurd h2 (Nat.not_lt.2 h1)⟩
  refine wp_region_any hm ?_
  have H := wpAnyF_pend (P := P) (w0 := w0) (mu := mu) (L := fun a m' => ∃ l' : List Value, a = ⟨l'.toArray, []⟩ ∧ ∀ m'', m'.Perm m'' → ∀ W Q', OwnM w0 mu W m'' → After w0 mu Q Q' → Q' .normal a W)
    (fun a m m' hp ⟨l', hl, hk⟩ => ⟨l', hl, fun m'' hp' => hk m'' (hp.trans hp')⟩) hsel (x := x) (by rw [List.getElem?_toArray]; exact hx) rfl rfl hz (hmap_of L ord2 ha2) ord _ _ _ _ (hmap_of L ord ha1) inv0 hord hkp h.run
  rw [hlen] at H
  exact wpAny_of_F (fun a m w hw' ⟨l', hl, hk⟩ => hk m (List.Perm.refl _) w Q' hw' hA) _ _ _ _ _ (hw.drew 1) H
theorem SFP.vK {v : Value} (hv : ∀ m, Kept keep m → ValO P w0 mu m l ⟨dst, op, ty, pos, af, none⟩ v) (h : SFP P ops w0 mu E D keep ox T A L2 rest Q l' bs) (hE : E.contains i0 = false := by rfl) (hD : D.contains i0 = true := by rfl) (hf : freshM op = none := by rfl) (hi : isPure op = false := by rfl)
    (hp : putL l dst v = l' := by first | (dsimp only [putL, setNth, evL, nth]; done) | (dsimp only [putL, setNth, evL, nth]; rfl)) : SFP P ops w0 mu E D keep ox T A L2 ((i0, ⟨dst, op, ty, pos, af, none⟩) :: rest) Q l bs := by
  subst hp
  refine ⟨?_⟩
  simp only [wpP, hf, hE, hD, if_true, Bool.false_eq_true, if_false, hi, YieldK]
  exact ⟨by trivial, by trivial, v, fun m hm => (hv m hm).out, by rw [putL_eq]; exact h.run⟩
/-- The variable is made at last. -/
theorem SFP.nil {L2' : List Value} {dx : Option Tmp} {opx : Op} {tx : TypeId} {px : String} {ax : Array Edge} {l' : Nat → List Value} (h : ∀ b, SF P ops w0 mu E D keep L2 Q (l' b) ((b, A, T) :: bs)) (hp : ∀ b, putL l dx (.pointer (some ⟨b, 0, none⟩)) = l' b := by intro _; first | (dsimp only [putL, setNth]; done) | (dsimp only [putL, setNth]; rfl)) :
    SFP P ops w0 mu E D keep ⟨dx, opx, tx, px, ax, none⟩ T A L2 [] Q l bs := by
  refine ⟨fun b => ?_⟩
  show wpF P ops w0 mu E D keep _ L2 (Act.put ⟨l.toArray, []⟩ dx _) _
  rw [putL_eq, hp]
  exact (h b).run
/-- A call that makes a block; the variable may be made ahead of it. -/
theorem SFP.clN {dx : Option Tmp} {opx : Op} {tx : TypeId} {px : String} {ax : Array Edge} {f : FuncId} {args : List Operand} {ats : Array TypeId} (hent : ∀ (A : Array Value) (w : World), (callFunc f A).run P w = .ok (.enter f A) w) {vals : List Value} (hv : args.map (evL l) = vals) {B : Array Value} {U : TypeId} {V : Nat → Value} {l' : Nat → List Value} {lx : Nat → List Value}
    (hc : ∀ w, OwnM w0 mu w bs → Calls P f vals.toArray w fun e w' => ∃ b, e = .returned (V b) ∧ OwnM w [] w' [(b, B, U)])
    (hx : ∀ b, SF P ops w0 mu E D keep ((i0, ⟨dst, .call { callee := .value (.func f), args := args.toArray, argTypes := ats }, ty, pos, af, none⟩) :: (rest ++ L2)) Q (lx b) ((b, A, T) :: bs))
    (h : ∀ b, SFP P ops w0 mu E D keep ⟨dx, opx, tx, px, ax, none⟩ T A L2 rest Q (l' b) ((b, B, U) :: bs)) (hE : E.contains i0 = true := by rfl) (hkp : Kept keep bs := by first | exact Kept.nil | (simp [Kept]; done))
    (hpx : ∀ b, putL l dx (.pointer (some ⟨b, 0, none⟩)) = lx b := by intro _; first | (dsimp only [putL, setNth]; done) | (dsimp only [putL, setNth]; rfl)) (hp : ∀ b, putL l dst (V b) = l' b := by intro _; first | (dsimp only [putL, setNth]; done) | (dsimp only [putL, setNth]; rfl)) :
    SFP P ops w0 mu E D keep ⟨dx, opx, tx, px, ax, none⟩ T A L2 ((i0, ⟨dst, .call { callee := .value (.func f), args := args.toArray, argTypes := ats }, ty, pos, af, none⟩) :: rest) Q l bs := by
  refine ⟨?_⟩
  simp only [wpP, hE, if_true]
  refine ⟨by trivial, by trivial, fun b => by rw [putL_eq, hpx]; exact (hx b).run, fun v' m' => ∃ b, v' = V b ∧ m' = (b, B, U) :: bs, fun w hw => ?_, ?_⟩
  · rw [run_call_fn (args_map args), hv, hent]
    refine (hc w hw).mono fun e w' hx => ?_
    obtain ⟨b, rfl, hw'⟩ := hx
    exact ⟨_, _, rfl, ⟨b, rfl, rfl⟩, hw.fresh hw'⟩
  · rintro v m' ⟨b, rfl, rfl⟩
    exact ⟨hkp.more, by rw [putL_eq, hp]; exact (h b).run⟩
end
end F
end Go.Proofs.Ythbmlpiplfbehaa

namespace Go.Proofs.Ythbmlpiplfbehaa
set_option linter.unusedSimpArgs false
set_option linter.unusedVariables false
open Go Go.RowKit
namespace Sp
open F M
theorem DoV.ok.old {w w' : World} {d : DoV} (h : d.ok w) (hb : Below w.heap.size w w') : d.ok w' := ⟨h.1.old hb, h.2.1.old hb, h.2.2⟩
theorem ap2 {a m k : Nat} {p : Option Addr} (h1 : ApartB a p k) (h2 : ApartB m p k) : ∀ b ∈ [a, m], ApartB b p k := by
  intro b hb
  simp at hb
  rcases hb with rfl | rfl <;> assumption
theorem nb2 {bt a m : Nat} (h1 : bt ≠ a) (h2 : bt ≠ m) : bt ∉ [a, m] := by simp [h1, h2]
section
variable {w0 : World} {mu : List Nat} {bs : Mem}
theorem set_keys {bs : Mem} {i b : Nat} {A A' : Array Value} {T : TypeId} (hi : bs[i]? = some (b, A, T)) : (bs.set i (b, A', T)).map (·.1) = bs.map (·.1) := by
  obtain ⟨hlt, hge2⟩ := List.getElem?_eq_some_iff.1 hi
  rw [List.map_set]
  refine List.ext_getElem? fun j => ?_
  rw [List.getElem?_set]
  split
  · rename_i hij; subst hij
    simp [hlt, hge2]
  · rfl
theorem OwnM.call2A {w w' : World} {abs : Mem} (h : OwnM w0 mu w bs) {i j b b2 : Nat} {A A' B B' : Array Value} {T U : TypeId} (hi : bs[i]? = some (b, A, T)) (hj : bs[j]? = some (b2, B, U)) (hij : i ≠ j)
    (h' : OwnM w [b, b2] w' ((b, A', T) :: (b2, B', U) :: abs)) : OwnM w0 mu w' ((bs.set i (b, A', T)).set j (b2, B', U) ++ abs) := by
  have h1 : OwnM w0 mu w' ((bs.set i (b, A', T)).set j (b2, B', U)) := h.call2 hi hj hij (h'.sub (by simp))
  have hap := h'.apart
  rw [List.map_cons, List.map_cons, List.nodup_cons, List.nodup_cons] at hap
  have hge : ∀ p ∈ abs, w.heap.size ≤ p.1 := fun p hp => by
    rcases (h'.here p (List.mem_cons_of_mem _ (List.mem_cons_of_mem _ hp))).1 with hx | hx
    · exact hx
    · exfalso
      simp at hx
      rcases hx with hx | hx
      · exact hap.1 (List.mem_cons_of_mem _ (List.mem_map.2 ⟨p, hp, hx⟩))
      · exact hap.2.1 (List.mem_map.2 ⟨p, hp, hx⟩)
  have hk : ((bs.set i (b, A', T)).set j (b2, B', U)).map (·.1) = bs.map (·.1) := by
    have e1 : (bs.set i (b, A', T))[j]? = some (b2, B, U) := by rw [List.getElem?_set_ne hij]; exact hj
    rw [set_keys e1, set_keys hi]
  refine ⟨h1.os, h1.tape, h1.output, h1.size, h1.rest, ?_, ?_⟩
  · intro p hp
    rcases List.mem_append.1 hp with hp | hp
    · exact h1.here p hp
    · exact ⟨.inl (Nat.le_trans h.size (hge p hp)), (h'.here p (List.mem_cons_of_mem _ (List.mem_cons_of_mem _ hp))).2⟩
  · rw [List.map_append, List.nodup_append]
    refine ⟨h1.apart, hap.2.2, ?_⟩
    intro x hx y hy he
    obtain ⟨p', hp', rfl⟩ := List.mem_map.1 hy
    have h3 := hge p' hp'
    rw [hk] at hx
    obtain ⟨p, hp, rfl⟩ := List.mem_map.1 hx
    have := h.lt hp
    omega
end
section
variable {P : Program} {tab : Tab} {w0 : World} {mu : List Nat} {bs : Mem} {l : List Value} {ops : Array Oper} {E D : List Nat} {rest : List (Nat × Oper)} {Q : ExitP} {i0 : Nat}
variable {dst : Option Tmp} {op : Op} {ty : TypeId} {pos : String} {af : Array Edge}
theorem SF.clStep {f : FuncId} {args : List Operand} {ats : Array TypeId} (hent : ∀ (A : Array Value) (w : World), (callFunc f A).run P w = .ok (.enter f A) w) {vals : List Value} (hv : args.map (evL l) = vals)
    {a m i j : Nat} {A B : Array Value} (hi : bs[i]? = some (a, A, 62)) (hj : bs[j]? = some (m, B, 65)) (hij : i ≠ j) (hc : ∀ w, OwnM w0 mu w bs → a ≠ m → Calls P f vals.toArray w (StepPost w a m))
    {l' : Option Addr → Nat → List Int → List Value} {bs' : List Int → Int → Mem → Mem}
    (h : ∀ K' n' q c X abs, K'.length = 32 → Byts K' → 0 ≤ n' → Byts X → X.length ≤ 4112 → AO q X.length c X abs → SF P ops w0 mu E D [] rest Q (l' q c X) (bs' K' n' abs)) (hE : E.contains i0 = true := by rfl)
    (hbs : ∀ K' n' abs, (bs.set i (a, stRow true K' n', 62)).set j (m, stRow true K' n', 65) ++ abs = bs' K' n' abs := by intro _ _ _; first | (simp only [List.set, List.cons_append, List.nil_append, List.append_assoc]; done) | (simp only [List.set, List.cons_append, List.nil_append, List.append_assoc]; rfl))
    (hp : ∀ q c X, putL l dst (.tuple #[.slice q X.length c, .bool true]) = l' q c X := by intro _ _ _; first | (dsimp only [putL, setNth]; done) | (dsimp only [putL, setNth]; rfl)) :
    SF P ops w0 mu E D [] ((i0, ⟨dst, .call { callee := .value (.func f), args := args.toArray, argTypes := ats }, ty, pos, af, none⟩) :: rest) Q l bs := by
  refine SF.callG hE hent hv (R := fun v' bs2 => ∃ K' n' q c X abs, (K'.length = 32 ∧ Byts K' ∧ 0 ≤ n' ∧ Byts X ∧ X.length ≤ 4112 ∧ AO q X.length c X abs) ∧ v' = .tuple #[.slice q X.length c, .bool true] ∧ bs2 = bs' K' n' abs) (fun w hw => (hc w hw (hw.ne hi hj hij)).mono fun e w' hx => ?_) (fun _ _ _ => Kept.nil)
    (by rintro v' bs2 ⟨K', n', q, c, X, abs, ⟨h1, h2, h3, h4, h5, h6⟩, rfl, rfl⟩; rw [hp]; exact h K' n' q c X abs h1 h2 h3 h4 h5 h6)
  obtain ⟨K', n', q, c, X, abs, h1, h2, h3, h4, h5, rfl, h6, hw'⟩ := hx
  exact ⟨_, _, rfl, ⟨K', n', q, c, X, abs, ⟨h1, h2, h3, h4, h5, h6⟩, rfl, rfl⟩, by rw [← hbs]; exact OwnM.call2A hw hi hj hij hw'⟩
end
theorem b_both (a m : Nat) : Try.prog.built 54 [(0, .pointer (some ⟨a, 0, none⟩)), (1, .pointer (some ⟨m, 0, none⟩))] = some #[.pointer (some ⟨a, 0, none⟩), .pointer (some ⟨m, 0, none⟩)] := by kernel_rfl
theorem b_both2 (a m a2 m2 : Nat) : Try.prog.built 55 [(0, .agg #[.pointer (some ⟨a, 0, none⟩), .pointer (some ⟨m, 0, none⟩)]), (1, .agg #[.pointer (some ⟨a2, 0, none⟩), .pointer (some ⟨m2, 0, none⟩)])] = some #[.pointer (some ⟨a, 0, none⟩), .pointer (some ⟨m, 0, none⟩), .pointer (some ⟨a2, 0, none⟩), .pointer (some ⟨m2, 0, none⟩)] := by kernel_rfl
theorem both_cells (a m a2 m2 : Nat) : ∀ u ∈ (#[Value.pointer (some ⟨a, 0, none⟩), .pointer (some ⟨m, 0, none⟩), .pointer (some ⟨a2, 0, none⟩), .pointer (some ⟨m2, 0, none⟩)] : Array Value).toList, u.oneCell' = true := by
  intro u hu
  simp at hu
  rcases hu with rfl | rfl | rfl | rfl <;> rfl
theorem and1 {x : Int} (h0 : (Lit.int .i64 x).wf = true) : bits .and .i64 x 1 = 0 ∨ bits .and .i64 x 1 = 1 := by
  unfold bits
  have h : (BitVec.ofInt 64 x &&& BitVec.ofInt 64 1).toNat < 2 := by
    rw [BitVec.toNat_and]
    exact Nat.lt_of_le_of_lt Nat.and_le_right (by decide)
  show IntKind.i64.wrap ((BitVec.ofInt 64 x &&& BitVec.ofInt 64 1).toNat : Int) = 0 ∨ IntKind.i64.wrap ((BitVec.ofInt 64 x &&& BitVec.ofInt 64 1).toNat : Int) = 1
  rw [IntWalk.i64_in _ (by omega)]
  omega
end Sp
end Go.Proofs.Ythbmlpiplfbehaa
