/-
  The walker's last pieces: copies of bytes at the memory's end, memory in another order, slices apart from several blocks; numbers and slices of a Do.
  The kind of a call.
-/
import Derived.Test.YthbmlpiplfbehaaCiG
import Derived.Test.YthbmlpiplfbehaaOpenSN
namespace Go.Proofs.Ythbmlpiplfbehaa
set_option linter.unusedSimpArgs false
set_option linter.unusedVariables false
open Go Go.RowKit
namespace Sp
open F M
section
variable {P : Program} {tab : Tab} {w0 : World} {mu : List Nat} {bs : Mem} {l l' : List Value} {Q : ExitP}
theorem SP.perm {c : Code} {bs' : Mem} (h : SP P w0 mu c Q l bs') (hp : bs.Perm bs') : SP P w0 mu c Q l bs := ⟨fun W Q' hw hA => h.run W Q' (hw.perm hp) hA⟩
/-- A slice that lies in a part of the memory is apart from another block of it. -/
theorem ApartB.aoS {W : World} (hw : OwnM w0 mu W bs) {q : Option Addr} {n c b : Nat} {X : List Int} {abs : Mem} (ha : AO q n c X abs) {A : Array Value} {T : TypeId} (hs : ((b, A, T) :: abs).Sublist bs) : ApartB b q n := by
  refine ApartB.ao ha ?_
  have := hw.apart.sublist (hs.map (·.1))
  rw [List.map_cons, List.nodup_cons] at this
  exact this.1
theorem Sl.oldL {w W : World} {n c : Nat} {p : Option Addr} {B : List Int} (h : Sl w p n c B) (hw : OwnM w mu W bs) (ha : ∀ b ∈ mu, ApartB b p n) : Sl W p n c B :=
  ⟨h.len, h.cap, fun h0 => by
    obtain ⟨sb, off, A, T, fz, rfl, hb, hA⟩ := h.at_ h0
    exact ⟨sb, off, A, T, fz, rfl, by rw [hw.rest sb (Array.getElem?_eq_some_iff.1 hb).1 (fun hm => ha sb hm h0 sb off rfl rfl)]; exact hb, hA⟩⟩
theorem ApartB.oldL {w : World} {W : World} {p : Option Addr} {n c b : Nat} {B : List Int} {A : Array Value} {T : TypeId} (h : Sl w p n c B) (hw : OwnM w mu W bs) (ha : ∀ b ∈ mu, ApartB b p n) (hm : (b, A, T) ∈ bs) : ApartB b p n := fun h0 sb off hq he => by
  subst he
  obtain ⟨sb', off', A', T', fz, h1, hb, _⟩ := h.at_ h0
  rw [h1] at hq
  cases hq
  rcases (hw.here _ hm).1 with hx | hx
  · have := (Array.getElem?_eq_some_iff.1 hb).1
    simp at hx
    omega
  · exact ha _ hx h0 _ _ h1 rfl
end
section
variable {P : Program} {ops : Array Oper} {w0 : World} {mu : List Nat} {bs : Mem} {l : List Value} {E D : List Nat} {rest : List (Nat × Oper)} {Q : ExitP} {i0 : Nat}
variable {dst : Option Tmp} {ty : TypeId} {pos : String} {af : Array Edge}
/-- A call that hands back a slice, where the order is drawn. -/
theorem SF.clA {keep : Mem} {f : FuncId} {args : List Operand} {ats : Array TypeId} (hent : ∀ (A : Array Value) (w : World), (callFunc f A).run P w = .ok (.enter f A) w) {vals : List Value} (hv : args.map (evL l) = vals)
    {V : Option Addr → Nat → Value} {n : Nat} {X : List Int} {l' : Option Addr → Nat → List Value} {bs' : Mem → Mem}
    (hc : ∀ w, OwnM w0 mu w bs → Calls P f vals.toArray w fun e w' => ∃ q c abs, e = .returned (V q c) ∧ AO q n c X abs ∧ OwnM w [] w' abs)
    (h : ∀ q c abs, AO q n c X abs → SF P ops w0 mu E D keep rest Q (l' q c) (bs' abs)) (hE : E.contains i0 = true := by rfl) (hbs : ∀ abs, bs ++ abs = bs' abs := by intro _; first | (simp only [List.cons_append, List.nil_append, List.append_assoc]; done) | (simp only [List.cons_append, List.nil_append, List.append_assoc]; rfl))
    (hp : ∀ q c, putL l dst (V q c) = l' q c := by intro _ _; first | (dsimp only [putL, setNth]; done) | (dsimp only [putL, setNth]; rfl)) (hkp : ∀ q c abs, AO q n c X abs → Kept keep (bs' abs) := by intro _ _ _ _; first | exact Kept.nil | (simp [Kept]; done)) :
    SF P ops w0 mu E D keep ((i0, ⟨dst, .call { callee := .value (.func f), args := args.toArray, argTypes := ats }, ty, pos, af, none⟩) :: rest) Q l bs := by
  refine SF.callG hE hent hv (R := fun v' bs2 => ∃ q c abs, AO q n c X abs ∧ v' = V q c ∧ bs2 = bs' abs) (fun w hw => (hc w hw).mono fun e w' hx => ?_) (by rintro v' bs2 ⟨q, c, abs, ha, rfl, rfl⟩; exact hkp q c abs ha) (by rintro v' bs2 ⟨q, c, abs, ha, rfl, rfl⟩; rw [hp]; exact h q c abs ha)
  obtain ⟨q, c, abs, rfl, ha, hw'⟩ := hx
  exact ⟨_, _, rfl, ⟨q, c, abs, ha, rfl, rfl⟩, by rw [← hbs]; exact OwnM.freshL hw hw'⟩
end
theorem copy_u (p : Option Addr) (n c : Nat) (B : List Int) (w : World) (hB : Sl w p n c B) (hmax : n ≤ 140737488355328) :
    Calls Try.prog 20 #[.slice p n c] w fun e w' => ∃ q c' abs, e = .returned (.slice q n c') ∧ AO q n c' B abs ∧ OwnM w [] w' abs := by
  by_cases h0 : n = 0
  · subst h0
    obtain rfl := List.eq_nil_of_length_eq_zero hB.len
    refine (copy_any_nil p c w).mono ?_
    rintro e w' ⟨rfl, hb⟩
    exact ⟨none, 0, [], rfl, AO.nil, by simpa using (OwnM.start w).grow hb⟩
  · refine (copy_any p n c B w hB (by omega) hmax).mono ?_
    rintro e w' ⟨nb, cap, hc, rfl, hw⟩
    exact ⟨_, _, _, rfl, AO.row hB.len hc, hw⟩
section
variable (d : DoV)
theorem do_size : d.row.size = 4 := rfl
theorem do_k : d.row[0]? = some (.int .i64 d.k) := rfl
theorem do_m : d.row[1]? = some (.int .i64 d.m) := rfl
theorem do_a : d.row[2]? = some (.slice d.p d.la d.ca) := rfl
theorem do_b : d.row[3]? = some (.slice d.q d.lb d.cb) := rfl
theorem do_pb (q : Option Addr) (n c : Nat) (B : List Int) : putAt d.row 3 [.slice q n c] = { d with q := q, lb := n, cb := c, B := B }.row := rfl
theorem do_cells : ∀ u ∈ d.row.toList, u.oneCell' = true := by
  intro u hu
  simp [DoV.row] at hu
  rcases hu with rfl | rfl | rfl | rfl <;> rfl
end
theorem pN_ge {n m : Int} (h : 0 ≤ n) : 0 ≤ pN n m := by
  by_cases h2 : m < n ∨ 9007199254740991 < m
  · rw [pN_out h2]; exact h
  · rw [pN_in (by omega) (by omega)]; omega
theorem seal_stL (K : List Int) (hK : K.length = 32) (n : Int) (hn0 : 0 ≤ n) (b : Nat) (w : World) (p q : Option Addr) (c d k m : Nat) (A B : List Int) (bA : Byts A) (bB : Byts B) (hSA : Sl w p k c A) (hSB : Sl w q m d B) (hmA : k ≤ 140737488355328) (hmB : m ≤ 140737488355328) (hb : w.heap[b]? = some (.cells (stRow true K n) 62 (0, 0))) (hp : ApartB b p k) (hq : ApartB b q m) :
    Calls Try.prog 14 #[.pointer (some ⟨b, 0, none⟩), .slice p k c, .slice q m d] w (StPost w b 62 (stRow true K (kN n (kE n (sE A B)))) (kX n (sX K (nonV n) A B)) (kE n (sE A B))) := by
  obtain rfl := hSA.len
  obtain rfl := hSB.len
  exact seal_st K hK n hn0 b w p q c d A B bA bB hSA hSB hmA hmB hb hp hq
theorem open_stL (K : List Int) (hK : K.length = 32) (n : Int) (hn0 : 0 ≤ n) (b : Nat) (w : World) (p q : Option Addr) (c d k m : Nat) (A B : List Int) (bA : Byts A) (bB : Byts B) (hSA : Sl w p k c A) (hSB : Sl w q m d B) (hmA : k ≤ 140737488355328) (hmB : m ≤ 140737488355328) (hb : w.heap[b]? = some (.cells (stRow true K n) 62 (0, 0))) (hp : ApartB b p k) (hq : ApartB b q m) :
    Calls Try.prog 21 #[.pointer (some ⟨b, 0, none⟩), .slice p k c, .slice q m d] w (StPost w b 62 (stRow true K (kN n (kE n (oE K (nonV n) A B)))) (kX n (oX K (nonV n) A B)) (kE n (oE K (nonV n) A B))) := by
  obtain rfl := hSA.len
  obtain rfl := hSB.len
  exact open_st K hK n hn0 b w p q c d A B bA bB hSA hSB hmA hmB hb hp hq
theorem openAtL (K : List Int) (hK : K.length = 32) (n k0 : Int) (b : Nat) (w : World) (p q : Option Addr) (c d k m : Nat) (A B : List Int) (bA : Byts A) (bB : Byts B) (hSA : Sl w p k c A) (hSB : Sl w q m d B) (hmA : k ≤ 140737488355328) (hmB : m ≤ 140737488355328) {fz : Nat × Nat} {TT : TypeId} (hb : w.heap[b]? = some (.cells (stRow true K k0) TT fz)) :
    Calls Try.prog 23 #[.pointer (some ⟨b, 0, none⟩), .int .i64 n, .slice p k c, .slice q m d] w (BoxPost w (tX n (oX K (nonV n) A B)) (tE n (oE K (nonV n) A B))) := by
  obtain rfl := hSA.len
  obtain rfl := hSB.len
  exact openAt_any K hK n k0 b w p q c d A B bA bB hSA hSB hmA hmB hb
theorem rseal_stL (K : List Int) (hK : K.length = 32) (bK : Byts K) (n : Int) (hn0 : 0 ≤ n) (b : Nat) (w : World) (p q : Option Addr) (c d k m : Nat) (A B : List Int) (bA : Byts A) (bB : Byts B) (hSA : Sl w p k c A) (hSB : Sl w q m d B) (hmA : k ≤ 140737488355328) (hmB : m ≤ 140737488355328) (hb : w.heap[b]? = some (.cells (stRow true K n) 65 (0, 0))) (hp : ApartB b p k) (hq : ApartB b q m) :
    Calls Try.prog 15 #[.pointer (some ⟨b, 0, none⟩), .slice p k c, .slice q m d] w (StPost w b 65 (stRow true K (kN n (kE n (sE A B)))) (kX n (sX K (nonV n) A B)) (kE n (sE A B))) := by
  obtain rfl := hSA.len
  obtain rfl := hSB.len
  exact rseal_st K hK n hn0 b w p q c d A B bA bB hSA hSB hmA hmB bK hb hp hq
theorem ropen_stL (K : List Int) (hK : K.length = 32) (bK : Byts K) (n : Int) (hn0 : 0 ≤ n) (b : Nat) (w : World) (p q : Option Addr) (c d k m : Nat) (A B : List Int) (bA : Byts A) (bB : Byts B) (hSA : Sl w p k c A) (hSB : Sl w q m d B) (hmA : k ≤ 140737488355328) (hmB : m ≤ 140737488355328) (hb : w.heap[b]? = some (.cells (stRow true K n) 65 (0, 0))) (hp : ApartB b p k) (hq : ApartB b q m) :
    Calls Try.prog 41 #[.pointer (some ⟨b, 0, none⟩), .slice p k c, .slice q m d] w (StPost w b 65 (stRow true K (kN n (kE n (oE K (nonV n) A B)))) (kX n (oX K (nonV n) A B)) (kE n (oE K (nonV n) A B))) := by
  obtain rfl := hSA.len
  obtain rfl := hSB.len
  exact ropen_st K hK n hn0 b w p q c d A B bA bB hSA hSB hmA hmB bK hb hp hq
theorem ropenAtL (K : List Int) (hK : K.length = 32) (bK : Byts K) (n k0 : Int) (b : Nat) (w : World) (p q : Option Addr) (c d k m : Nat) (A B : List Int) (bA : Byts A) (bB : Byts B) (hSA : Sl w p k c A) (hSB : Sl w q m d B) (hmA : k ≤ 140737488355328) (hmB : m ≤ 140737488355328) {fz : Nat × Nat} {TT : TypeId} (hb : w.heap[b]? = some (.cells (stRow true K k0) TT fz)) :
    Calls Try.prog 42 #[.pointer (some ⟨b, 0, none⟩), .int .i64 n, .slice p k c, .slice q m d] w (BoxPost w (tX n (oX K (nonV n) A B)) (tE n (oE K (nonV n) A B))) := by
  obtain rfl := hSA.len
  obtain rfl := hSB.len
  exact ropenAt_any K hK bK n k0 b w p q c d A B bA bB hSA hSB hmA hmB hb
end Sp
end Go.Proofs.Ythbmlpiplfbehaa

namespace Go.Proofs.Ythbmlpiplfbehaa
set_option linter.unusedSimpArgs false
set_option linter.unusedVariables false
open Go Go.RowKit

namespace Sp
open F M
set_option maxRecDepth 20000 in
theorem kind_any (d : DoV) (w : World) :
    Calls Try.prog 29 #[.agg d.row] w fun e w' => e = .returned (.int .i64 (d.k % 6)) ∧ Below w.heap.size w w' := by
  have h1 := Int.emod_nonneg d.k (show (6 : Int) ≠ 0 by decide)
  have h2 := Int.emod_lt_of_pos d.k (show (0 : Int) < 6 by decide)
  rcases tmod_cases d.k 6 (by decide) with ⟨h3, h4⟩ | ⟨h3, h4⟩
  · have hw : IntKind.i64.wrap (d.k.tmod 6 + 6) = d.k % 6 := by rw [h4, IntWalk.i64_in _ (by omega)]
    refine pureE Try.func29 Try.ntmps29 Try.results29 ?_
    repeat (first | ((with_reducible refine SP.region (id := 0) ?_); refine SL.bx ?_; intro db; refine SL.e tabOk ?_; (with_reducible refine SL.nil ?_)) | ((with_reducible refine SP.region (id := 1) ?_); refine SL.e tabOk ?_; refine SL.ldC tabOk ?_ (hv := do_k d); refine SL.e tabOk ?_; refine SL.e tabOk ?_; (with_reducible refine SL.nil ?_)) | ((with_reducible refine SP.region (id := 2) ?_); refine SL.e tabOk ?_; refine SL.e tabOk ?_; (with_reducible refine SL.nil ?_)) | ((with_reducible refine SP.region (id := 3) ?_); refine SL.e tabOk ?_; refine SL.e tabOk ?_; refine SL.e tabOk ?_; (with_reducible refine SL.nil ?_)) | ((with_reducible refine SP.region (id := 4) ?_); refine SL.e tabOk ?_; refine SL.e tabOk ?_; (with_reducible refine SL.nil ?_)) | ((with_reducible refine SP.seqK ?_); intro _ _) | (with_reducible refine thenK_normal ?_) | (refine useK (by assumption) ?_) | (with_reducible refine SP.ret ?_) | ((with_reducible show SP _ _ _ (Code.cond _ _ _) _ _ _); first | (refine SP.condT rfl (by first | rfl | (simp only [decide_eq_true_eq, beq_iff_eq, bne_iff_ne]; first | done | omega)) ?_)))
    exact doneK.mk rfl (ResO.tmp rfl) (by simp only [hw]; rfl)
  · refine pureE Try.func29 Try.ntmps29 Try.results29 ?_
    repeat (first | ((with_reducible refine SP.region (id := 0) ?_); refine SL.bx ?_; intro db; refine SL.e tabOk ?_; (with_reducible refine SL.nil ?_)) | ((with_reducible refine SP.region (id := 1) ?_); refine SL.e tabOk ?_; refine SL.ldC tabOk ?_ (hv := do_k d); refine SL.e tabOk ?_; refine SL.e tabOk ?_; (with_reducible refine SL.nil ?_)) | ((with_reducible refine SP.region (id := 2) ?_); refine SL.e tabOk ?_; refine SL.e tabOk ?_; (with_reducible refine SL.nil ?_)) | ((with_reducible refine SP.region (id := 4) ?_); refine SL.e tabOk ?_; refine SL.e tabOk ?_; (with_reducible refine SL.nil ?_)) | ((with_reducible refine SP.seqK ?_); intro _ _) | (with_reducible refine thenK_normal ?_) | (refine useK (by assumption) ?_) | (with_reducible refine SP.skip ?_) | (with_reducible refine SP.ret ?_) | ((with_reducible show SP _ _ _ (Code.cond _ _ _) _ _ _); first | (refine SP.condF rfl (by first | rfl | (simp only [decide_eq_false_iff_not, beq_eq_false_iff_ne, bne_eq_false_iff_eq]; first | done | omega)) ?_)))
    exact doneK.mk rfl (ResO.tmp rfl) (by rw [h4]; rfl)

end Sp

end Go.Proofs.Ythbmlpiplfbehaa
