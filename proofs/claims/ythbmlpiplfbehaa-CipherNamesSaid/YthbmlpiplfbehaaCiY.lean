/-
  The row of a cipher's state: made, a key, the next number.
  Calls of function values that lie in slots.
  Strings in the walker: cuts, sums, comparisons. No conditions.
  Calls of function values and slices that are made, in regions that draw; calls that change a block and hand back a slice.
-/
import Derived.Test.YthbmlpiplfbehaaSl
import Derived.Test.YthbmlpiplfbehaaSpM
import Derived.Laws.Concat
import Derived.Laws.Strings2
import Derived.Test.YthbmlpiplfbehaaSlX
import Derived.Laws.BytesArg
namespace Go.Proofs.Ythbmlpiplfbehaa
set_option linter.unusedSimpArgs false
set_option linter.unusedVariables false
open Go Go.RowKit
namespace Sp
/-- The row of a state. -/
@[irreducible] def stRow (g : Bool) (K : List Int) (n : Int) : Array Value := #[.bool g] ++ ints .u8 K ++ #[.int .i64 n]
variable {g : Bool} {K : List Int} {n : Int}
theorem st_size (hK : K.length = 32) : (stRow g K n).size = 34 := by unfold stRow; simp [ints_size, hK]
theorem st_g : (stRow g K n)[0]? = some (.bool g) := by
  unfold stRow
  rw [Array.append_assoc, Array.getElem?_append_left (by simp)]
  rfl
theorem st_k (hK : K.length = 32) : (stRow g K n).extract 1 (1 + 32) = ints .u8 K := by
  unfold stRow
  apply Array.ext'
  simp [ints, hK]
theorem st_n (hK : K.length = 32) : (stRow g K n)[33]? = some (.int .i64 n) := by
  unfold stRow
  rw [Array.getElem?_append_right (by simp [ints_size, hK])]
  simp [ints_size, hK]
theorem st_pn (hK : K.length = 32) (v : Int) : putAt (stRow g K n) 33 [.int .i64 v] = stRow g K v := by
  unfold stRow
  apply Array.ext'
  simp [putAt, ints, List.set_append, hK]
theorem st_pk (hK : K.length = 32) {i : Nat} (hi : i < 32) (x : Int) : putAt (stRow g K n) (1 + i) [.int .u8 x] = stRow g (K.set i x) n := by
  unfold stRow
  apply Array.ext'
  simp [putAt, ints, List.set_append, hK, hi, List.map_set, Nat.add_comm 1 i]
end Sp
end Go.Proofs.Ythbmlpiplfbehaa

namespace Go.Proofs.Ythbmlpiplfbehaa
set_option linter.unusedSimpArgs false
set_option linter.unusedVariables false
open Go Go.RowKit
namespace Sp
open M
variable {P : Program} {w0 : World} {mu : List Nat} {bs : Mem} {l : List Value} {rest : List Oper} {Q : ExitP} {dst : Option Tmp} {ty : TypeId} {pos : String} {af : Array Edge} {gd : Option (Nat × Bool)}
theorem run_call_val {a : Act} {w : World} {x : Operand} {f : FuncId} {args : Array Operand} {ats : Array TypeId} (hx : a.eval x = a.eval (.func f)) :
    (execOp a.eval ⟨dst, .call { callee := .value x, args, argTypes := ats }, ty, pos, af, gd⟩).run P w = (execOp a.eval ⟨dst, .call { callee := .value (.func f), args, argTypes := ats }, ty, pos, af, gd⟩).run P w := by
  unfold execOp
  simp [resolve, hx]
/-- A call of a function that lies in a slot, which may change memory. -/
theorem SL.callGV {ops : Array Oper} {x : Operand} {f : FuncId} {args : List Operand} {ats : Array TypeId} (hx : evL l x = evL l (.func f)) (hent : ∀ (A : Array Value) (w : World), (callFunc f A).run P w = .ok (.enter f A) w)
    {vals : List Value} (hv : args.map (evL l) = vals) {R : Value → Mem → Prop} (hc : ∀ w, OwnM w0 mu w bs → Calls P f vals.toArray w fun e w' => ∃ v bs', e = .returned v ∧ R v bs' ∧ OwnM w0 mu w' bs')
    (h : ∀ v bs', R v bs' → SL P ops w0 mu rest Q (putL l dst v) bs') : SL P ops w0 mu (⟨dst, .call { callee := .value x, args := args.toArray, argTypes := ats }, ty, pos, af, none⟩ :: rest) Q l bs := by
  refine ⟨fun W Q' hw hA => ?_⟩
  refine wpList_plain rfl fun K hK => ?_
  unfold Oper.wp
  rw [run_call_val (f := f) (by rw [evL_eq, evL_eq]; exact hx), run_call_fn (args_map args), hv, hent]
  simp only [Oper.upon]
  refine (hc W hw).mono ?_
  rintro e w' ⟨v, bs', rfl, hR, hw'⟩
  exact hK _ _ (by rw [putL_eq]; exact (h v bs' hR).run _ _ hw' hA)
end Sp
end Go.Proofs.Ythbmlpiplfbehaa

namespace Go.Proofs.Ythbmlpiplfbehaa
set_option linter.unusedSimpArgs false
set_option linter.unusedVariables false
open Go Go.RowKit
namespace Sp
open M
variable {P : Program} {tab : Tab} {w0 : World} {mu : List Nat} {bs : Mem} {l l' : List Value} {ops : Array Oper} {rest : List Oper} {Q : ExitP}
variable {dst : Option Tmp} {op : Op} {ty : TypeId} {pos : String} {af : Array Edge} {gd : Option (Nat × Bool)}

theorem ValO.eqlStr {t t' : TypeId} {x y : Operand} {a b : ByteArray} (hx : evL l x = .string a) (hy : evL l y = .string b) (h : (a.toList == b.toList) = true) :
    ValO P w0 mu bs l ⟨dst, .binOp .eql t x y t', ty, pos, af, gd⟩ (.bool true) := by
  refine ⟨M.growAt_pure fun w => ?_⟩
  unfold execOp
  simp only [evL_eq, hx, hy]
  have h1 : (eqGuard .eql t x y (.string a) (.string b)).run P w = .ok () w := by simp [eqGuard]
  rw [Sem.run_bind, Sem.run_bind, h1, Result.andThen_ok, binOp_string_eql, h]
  rfl
end Sp
end Go.Proofs.Ythbmlpiplfbehaa

namespace Go.Proofs.Ythbmlpiplfbehaa
set_option linter.unusedSimpArgs false
set_option linter.unusedVariables false
open Go Go.RowKit
namespace Sp
open F M
section
variable {P : Program} {tab : Tab} {w0 : World} {mu : List Nat} {bs : Mem} {l l' : List Value} {ops : Array Oper} {E D : List Nat} {keep : Mem} {rest : List (Nat × Oper)} {Q : ExitP} {i0 : Nat}
variable {dst : Option Tmp} {op : Op} {ty : TypeId} {pos : String} {af : Array Edge}
theorem SF.callGV (hE : E.contains i0 = true) {x : Operand} {f : FuncId} {args : List Operand} {ats : Array TypeId} (hx : evL l x = evL l (.func f)) (hent : ∀ (A : Array Value) (w : World), (callFunc f A).run P w = .ok (.enter f A) w)
    {vals : List Value} (hv : args.map (evL l) = vals) {R : Value → Mem → Prop} (hc : ∀ w, OwnM w0 mu w bs → Calls P f vals.toArray w fun e w' => ∃ v bs', e = .returned v ∧ R v bs' ∧ OwnM w0 mu w' bs')
    (hkp : ∀ v bs', R v bs' → Kept keep bs') (h : ∀ v bs', R v bs' → SF P ops w0 mu E D keep rest Q (putL l dst v) bs') : SF P ops w0 mu E D keep ((i0, ⟨dst, .call { callee := .value x, args := args.toArray, argTypes := ats }, ty, pos, af, none⟩) :: rest) Q l bs := by
  refine SF.eff (R := R) hE rfl (fun w hw => ?_) hkp h
  rw [run_call_val (f := f) (by rw [evL_eq, evL_eq]; exact hx), run_call_fn (args_map args), hv, hent]
  exact hc w hw
/-- A slice of noughts is made, where the order is drawn. -/
theorem SF.made (ht : TabOk P tab) {x y : Operand} {t e sz n : Nat} {k : IntKind} {kl kc : IntKind} (hz : (P.info? e).map (·.zero) = some (some (.int k 0))) (hmax : n ≤ 281474976710656)
    {l' : Nat → List Value} (h : ∀ nb, SF P ops w0 mu E D keep rest Q (l' nb) ((nb, ints k (List.replicate n 0), e) :: bs)) (hkp : Kept keep bs) (hE : E.contains i0 = true := by rfl) (hx : evL l x = .int kl (n : Int) := by rfl) (hy : evL l y = .int kc (n : Int) := by rfl)
    (hl : look tab t = some (.sl e 1 1, sz) := by rfl)
    (hp : ∀ nb, putL l dst (.slice (some ⟨nb, 0, none⟩) n n) = l' nb := by intro _; first | (dsimp only [putL, setNth]; done) | (dsimp only [putL, setNth]; rfl)) :
    SF P ops w0 mu E D keep ((i0, ⟨dst, .makeSlice t x y, ty, pos, af, none⟩) :: rest) Q l bs := by
  refine SF.effO (R := fun v bs' => ∃ nb, v = .slice (some ⟨nb, 0, none⟩) n n ∧ bs' = (nb, ints k (List.replicate n 0), e) :: bs) hE rfl (fun w hw => ?_) (by rintro v m' ⟨nb, rfl, rfl⟩; exact hkp.more) (by rintro v bs' ⟨nb, rfl, rfl⟩; rw [hp]; exact h nb)
  obtain ⟨hu, hsz, hby⟩ := td_sl (look_ok ht hl)
  cases hq : P.info? e with
  | none => simp [hq] at hsz
  | some inf =>
    have hs1 : inf.size = 1 := by simpa [hq] using hsz
    have hb1 : inf.bytes = 1 := by simpa [hq] using hby
    have hz1 : inf.zero = some (.int k 0) := by simpa [hq] using hz
    have hrun := run_make (P := P) w t e inf _ hu hq hz1 kl kc (n : Int) (n : Int) (by omega) (Int.le_refl _) (by rw [hb1]; omega) (by omega)
    have hex : (execOp (⟨l.toArray, []⟩ : Act).eval ⟨dst, .makeSlice t x y, ty, pos, af, none⟩).run P w = .ok (.value (.slice (some ⟨w.heap.size, 0, none⟩) n n)) (w.alloc (.cells (ints k (List.replicate n 0)) e)) := by
      rw [Int.toNat_natCast, hs1, Nat.mul_one, madeCells_int] at hrun
      unfold execOp
      simp only [evL_eq, hx, hy, Sem.run_bind, hrun, Result.andThen_ok, Sem.run_pure]
    exact ⟨_, _, _, hex, ⟨w.heap.size, rfl, rfl⟩, hw.alloc (ints k (List.replicate n 0)) e⟩
theorem OwnM.call1A {w w' : World} {abs : Mem} (h : OwnM w0 mu w bs) {i b : Nat} {A A' : Array Value} {T : TypeId} (hi : bs[i]? = some (b, A, T)) (h' : OwnM w [b] w' ((b, A', T) :: abs)) : OwnM w0 mu w' (bs.set i (b, A', T) ++ abs) := by
  have h1 : OwnM w0 mu w' (bs.set i (b, A', T)) := h.call1 hi (h'.sub (by simp))
  have hge : ∀ p ∈ abs, w.heap.size ≤ p.1 := fun p hp => by
    rcases (h'.here p (List.mem_cons_of_mem _ hp)).1 with hx | hx
    · exact hx
    · have hne : p.1 ≠ b := by
        have := h'.apart
        rw [List.map_cons, List.nodup_cons] at this
        exact fun he => this.1 (List.mem_map.2 ⟨p, hp, he⟩)
      exact absurd (List.mem_singleton.1 hx) hne
  refine ⟨h1.os, h1.tape, h1.output, h1.size, h1.rest, ?_, ?_⟩
  · intro p hp
    rcases List.mem_append.1 hp with hp | hp
    · exact h1.here p hp
    · exact ⟨.inl (Nat.le_trans h.size (hge p hp)), (h'.here p (List.mem_cons_of_mem _ hp)).2⟩
  · rw [List.map_append, List.nodup_append]
    have hna : (abs.map (·.1)).Nodup := by
      have := h'.apart
      rw [List.map_cons, List.nodup_cons] at this
      exact this.2
    refine ⟨h1.apart, hna, ?_⟩
    intro a ha b' hb' he
    obtain ⟨p', hp', rfl⟩ := List.mem_map.1 hb'
    have h3 := hge p' hp'
    have h4 : a < w.heap.size := by
      have h5 : (bs.set i (b, A', T)).map (·.1) = bs.map (·.1) := by
        have hi2 := (List.getElem?_eq_some_iff.1 hi)
        obtain ⟨hlt, hge2⟩ := hi2
        rw [List.map_set]
        refine List.ext_getElem? fun j => ?_
        rw [List.getElem?_set]
        split
        · rename_i hij; subst hij
          simp [hlt, hge2]
        · rfl
      rw [h5] at ha
      obtain ⟨p, hp, rfl⟩ := List.mem_map.1 ha
      exact h.lt hp
    omega
end
section
variable {P : Program} {ops : Array Oper} {rest : List Oper} {dst : Option Tmp} {ty : TypeId} {pos : String} {af : Array Edge} {l : List Value} {w0 : World} {mu : List Nat} {bs : Mem} {Q : ExitP} {tab : Tab}
/-- A slice's bytes lie elsewhere than in a block. -/
def ApartB (b : Nat) (q : Option Addr) (k : Nat) : Prop := 0 < k → ∀ sb off, q = some ⟨sb, off, none⟩ → sb ≠ b
theorem ApartB.nil (b k : Nat) : ApartB b none k := fun _ sb off h => by cases h
theorem ApartB.old {W : World} {q : Option Addr} {k d b : Nat} {D : List Int} {A : Array Value} {T : TypeId} (hS : Sl w0 q k d D) (hw : OwnM w0 [] W bs) (hm : (b, A, T) ∈ bs) : ApartB b q k := hS.apart hw hm
theorem ApartB.ao {q : Option Addr} {n c b : Nat} {X : List Int} {m : Mem} (h : AO q n c X m) (hb : b ∉ m.map (·.1)) : ApartB b q n := fun h0 sb off hq => by
  obtain ⟨b', J, T, rfl, rfl⟩ := h.at_ h0
  cases hq
  intro he
  subst he
  exact hb (by simp)
theorem ApartB.ne {b x off k : Nat} (h : x ≠ b) : ApartB b (some ⟨x, off, none⟩) k := fun _ sb o hq => by cases hq; exact h
theorem ApartB.own {W : World} (hw : OwnM w0 mu W bs) {i j b x off k : Nat} {A A' : Array Value} {T T' : TypeId} (hi : bs[i]? = some (x, A, T)) (hj : bs[j]? = some (b, A', T')) (hij : i ≠ j) : ApartB b (some ⟨x, off, none⟩) k := ApartB.ne (hw.ne hi hj hij)
theorem Sl.oldM {w W : World} {b n c : Nat} {p : Option Addr} {B : List Int} (h : Sl w p n c B) (hw : OwnM w [b] W bs) (ha : ApartB b p n) : Sl W p n c B :=
  ⟨h.len, h.cap, fun h0 => by
    obtain ⟨sb, off, A, T, fz, rfl, hb, hA⟩ := h.at_ h0
    have hne := ha h0 sb off rfl
    exact ⟨sb, off, A, T, fz, rfl, by rw [hw.rest sb (Array.getElem?_eq_some_iff.1 hb).1 (by simpa using hne)]; exact hb, hA⟩⟩
/-- Where a call ends that changes a block and answers bytes and a number. -/
def StPost (w : World) (b : Nat) (T : TypeId) (R : Array Value) (X : List Int) (n : Int) (e : Ending) (w' : World) : Prop :=
  ∃ q c abs, e = .returned (.tuple #[.slice q X.length c, .int .i64 n]) ∧ AO q X.length c X abs ∧ OwnM w [b] w' ((b, R, T) :: abs)
/-- Such a call: the slice lies at the memory's end. -/
theorem SL.clS {f : FuncId} {args : List Operand} {ats : Array TypeId} (hent : ∀ (A : Array Value) (w : World), (callFunc f A).run P w = .ok (.enter f A) w) {vals : List Value} (hv : args.map (evL l) = vals)
    {i b : Nat} {A A' : Array Value} {T : TypeId} (hi : bs[i]? = some (b, A, T)) {X : List Int} {m : Nat} {n : Int} {l' : Option Addr → Nat → List Value} {bs' : Mem → Mem}
    (hc : ∀ w, OwnM w0 mu w bs → Calls P f vals.toArray w (StPost w b T A' X n))
    (h : ∀ q c abs, AO q m c X abs → SL P ops w0 mu rest Q (l' q c) (bs' abs)) (hm : X.length = m := by rfl) (hbs : ∀ abs, bs.set i (b, A', T) ++ abs = bs' abs := by intro _; first | (simp only [List.set, List.cons_append, List.nil_append, List.append_assoc]; done) | (simp only [List.set, List.cons_append, List.nil_append, List.append_assoc]; rfl))
    (hp : ∀ q c, putL l dst (.tuple #[.slice q m c, .int .i64 n]) = l' q c := by intro _ _; first | (dsimp only [putL, setNth]; done) | (dsimp only [putL, setNth]; rfl)) :
    SL P ops w0 mu (⟨dst, .call { callee := .value (.func f), args := args.toArray, argTypes := ats }, ty, pos, af, none⟩ :: rest) Q l bs := by
  subst hm
  refine SL.callG hent hv (R := fun v' bs2 => ∃ q c abs, AO q X.length c X abs ∧ v' = .tuple #[.slice q X.length c, .int .i64 n] ∧ bs2 = bs' abs) (fun w hw => (hc w hw).mono fun e w' hx => ?_) (by rintro v' bs2 ⟨q, c, abs, ha, rfl, rfl⟩; rw [hp]; exact h q c abs ha)
  obtain ⟨q, c, abs, rfl, ha, hw'⟩ := hx
  exact ⟨_, _, rfl, ⟨q, c, abs, ha, rfl, rfl⟩, by rw [← hbs]; exact OwnM.call1A hw hi hw'⟩
/-- A call that answers bytes and a number: the slice lies at the memory's end. -/
theorem SL.clB {f : FuncId} {args : List Operand} {ats : Array TypeId} (hent : ∀ (A : Array Value) (w : World), (callFunc f A).run P w = .ok (.enter f A) w) {vals : List Value} (hv : args.map (evL l) = vals)
    {X : List Int} {m : Nat} {n : Int} {l' : Option Addr → Nat → List Value} {bs' : Mem → Mem}
    (hc : ∀ w, OwnM w0 mu w bs → Calls P f vals.toArray w (fun e w' => ∃ q c abs, e = .returned (.tuple #[.slice q X.length c, .int .i64 n]) ∧ AO q X.length c X abs ∧ OwnM w [] w' abs))
    (h : ∀ q c abs, AO q m c X abs → SL P ops w0 mu rest Q (l' q c) (bs' abs)) (hm : X.length = m := by rfl) (hbs : ∀ abs, bs ++ abs = bs' abs := by intro _; first | (simp only [List.cons_append, List.nil_append, List.append_assoc]; done) | (simp only [List.cons_append, List.nil_append, List.append_assoc]; rfl))
    (hp : ∀ q c, putL l dst (.tuple #[.slice q m c, .int .i64 n]) = l' q c := by intro _ _; first | (dsimp only [putL, setNth]; done) | (dsimp only [putL, setNth]; rfl)) :
    SL P ops w0 mu (⟨dst, .call { callee := .value (.func f), args := args.toArray, argTypes := ats }, ty, pos, af, none⟩ :: rest) Q l bs :=
  by subst hm; exact SL.clA (V := fun q c => .tuple #[.slice q X.length c, .int .i64 n]) hent hv hc h hbs hp
end
section
variable {P : Program} {tab : Tab} {w0 : World} {mu : List Nat} {bs : Mem} {l : List Value} {ops : Array Oper} {E D : List Nat} {rest : List (Nat × Oper)} {Q : ExitP} {i0 : Nat}
variable {dst : Option Tmp} {op : Op} {ty : TypeId} {pos : String} {af : Array Edge}
/-- A call that changes a block and hands back a slice, where the order is drawn. -/
theorem SF.clS {keep : Mem} {f : FuncId} {args : List Operand} {ats : Array TypeId} (hent : ∀ (A : Array Value) (w : World), (callFunc f A).run P w = .ok (.enter f A) w) {vals : List Value} (hv : args.map (evL l) = vals)
    {i b : Nat} {A A' : Array Value} {T : TypeId} (hi : bs[i]? = some (b, A, T)) {X : List Int} {m : Nat} {n : Int} {l' : Option Addr → Nat → List Value} {bs' : Mem → Mem}
    (hc : ∀ w, OwnM w0 mu w bs → Calls P f vals.toArray w (StPost w b T A' X n))
    (h : ∀ q c abs, AO q m c X abs → SF P ops w0 mu E D keep rest Q (l' q c) (bs' abs)) (hm : X.length = m := by rfl) (hE : E.contains i0 = true := by rfl) (hbs : ∀ abs, bs.set i (b, A', T) ++ abs = bs' abs := by intro _; first | (simp only [List.set, List.cons_append, List.nil_append, List.append_assoc]; done) | (simp only [List.set, List.cons_append, List.nil_append, List.append_assoc]; rfl))
    (hp : ∀ q c, putL l dst (.tuple #[.slice q m c, .int .i64 n]) = l' q c := by intro _ _; first | (dsimp only [putL, setNth]; done) | (dsimp only [putL, setNth]; rfl)) (hkp : ∀ q c abs, AO q m c X abs → Kept keep (bs' abs) := by intro _ _ _ _; first | exact Kept.nil | (simp [Kept]; done)) :
    SF P ops w0 mu E D keep ((i0, ⟨dst, .call { callee := .value (.func f), args := args.toArray, argTypes := ats }, ty, pos, af, none⟩) :: rest) Q l bs := by
  subst hm
  refine SF.callG hE hent hv (R := fun v' bs2 => ∃ q c abs, AO q X.length c X abs ∧ v' = .tuple #[.slice q X.length c, .int .i64 n] ∧ bs2 = bs' abs) (fun w hw => (hc w hw).mono fun e w' hx => ?_) (by rintro v' bs2 ⟨q, c, abs, ha, rfl, rfl⟩; exact hkp q c abs ha) (by rintro v' bs2 ⟨q, c, abs, ha, rfl, rfl⟩; rw [hp]; exact h q c abs ha)
  obtain ⟨q, c, abs, rfl, ha, hw'⟩ := hx
  exact ⟨_, _, rfl, ⟨q, c, abs, ha, rfl, rfl⟩, by rw [← hbs]; exact OwnM.call1A hw hi hw'⟩
/-- The same of a function value or of a function, where the order is drawn. -/
theorem SF.clB {keep : Mem} {x : Operand} {f : FuncId} {args : List Operand} {ats : Array TypeId} (hent : ∀ (A : Array Value) (w : World), (callFunc f A).run P w = .ok (.enter f A) w) {vals : List Value} (hv : args.map (evL l) = vals)
    {X : List Int} {m : Nat} {n : Int} {l' : Option Addr → Nat → List Value} {bs' : Mem → Mem}
    (hc : ∀ w, OwnM w0 mu w bs → Calls P f vals.toArray w (fun e w' => ∃ q c abs, e = .returned (.tuple #[.slice q X.length c, .int .i64 n]) ∧ AO q X.length c X abs ∧ OwnM w [] w' abs))
    (h : ∀ q c abs, AO q m c X abs → SF P ops w0 mu E D keep rest Q (l' q c) (bs' abs)) (hE : E.contains i0 = true := by rfl) (hx : evL l x = evL l (.func f) := by rfl) (hm : X.length = m := by rfl) (hbs : ∀ abs, bs ++ abs = bs' abs := by intro _; first | (simp only [List.cons_append, List.nil_append, List.append_assoc]; done) | (simp only [List.cons_append, List.nil_append, List.append_assoc]; rfl))
    (hp : ∀ q c, putL l dst (.tuple #[.slice q m c, .int .i64 n]) = l' q c := by intro _ _; first | (dsimp only [putL, setNth]; done) | (dsimp only [putL, setNth]; rfl)) (hkp : ∀ q c abs, AO q m c X abs → Kept keep (bs' abs) := by intro _ _ _ _; first | exact Kept.nil | (simp [Kept]; done)) :
    SF P ops w0 mu E D keep ((i0, ⟨dst, .call { callee := .value x, args := args.toArray, argTypes := ats }, ty, pos, af, none⟩) :: rest) Q l bs := by
  subst hm
  refine SF.callGV hE hx hent hv (R := fun v' bs2 => ∃ q c abs, AO q X.length c X abs ∧ v' = .tuple #[.slice q X.length c, .int .i64 n] ∧ bs2 = bs' abs) (fun w hw => (hc w hw).mono fun e w' hx => ?_) (by rintro v' bs2 ⟨q, c, abs, ha, rfl, rfl⟩; exact hkp q c abs ha) (by rintro v' bs2 ⟨q, c, abs, ha, rfl, rfl⟩; rw [hp]; exact h q c abs ha)
  obtain ⟨q, c, abs, rfl, ha, hw'⟩ := hx
  exact ⟨_, _, rfl, ⟨q, c, abs, ha, rfl, rfl⟩, by rw [← hbs]; exact OwnM.freshL hw hw'⟩
end
section
variable {P : Program} {tab : Tab} {w0 : World} {mu : List Nat} {bs : Mem} {l : List Value} {dst : Option Tmp} {ty : TypeId} {pos : String} {af : Array Edge} {gd : Option (Nat × Bool)}
/-- Bytes as a string. -/
theorem ValO.bytesStr (ht : TabOk P tab) {s d e by_ sz sz' : Nat} {x : Operand} {q : Option Addr} {n c : Nat} {B : List Int} (hS : ∀ w, OwnM w0 mu w bs → Sl w q n c B) (h0 : 0 < n) (hx : evL l x = .slice q n c) (hl : look tab s = some (.sl e 1 by_, sz)) (hle : look tab e = some (.int .u8, 1)) (hd : look tab d = some (.str, sz')) :
    ValO P w0 mu bs l ⟨dst, .convert s d x, ty, pos, af, gd⟩ (.string (strOfNums B)) := by
  refine ⟨fun w hw => ?_⟩
  have hSw := hS w hw
  obtain ⟨hu, _, _⟩ := td_sl (look_ok ht hl)
  have hue := td_int (look_ok ht hle)
  have hud := td_str (look_ok ht hd)
  obtain ⟨b, off, A, T, fz, rfl, hb, hA⟩ := hSw.at_ h0
  have hc := run_convert_bytes_arg (P := P) w s e hu hue b off n c B hSw.len (fun i hi => by
    have h1 := hA i (by rw [hSw.len]; exact hi)
    rw [cell_of_row w b (off + i) A T fz hb, h1]
    rfl) d hud
  have he : (execOp (⟨l.toArray, []⟩ : Act).eval ⟨dst, .convert s d x, ty, pos, af, gd⟩).run P w = .ok (.value (.string (strOfNums B))) w := by
    unfold execOp
    simp only [evL_eq, hx, Sem.run_bind, hc, Result.andThen_ok, Sem.run_pure]
  rw [he]
  exact ⟨rfl, rfl⟩
end
end Sp
end Go.Proofs.Ythbmlpiplfbehaa
