/-
  Joined texts: CiY, PolyRa, PolyRb, PolyRc, PolyM, PolyN, PolyPi, PolyO, PolyQ, PolyPj, PolyS. No conditions.
-/
import Derived.Test.YtdjecenggngdjaaGac
import Derived.Test.YtdjecenggngdjaaGae
import Derived.Test.YtdjecenggngdjaaGaf
import Derived.Test.YtdjecenggngdjaaGam
import Derived.Test.YtdjecenggngdjaaGan
import Derived.Laws.Concat
import Derived.Laws.Strings2
import Derived.Laws.BytesArg
import Derived.KernelRfl
import Derived.Lib.Hide
import Derived.Laws.BitsAllLaws
namespace Go.Proofs.Ytdjecenggngdjaa
set_option linter.unusedSimpArgs false
set_option linter.unusedVariables false
set_option maxHeartbeats 16000000
section
open Go Go.RowKit
namespace Sp
@[irreducible] def stRow (g : Bool) (K : List Int) (n : Int) : Array Value := #[.bool g] ++ ints .u8 K ++ #[.int .i64 n]
variable {g : Bool} {K : List Int} {n : Int}
theorem st_size (hK : K.length = 32) : (stRow g K n).size = 34 := by unfold stRow; simp [ints_size, hK]
theorem st_g : (stRow g K n)[0]? = some (.bool g) := by
  unfold stRow
  rw [Array.append_assoc, Array.getElem?_append_left (by simp)]
  rfl
theorem st_k (hK : K.length = 32) : (stRow g K n).extract 1 (1 + 32) = ints .u8 K := by
  unfold stRow
  apply Array.ext'
  simp [ints, hK]
theorem st_n (hK : K.length = 32) : (stRow g K n)[33]? = some (.int .i64 n) := by
  unfold stRow
  rw [Array.getElem?_append_right (by simp [ints_size, hK])]
  simp [ints_size, hK]
theorem st_pn (hK : K.length = 32) (v : Int) : putAt (stRow g K n) 33 [.int .i64 v] = stRow g K v := by
  unfold stRow
  apply Array.ext'
  simp [putAt, ints, List.set_append, hK]
end Sp
end
section
open Go Go.RowKit
namespace Sp
open M
variable {P : Program} {w0 : World} {mu : List Nat} {bs : Mem} {l : List Value} {rest : List Oper} {Q : ExitP} {dst : Option Tmp} {ty : TypeId} {pos : String} {af : Array Edge} {gd : Option (Nat × Bool)}
theorem run_call_val {a : Act} {w : World} {x : Operand} {f : FuncId} {args : Array Operand} {ats : Array TypeId} (hx : a.eval x = a.eval (.func f)) :
    (execOp a.eval ⟨dst, .call { callee := .value x, args, argTypes := ats }, ty, pos, af, gd⟩).run P w = (execOp a.eval ⟨dst, .call { callee := .value (.func f), args, argTypes := ats }, ty, pos, af, gd⟩).run P w := by
  unfold execOp
  simp [resolve, hx]
end Sp
end
section
open Go Go.RowKit
namespace Sp
open M
variable {P : Program} {tab : Tab} {w0 : World} {mu : List Nat} {bs : Mem} {l l' : List Value} {ops : Array Oper} {rest : List Oper} {Q : ExitP}
variable {dst : Option Tmp} {op : Op} {ty : TypeId} {pos : String} {af : Array Edge} {gd : Option (Nat × Bool)}
theorem ValO.eqlStr {t t' : TypeId} {x y : Operand} {a b : ByteArray} (hx : evL l x = .string a) (hy : evL l y = .string b) (h : (a.toList == b.toList) = true) :
    ValO P w0 mu bs l ⟨dst, .binOp .eql t x y t', ty, pos, af, gd⟩ (.bool true) := by
  refine ⟨M.growAt_pure fun w => ?_⟩
  unfold execOp
  simp only [evL_eq, hx, hy]
  have h1 : (eqGuard .eql t x y (.string a) (.string b)).run P w = .ok () w := by simp [eqGuard]
  rw [Sem.run_bind, Sem.run_bind, h1, Result.andThen_ok, binOp_string_eql, h]
  rfl
end Sp
end
section
open Go Go.RowKit
namespace Sp
open F M
section
variable {P : Program} {tab : Tab} {w0 : World} {mu : List Nat} {bs : Mem} {l l' : List Value} {ops : Array Oper} {E D : List Nat} {keep : Mem} {rest : List (Nat × Oper)} {Q : ExitP} {i0 : Nat}
variable {dst : Option Tmp} {op : Op} {ty : TypeId} {pos : String} {af : Array Edge}
theorem SF.callGV (hE : E.contains i0 = true) {x : Operand} {f : FuncId} {args : List Operand} {ats : Array TypeId} (hx : evL l x = evL l (.func f)) (hent : ∀ (A : Array Value) (w : World), (callFunc f A).run P w = .ok (.enter f A) w)
    {vals : List Value} (hv : args.map (evL l) = vals) {R : Value → Mem → Prop} (hc : ∀ w, OwnM w0 mu w bs → Calls P f vals.toArray w fun e w' => ∃ v bs', e = .returned v ∧ R v bs' ∧ OwnM w0 mu w' bs')
    (hkp : ∀ v bs', R v bs' → Kept keep bs') (h : ∀ v bs', R v bs' → SF P ops w0 mu E D keep rest Q (putL l dst v) bs') : SF P ops w0 mu E D keep ((i0, ⟨dst, .call { callee := .value x, args := args.toArray, argTypes := ats }, ty, pos, af, none⟩) :: rest) Q l bs := by
  refine SF.eff (R := R) hE rfl (fun w hw => ?_) hkp h
  rw [run_call_val (f := f) (by rw [evL_eq, evL_eq]; exact hx), run_call_fn (args_map args), hv, hent]
  exact hc w hw
theorem OwnM.call1A {w w' : World} {abs : Mem} (h : OwnM w0 mu w bs) {i b : Nat} {A A' : Array Value} {T : TypeId} (hi : bs[i]? = some (b, A, T)) (h' : OwnM w [b] w' ((b, A', T) :: abs)) : OwnM w0 mu w' (bs.set i (b, A', T) ++ abs) := by
  have h1 : OwnM w0 mu w' (bs.set i (b, A', T)) := h.call1 hi (h'.sub (by simp))
  have hge : ∀ p ∈ abs, w.heap.size ≤ p.1 := fun p hp => by
    rcases (h'.here p (List.mem_cons_of_mem _ hp)).1 with hx | hx
    · exact hx
    · have hne : p.1 ≠ b := by
        have := h'.apart
        rw [List.map_cons, List.nodup_cons] at this
        exact fun he => this.1 (List.mem_map.2 ⟨p, hp, he⟩)
      exact absurd (List.mem_singleton.1 hx) hne
  refine ⟨h1.os, h1.tape, h1.output, h1.size, h1.rest, ?_, ?_⟩
  · intro p hp
    rcases List.mem_append.1 hp with hp | hp
    · exact h1.here p hp
    · exact ⟨.inl (Nat.le_trans h.size (hge p hp)), (h'.here p (List.mem_cons_of_mem _ hp)).2⟩
  · rw [List.map_append, List.nodup_append]
    have hna : (abs.map (·.1)).Nodup := by
      have := h'.apart
      rw [List.map_cons, List.nodup_cons] at this
      exact this.2
    refine ⟨h1.apart, hna, ?_⟩
    intro a ha b' hb' he
    obtain ⟨p', hp', rfl⟩ := List.mem_map.1 hb'
    have h3 := hge p' hp'
    have h4 : a < w.heap.size := by
      have h5 : (bs.set i (b, A', T)).map (·.1) = bs.map (·.1) := by
        have hi2 := (List.getElem?_eq_some_iff.1 hi)
        obtain ⟨hlt, hge2⟩ := hi2
        rw [List.map_set]
        refine List.ext_getElem? fun j => ?_
        rw [List.getElem?_set]
        split
        · rename_i hij; subst hij
          simp [hlt, hge2]
        · rfl
      rw [h5] at ha
      obtain ⟨p, hp, rfl⟩ := List.mem_map.1 ha
      exact h.lt hp
    omega
end
section
variable {P : Program} {ops : Array Oper} {rest : List Oper} {dst : Option Tmp} {ty : TypeId} {pos : String} {af : Array Edge} {l : List Value} {w0 : World} {mu : List Nat} {bs : Mem} {Q : ExitP} {tab : Tab}
def ApartB (b : Nat) (q : Option Addr) (k : Nat) : Prop := 0 < k → ∀ sb off, q = some ⟨sb, off, none⟩ → sb ≠ b
theorem ApartB.nil (b k : Nat) : ApartB b none k := fun _ sb off h => by cases h
theorem ApartB.old {W : World} {q : Option Addr} {k d b : Nat} {D : List Int} {A : Array Value} {T : TypeId} (hS : Sl w0 q k d D) (hw : OwnM w0 [] W bs) (hm : (b, A, T) ∈ bs) : ApartB b q k := hS.apart hw hm
theorem ApartB.ao {q : Option Addr} {n c b : Nat} {X : List Int} {m : Mem} (h : AO q n c X m) (hb : b ∉ m.map (·.1)) : ApartB b q n := fun h0 sb off hq => by
  obtain ⟨b', J, T, rfl, rfl⟩ := h.at_ h0
  cases hq
  intro he
  subst he
  exact hb (by simp)
theorem ApartB.ne {b x off k : Nat} (h : x ≠ b) : ApartB b (some ⟨x, off, none⟩) k := fun _ sb o hq => by cases hq; exact h
theorem ApartB.own {W : World} (hw : OwnM w0 mu W bs) {i j b x off k : Nat} {A A' : Array Value} {T T' : TypeId} (hi : bs[i]? = some (x, A, T)) (hj : bs[j]? = some (b, A', T')) (hij : i ≠ j) : ApartB b (some ⟨x, off, none⟩) k := ApartB.ne (hw.ne hi hj hij)
theorem Sl.oldM {w W : World} {b n c : Nat} {p : Option Addr} {B : List Int} (h : Sl w p n c B) (hw : OwnM w [b] W bs) (ha : ApartB b p n) : Sl W p n c B :=
  ⟨h.len, h.cap, fun h0 => by
    obtain ⟨sb, off, A, T, fz, rfl, hb, hA⟩ := h.at_ h0
    have hne := ha h0 sb off rfl
    exact ⟨sb, off, A, T, fz, rfl, by rw [hw.rest sb (Array.getElem?_eq_some_iff.1 hb).1 (by simpa using hne)]; exact hb, hA⟩⟩
def StPost (w : World) (b : Nat) (T : TypeId) (R : Array Value) (X : List Int) (n : Int) (e : Ending) (w' : World) : Prop :=
  ∃ q c abs, e = .returned (.tuple #[.slice q X.length c, .int .i64 n]) ∧ AO q X.length c X abs ∧ OwnM w [b] w' ((b, R, T) :: abs)
theorem SL.clS {f : FuncId} {args : List Operand} {ats : Array TypeId} (hent : ∀ (A : Array Value) (w : World), (callFunc f A).run P w = .ok (.enter f A) w) {vals : List Value} (hv : args.map (evL l) = vals)
    {i b : Nat} {A A' : Array Value} {T : TypeId} (hi : bs[i]? = some (b, A, T)) {X : List Int} {m : Nat} {n : Int} {l' : Option Addr → Nat → List Value} {bs' : Mem → Mem}
    (hc : ∀ w, OwnM w0 mu w bs → Calls P f vals.toArray w (StPost w b T A' X n))
    (h : ∀ q c abs, AO q m c X abs → SL P ops w0 mu rest Q (l' q c) (bs' abs)) (hm : X.length = m := by rfl) (hbs : ∀ abs, bs.set i (b, A', T) ++ abs = bs' abs := by intro _; first | (simp only [List.set, List.cons_append, List.nil_append, List.append_assoc]; done) | (simp only [List.set, List.cons_append, List.nil_append, List.append_assoc]; rfl))
    (hp : ∀ q c, putL l dst (.tuple #[.slice q m c, .int .i64 n]) = l' q c := by intro _ _; first | (dsimp only [putL, setNth]; done) | (dsimp only [putL, setNth]; rfl)) :
    SL P ops w0 mu (⟨dst, .call { callee := .value (.func f), args := args.toArray, argTypes := ats }, ty, pos, af, none⟩ :: rest) Q l bs := by
  subst hm
  refine SL.callG hent hv (R := fun v' bs2 => ∃ q c abs, AO q X.length c X abs ∧ v' = .tuple #[.slice q X.length c, .int .i64 n] ∧ bs2 = bs' abs) (fun w hw => (hc w hw).mono fun e w' hx => ?_) (by rintro v' bs2 ⟨q, c, abs, ha, rfl, rfl⟩; rw [hp]; exact h q c abs ha)
  obtain ⟨q, c, abs, rfl, ha, hw'⟩ := hx
  exact ⟨_, _, rfl, ⟨q, c, abs, ha, rfl, rfl⟩, by rw [← hbs]; exact OwnM.call1A hw hi hw'⟩
theorem SL.clB {f : FuncId} {args : List Operand} {ats : Array TypeId} (hent : ∀ (A : Array Value) (w : World), (callFunc f A).run P w = .ok (.enter f A) w) {vals : List Value} (hv : args.map (evL l) = vals)
    {X : List Int} {m : Nat} {n : Int} {l' : Option Addr → Nat → List Value} {bs' : Mem → Mem}
    (hc : ∀ w, OwnM w0 mu w bs → Calls P f vals.toArray w (fun e w' => ∃ q c abs, e = .returned (.tuple #[.slice q X.length c, .int .i64 n]) ∧ AO q X.length c X abs ∧ OwnM w [] w' abs))
    (h : ∀ q c abs, AO q m c X abs → SL P ops w0 mu rest Q (l' q c) (bs' abs)) (hm : X.length = m := by rfl) (hbs : ∀ abs, bs ++ abs = bs' abs := by intro _; first | (simp only [List.cons_append, List.nil_append, List.append_assoc]; done) | (simp only [List.cons_append, List.nil_append, List.append_assoc]; rfl))
    (hp : ∀ q c, putL l dst (.tuple #[.slice q m c, .int .i64 n]) = l' q c := by intro _ _; first | (dsimp only [putL, setNth]; done) | (dsimp only [putL, setNth]; rfl)) :
    SL P ops w0 mu (⟨dst, .call { callee := .value (.func f), args := args.toArray, argTypes := ats }, ty, pos, af, none⟩ :: rest) Q l bs :=
  by subst hm; exact SL.clA (V := fun q c => .tuple #[.slice q X.length c, .int .i64 n]) hent hv hc h hbs hp
end
section
variable {P : Program} {tab : Tab} {w0 : World} {mu : List Nat} {bs : Mem} {l : List Value} {ops : Array Oper} {E D : List Nat} {rest : List (Nat × Oper)} {Q : ExitP} {i0 : Nat}
variable {dst : Option Tmp} {op : Op} {ty : TypeId} {pos : String} {af : Array Edge}
theorem SF.clS {keep : Mem} {f : FuncId} {args : List Operand} {ats : Array TypeId} (hent : ∀ (A : Array Value) (w : World), (callFunc f A).run P w = .ok (.enter f A) w) {vals : List Value} (hv : args.map (evL l) = vals)
    {i b : Nat} {A A' : Array Value} {T : TypeId} (hi : bs[i]? = some (b, A, T)) {X : List Int} {m : Nat} {n : Int} {l' : Option Addr → Nat → List Value} {bs' : Mem → Mem}
    (hc : ∀ w, OwnM w0 mu w bs → Calls P f vals.toArray w (StPost w b T A' X n))
    (h : ∀ q c abs, AO q m c X abs → SF P ops w0 mu E D keep rest Q (l' q c) (bs' abs)) (hm : X.length = m := by rfl) (hE : E.contains i0 = true := by rfl) (hbs : ∀ abs, bs.set i (b, A', T) ++ abs = bs' abs := by intro _; first | (simp only [List.set, List.cons_append, List.nil_append, List.append_assoc]; done) | (simp only [List.set, List.cons_append, List.nil_append, List.append_assoc]; rfl))
    (hp : ∀ q c, putL l dst (.tuple #[.slice q m c, .int .i64 n]) = l' q c := by intro _ _; first | (dsimp only [putL, setNth]; done) | (dsimp only [putL, setNth]; rfl)) (hkp : ∀ q c abs, AO q m c X abs → Kept keep (bs' abs) := by intro _ _ _ _; first | exact Kept.nil | (simp [Kept]; done)) :
    SF P ops w0 mu E D keep ((i0, ⟨dst, .call { callee := .value (.func f), args := args.toArray, argTypes := ats }, ty, pos, af, none⟩) :: rest) Q l bs := by
  subst hm
  refine SF.callG hE hent hv (R := fun v' bs2 => ∃ q c abs, AO q X.length c X abs ∧ v' = .tuple #[.slice q X.length c, .int .i64 n] ∧ bs2 = bs' abs) (fun w hw => (hc w hw).mono fun e w' hx => ?_) (by rintro v' bs2 ⟨q, c, abs, ha, rfl, rfl⟩; exact hkp q c abs ha) (by rintro v' bs2 ⟨q, c, abs, ha, rfl, rfl⟩; rw [hp]; exact h q c abs ha)
  obtain ⟨q, c, abs, rfl, ha, hw'⟩ := hx
  exact ⟨_, _, rfl, ⟨q, c, abs, ha, rfl, rfl⟩, by rw [← hbs]; exact OwnM.call1A hw hi hw'⟩
theorem SF.clB {keep : Mem} {x : Operand} {f : FuncId} {args : List Operand} {ats : Array TypeId} (hent : ∀ (A : Array Value) (w : World), (callFunc f A).run P w = .ok (.enter f A) w) {vals : List Value} (hv : args.map (evL l) = vals)
    {X : List Int} {m : Nat} {n : Int} {l' : Option Addr → Nat → List Value} {bs' : Mem → Mem}
    (hc : ∀ w, OwnM w0 mu w bs → Calls P f vals.toArray w (fun e w' => ∃ q c abs, e = .returned (.tuple #[.slice q X.length c, .int .i64 n]) ∧ AO q X.length c X abs ∧ OwnM w [] w' abs))
    (h : ∀ q c abs, AO q m c X abs → SF P ops w0 mu E D keep rest Q (l' q c) (bs' abs)) (hE : E.contains i0 = true := by rfl) (hx : evL l x = evL l (.func f) := by rfl) (hm : X.length = m := by rfl) (hbs : ∀ abs, bs ++ abs = bs' abs := by intro _; first | (simp only [List.cons_append, List.nil_append, List.append_assoc]; done) | (simp only [List.cons_append, List.nil_append, List.append_assoc]; rfl))
    (hp : ∀ q c, putL l dst (.tuple #[.slice q m c, .int .i64 n]) = l' q c := by intro _ _; first | (dsimp only [putL, setNth]; done) | (dsimp only [putL, setNth]; rfl)) (hkp : ∀ q c abs, AO q m c X abs → Kept keep (bs' abs) := by intro _ _ _ _; first | exact Kept.nil | (simp [Kept]; done)) :
    SF P ops w0 mu E D keep ((i0, ⟨dst, .call { callee := .value x, args := args.toArray, argTypes := ats }, ty, pos, af, none⟩) :: rest) Q l bs := by
  subst hm
  refine SF.callGV hE hx hent hv (R := fun v' bs2 => ∃ q c abs, AO q X.length c X abs ∧ v' = .tuple #[.slice q X.length c, .int .i64 n] ∧ bs2 = bs' abs) (fun w hw => (hc w hw).mono fun e w' hx => ?_) (by rintro v' bs2 ⟨q, c, abs, ha, rfl, rfl⟩; exact hkp q c abs ha) (by rintro v' bs2 ⟨q, c, abs, ha, rfl, rfl⟩; rw [hp]; exact h q c abs ha)
  obtain ⟨q, c, abs, rfl, ha, hw'⟩ := hx
  exact ⟨_, _, rfl, ⟨q, c, abs, ha, rfl, rfl⟩, by rw [← hbs]; exact OwnM.freshL hw hw'⟩
end
section
variable {P : Program} {tab : Tab} {w0 : World} {mu : List Nat} {bs : Mem} {l : List Value} {dst : Option Tmp} {ty : TypeId} {pos : String} {af : Array Edge} {gd : Option (Nat × Bool)}
theorem ValO.bytesStr (ht : TabOk P tab) {s d e by_ sz sz' : Nat} {x : Operand} {q : Option Addr} {n c : Nat} {B : List Int} (hS : ∀ w, OwnM w0 mu w bs → Sl w q n c B) (h0 : 0 < n) (hx : evL l x = .slice q n c) (hl : look tab s = some (.sl e 1 by_, sz)) (hle : look tab e = some (.int .u8, 1)) (hd : look tab d = some (.str, sz')) :
    ValO P w0 mu bs l ⟨dst, .convert s d x, ty, pos, af, gd⟩ (.string (strOfNums B)) := by
  refine ⟨fun w hw => ?_⟩
  have hSw := hS w hw
  obtain ⟨hu, _, _⟩ := td_sl (look_ok ht hl)
  have hue := td_int (look_ok ht hle)
  have hud := td_str (look_ok ht hd)
  obtain ⟨b, off, A, T, fz, rfl, hb, hA⟩ := hSw.at_ h0
  have hc := run_convert_bytes_arg (P := P) w s e hu hue b off n c B hSw.len (fun i hi => by
    have h1 := hA i (by rw [hSw.len]; exact hi)
    rw [cell_of_row w b (off + i) A T fz hb, h1]
    rfl) d hud
  have he : (execOp (⟨l.toArray, []⟩ : Act).eval ⟨dst, .convert s d x, ty, pos, af, gd⟩).run P w = .ok (.value (.string (strOfNums B))) w := by
    unfold execOp
    simp only [evL_eq, hx, Sem.run_bind, hc, Result.andThen_ok, Sem.run_pure]
  rw [he]
  exact ⟨rfl, rfl⟩
end
end Sp
end
section
open Go Go.RowKit
namespace Sp
open F
end Sp
end
section
open Go Go.RowKit
namespace Sp
open F
end Sp
end
section
open Go Go.RowKit
namespace Sp
open F
end Sp
end
section
open Go Go.RowKit
namespace Sp
def digN (n : Nat) (v : Int) : List Int := (List.range n).map fun i => v / 256 ^ i % 256
theorem digN_length (n : Nat) (v : Int) : (digN n v).length = n := by simp [digN]
attribute [simp] digN_length
theorem digN_gi {n i : Nat} (v : Int) (h : i < n) : gi (digN n v) i = v / 256 ^ i % 256 := by
  unfold gi digN
  simp [List.getD_eq_getElem?_getD, h]
def QP : Int := 1361129467683753853853498429727072845819
theorem wrap_in {x : Int} (h0 : -9223372036854775808 ≤ x) (h1 : x < 9223372036854775808) : IntKind.i64.wrap x = x := IntWalk.i64_in _ (by omega)
def fold (v : Int) : Int := v % 2 ^ 130 + 5 * (v / 2 ^ 130)
theorem fold_mod (v : Int) : fold v % QP = v % QP := by
  have h1 := Int.emod_add_mul_ediv v (2 ^ 130)
  have e : (2 : Int) ^ 130 = QP + 5 := by decide
  unfold fold
  rw [show v % 2 ^ 130 + 5 * (v / 2 ^ 130) = v + QP * (-(v / 2 ^ 130)) by rw [e] at h1 ⊢; grind, Int.add_mul_emod_self_left]
end Sp
end
section
open Go Go.RowKit
namespace Sp
structure B17 (a : List Int) : Prop where
  l : a.length = 17
  b : ∀ j, 0 ≤ gi a j ∧ gi a j < 256
theorem Dig.b17 {a : List Int} (hl : a.length = 17) (h : Dig 256 (gi a) 17) : B17 a := ⟨hl, fun j => by
  by_cases hj : j < 17
  · exact h j hj
  · rw [gi_over _ _ (by omega)]; omega⟩
def clB (x : Int) (i : Nat) : Int := (if i % 4 = 3 then x % 16 else x) - (if i = 4 ∨ i = 8 ∨ i = 12 then x % 4 else 0)
theorem clB_b {x : Int} (h : 0 ≤ x ∧ x < 256) (i : Nat) : 0 ≤ clB x i ∧ clB x i < 256 := by
  unfold clB
  split <;> split <;> omega
def rV (K : List Int) : Int := sumN 256 (fun i => clB (gi K i) i) 16
def sV (K : List Int) : Int := sumN 256 (fun i => gi K (16 + i)) 16
def blkV (L : List Int) : Int := sumN 256 (gi L) L.length + 256 ^ L.length
def blk (B : List Int) (j : Nat) : List Int := (B.drop (16 * j)).take 16
def Hm (K B : List Int) : Nat → Int
  | 0 => 0
  | j + 1 => ((Hm K B j + blkV (blk B j)) * rV K) % QP
theorem sumN_add (B : Int) (f g : Nat → Int) : ∀ n, sumN B (fun i => f i + g i) n = sumN B f n + sumN B g n
  | 0 => rfl
  | n + 1 => by simp only [sumN]; rw [sumN_add B f g n]; grind
theorem sumN_cut {B : Int} (f : Nat → Int) (m : Nat) : ∀ d, sumN B (fun i => if i < m then f i else 0) (m + d) = sumN B f m
  | 0 => sumN_congr (fun i hi => if_pos hi)
  | d + 1 => by
    show sumN B (fun i => if i < m then f i else 0) (m + d) + (if m + d < m then f (m + d) else 0) * B ^ (m + d) = _
    rw [sumN_cut f m d, if_neg (by omega)]
    simp
def tagV (K B : List Int) : Int := Hm K B ((B.length + 15) / 16) + sV K
theorem hm_range (K B : List Int) : ∀ j, 0 ≤ Hm K B j ∧ Hm K B j < QP
  | 0 => by unfold Hm; decide
  | j + 1 => by unfold Hm; exact ⟨Int.emod_nonneg _ (by decide), Int.emod_lt_of_pos _ (by decide)⟩
end Sp
end
section
open Go Go.RowKit
namespace Sp
open F
set_option maxRecDepth 20000 in
theorem pwrite_nil (b : Nat) (T : TypeId) (r0 r1 s0 s1 : Int) (s : PS) (hbl : s.bl.length = 16) (p : Option Addr) (c : Nat) (w : World) (hb : w.heap[b]? = some (.cells (polyRow true r0 r1 s0 s1 s.h0 s.h1 s.h2 s.bl (s.n : Int)) T (0, 0))) :
    Calls Try.prog 94 #[.pointer (some ⟨b, 0, none⟩), .slice p 0 c] w fun e w' => e = .returned (.tuple #[]) ∧ OwnM w [b] w' [(b, polyRow true r0 r1 s0 s1 s.h0 s.h1 s.h2 s.bl (s.n : Int), T)] := by
  refine mutE Try.func94 Try.ntmps94 Try.results94 hb ?_
  repeat (first | (refine rgn 0 ?_; refine sEv ?_; (first | (refine SL.v (ValO.ptrNil tabOk rfl rfl rfl) ?_) | (refine SL.v (ValO.ptrNilT tabOk rfl rfl rfl) ?_)); refine sEv ?_; (first | (refine SL.gT ?_; refine sEv ?_) | refine SL.gF ?_); (first | (refine SL.gT ?_; refine SL.nc ?_) | refine SL.gF ?_); (first | (refine SL.gT ?_; refine sEv ?_) | refine SL.gF ?_); (first | (refine SL.gT ?_; (first | (refine SL.ldI tabOk ?_) | (refine SL.ldC tabOk ?_ (hv := by first | exact pr_g0 | exact (pr_gn hbl))))) | refine SL.gF ?_); (first | (refine SL.gT ?_; refine sEv ?_) | refine SL.gF ?_); refine sEv ?_; refine nlx ?_) | (refine zsq ?_; intro _ _) | (with_reducible refine zkN ?_) | (refine useK (by assumption) ?_) | (with_reducible first | refine zsB ?_ | refine zkX ?_ | refine zkR ?_ | refine zbN ?_ | refine zbR ?_ | refine zbE ?_ | refine zbX ?_ | refine zsS ?_ | refine zsR ?_ | refine zsX ?_) | (refine cdT ?_) | (refine cdF ?_))
  refine SP.loopN (fun k l bs => l = [.pointer (some ⟨b, 0, none⟩), .slice p 0 c, nth l 2, nth l 3, nth l 4, nth l 5, nth l 6, nth l 7, nth l 8, nth l 9, nth l 10, nth l 11, nth l 12, nth l 13, nth l 14, nth l 15, nth l 16, nth l 17, nth l 18, nth l 19, nth l 20, nth l 21, nth l 22, nth l 23, nth l 24, nth l 25, nth l 26, nth l 27, nth l 28, nth l 29, nth l 30, nth l 31, nth l 32, nth l 33, nth l 34, nth l 35, nth l 36, nth l 37, nth l 38, nth l 39, nth l 40, nth l 41, nth l 42, nth l 43, nth l 44, nth l 45, nth l 46, nth l 47] ∧ bs = [(b, polyRow true r0 r1 s0 s1 s.h0 s.h1 s.h2 s.bl (s.n : Int), T)]) 0 ⟨rfl, rfl⟩ ?_
  rintro k lf _ hk ⟨hl, rfl⟩
  refine SP.cast hl ?_
  clear hl
  repeat (first | (refine rgn 1 ?_; refine sEv ?_; refine SL.v (ValO.len tabOk (by rfl)) ?_; refine sEv ?_; refine nlx ?_) | (refine zsq ?_; intro _ _) | (with_reducible refine zkN ?_) | (refine useK (by assumption) ?_) | (with_reducible first | refine zsB ?_ | refine zkX ?_ | refine zkR ?_ | refine zbN ?_ | refine zbR ?_ | refine zbE ?_ | refine zbX ?_ | refine zsS ?_ | refine zsR ?_ | refine zsX ?_) | (refine cdT ?_) | (refine cdF ?_))
  exact doneK.mk rfl ResO.nil ⟨rfl, (by first | exact sub1 | exact subc sub1 | exact subc (subc sub1) | exact subc (subc (subc sub1)) | exact subc (subc (subc (subc sub1))))⟩
theorem wAll_nil {r0 r1 : Int} {s : PS} (h : s.rest = []) : wAll r0 r1 s = s := by
  unfold wAll
  rw [h, List.length_nil, wI_0]
theorem pwrite_sl (b : Nat) (T : TypeId) (r0 r1 s0 s1 : Int) (s : PS) (hs : s.Ok) (hR : AllW [r0, r1]) (p : Option Addr) (n c : Nat) (w : World) (hS : Sl w p n c s.rest) (hmax : n ≤ 140737488355328) (hne : 0 < n → ∀ sb off, p = some ⟨sb, off, none⟩ → sb ≠ b)
    (hb : w.heap[b]? = some (.cells (polyRow true r0 r1 s0 s1 s.h0 s.h1 s.h2 s.bl (s.n : Int)) T (0, 0))) :
    Calls Try.prog 94 #[.pointer (some ⟨b, 0, none⟩), .slice p n c] w fun e w' => e = .returned (.tuple #[]) ∧ OwnM w [b] w' [(b, polyRow true r0 r1 s0 s1 (wAll r0 r1 s).h0 (wAll r0 r1 s).h1 (wAll r0 r1 s).h2 (wAll r0 r1 s).bl ((wAll r0 r1 s).n : Int), T)] := by
  have hlen := hS.len
  by_cases h0 : n = 0
  · subst h0
    rw [wAll_nil (List.eq_nil_of_length_eq_zero hlen)]
    exact pwrite_nil b T r0 r1 s0 s1 s hs.bl p c w hb
  · obtain ⟨sb, off, A, T2, fz, rfl, hsb, hA⟩ := hS.at_ (by omega)
    have hc := hS.cap
    have hne' := hne (by omega) sb off rfl
    clear hne
    subst hlen
    exact pwrite_any b T r0 r1 s0 s1 s hs hR sb off c A T2 fz hc hA hmax w hb hsb hne'
theorem ps0_ok (B : List Int) : (⟨0, 0, 0, List.replicate 16 0, 0, B⟩ : PS).Ok := ⟨w64_0, w64_0, w64_0, rfl, (by show (0 : Nat) < 16; omega)⟩
end Sp
end
section
open Go Go.RowKit
namespace Sp
theorem or_add (a b k : Nat) (h : a < 2 ^ k) : a ||| b * 2 ^ k = a + b * 2 ^ k := by
  have := Nat.two_pow_add_eq_or_of_lt h b
  rw [Nat.mul_comm b, Nat.or_comm, ← this, Nat.add_comm]
theorem pw256 (i : Nat) : (256 : Int) ^ i = ((2 ^ (8 * i) : Nat) : Int) := by rw [Nat.pow_mul, show (2 : Nat) ^ 8 = 256 from rfl, Int.natCast_pow]; rfl
theorem numN_sum {L : List Int} (hL : Byts L) : ∀ i, i ≤ 8 → numN L i = sumN 256 (gi L) i ∧ 0 ≤ numN L i ∧ numN L i < 256 ^ i
  | 0, _ => by rw [numN_0]; exact ⟨rfl, by omega, by decide⟩
  | i + 1, hi => by
    obtain ⟨h1, h2, h3⟩ := numN_sum hL i (by omega)
    have hb := hL i
    obtain ⟨a, ha⟩ := Int.eq_ofNat_of_zero_le h2
    obtain ⟨b, hb'⟩ := Int.eq_ofNat_of_zero_le hb.1
    have h256 := pw256 i
    have ha2 : a < 2 ^ (8 * i) := by rw [ha, h256] at h3; exact Int.ofNat_lt.1 h3
    have hb2 : b < 256 := by omega
    have hlt : a + b * 2 ^ (8 * i) < 2 ^ (8 * (i + 1)) := by
      have : b * 2 ^ (8 * i) ≤ 255 * 2 ^ (8 * i) := Nat.mul_le_mul_right _ (by omega)
      rw [Nat.mul_succ, Nat.pow_add]
      omega
    have h64 : (2 : Nat) ^ (8 * (i + 1)) ≤ 18446744073709551616 := by
      have : (2 : Nat) ^ (8 * (i + 1)) ≤ 2 ^ 64 := Nat.pow_le_pow_right (by omega) (by omega)
      omega
    have e8 : (IntKind.i64.wrap (8 * (i : Int))).toNat = 8 * i := by rw [wrap_in (by omega) (by omega)]; omega
    have em : min (8 * i) IntKind.u64.bits = 8 * i := Nat.min_eq_left (by show 8 * i ≤ 64; omega)
    have ew : IntKind.u64.wrap (gi L i) = (b : Int) := by rw [IntKind.wrap_u64, hb']; omega
    have ex : IntKind.u64.wrap (IntKind.u64.wrap (gi L i) * 2 ^ (min (IntKind.i64.wrap (8 * (i : Int))).toNat IntKind.u64.bits)) = ((b * 2 ^ (8 * i) : Nat) : Int) := by
      rw [e8, em, ew, IntKind.wrap_u64, show (b : Int) * 2 ^ (8 * i) = ((b * 2 ^ (8 * i) : Nat) : Int) by rw [Int.natCast_mul, Int.natCast_pow]; rfl]
      omega
    rw [numN_s, ex, ha, u64_or_nat _ _ (by omega) (by omega), or_add _ _ _ ha2]
    refine ⟨?_, by omega, ?_⟩
    · simp only [sumN]
      rw [← h1, ha, hb', h256]
      rw [Int.natCast_add, Int.natCast_mul]
    · rw [pw256]
      exact Int.ofNat_lt.2 hlt
theorem and_split (k a b c d : Nat) (ha : a < 2 ^ k) (hc : c < 2 ^ k) : (a + b * 2 ^ k) &&& (c + d * 2 ^ k) = (a &&& c) + (b &&& d) * 2 ^ k := by
  have hac : a &&& c < 2 ^ k := Nat.and_lt_two_pow _ hc
  apply Nat.eq_of_testBit_eq
  intro j
  rw [Nat.testBit_and, show a + b * 2 ^ k = 2 ^ k * b + a by rw [Nat.mul_comm]; omega, show c + d * 2 ^ k = 2 ^ k * d + c by rw [Nat.mul_comm]; omega, show (a &&& c) + (b &&& d) * 2 ^ k = 2 ^ k * (b &&& d) + (a &&& c) by rw [Nat.mul_comm]; omega,
    Nat.testBit_two_pow_mul_add _ ha, Nat.testBit_two_pow_mul_add _ hc, Nat.testBit_two_pow_mul_add _ hac]
  split
  · rw [Nat.testBit_and]
  · rw [Nat.testBit_and]
def sumM (f : Nat → Nat) : Nat → Nat
  | 0 => 0
  | k + 1 => sumM f k + f k * 2 ^ (8 * k)
theorem sumM_lt {f : Nat → Nat} (h : ∀ i, f i < 256) : ∀ n, sumM f n < 2 ^ (8 * n)
  | 0 => by simp [sumM]
  | n + 1 => by
    have ih := sumM_lt h n
    have : f n * 2 ^ (8 * n) ≤ 255 * 2 ^ (8 * n) := Nat.mul_le_mul_right _ (by have := h n; omega)
    simp only [sumM]
    rw [Nat.mul_succ, Nat.pow_add]
    omega
theorem sumM_and {f g : Nat → Nat} (hf : ∀ i, f i < 256) (hg : ∀ i, g i < 256) : ∀ n, sumM f n &&& sumM g n = sumM (fun i => f i &&& g i) n
  | 0 => by simp [sumM]
  | n + 1 => by
    simp only [sumM]
    rw [and_split _ _ _ _ _ (sumM_lt hf n) (sumM_lt hg n), sumM_and hf hg n]
theorem sumM_int (f : Nat → Nat) : ∀ n, ((sumM f n : Nat) : Int) = sumN 256 (fun i => (f i : Int)) n
  | 0 => rfl
  | n + 1 => by
    simp only [sumM, sumN]
    rw [← sumM_int f n, pw256, Int.natCast_add, Int.natCast_mul]
def mk0 (i : Nat) : Nat := [255, 255, 255, 15, 252, 255, 255, 15].getD i 0
def mk1 (i : Nat) : Nat := [252, 255, 255, 15, 252, 255, 255, 15].getD i 0
theorem mk0_lt (i : Nat) : mk0 i < 256 := by
  by_cases h : i < 8
  · have : ∀ i, i < 8 → mk0 i < 256 := by decide
    exact this i h
  · unfold mk0; rw [List.getD_eq_getElem?_getD, List.getElem?_eq_none (by simp; omega)]; decide
theorem mk1_lt (i : Nat) : mk1 i < 256 := by
  by_cases h : i < 8
  · have : ∀ i, i < 8 → mk1 i < 256 := by decide
    exact this i h
  · unfold mk1; rw [List.getD_eq_getElem?_getD, List.getElem?_eq_none (by simp; omega)]; decide
theorem mk_clB : ∀ i, i < 8 → ∀ x : Nat, x < 256 → ((x &&& mk0 i : Nat) : Int) = clB x i ∧ ((x &&& mk1 i : Nat) : Int) = clB x (8 + i) := by decide +kernel
theorem key_word {K : List Int} (hK : Byts K) (o : Nat) (m : Nat → Nat) (hm : ∀ i, m i < 256) (c : Nat → Int) (hc : ∀ i, i < 8 → ∀ x : Nat, x < 256 → ((x &&& m i : Nat) : Int) = clB x (o + i)) (M : Nat) (hM : sumM m 8 = M) (hM64 : M < 18446744073709551616) :
    bits .and .u64 (numN (K.drop o) 8) (M : Int) = sumN 256 (fun i => clB (gi K (o + i)) (o + i)) 8 := by
  have hd : ∀ j, gi (K.drop o) j = gi K (o + j) := fun j => by simp [gi, List.getD_eq_getElem?_getD, List.getElem?_drop]
  have hb : Byts (K.drop o) := fun j => by rw [hd]; exact hK _
  obtain ⟨h1, h2, h3⟩ := numN_sum hb 8 (Nat.le_refl _)
  let f : Nat → Nat := fun i => (gi K (o + i)).toNat
  have hf : ∀ i, f i < 256 := fun i => by have := hK (o + i); show (gi K (o + i)).toNat < 256; omega
  have hfi : ∀ i, (f i : Int) = gi K (o + i) := fun i => by have := hK (o + i); show ((gi K (o + i)).toNat : Int) = _; omega
  have e : numN (K.drop o) 8 = ((sumM f 8 : Nat) : Int) := by
    rw [h1, sumM_int]
    exact sumN_congr (fun i _ => by rw [hfi, hd])
  have hlt := sumM_lt hf 8
  rw [e, u64_and_nat _ _ hlt hM64, ← hM, sumM_and hf hm, sumM_int]
  refine sumN_congr fun i hi => ?_
  rw [hc i hi (f i) (hf i), hfi]
def w2 (a b : Int) : Int := a + M64 * b
theorem keyR_val {K : List Int} (hK : Byts K) : w2 (keyR0 K) (keyR1 K) = rV K ∧ 0 ≤ keyR0 K ∧ 0 ≤ keyR1 K := by
  have a0 := key_word hK 0 mk0 mk0_lt (fun _ => 0) (fun i hi x hx => by rw [Nat.zero_add]; exact (mk_clB i hi x hx).1) 1152921487695413247 (by decide) (by decide)
  have a1 := key_word hK 8 mk1 mk1_lt (fun _ => 0) (fun i hi x hx => (mk_clB i hi x hx).2) 1152921487695413244 (by decide) (by decide)
  have p0 : 0 ≤ keyR0 K := by unfold keyR0; exact (W64.bits _ _ _).1
  have p1 : 0 ≤ keyR1 K := by unfold keyR1; exact (W64.bits _ _ _).1
  refine ⟨?_, p0, p1⟩
  have e0 : keyR0 K = sumN 256 (fun i => clB (gi K (0 + i)) (0 + i)) 8 := by unfold keyR0; exact a0
  have e1 : keyR1 K = sumN 256 (fun i => clB (gi K (8 + i)) (8 + i)) 8 := by unfold keyR1; exact a1
  unfold w2 rV M64
  rw [e0, e1]
  simp only [sumN, Nat.zero_add, Nat.reduceAdd]
  grind
theorem keyS_val {K : List Int} (hK : Byts K) : w2 (keyS0 K) (keyS1 K) = sV K := by
  have hd : ∀ o j, gi (K.drop o) j = gi K (o + j) := fun o j => by simp [gi, List.getD_eq_getElem?_getD, List.getElem?_drop]
  have hb : ∀ o, Byts (K.drop o) := fun o j => by rw [hd]; exact hK _
  have e0 := (numN_sum (hb 16) 8 (Nat.le_refl _)).1
  have e1 := (numN_sum (hb 24) 8 (Nat.le_refl _)).1
  unfold w2 sV keyS0 keyS1 M64
  rw [e0, e1]
  simp only [sumN, hd, Nat.reduceAdd]
  grind
theorem lohi (x y c : Int) : addLo x y c + M64 * addHi x y c = x + y + c := by unfold addLo addHi M64; omega
theorem mlohi (x y : Int) : mulLo x y + M64 * mulHi x y = x * y := by unfold mulLo mulHi; exact Int.emod_add_mul_ediv _ _
theorem cst_val {hi up : Int} {pr : List Int} {a : Nat} (hl : pr.length = 4) : ∀ j, a + j ≤ 4 →
    sumN M64 (gi (cst hi up pr a j).2.2) 4 + ((cst hi up pr a j).1 + (cst hi up pr a j).2.1) * M64 ^ (a + j) = sumN M64 (gi pr) 4 + (hi + up) * M64 ^ a
  | 0, _ => by rw [cst_0]; rfl
  | j + 1, hj => by
    have ih := cst_val (hi := hi) (up := up) (a := a) hl j (by omega)
    rw [← ih, cst_s]
    show sumN M64 (gi ((cst hi up pr a j).2.2.set (a + j) _)) 4 + (0 + _) * M64 ^ (a + j + 1) = _
    rw [sumN_set (by omega) (by rw [cst_length, hl]; omega), Int.pow_succ]
    have := lohi (gi (cst hi up pr a j).2.2 (a + j)) (cst hi up pr a j).1 (cst hi up pr a j).2.1
    generalize addLo (gi (cst hi up pr a j).2.2 (a + j)) (cst hi up pr a j).1 (cst hi up pr a j).2.1 = L at *
    generalize addHi (gi (cst hi up pr a j).2.2 (a + j)) (cst hi up pr a j).1 (cst hi up pr a j).2.1 = H at *
    grind
theorem mac_val {pr : List Int} {pos : Nat} {h r : Int} (hp : AllW pr) (hl : pr.length = 4) (hpos : pos < 4) (hh : W64 h) (hr : W64 r) : ∃ c, 0 ≤ c ∧ sumN M64 (gi (mac pr pos h r)) 4 + c * M64 ^ 4 = sumN M64 (gi pr) 4 + h * r * M64 ^ pos := by
  have hv := cst_val (hi := mulHi h r) (up := addHi (gi pr pos) (mulLo h r) 0) (pr := pr.set pos (addLo (gi pr pos) (mulLo h r) 0)) (a := pos + 1) (by simp [hl]) (3 - pos) (by omega)
  have hok := cst_ok (hi := mulHi h r) (up := addHi (gi pr pos) (mulLo h r) 0) (pr := pr.set pos (addLo (gi pr pos) (mulLo h r) 0)) (at1 := pos + 1) (hh.hi hr) (Bit.addHi (hp _) (W64.lo _ _) Bit.zero) (hp.set _ (W64.addLo _ _ _)) (3 - pos)
  rw [show pos + 1 + (3 - pos) = 4 by omega] at hv
  refine ⟨_, Int.add_nonneg hok.1.1 hok.2.1.1, ?_⟩
  unfold mac
  rw [hv, sumN_set hpos (by omega), Int.pow_succ]
  have e1 := lohi (gi pr pos) (mulLo h r) 0
  have e2 := mlohi h r
  generalize addLo (gi pr pos) (mulLo h r) 0 = L at *
  generalize addHi (gi pr pos) (mulLo h r) 0 = H at *
  grind
theorem prI_val {pr H R : List Int} {a : Nat} (hp : AllW pr) (hl : pr.length = 4) (hH : AllW H) (hR : AllW R) (ha : a < 3) : ∀ k, k ≤ 2 → ∃ c, 0 ≤ c ∧ sumN M64 (gi (prI pr H R a k)) 4 + c * M64 ^ 4 = sumN M64 (gi pr) 4 + gi H a * M64 ^ a * sumN M64 (gi R) k
  | 0, _ => ⟨0, by omega, by rw [prI_0]; simp [sumN]⟩
  | k + 1, hk => by
    obtain ⟨c, hc, e⟩ := prI_val hp hl hH hR ha k (by omega)
    obtain ⟨d, hd, e2⟩ := mac_val (prI_ok hp hH hR k (a := a)) (by rw [prI_length, hl]) (show a + k < 4 by omega) (hH a) (hR k)
    refine ⟨c + d, Int.add_nonneg hc hd, ?_⟩
    rw [prI_s, show sumN M64 (gi R) (k + 1) = sumN M64 (gi R) k + gi R k * M64 ^ k from rfl]
    rw [Int.add_mul, show sumN M64 (gi (mac (prI pr H R a k) (a + k) (gi H a) (gi R k))) 4 + (c * M64 ^ 4 + d * M64 ^ 4) = sumN M64 (gi (mac (prI pr H R a k) (a + k) (gi H a) (gi R k))) 4 + d * M64 ^ 4 + c * M64 ^ 4 by omega, e2, Int.pow_add]
    grind
theorem prO_val {H R : List Int} (hH : AllW H) (hR : AllW R) : ∀ i, i ≤ 3 → ∃ c, 0 ≤ c ∧ sumN M64 (gi (prO H R i)) 4 + c * M64 ^ 4 = sumN M64 (gi H) i * sumN M64 (gi R) 2
  | 0, _ => ⟨0, by omega, by rw [prO_0, sumN_zero _ _ _ (fun i _ => gi_rep 4 i)]; simp [sumN]⟩
  | i + 1, hi => by
    obtain ⟨c, hc, e⟩ := prO_val hH hR i (by omega)
    obtain ⟨d, hd, e2⟩ := prI_val (prO_ok hH hR i) (prO_length _ _ _) hH hR (show i < 3 by omega) 2 (Nat.le_refl _)
    refine ⟨c + d, Int.add_nonneg hc hd, ?_⟩
    rw [prO_s]
    show _ = (sumN M64 (gi H) i + gi H i * M64 ^ i) * sumN M64 (gi R) 2
    generalize sumN M64 (gi R) 2 = r2 at *
    grind
def v3 (h : Int × Int × Int) : Int := h.1 + M64 * h.2.1 + M64 * M64 * h.2.2
theorem add3 {a b c x y u : Int} (ha : W64 a) (hb : W64 b) (hx : W64 x) (hy : W64 y) (hc : 0 ≤ c ∧ c < 1000) (hu : 0 ≤ u ∧ u < 1000) :
    v3 (addLo a x 0, addLo b y (addHi a x 0), IntKind.u64.wrap (c + IntKind.u64.wrap (u + addHi b y (addHi a x 0)))) = v3 (a, b, c) + (x + M64 * y + M64 * M64 * u) ∧
    0 ≤ IntKind.u64.wrap (c + IntKind.u64.wrap (u + addHi b y (addHi a x 0))) ∧ IntKind.u64.wrap (c + IntKind.u64.wrap (u + addHi b y (addHi a x 0))) ≤ c + u + 1 := by
  have e1 := lohi a x 0
  have b1 : Bit (addHi a x 0) := Bit.addHi ha hx Bit.zero
  have e2 := lohi b y (addHi a x 0)
  have b2 : Bit (addHi b y (addHi a x 0)) := Bit.addHi hb hy b1
  unfold Bit at b1 b2
  rw [IntKind.wrap_u64, IntKind.wrap_u64]
  have ew : (c + (u + addHi b y (addHi a x 0)) % 18446744073709551616) % 18446744073709551616 = c + (u + addHi b y (addHi a x 0)) := by omega
  rw [ew]
  refine ⟨?_, by omega, by omega⟩
  unfold v3
  simp only
  generalize addLo a x 0 = A at *
  generalize addLo b y (addHi a x 0) = Bq at *
  generalize addHi b y (addHi a x 0) = Hq at *
  generalize addHi a x 0 = Gq at *
  grind
theorem p3_and {x : Int} (h : W64 x) : bits .and .u64 x 3 = x % 4 := by
  obtain ⟨n, rfl⟩ := Int.eq_ofNat_of_zero_le h.1
  unfold W64 M64 at h
  rw [show (3 : Int) = ((3 : Nat) : Int) from rfl, u64_and_nat n 3 (by omega) (by omega), show (3 : Nat) = 2 ^ 2 - 1 from rfl, Nat.and_two_pow_sub_one_eq_mod]
  omega
theorem p3_andNot {x : Int} (h : W64 x) : bits .andNot .u64 x 3 = x - x % 4 := by
  obtain ⟨n, rfl⟩ := Int.eq_ofNat_of_zero_le h.1
  unfold W64 M64 at h
  rw [show (3 : Int) = ((3 : Nat) : Int) from rfl, u64_andNot_nat n 3 (by omega) (by omega)]
  have e : (18446744073709551615 - 3 : Nat) = 0 + 4611686018427387903 * 2 ^ 2 := by decide
  have e2 : n = n % 4 + n / 4 * 2 ^ 2 := by omega
  have : n &&& (18446744073709551615 - 3) = n / 4 * 2 ^ 2 := by
    rw [e]
    rw [show n &&& (0 + 4611686018427387903 * 2 ^ 2) = (n % 4 + n / 4 * 2 ^ 2) &&& (0 + 4611686018427387903 * 2 ^ 2) by rw [← e2], and_split 2 _ _ _ _ (by omega) (by decide), Nat.and_zero, show (4611686018427387903 : Nat) = 2 ^ 62 - 1 from rfl, Nat.and_two_pow_sub_one_eq_mod, Nat.mod_eq_of_lt (by omega)]
    omega
  rw [this]
  omega
theorem shr2_eq (x : Int) : x.fdiv (2 ^ min (Int.toNat 2) IntKind.u64.bits) = x / 4 := by
  rw [show min (Int.toNat 2) IntKind.u64.bits = 2 from rfl, Int.fdiv_eq_ediv_of_nonneg _ (by decide)]
  rfl
theorem o0_eq {x y : Int} (hx : W64 x) (hy : W64 y) : bits .or .u64 (x.fdiv (2 ^ min (Int.toNat 2) IntKind.u64.bits)) (IntKind.u64.wrap (y * 2 ^ min (Int.toNat 62) IntKind.u64.bits)) = x / 4 + y % 4 * 4611686018427387904 := by
  obtain ⟨n, rfl⟩ := Int.eq_ofNat_of_zero_le hx.1
  obtain ⟨m, rfl⟩ := Int.eq_ofNat_of_zero_le hy.1
  unfold W64 M64 at hx hy
  rw [shr2_eq, show min (Int.toNat 62) IntKind.u64.bits = 62 from rfl, IntKind.wrap_u64]
  have e1 : (n : Int) / 4 = ((n / 4 : Nat) : Int) := by omega
  have e2 : (m : Int) * 2 ^ 62 % 18446744073709551616 = ((m % 4 * 2 ^ 62 : Nat) : Int) := by
    rw [show (2 : Int) ^ 62 = 4611686018427387904 by decide, show (2 : Nat) ^ 62 = 4611686018427387904 by decide]
    omega
  rw [e1, e2, u64_or_nat _ _ (by omega) (by rw [show (2 : Nat) ^ 62 = 4611686018427387904 by decide]; omega), or_add _ _ _ (by rw [show (2 : Nat) ^ 62 = 4611686018427387904 by decide]; omega), show (2 : Nat) ^ 62 = 4611686018427387904 by decide]
  omega
theorem e130' : (2 : Int) ^ 130 = 1361129467683753853853498429727072845824 := by decide
theorem redP_val {p : List Int} (hp : AllW p) (hv : sumN M64 (gi p) 4 < 4 * 2 ^ 254) :
    v3 (redP p) = fold (sumN M64 (gi p) 4) ∧ 0 ≤ (redP p).2.2 ∧ (redP p).2.2 < 8 := by
  have w0 := hp 0
  have w1 := hp 1
  have w2 := hp 2
  have w3 := hp 3
  have hq2 := p3_and w2
  have hf0 := p3_andNot w2
  have ho0 := o0_eq w2 w3
  have hs3 := shr2_eq (gi p 3)
  have f0w : W64 (bits .andNot .u64 (gi p 2) 3) := W64.bits _ _ _
  have o0w : W64 (bits .or .u64 ((gi p 2).fdiv (2 ^ min (Int.toNat 2) IntKind.u64.bits)) (IntKind.u64.wrap (gi p 3 * 2 ^ min (Int.toNat 62) IntKind.u64.bits))) := W64.bits _ _ _
  have o1w : W64 ((gi p 3).fdiv (2 ^ min (Int.toNat 2) IntKind.u64.bits)) := W64.shr2 w3
  unfold redP
  dsimp only
  have k1 := add3 (a := gi p 0) (b := gi p 1) (c := bits .and .u64 (gi p 2) 3) (x := bits .andNot .u64 (gi p 2) 3) (y := gi p 3) (u := 0) w0 w1 f0w w3 (by rw [hq2]; omega) (by omega)
  have k2 := add3 (a := addLo (gi p 0) (bits .andNot .u64 (gi p 2) 3) 0) (b := addLo (gi p 1) (gi p 3) (addHi (gi p 0) (bits .andNot .u64 (gi p 2) 3) 0))
    (c := IntKind.u64.wrap (bits .and .u64 (gi p 2) 3 + IntKind.u64.wrap (0 + addHi (gi p 1) (gi p 3) (addHi (gi p 0) (bits .andNot .u64 (gi p 2) 3) 0))))
    (x := bits .or .u64 ((gi p 2).fdiv (2 ^ min (Int.toNat 2) IntKind.u64.bits)) (IntKind.u64.wrap (gi p 3 * 2 ^ min (Int.toNat 62) IntKind.u64.bits))) (y := (gi p 3).fdiv (2 ^ min (Int.toNat 2) IntKind.u64.bits)) (u := 0)
    (W64.addLo _ _ _) (W64.addLo _ _ _) o0w o1w (by have := k1.2; rw [hq2] at this ⊢; omega) (by omega)
  refine ⟨?_, k2.2.1, ?_⟩
  · rw [k2.1, k1.1, hq2, hf0, ho0, hs3]
    unfold v3 fold
    rw [e130']
    simp only [sumN]
    have hM : M64 = 18446744073709551616 := rfl
    unfold W64 at w0 w1 w2 w3
    rw [hM] at w0 w1 w2 w3 ⊢
    simp only [Int.reducePow, Int.mul_one, Int.zero_add]
    omega
  · have h1 := k1.2.2
    have h2 := k2.2.2
    rw [hq2] at h1 h2 ⊢
    omega
end Sp
end
section
open Go Go.RowKit
namespace Sp
theorem rV_lt {K : List Int} (hK : Byts K) : 0 ≤ rV K ∧ rV K < 2 ^ 124 := by
  have hd : Dig 256 (fun i => clB (gi K i) i) 15 := fun i _ => clB_b (hK i) i
  have hb := sumN_bound (by decide) hd
  have h15 := hK 15
  unfold rV
  simp only [sumN.eq_2 256 (fun i => clB (gi K i) i) 15]
  have e : clB (gi K 15) 15 = gi K 15 % 16 := by unfold clB; simp
  rw [e]
  have e15 : (256 : Int) ^ 15 = 1329227995784915872903807060280344576 := by decide
  have e124 : (2 : Int) ^ 124 = 21267647932558653966460912964485513216 := by decide
  rw [e15] at hb ⊢
  rw [e124]
  omega
theorem hm_pre (K B D : List Int) : ∀ j, 16 * j ≤ B.length → Hm K (B ++ D) j = Hm K B j
  | 0, _ => rfl
  | j + 1, h => by
    have e : blk (B ++ D) j = blk B j := by
      unfold blk
      rw [List.drop_append_of_le_length (by omega), List.take_append_of_le_length (by simp; omega)]
    unfold Hm
    rw [hm_pre K B D j (by omega), e]
theorem gi_app (L M : List Int) (j : Nat) : gi (L ++ M) j = if j < L.length then gi L j else gi M (j - L.length) := by
  unfold gi
  rw [List.getD_eq_getElem?_getD, List.getElem?_append]
  split <;> rw [List.getD_eq_getElem?_getD]
theorem tkB_eq {bl : List Int} {m : Nat} (hb : bl.length = 16) (hm : m ≤ 16) : tkB bl m = bl.take m ++ (1 :: List.replicate (16 - m) 0) := by
  unfold tkB spl
  refine ext_gi (by simp; omega) fun i hi => ?_
  simp at hi
  have ht : (bl.take m).length = m := by simp; omega
  by_cases him : i = m
  · subst him
    rw [gi_same _ _ _ (by simp; omega), gi_app, if_neg (by omega), ht, Nat.sub_self]
    rfl
  · rw [gi_upd _ _ _ _ him]
    simp only [List.take_zero, List.nil_append, Nat.zero_add]
    rw [gi_app, gi_app, ht]
    by_cases h2 : i < m
    · rw [if_pos h2, if_pos h2]
    · rw [if_neg h2, if_neg h2]
      obtain ⟨d, hd⟩ : ∃ d, i - m = d + 1 := ⟨i - m - 1, by omega⟩
      rw [hd]
      show gi ((List.replicate 17 0).drop m) (d + 1) = gi (List.replicate (16 - m) 0) d
      rw [gi_rep, List.drop_replicate, gi_rep]
theorem byts_app {L M : List Int} (hL : Byts L) (hM : Byts M) : Byts (L ++ M) := fun j => by rw [gi_app]; split; exact hL j; exact hM _
theorem byts_take {L : List Int} (hL : Byts L) (n : Nat) : Byts (L.take n) := fun j => by
  unfold gi
  rw [List.getD_eq_getElem?_getD, List.getElem?_take]
  split
  · have := hL j; unfold gi at this; rwa [List.getD_eq_getElem?_getD] at this
  · simp
theorem byts_drop {L : List Int} (hL : Byts L) (n : Nat) : Byts (L.drop n) := fun j => by
  unfold gi
  rw [List.getD_eq_getElem?_getD, List.getElem?_drop]
  have := hL (n + j); unfold gi at this; rwa [List.getD_eq_getElem?_getD] at this
theorem byts_rep (n : Nat) : Byts (List.replicate n 0) := fun j => by rw [gi_rep]; omega
theorem byts_cons {x : Int} {L : List Int} (hx : 0 ≤ x ∧ x < 256) (hL : Byts L) : Byts (x :: L) := fun j => by
  cases j with
  | zero => exact hx
  | succ j => exact hL j
theorem tkB_val {bl : List Int} {m : Nat} (hb : bl.length = 16) (hm : m ≤ 16) : sumN 256 (gi (tkB bl m)) 17 = blkV (bl.take m) := by
  have ht : (bl.take m).length = m := by simp; omega
  have hl := tkB_length hb hm
  rw [tkB_eq hb hm]
  unfold blkV
  rw [ht]
  have e := sumN_cut (B := 256) (gi (bl.take m ++ (1 :: List.replicate (16 - m) 0))) (m + 1) (16 - m)
  rw [show m + 1 + (16 - m) = 17 by omega] at e
  rw [← sumN_congr (f := fun i => if i < m + 1 then gi (bl.take m ++ (1 :: List.replicate (16 - m) 0)) i else 0) (fun i hi => by
    split
    · rfl
    · rw [gi_app, if_neg (by omega), ht]
      obtain ⟨d, hd⟩ : ∃ d, i - m = d + 1 := ⟨i - m - 1, by omega⟩
      rw [hd]
      show 0 = gi (List.replicate (16 - m) 0) d
      rw [gi_rep]), e]
  show sumN 256 (gi (bl.take m ++ (1 :: List.replicate (16 - m) 0))) m + gi (bl.take m ++ (1 :: List.replicate (16 - m) 0)) m * 256 ^ m = _
  rw [sumN_congr (g := gi (bl.take m)) (fun i hi => by rw [gi_app, if_pos (by omega)]), gi_app, if_neg (by omega), ht, Nat.sub_self]
  show _ + 1 * 256 ^ m = _
  omega
theorem blkV_lt {L : List Int} (hL : Byts L) (hl : L.length ≤ 16) : 0 ≤ blkV L ∧ blkV L < 2 ^ 129 := by
  have hb := sumN_bound (by decide) (fun i _ => hL i : Dig 256 (gi L) L.length)
  have hp : (256 : Int) ^ L.length ≤ 256 ^ 16 := by rw [pw256, pw256]; exact Int.ofNat_le.2 (Nat.pow_le_pow_right (by decide) (by omega))
  have hp0 : (0 : Int) < 256 ^ L.length := Int.pow_pos (by decide)
  have e16 : (256 : Int) ^ 16 = 340282366920938463463374607431768211456 := by decide
  have e129 : (2 : Int) ^ 129 = 680564733841876926926749214863536422912 := by decide
  unfold blkV
  rw [e16] at hp
  rw [e129]
  omega
theorem takeH_val {K bl : List Int} {h0 h1 h2 : Int} {m : Nat} (hK : Byts K) (w0 : W64 h0) (w1 : W64 h1) (w2' : 0 ≤ h2 ∧ h2 < 8) (hb : bl.length = 16) (hB : Byts bl) (hm : m ≤ 16) :
    v3 (takeH (keyR0 K) (keyR1 K) h0 h1 h2 (tkB bl m)) = fold ((v3 (h0, h1, h2) + blkV (bl.take m)) * rV K) ∧ 0 ≤ (takeH (keyR0 K) (keyR1 K) h0 h1 h2 (tkB bl m)).2.2 ∧ (takeH (keyR0 K) (keyR1 K) h0 h1 h2 (tkB bl m)).2.2 < 8 := by
  have hd : ∀ o j, gi ((tkB bl m).drop o) j = gi (tkB bl m) (o + j) := fun o j => by simp [gi, List.getD_eq_getElem?_getD, List.getElem?_drop]
  have hT : Byts (tkB bl m) := by
    rw [tkB_eq hb hm]
    exact byts_app (byts_take hB m) (byts_cons (by omega) (byts_rep _))
  have hTo : ∀ o, Byts ((tkB bl m).drop o) := fun o => byts_drop hT o
  have n0 := numN_sum (hTo 0) 8 (Nat.le_refl _)
  have n1 := numN_sum (hTo 8) 8 (Nat.le_refl _)
  have t16 := hT 16
  have e8 : (256 : Int) ^ 8 = 18446744073709551616 := by decide
  rw [e8] at n0 n1
  have x0 : W64 (numN ((tkB bl m).drop 0) 8) := by unfold W64 M64; exact n0.2
  have x1 : W64 (numN ((tkB bl m).drop 8) 8) := by unfold W64 M64; exact n1.2
  have ew : IntKind.u64.wrap (gi (tkB bl m) 16) = gi (tkB bl m) 16 := by rw [IntKind.wrap_u64]; omega
  have hblk : numN ((tkB bl m).drop 0) 8 + M64 * numN ((tkB bl m).drop 8) 8 + M64 * M64 * gi (tkB bl m) 16 = blkV (bl.take m) := by
    rw [← tkB_val hb hm, n0.1, n1.1]
    unfold M64
    simp only [sumN, hd, Nat.zero_add, Nat.reduceAdd]
    grind
  have ka := add3 (a := h0) (b := h1) (c := h2) (x := numN ((tkB bl m).drop 0) 8) (y := numN ((tkB bl m).drop 8) 8) (u := gi (tkB bl m) 16) w0 w1 x0 x1 (by omega) (by omega)
  rw [hblk] at ka
  have hbl := blkV_lt (byts_take hB m) (show (bl.take m).length ≤ 16 by simp; omega)
  have hAdd : addB h0 h1 h2 (tkB bl m) = (addLo h0 (numN ((tkB bl m).drop 0) 8) 0, addLo h1 (numN ((tkB bl m).drop 8) 8) (addHi h0 (numN ((tkB bl m).drop 0) 8) 0), IntKind.u64.wrap (h2 + IntKind.u64.wrap (gi (tkB bl m) 16 + addHi h1 (numN ((tkB bl m).drop 8) 8) (addHi h0 (numN ((tkB bl m).drop 0) 8) 0)))) := by
    unfold addB
    rw [ew]
  rw [← hAdd] at ka
  generalize hA : addB h0 h1 h2 (tkB bl m) = A at *
  have hA0 : W64 A.1 := by rw [hAdd]; exact W64.addLo _ _ _
  have hA1 : W64 A.2.1 := by rw [hAdd]; exact W64.addLo _ _ _
  have hA2 : W64 A.2.2 := by rw [hAdd]; exact W64.wrap _
  have hH := AllW.mk3 hA0 hA1 hA2
  obtain ⟨c, hc, e⟩ := prO_val hH (keyR_w K) 3 (Nat.le_refl _)
  have er : sumN M64 (gi [keyR0 K, keyR1 K]) 2 = rV K := by
    rw [← (keyR_val hK).1]
    show 0 + keyR0 K * M64 ^ 0 + keyR1 K * M64 ^ 1 = keyR0 K + M64 * keyR1 K
    grind
  have eh : sumN M64 (gi [A.1, A.2.1, A.2.2]) 3 = v3 A := by
    show 0 + A.1 * M64 ^ 0 + A.2.1 * M64 ^ 1 + A.2.2 * M64 ^ 2 = A.1 + M64 * A.2.1 + M64 * M64 * A.2.2
    grind
  rw [er, eh, ka.1] at e
  have hr := rV_lt hK
  have hv : 0 ≤ v3 (h0, h1, h2) + blkV (bl.take m) ∧ v3 (h0, h1, h2) + blkV (bl.take m) < 2 ^ 132 := by
    unfold v3
    unfold W64 at w0 w1
    have e129 : (2 : Int) ^ 129 = 680564733841876926926749214863536422912 := by decide
    have e132 : (2 : Int) ^ 132 = 5444517870735015415413993718908291383296 := by decide
    rw [e129] at hbl
    rw [e132]
    unfold M64 at *
    simp only
    omega
  have hx : (v3 (h0, h1, h2) + blkV (bl.take m)) * rV K < 4 * 2 ^ 254 ∧ 0 ≤ (v3 (h0, h1, h2) + blkV (bl.take m)) * rV K := by
    constructor
    · have h3 : (v3 (h0, h1, h2) + blkV (bl.take m)) * rV K ≤ 2 ^ 132 * rV K := Int.mul_le_mul_of_nonneg_right (by omega) hr.1
      have h4 : (2 : Int) ^ 132 * rV K < 2 ^ 132 * 2 ^ 124 := Int.mul_lt_mul_of_pos_left hr.2 (by decide)
      have e5 : (2 : Int) ^ 132 * 2 ^ 124 = 4 * 2 ^ 254 := by decide
      omega
    · exact Int.mul_nonneg hv.1 hr.1
  have hpos := sumN_bound (by decide) (fun i _ => prO_ok hH (keyR_w K) 3 i : Dig M64 (gi (prO [A.1, A.2.1, A.2.2] [keyR0 K, keyR1 K] 3)) 4)
  have hc0 : c = 0 := by
    have e4 : M64 ^ 4 = 4 * 2 ^ 254 := by decide
    rw [e4] at e
    rcases Int.lt_or_eq_of_le hc with h | h
    · have : 1 * (4 * 2 ^ 254 : Int) ≤ c * (4 * 2 ^ 254) := Int.mul_le_mul_of_nonneg_right (by omega) (by decide)
      omega
    · exact h.symm
  rw [hc0, Int.zero_mul, Int.add_zero] at e
  have hr2 := redP_val (p := prO [A.1, A.2.1, A.2.2] [keyR0 K, keyR1 K] 3) (prO_ok hH (keyR_w K) 3) (by rw [e]; exact hx.1)
  rw [e] at hr2
  unfold takeH
  rw [hA]
  exact hr2
structure Holds (K C : List Int) (s : PS) : Prop where
  ok : s.Ok
  h2 : 0 ≤ s.h2 ∧ s.h2 < 8
  v : v3 (s.h0, s.h1, s.h2) % QP = Hm K C (C.length / 16) % QP
  n : s.n = C.length % 16
  bl : s.bl.take s.n = C.drop (16 * (C.length / 16))
  byt : Byts s.bl
theorem holds_nil (K : List Int) (B : List Int) : Holds K [] ⟨0, 0, 0, List.replicate 16 0, 0, B⟩ :=
  ⟨ps0_ok B, by show (0 : Int) ≤ 0 ∧ (0 : Int) < 8; omega, rfl, rfl, rfl, byts_rep 16⟩
theorem take_app_take {L M : List Int} {n m : Nat} (hn : n ≤ L.length) : (L.take n ++ (M.take m ++ L.drop (n + (M.take m).length))).take (n + (M.take m).length) = L.take n ++ M.take m := by
  rw [← List.append_assoc, List.take_append_of_le_length (by simp; omega), List.take_of_length_le (by simp; omega)]
theorem holds_step {K C : List Int} {s : PS} (hK : Byts K) (hC : Byts C) (hr : Byts s.rest) (h : Holds K C s) :
    Holds K (C ++ s.rest.take (min s.rest.length (16 - s.n))) (wS (keyR0 K) (keyR1 K) s) := by
  have hn := h.ok.n
  have hbl := h.ok.bl
  obtain ⟨m, hm⟩ : ∃ m, m = min s.rest.length (16 - s.n) := ⟨_, rfl⟩
  rw [← hm]
  have htl : (s.rest.take m).length = m := by simp; omega
  have hok := h.ok.step (r0 := keyR0 K) (r1 := keyR1 K)
  have hsl : (spl s.bl s.n (s.rest.take m)).length = 16 := by rw [spl_length _ _ _ (by omega), hbl]
  have hsb : Byts (spl s.bl s.n (s.rest.take m)) := by unfold spl; exact byts_app (byts_take h.byt _) (byts_app (byts_take hr _) (byts_drop h.byt _))
  have htake : (spl s.bl s.n (s.rest.take m)).take (s.n + m) = s.bl.take s.n ++ s.rest.take m := by
    have := take_app_take (L := s.bl) (M := s.rest) (n := s.n) (m := m) (by omega)
    rw [htl] at this
    unfold spl
    rw [htl]
    exact this
  have hcl : C.length = 16 * (C.length / 16) + s.n := by have := h.n; omega
  have hdrop : (C ++ s.rest.take m).drop (16 * (C.length / 16)) = s.bl.take s.n ++ s.rest.take m := by
    rw [List.drop_append_of_le_length (by omega), h.bl]
  unfold wS
  rw [← hm]
  by_cases h16 : s.n + m = 16
  · rw [if_pos h16]
    dsimp only
    have hdiv : (C ++ s.rest.take m).length / 16 = C.length / 16 + 1 := by rw [List.length_append, htl]; omega
    have hmod : (C ++ s.rest.take m).length % 16 = 0 := by rw [List.length_append, htl]; omega
    obtain ⟨t1, t2, t3⟩ := takeH_val (m := 16) hK h.ok.w0 h.ok.w1 h.h2 hsl hsb (Nat.le_refl _)
    have hb16 : (spl s.bl s.n (s.rest.take m)).take 16 = blk (C ++ s.rest.take m) (C.length / 16) := by
      unfold blk
      rw [hdrop, ← htake, h16, List.take_take, Nat.min_self]
    refine ⟨?_, ⟨t2, t3⟩, ?_, ?_, ?_, hsb⟩
    · unfold wS at hok
      rw [← hm, if_pos h16] at hok
      exact hok
    · show v3 (takeH (keyR0 K) (keyR1 K) s.h0 s.h1 s.h2 (tkB (spl s.bl s.n (s.rest.take m)) 16)) % QP = _
      rw [t1, fold_mod, hdiv, hb16]
      show _ = ((Hm K (C ++ s.rest.take m) (C.length / 16) + blkV (blk (C ++ s.rest.take m) (C.length / 16))) * rV K) % QP % QP
      rw [Int.emod_emod_of_dvd _ (Int.dvd_refl _), hm_pre K C _ _ (by omega), Int.mul_emod, Int.add_emod, h.v, ← Int.add_emod, ← Int.mul_emod]
    · rw [hmod]
    · rw [hdiv]
      show [] = _
      rw [List.drop_eq_nil_of_le (by rw [List.length_append, htl]; omega)]
  · rw [if_neg h16]
    have hdiv : (C ++ s.rest.take m).length / 16 = C.length / 16 := by rw [List.length_append, htl]; omega
    refine ⟨?_, h.h2, ?_, ?_, ?_, hsb⟩
    · unfold wS at hok
      rw [← hm, if_neg h16] at hok
      exact hok
    · rw [hdiv, hm_pre K C _ _ (by omega)]
      exact h.v
    · rw [List.length_append, htl]
      show s.n + m = _
      omega
    · rw [hdiv, hdrop]
      exact htake
theorem wI_holds {K : List Int} (hK : Byts K) {s : PS} : ∀ (k : Nat) {C : List Int}, Byts C → Byts s.rest → Holds K C s → Holds K (C ++ s.rest.take (s.rest.length - (wI (keyR0 K) (keyR1 K) s k).rest.length)) (wI (keyR0 K) (keyR1 K) s k) ∧ (wI (keyR0 K) (keyR1 K) s k).rest = s.rest.drop (s.rest.length - (wI (keyR0 K) (keyR1 K) s k).rest.length)
  | 0, C, hC, hr, h => by rw [wI_0]; simp; exact h
  | k + 1, C, hC, hr, h => by
    obtain ⟨h1, h2⟩ := wI_holds hK k hC hr h
    rw [wI_s]
    generalize hT : wI (keyR0 K) (keyR1 K) s k = T at *
    have hl : T.rest.length ≤ s.rest.length := by rw [h2]; simp
    have hTr : Byts T.rest := by rw [h2]; exact byts_drop hr _
    have h3 := holds_step hK (byts_app hC (byts_take hr _)) hTr h1
    have hrest := wS_rest (keyR0 K) (keyR1 K) T
    generalize hm : min T.rest.length (16 - T.n) = m at *
    have hlen : (wS (keyR0 K) (keyR1 K) T).rest.length = T.rest.length - m := by rw [hrest, List.length_drop]
    have e : s.rest.length - (T.rest.length - m) = (s.rest.length - T.rest.length) + m := by omega
    rw [hlen, e]
    refine ⟨?_, ?_⟩
    · rw [List.take_add, ← h2, ← List.append_assoc]
      exact h3
    · rw [hrest]
      conv => lhs; rw [h2]
      rw [List.drop_drop]
theorem wAll_holds {K C : List Int} (hK : Byts K) {s : PS} (hC : Byts C) (hr : Byts s.rest) (h : Holds K C s) : Holds K (C ++ s.rest) (wAll (keyR0 K) (keyR1 K) s) := by
  have hn := wAll_rest (r0 := keyR0 K) (r1 := keyR1 K) h.ok
  have h1 := (wI_holds hK s.rest.length hC hr h).1
  unfold wAll at hn ⊢
  rw [hn] at h1
  simpa using h1
theorem fin_val {h : Int × Int × Int} (hh : HOk h) (h2 : 0 ≤ h.2.2 ∧ h.2.2 < 8) : v3 (fin h) = (if v3 h < QP then v3 h else v3 h - QP) ∧ 0 ≤ (fin h).2.2 ∧ (fin h).2.2 < 8 := by
  have e1 := lohi h.1 5 0
  have b1 : Bit (addHi h.1 5 0) := Bit.addHi hh.w0 w64_5 Bit.zero
  have e2 := lohi h.2.1 0 (addHi h.1 5 0)
  have b2 : Bit (addHi h.2.1 0 (addHi h.1 5 0)) := Bit.addHi hh.w1 w64_0 b1
  have w0 := hh.w0
  have w1 := hh.w1
  have l0 := W64.addLo h.1 5 0
  have l1 := W64.addLo h.2.1 0 (addHi h.1 5 0)
  have ew : IntKind.u64.wrap (h.2.2 + addHi h.2.1 0 (addHi h.1 5 0)) = h.2.2 + addHi h.2.1 0 (addHi h.1 5 0) := by unfold Bit at b2; rw [IntKind.wrap_u64]; omega
  unfold Sp.fin
  rw [ew]
  have hM : M64 = 18446744073709551616 := rfl
  have hQ : QP = 1361129467683753853853498429727072845819 := rfl
  generalize addHi h.2.1 0 (addHi h.1 5 0) = c2 at *
  generalize addLo h.2.1 0 (addHi h.1 5 0) = y1 at *
  generalize addHi h.1 5 0 = c1 at *
  generalize addLo h.1 5 0 = y0 at *
  unfold Bit at b1 b2
  unfold W64 at w0 w1 l0 l1
  by_cases hc : h.2.2 + c2 ≥ 4
  · rw [if_pos hc, IntKind.wrap_u64, show (h.2.2 + c2 - 4) % 18446744073709551616 = h.2.2 + c2 - 4 by omega]
    have hv : ¬ v3 h < QP := by unfold v3; rw [hM, hQ] at *; omega
    rw [if_neg hv]
    refine ⟨?_, by show 0 ≤ h.2.2 + c2 - 4; omega, by show h.2.2 + c2 - 4 < 8; omega⟩
    unfold v3
    simp only
    rw [hM, hQ] at *
    omega
  · rw [if_neg hc]
    have hv : v3 h < QP := by unfold v3; rw [hM, hQ] at *; omega
    rw [if_pos hv]
    exact ⟨rfl, h2⟩
theorem finI_val {h : Int × Int × Int} (hh : HOk h) (h2 : 0 ≤ h.2.2 ∧ h.2.2 < 8) (hv : v3 h < 2 * QP + 10) : v3 (finI h 2) = v3 h % QP := by
  have f1 := fin_val hh h2
  have f2 := fin_val hh.fin f1.2
  have e : finI h 2 = fin (fin h) := by rw [show (2 : Nat) = 1 + 1 from rfl, finI_s, show (1 : Nat) = 0 + 1 from rfl, finI_s, finI_0]
  have h0 : 0 ≤ v3 h := by unfold v3; have := hh.w0; have := hh.w1; unfold W64 M64 at *; omega
  have hQ : QP = 1361129467683753853853498429727072845819 := rfl
  rw [e, f2.1]
  by_cases hlt : v3 h < QP
  · rw [if_pos hlt] at f1
    rw [f1.1, if_pos hlt, Int.emod_eq_of_lt h0 hlt]
  · rw [if_neg hlt] at f1
    rw [f1.1]
    by_cases h3 : v3 h - QP < QP
    · rw [if_pos h3]
      conv => rhs; rw [show v3 h = (v3 h - QP) + QP * 1 by omega]
      rw [Int.add_mul_emod_self_left, Int.emod_eq_of_lt (by omega) h3]
    · rw [if_neg h3]
      conv => rhs; rw [show v3 h = (v3 h - QP - QP) + QP * 2 by omega]
      rw [Int.add_mul_emod_self_left, Int.emod_eq_of_lt (by omega) (Int.lt_of_lt_of_le (show v3 h - QP - QP < 10 by omega) (show (10 : Int) ≤ QP by decide))]
theorem fdiv8 {lo : Int} (i : Nat) (hi : i < 8) : lo.fdiv (2 ^ min (IntKind.i64.wrap (8 * (i : Int))).toNat IntKind.u64.bits) = lo / 256 ^ i := by
  rw [wrap_in (by omega) (by omega), show (8 * (i : Int)).toNat = 8 * i by omega, Nat.min_eq_left (show 8 * i ≤ IntKind.u64.bits by show 8 * i ≤ 64; omega), Int.fdiv_eq_ediv_of_nonneg _ (Int.le_of_lt (Int.pow_pos (by decide))), pw256, Int.natCast_pow]
  rfl
theorem outN_val (lo hi : Int) : ∀ k, k ≤ 8 → ∀ j, gi (outN lo hi k) j = if j < k then lo / 256 ^ j % 256 else if 8 ≤ j ∧ j < 8 + k then hi / 256 ^ (j - 8) % 256 else 0
  | 0, _, j => by rw [outN_0, gi_rep]; split; omega; split <;> first | omega | rfl
  | k + 1, hk, j => by
    have ih := outN_val lo hi k (by omega)
    have hl := outN_length lo hi k
    rw [outN_s, fdiv8 k (by omega), fdiv8 k (by omega), IntKind.wrap_u8, IntKind.wrap_u8]
    by_cases h1 : j = 8 + k
    · subst h1
      rw [gi_same _ _ _ (by simp [hl]; omega), if_neg (by omega), if_pos (by omega), show 8 + k - 8 = k by omega]
    · rw [gi_upd _ _ _ _ h1]
      by_cases h2 : j = k
      · subst h2
        rw [gi_same _ _ _ (by omega), if_pos (by omega)]
      · rw [gi_upd _ _ _ _ h2, ih j]
        by_cases h3 : j < k
        · rw [if_pos h3, if_pos (by omega)]
        · rw [if_neg h3, if_neg (show ¬ j < k + 1 by omega)]
          by_cases h4 : 8 ≤ j ∧ j < 8 + k
          · rw [if_pos h4, if_pos (by omega)]
          · rw [if_neg h4, if_neg (by omega)]
theorem outN_eq {lo hi x : Int} (hlo : W64 lo) (hhi : 0 ≤ hi) (hx : ∃ q, x = lo + M64 * hi + 2 ^ 128 * q) : outN lo hi 8 = digN 16 x := by
  obtain ⟨q, hq⟩ := hx
  have e8 : (256 : Int) ^ 8 = M64 := by decide
  refine ext_gi (by rw [outN_length]; simp) fun i hi' => ?_
  rw [outN_length] at hi'
  rw [outN_val _ _ 8 (Nat.le_refl _), digN_gi _ hi']
  have hp : (0 : Int) < 256 ^ i := Int.pow_pos (by decide)
  by_cases h : i < 8
  · rw [if_pos h]
    obtain ⟨d, hd⟩ : ∃ d : Nat, 8 = i + (d + 1) := ⟨8 - i - 1, by omega⟩
    have eM : M64 = 256 ^ i * (256 * 256 ^ d) := by rw [← e8, hd, Int.pow_add, Int.pow_succ]; grind
    have e128 : (2 : Int) ^ 128 = M64 * M64 := by decide
    rw [hq, e128, show lo + M64 * hi + M64 * M64 * q = lo + 256 ^ i * (256 * (256 ^ d * (hi + M64 * q))) by rw [show lo + M64 * hi + M64 * M64 * q = lo + M64 * (hi + M64 * q) by grind]; rw [eM]; grind, Int.add_mul_ediv_left _ _ (by omega), Int.add_mul_emod_self_left]
  · rw [if_neg h, if_pos (by omega)]
    obtain ⟨j, hj⟩ : ∃ j, i = 8 + j := ⟨i - 8, by omega⟩
    subst hj
    obtain ⟨d, hd⟩ : ∃ d : Nat, 8 = j + (d + 1) := ⟨8 - j - 1, by omega⟩
    have eM : M64 = 256 ^ j * (256 * 256 ^ d) := by rw [← e8, hd, Int.pow_add, Int.pow_succ]; grind
    have e128 : (2 : Int) ^ 128 = M64 * M64 := by decide
    have hpj : (0 : Int) < 256 ^ j := Int.pow_pos (by decide)
    have e9 : x / M64 = hi + M64 * q := by
      rw [hq, e128, show lo + M64 * hi + M64 * M64 * q = lo + M64 * (hi + M64 * q) by grind, Int.add_mul_ediv_left _ _ (by decide), Int.ediv_eq_zero_of_lt hlo.1 hlo.2]
      omega
    rw [show 8 + j - 8 = j by omega, Int.pow_add, e8, ← Int.ediv_ediv_of_nonneg (by decide), e9, show hi + M64 * q = hi + 256 ^ j * (256 * (256 ^ d * q)) by rw [eM]; grind, Int.add_mul_ediv_left _ _ (by omega), Int.add_mul_emod_self_left]
theorem tagB_val {K : List Int} (hK : Byts K) {h : Int × Int × Int} (hh : HOk h) (h2 : 0 ≤ h.2.2 ∧ h.2.2 < 8) (hv : v3 h < 2 * QP + 10) : tagB (keyS0 K) (keyS1 K) h = digN 16 (v3 h % QP + sV K) := by
  have f := finI_val hh h2 hv
  have ok := finI_ok hh 2
  have es := keyS_val hK
  unfold tagB
  have e1 := lohi (finI h 2).1 (keyS0 K) 0
  have b1 : Bit (addHi (finI h 2).1 (keyS0 K) 0) := Bit.addHi ok.w0 (keyS0_w K) Bit.zero
  have e2 := lohi (finI h 2).2.1 (keyS1 K) (addHi (finI h 2).1 (keyS0 K) 0)
  refine outN_eq (W64.addLo _ _ _) (W64.addLo _ _ _).1 ?_
  rw [← f, ← es]
  unfold v3 w2
  have e128 : (2 : Int) ^ 128 = M64 * M64 := by decide
  rw [e128]
  refine ⟨(finI h 2).2.2 + addHi (finI h 2).2.1 (keyS1 K) (addHi (finI h 2).1 (keyS0 K) 0), ?_⟩
  generalize addHi (finI h 2).2.1 (keyS1 K) (addHi (finI h 2).1 (keyS0 K) 0) = c2 at *
  generalize addLo (finI h 2).2.1 (keyS1 K) (addHi (finI h 2).1 (keyS0 K) 0) = y1 at *
  generalize addHi (finI h 2).1 (keyS0 K) 0 = c1 at *
  generalize addLo (finI h 2).1 (keyS0 K) 0 = y0 at *
  grind
theorem v3_lt {a b c : Int} (ha : W64 a) (hb : W64 b) (hc : 0 ≤ c ∧ c < 8) : 0 ≤ v3 (a, b, c) ∧ v3 (a, b, c) < 2 * QP + 10 := by
  have hQ : QP = 1361129467683753853853498429727072845819 := rfl
  unfold v3
  unfold W64 M64 at *
  rw [hQ]
  simp only
  omega
theorem sum_val {K C : List Int} {s : PS} (hK : Byts K) (h : Holds K C s) : sumS (keyR0 K) (keyR1 K) (keyS0 K) (keyS1 K) s = digN 16 (tagV K C) := by
  have hok := lastH_ok (r0 := keyR0 K) (r1 := keyR1 K) h.ok
  have hn := h.n
  have hn16 := h.ok.n
  have key : v3 (lastH (keyR0 K) (keyR1 K) s) % QP = Hm K C ((C.length + 15) / 16) ∧ 0 ≤ (lastH (keyR0 K) (keyR1 K) s).2.2 ∧ (lastH (keyR0 K) (keyR1 K) s).2.2 < 8 := by
    unfold lastH
    by_cases h0 : 0 < s.n
    · rw [if_pos h0]
      obtain ⟨t1, t2, t3⟩ := takeH_val (m := s.n) hK h.ok.w0 h.ok.w1 h.h2 h.ok.bl h.byt (by omega)
      have hd : (C.length + 15) / 16 = C.length / 16 + 1 := by omega
      have hb : s.bl.take s.n = blk C (C.length / 16) := by
        unfold blk
        rw [h.bl, List.take_of_length_le (by simp; omega)]
      refine ⟨?_, t2, t3⟩
      rw [t1, fold_mod, hd, hb]
      show _ = ((Hm K C (C.length / 16) + blkV (blk C (C.length / 16))) * rV K) % QP
      rw [Int.mul_emod, Int.add_emod, h.v, ← Int.add_emod, ← Int.mul_emod]
    · rw [if_neg h0]
      have hd : (C.length + 15) / 16 = C.length / 16 := by omega
      have hr := hm_range K C (C.length / 16)
      refine ⟨?_, h.h2⟩
      rw [hd, h.v, Int.emod_eq_of_lt hr.1 hr.2]
  unfold sumS
  have hv := v3_lt hok.w0 hok.w1 key.2
  rw [tagB_val hK hok key.2 hv.2, key.1]
  rfl
end Sp
end
section
open Go Go.RowKit
namespace Sp
open F
end Sp
end
section
open Go Go.RowKit
namespace Sp
open F
@[irreducible] def tg (K C : List Int) : List Int := digN 16 (tagV K C)
theorem tg_length (K C : List Int) : (tg K C).length = 16 := by unfold tg; simp
attribute [simp] tg_length
@[irreducible] def prow (K : List Int) (s : PS) : Array Value := polyRow true (keyR0 K) (keyR1 K) (keyS0 K) (keyS1 K) s.h0 s.h1 s.h2 s.bl (s.n : Int)
@[irreducible] def ps0 : PS := ⟨0, 0, 0, List.replicate 16 0, 0, []⟩
@[irreducible] def wr (K B : List Int) (s : PS) : PS := wAll (keyR0 K) (keyR1 K) { s with rest := B }
theorem ps0_holds (K : List Int) : Holds K [] ps0 := by unfold ps0; exact holds_nil K []
theorem Holds.rest {K C : List Int} {s : PS} (h : Holds K C s) (B : List Int) : Holds K C { s with rest := B } :=
  ⟨⟨h.ok.w0, h.ok.w1, h.ok.w2, h.ok.bl, h.ok.n⟩, h.h2, h.v, h.n, h.bl, h.byt⟩
theorem wr_holds {K C B : List Int} {s : PS} (hK : Byts K) (hC : Byts C) (hB : Byts B) (h : Holds K C s) : Holds K (C ++ B) (wr K B s) := by
  unfold wr
  exact wAll_holds hK hC hB (h.rest B)
theorem pnew_h (K : List Int) (hK : K.length = 32) (w : World) :
    Calls Try.prog 93 #[.agg (ints .u8 K)] w fun e w' => ∃ nb, e = .returned (.pointer (some ⟨nb, 0, none⟩)) ∧ OwnM w [] w' [(nb, prow K ps0, 157)] := by
  unfold prow ps0
  exact pnew_any K hK w
theorem pwrite_h {K C : List Int} {s : PS} (h : Holds K C s) (b : Nat) (T : TypeId) (p : Option Addr) (n c : Nat) (B : List Int) (w : World) (hS : Sl w p n c B) (hmax : n ≤ 140737488355328) (hne : 0 < n → ∀ sb off, p = some ⟨sb, off, none⟩ → sb ≠ b)
    (hb : w.heap[b]? = some (.cells (prow K s) T (0, 0))) :
    Calls Try.prog 94 #[.pointer (some ⟨b, 0, none⟩), .slice p n c] w fun e w' => e = .returned (.tuple #[]) ∧ OwnM w [b] w' [(b, prow K (wr K B s), T)] := by
  unfold prow at hb ⊢
  unfold wr
  exact pwrite_sl b T _ _ _ _ { s with rest := B } (h.rest B).ok (keyR_w K) p n c w hS hmax hne hb
theorem psum_h {K C : List Int} {s : PS} (hK : Byts K) (h : Holds K C s) (b : Nat) (T : TypeId) (fz : Nat × Nat) (w : World) (hb : w.heap[b]? = some (.cells (prow K s) T fz)) :
    Calls Try.prog 95 #[.pointer (some ⟨b, 0, none⟩)] w fun e w' => e = .returned (.agg (ints .u8 (tg K C))) ∧ Below w.heap.size w w' := by
  unfold prow at hb
  have := psum_any b T _ _ _ _ s h.ok (keyR_w K) (keyS0_w K) (keyS1_w K) fz w hb
  rw [sum_val hK h] at this
  unfold tg
  exact this
end Sp
end
end Go.Proofs.Ytdjecenggngdjaa
