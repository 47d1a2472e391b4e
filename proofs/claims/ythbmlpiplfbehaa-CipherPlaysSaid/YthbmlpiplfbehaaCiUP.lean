/-
  Regions that draw, with a new variable that may be made before or behind calls.
  Calls of step in the walker.
-/
import Derived.Test.YthbmlpiplfbehaaAny
import Derived.Test.YthbmlpiplfbehaaCiT
import Derived.Test.YthbmlpiplfbehaaOpenSN
namespace Go.Proofs.Ythbmlpiplfbehaa
set_option linter.unusedSimpArgs false
set_option linter.unusedVariables false
open Go Go.RowKit
namespace F
open M Sp
section
variable {P : Program} {ops : Array Oper} {md : Region.Mode} {w0 : World} {mu : List Nat} {E D : List Nat} {keep : Mem}
/-- The walk while the variable x is not made yet: at each call it may be made. -/
def wpP (P : Program) (ops : Array Oper) (w0 : World) (mu : List Nat) (E D : List Nat) (keep : Mem) (L : Act → Mem → Prop) (ox : Oper) (T : TypeId) (A : Array Value) (L2 : List (Nat × Oper)) : List (Nat × Oper) → Act → Mem → Prop
  | [], a, m => ∀ b, wpF P ops w0 mu E D keep L L2 (a.put ox.dst (.pointer (some ⟨b, 0, none⟩))) ((b, A, T) :: m)
  | (i, o) :: rest, a, m => o.guard = none ∧ freshM o.op = none ∧
    if E.contains i then (∀ b, wpF P ops w0 mu E D keep L ((i, o) :: (rest ++ L2)) (a.put ox.dst (.pointer (some ⟨b, 0, none⟩))) ((b, A, T) :: m)) ∧
      ∃ R, effAt P w0 mu m o a R ∧ ∀ v m', R v m' → Kept keep m' ∧ wpP P ops w0 mu E D keep L ox T A L2 rest (a.put o.dst v) m'
    else ∃ v, YieldK P w0 mu keep o v a m (if isPure o.op then 1 else if D.contains i then 2 else 0) ∧ wpP P ops w0 mu E D keep L ox T A L2 rest (a.put o.dst v) m
def ordP (md : Region.Mode) (ops : Array Oper) (E D : List Nat) (x : Nat) (ord2 : List Nat) : List Nat → Array Bool → Bool
  | [], listed => ordF md ops E D (x :: ord2) listed
  | i :: rest, listed =>
    (match ops[i]? with
    | none => false
    | some o => if E.contains i then ((Region.ready md ops listed).all fun j => j == i || j == x) && (Region.ready md ops listed).contains i && (Region.ready md ops listed).contains x && ordF md ops E D (i :: (rest ++ ord2)) (listed.setIfInBounds x true)
      else (Region.ready md ops listed).contains i && Region.free md ops listed i && (isPure o.op || D.contains i || quietB md ops E listed i)) &&
    ordP md ops E D x ord2 rest (listed.setIfInBounds i true)
theorem wpAnyF_pend {L : Act → Mem → Prop} (hL : ∀ a m m', m.Perm m' → L a m → L a m') (hsel : Region.noSelect ops = true) {x : Nat} {ox : Oper} {T : TypeId} {A : Array Value} (hx : ops[x]? = some ox) (hT : freshM ox.op = some T) (hg : ox.guard = none) (hz : (P.info? T).map (·.zero) = some (some (.agg A)))
    {ord2 : List Nat} {l2 : List (Nat × Oper)} (hl2 : l2.map (fun p => (p.1, some p.2)) = ord2.map (fun i => (i, ops[i]?))) :
    ∀ (ord : List Nat) (listed : Array Bool) (a : Act) (m : Mem) (l : List (Nat × Oper)), l.map (fun p => (p.1, some p.2)) = ord.map (fun i => (i, ops[i]?)) → HeadInv md ops ops.size listed → ordP md ops E D x ord2 ord listed = true → Kept keep m → wpP P ops w0 mu E D keep L ox T A l2 l a m →
    wpAnyF P md ops w0 mu E keep L (ord.length + (ord2.length + 1)) listed a m
  | [], listed, a, m, l, hl, inv, hB, hkp, h => by
    cases l with
    | nil =>
      have h1 := wpAnyF_ord (D := D) hL hsel (x :: ord2) listed a m ((x, ox) :: l2) (by simp only [List.map_cons, hl2, hx]) inv hB hkp (by simp only [wpF, hT]; exact ⟨hg, A, hz, h⟩)
      simpa using h1
    | cons o l => simp at hl
  | i :: ord, listed, a, m, l, hl, inv, hB, hkp, h => by
    cases l with
    | nil => simp at hl
    | cons p l =>
      obtain ⟨i', o⟩ := p
      simp only [List.map_cons, List.cons.injEq, Prod.mk.injEq] at hl
      obtain ⟨⟨rfl, ho⟩, hl⟩ := hl
      have ho := ho.symm
      have hlt : i' < ops.size := (Array.getElem?_eq_some_iff.1 ho).1
      have hltx : x < ops.size := (Array.getElem?_eq_some_iff.1 hx).1
      simp only [ordP, ho, Bool.and_eq_true] at hB
      obtain ⟨hB1, hB2⟩ := hB
      simp only [wpP] at h
      obtain ⟨hog, hof, h⟩ := h
      have hw : Region.wanted o (yielded ops a.tmps) = true := by simp [Region.wanted, hog]
      have hlen : (i' :: ord).length + (ord2.length + 1) = (ord.length + (ord2.length + 1)) + 1 := by simp only [List.length_cons]; omega
      rw [hlen]
      by_cases hE : E.contains i' = true
      · rw [if_pos hE] at hB1 h
        simp only [Bool.and_eq_true] at hB1
        obtain ⟨⟨⟨hall, hr⟩, hrx⟩, hord⟩ := hB1
        have hr' : i' ∈ Region.ready md ops listed := by simpa using hr
        have hrx' : x ∈ Region.ready md ops listed := by simpa using hrx
        obtain ⟨hA1, R, hR, hk⟩ := h
        refine ⟨fun h0 => (by rw [h0] at hr'; cases hr'), fun j hj => ?_⟩
        have hjx := List.all_eq_true.1 hall j hj
        simp only [Bool.or_eq_true, beq_iff_eq] at hjx
        by_cases hji : j = i'
        · subst hji
          unfold mOp
          simp only [ho, hof, hw, if_true]
          rw [if_pos hE]
          exact ⟨R, hR, fun v m' hv => ⟨(hk v m' hv).1, wpAnyF_pend hL hsel hx hT hg hz hl2 ord _ _ _ l hl (inv.set hr' hlt) hB2 (hk v m' hv).1 (hk v m' hv).2⟩⟩
        · obtain rfl : j = x := by
            rcases hjx with h1 | h1
            · exact absurd h1 hji
            · exact h1
          unfold mOp
          simp only [hx, hT]
          refine ⟨hg, A, hz, fun b => ?_⟩
          have h1 := wpAnyF_ord (D := D) hL hsel (i' :: (ord ++ ord2)) _ _ _ ((i', o) :: (l ++ l2)) (by simp only [List.map_cons, List.map_append, hl, hl2, ho]) (inv.set hrx' hltx) hord hkp.more (hA1 b)
          have e : (i' :: (ord ++ ord2)).length = ord.length + (ord2.length + 1) := by simp only [List.length_cons, List.length_append]; omega
          rwa [e] at h1
      · rw [if_neg hE] at hB1 h
        simp only [Bool.and_eq_true] at hB1
        obtain ⟨⟨hr, hf⟩, hB3⟩ := hB1
        have hr' : i' ∈ Region.ready md ops listed := by simpa using hr
        have hEf : E.contains i' = false := by simpa using hE
        obtain ⟨v, hv, hk⟩ := h
        simp only [Bool.or_eq_true] at hB3
        have hB4 : ((if isPure o.op then 1 else if D.contains i' then 2 else 0 : Nat) = 1 ∨ (if isPure o.op then 1 else if D.contains i' then 2 else 0 : Nat) = 2) ∨ quietB md ops E listed i' = true := by
          rcases hB3 with (h1 | h1) | h1
          · exact .inl (.inl (by rw [if_pos h1]))
          · by_cases h2 : isPure o.op = true
            · exact .inl (.inl (by rw [if_pos h2]))
            · exact .inl (.inr (by rw [if_neg h2, if_pos h1]))
          · exact .inr h1
        exact F_first (kd := if isPure o.op then 1 else if D.contains i' then 2 else 0) ho hof hEf (Region.noSelect_spec hsel) _ listed a m inv (Region.free_spec ho hf) hB4 hkp hr' (.inl ⟨hw, hv⟩)
          (wpAnyF_pend hL hsel hx hT hg hz hl2 ord _ _ _ l hl (inv.set hr' hlt) hB2 hkp hk)
def pendB (ops : Array Oper) (E D : List Nat) (x : Nat) (ord ord2 : List Nat) : Bool := Region.noSelect ops && decide (ord.length + (ord2.length + 1) = ops.size) && (ord ++ ord2).all (fun i => decide (i < ops.size)) && ordP .any ops E D x ord2 ord (Array.replicate ops.size false)
/-- The operations of such a region while x is not made. -/
structure SFP (P : Program) (ops : Array Oper) (w0 : World) (mu : List Nat) (E D : List Nat) (keep : Mem) (ox : Oper) (T : TypeId) (A : Array Value) (L2 rest : List (Nat × Oper)) (Q : ExitP) (l : List Value) (m : Mem) : Prop where
  run : wpP P ops w0 mu E D keep (fun a m' => ∃ l' : List Value, a = ⟨l'.toArray, []⟩ ∧ ∀ m'', m'.Perm m'' → ∀ W Q', OwnM w0 mu W m'' → After w0 mu Q Q' → Q' .normal a W) ox T A L2 rest ⟨l.toArray, []⟩ m
end
section
variable {P : Program} {tab : Tab} {w0 : World} {mu : List Nat} {bs : Mem} {l l' : List Value} {ops : Array Oper} {E D : List Nat} {keep : Mem} {L2 rest : List (Nat × Oper)} {Q : ExitP} {i0 : Nat} {ox : Oper} {T : TypeId} {A : Array Value}
variable {dst : Option Tmp} {op : Op} {ty : TypeId} {pos : String} {af : Array Edge}
theorem hmap_of (L : List Oper) : ∀ ord : List Nat, ord.all (fun i => decide (i < L.toArray.size)) = true → (ord.filterMap fun i => (L[i]?).map fun o => (i, o)).map (fun p => (p.1, some p.2)) = ord.map fun i => (i, L.toArray[i]?)
  | [], _ => rfl
  | i :: ord, h => by
    simp only [List.all_cons, Bool.and_eq_true, decide_eq_true_eq] at h
    have hlt : i < L.length := by simpa using h.1
    have hi : L[i]? = some L[i] := List.getElem?_eq_getElem hlt
    have ih := hmap_of L ord h.2
    simp only [List.filterMap_cons, hi, Option.map_some, List.map_cons, ih]
    simp [hlt]
theorem SP_pend {id : Nat} {L : List Oper} {L1 L2 : List (Nat × Oper)} (E D : List Nat) (keep : Mem) (x : Nat) (ord ord2 : List Nat) (hm : P.follows .mixedOrders = true) (hB : pendB L.toArray E D x ord ord2 = true) {dx : Option Tmp} {tx : TypeId} {px : String} {ax : Array Edge} (hx : L[x]? = some ⟨dx, .alloc T, tx, px, ax, none⟩)
    (hz : (P.info? T).map (·.zero) = some (some (.agg A))) (h1 : (ord.filterMap fun i => (L[i]?).map fun o => (i, o)) = L1) (h2 : (ord2.filterMap fun i => (L[i]?).map fun o => (i, o)) = L2) (hkp : Kept keep bs)
    (h : SFP P L.toArray w0 mu E D keep ⟨dx, .alloc T, tx, px, ax, none⟩ T A L2 L1 Q l bs) : SP P w0 mu (.region id L.toArray true) Q l bs := by
  subst h1 h2
  simp only [pendB, Bool.and_eq_true, decide_eq_true_eq, List.all_append] at hB
  obtain ⟨⟨⟨hsel, hlen⟩, ha1, ha2⟩, hord⟩ := hB
  refine ⟨fun W Q' hw hA => ?_⟩
  have inv0 : HeadInv .any L.toArray L.toArray.size (Array.replicate L.toArray.size false) :=
    ⟨by simp, fun j oj _ hl => (by rw [getD_replicate_false] at hl; cases hl), fun t h1 h2 => absurd h2 (Nat.not_lt.2 h1)⟩
  refine wp_region_any hm ?_
  have H := wpAnyF_pend (P := P) (w0 := w0) (mu := mu) (L := fun a m' => ∃ l' : List Value, a = ⟨l'.toArray, []⟩ ∧ ∀ m'', m'.Perm m'' → ∀ W Q', OwnM w0 mu W m'' → After w0 mu Q Q' → Q' .normal a W)
    (fun a m m' hp ⟨l', hl, hk⟩ => ⟨l', hl, fun m'' hp' => hk m'' (hp.trans hp')⟩) hsel (x := x) (by rw [List.getElem?_toArray]; exact hx) rfl rfl hz (hmap_of L ord2 ha2) ord _ _ _ _ (hmap_of L ord ha1) inv0 hord hkp h.run
  rw [hlen] at H
  exact wpAny_of_F (fun a m w hw' ⟨l', hl, hk⟩ => hk m (List.Perm.refl _) w Q' hw' hA) _ _ _ _ _ (hw.drew 1) H
theorem SFP.vK {v : Value} (hv : ∀ m, Kept keep m → ValO P w0 mu m l ⟨dst, op, ty, pos, af, none⟩ v) (h : SFP P ops w0 mu E D keep ox T A L2 rest Q l' bs) (hE : E.contains i0 = false := by rfl) (hD : D.contains i0 = true := by rfl) (hf : freshM op = none := by rfl) (hi : isPure op = false := by rfl)
    (hp : putL l dst v = l' := by first | (dsimp only [putL, setNth, evL, nth]; done) | (dsimp only [putL, setNth, evL, nth]; rfl)) : SFP P ops w0 mu E D keep ox T A L2 ((i0, ⟨dst, op, ty, pos, af, none⟩) :: rest) Q l bs := by
  subst hp
  refine ⟨?_⟩
  simp only [wpP, hf, hE, hD, if_true, Bool.false_eq_true, if_false, hi, YieldK]
  exact ⟨by trivial, by trivial, v, fun m hm => (hv m hm).out, by rw [putL_eq]; exact h.run⟩
/-- The variable is made at last. -/
theorem SFP.nil {L2' : List Value} {dx : Option Tmp} {opx : Op} {tx : TypeId} {px : String} {ax : Array Edge} {l' : Nat → List Value} (h : ∀ b, SF P ops w0 mu E D keep L2 Q (l' b) ((b, A, T) :: bs)) (hp : ∀ b, putL l dx (.pointer (some ⟨b, 0, none⟩)) = l' b := by intro _; first | (dsimp only [putL, setNth]; done) | (dsimp only [putL, setNth]; rfl)) :
    SFP P ops w0 mu E D keep ⟨dx, opx, tx, px, ax, none⟩ T A L2 [] Q l bs := by
  refine ⟨fun b => ?_⟩
  show wpF P ops w0 mu E D keep _ L2 (Act.put ⟨l.toArray, []⟩ dx _) _
  rw [putL_eq, hp]
  exact (h b).run
/-- A call that makes a block; the variable may be made ahead of it. -/
theorem SFP.clN {dx : Option Tmp} {opx : Op} {tx : TypeId} {px : String} {ax : Array Edge} {f : FuncId} {args : List Operand} {ats : Array TypeId} (hent : ∀ (A : Array Value) (w : World), (callFunc f A).run P w = .ok (.enter f A) w) {vals : List Value} (hv : args.map (evL l) = vals) {B : Array Value} {U : TypeId} {V : Nat → Value} {l' : Nat → List Value} {lx : Nat → List Value}
    (hc : ∀ w, OwnM w0 mu w bs → Calls P f vals.toArray w fun e w' => ∃ b, e = .returned (V b) ∧ OwnM w [] w' [(b, B, U)])
    (hx : ∀ b, SF P ops w0 mu E D keep ((i0, ⟨dst, .call { callee := .value (.func f), args := args.toArray, argTypes := ats }, ty, pos, af, none⟩) :: (rest ++ L2)) Q (lx b) ((b, A, T) :: bs))
    (h : ∀ b, SFP P ops w0 mu E D keep ⟨dx, opx, tx, px, ax, none⟩ T A L2 rest Q (l' b) ((b, B, U) :: bs)) (hE : E.contains i0 = true := by rfl) (hkp : Kept keep bs := by first | exact Kept.nil | (simp [Kept]; done))
    (hpx : ∀ b, putL l dx (.pointer (some ⟨b, 0, none⟩)) = lx b := by intro _; first | (dsimp only [putL, setNth]; done) | (dsimp only [putL, setNth]; rfl)) (hp : ∀ b, putL l dst (V b) = l' b := by intro _; first | (dsimp only [putL, setNth]; done) | (dsimp only [putL, setNth]; rfl)) :
    SFP P ops w0 mu E D keep ⟨dx, opx, tx, px, ax, none⟩ T A L2 ((i0, ⟨dst, .call { callee := .value (.func f), args := args.toArray, argTypes := ats }, ty, pos, af, none⟩) :: rest) Q l bs := by
  refine ⟨?_⟩
  simp only [wpP, hE, if_true]
  refine ⟨by trivial, by trivial, fun b => by rw [putL_eq, hpx]; exact (hx b).run, fun v' m' => ∃ b, v' = V b ∧ m' = (b, B, U) :: bs, fun w hw => ?_, ?_⟩
  · rw [run_call_fn (args_map args), hv, hent]
    refine (hc w hw).mono fun e w' hx => ?_
    obtain ⟨b, rfl, hw'⟩ := hx
    exact ⟨_, _, rfl, ⟨b, rfl, rfl⟩, hw.fresh hw'⟩
  · rintro v m' ⟨b, rfl, rfl⟩
    exact ⟨hkp.more, by rw [putL_eq, hp]; exact (h b).run⟩
end
end F
end Go.Proofs.Ythbmlpiplfbehaa

namespace Go.Proofs.Ythbmlpiplfbehaa
set_option linter.unusedSimpArgs false
set_option linter.unusedVariables false
open Go Go.RowKit
namespace Sp
open F M
theorem DoV.ok.old {w w' : World} {d : DoV} (h : d.ok w) (hb : Below w.heap.size w w') : d.ok w' := ⟨h.1.old hb, h.2.1.old hb, h.2.2⟩
theorem ap2 {a m k : Nat} {p : Option Addr} (h1 : ApartB a p k) (h2 : ApartB m p k) : ∀ b ∈ [a, m], ApartB b p k := by
  intro b hb
  simp at hb
  rcases hb with rfl | rfl <;> assumption
theorem nb2 {bt a m : Nat} (h1 : bt ≠ a) (h2 : bt ≠ m) : bt ∉ [a, m] := by simp [h1, h2]
section
variable {w0 : World} {mu : List Nat} {bs : Mem}
theorem set_keys {bs : Mem} {i b : Nat} {A A' : Array Value} {T : TypeId} (hi : bs[i]? = some (b, A, T)) : (bs.set i (b, A', T)).map (·.1) = bs.map (·.1) := by
  obtain ⟨hlt, hge2⟩ := List.getElem?_eq_some_iff.1 hi
  rw [List.map_set]
  refine List.ext_getElem? fun j => ?_
  rw [List.getElem?_set]
  split
  · rename_i hij; subst hij
    simp [hlt, hge2]
  · rfl
theorem OwnM.call2A {w w' : World} {abs : Mem} (h : OwnM w0 mu w bs) {i j b b2 : Nat} {A A' B B' : Array Value} {T U : TypeId} (hi : bs[i]? = some (b, A, T)) (hj : bs[j]? = some (b2, B, U)) (hij : i ≠ j)
    (h' : OwnM w [b, b2] w' ((b, A', T) :: (b2, B', U) :: abs)) : OwnM w0 mu w' ((bs.set i (b, A', T)).set j (b2, B', U) ++ abs) := by
  have h1 : OwnM w0 mu w' ((bs.set i (b, A', T)).set j (b2, B', U)) := h.call2 hi hj hij (h'.sub (by simp))
  have hap := h'.apart
  rw [List.map_cons, List.map_cons, List.nodup_cons, List.nodup_cons] at hap
  have hge : ∀ p ∈ abs, w.heap.size ≤ p.1 := fun p hp => by
    rcases (h'.here p (List.mem_cons_of_mem _ (List.mem_cons_of_mem _ hp))).1 with hx | hx
    · exact hx
    · exfalso
      simp at hx
      rcases hx with hx | hx
      · exact hap.1 (List.mem_cons_of_mem _ (List.mem_map.2 ⟨p, hp, hx⟩))
      · exact hap.2.1 (List.mem_map.2 ⟨p, hp, hx⟩)
  have hk : ((bs.set i (b, A', T)).set j (b2, B', U)).map (·.1) = bs.map (·.1) := by
    have e1 : (bs.set i (b, A', T))[j]? = some (b2, B, U) := by rw [List.getElem?_set_ne hij]; exact hj
    rw [set_keys e1, set_keys hi]
  refine ⟨h1.os, h1.tape, h1.output, h1.size, h1.rest, ?_, ?_⟩
  · intro p hp
    rcases List.mem_append.1 hp with hp | hp
    · exact h1.here p hp
    · exact ⟨.inl (Nat.le_trans h.size (hge p hp)), (h'.here p (List.mem_cons_of_mem _ (List.mem_cons_of_mem _ hp))).2⟩
  · rw [List.map_append, List.nodup_append]
    refine ⟨h1.apart, hap.2.2, ?_⟩
    intro x hx y hy he
    obtain ⟨p', hp', rfl⟩ := List.mem_map.1 hy
    have h3 := hge p' hp'
    rw [hk] at hx
    obtain ⟨p, hp, rfl⟩ := List.mem_map.1 hx
    have := h.lt hp
    omega
end
section
variable {P : Program} {tab : Tab} {w0 : World} {mu : List Nat} {bs : Mem} {l : List Value} {ops : Array Oper} {E D : List Nat} {rest : List (Nat × Oper)} {Q : ExitP} {i0 : Nat}
variable {dst : Option Tmp} {op : Op} {ty : TypeId} {pos : String} {af : Array Edge}
theorem SF.clStep {f : FuncId} {args : List Operand} {ats : Array TypeId} (hent : ∀ (A : Array Value) (w : World), (callFunc f A).run P w = .ok (.enter f A) w) {vals : List Value} (hv : args.map (evL l) = vals)
    {a m i j : Nat} {A B : Array Value} (hi : bs[i]? = some (a, A, 62)) (hj : bs[j]? = some (m, B, 65)) (hij : i ≠ j) (hc : ∀ w, OwnM w0 mu w bs → a ≠ m → Calls P f vals.toArray w (StepPost w a m))
    {l' : Option Addr → Nat → List Int → List Value} {bs' : List Int → Int → Mem → Mem}
    (h : ∀ K' n' q c X abs, K'.length = 32 → Byts K' → 0 ≤ n' → Byts X → X.length ≤ 4112 → AO q X.length c X abs → SF P ops w0 mu E D [] rest Q (l' q c X) (bs' K' n' abs)) (hE : E.contains i0 = true := by rfl)
    (hbs : ∀ K' n' abs, (bs.set i (a, stRow true K' n', 62)).set j (m, stRow true K' n', 65) ++ abs = bs' K' n' abs := by intro _ _ _; first | (simp only [List.set, List.cons_append, List.nil_append, List.append_assoc]; done) | (simp only [List.set, List.cons_append, List.nil_append, List.append_assoc]; rfl))
    (hp : ∀ q c X, putL l dst (.tuple #[.slice q X.length c, .bool true]) = l' q c X := by intro _ _ _; first | (dsimp only [putL, setNth]; done) | (dsimp only [putL, setNth]; rfl)) :
    SF P ops w0 mu E D [] ((i0, ⟨dst, .call { callee := .value (.func f), args := args.toArray, argTypes := ats }, ty, pos, af, none⟩) :: rest) Q l bs := by
  refine SF.callG hE hent hv (R := fun v' bs2 => ∃ K' n' q c X abs, (K'.length = 32 ∧ Byts K' ∧ 0 ≤ n' ∧ Byts X ∧ X.length ≤ 4112 ∧ AO q X.length c X abs) ∧ v' = .tuple #[.slice q X.length c, .bool true] ∧ bs2 = bs' K' n' abs) (fun w hw => (hc w hw (hw.ne hi hj hij)).mono fun e w' hx => ?_) (fun _ _ _ => Kept.nil)
    (by rintro v' bs2 ⟨K', n', q, c, X, abs, ⟨h1, h2, h3, h4, h5, h6⟩, rfl, rfl⟩; rw [hp]; exact h K' n' q c X abs h1 h2 h3 h4 h5 h6)
  obtain ⟨K', n', q, c, X, abs, h1, h2, h3, h4, h5, rfl, h6, hw'⟩ := hx
  exact ⟨_, _, rfl, ⟨K', n', q, c, X, abs, ⟨h1, h2, h3, h4, h5, h6⟩, rfl, rfl⟩, by rw [← hbs]; exact OwnM.call2A hw hi hj hij hw'⟩
end
theorem b_both (a m : Nat) : Try.prog.built 54 [(0, .pointer (some ⟨a, 0, none⟩)), (1, .pointer (some ⟨m, 0, none⟩))] = some #[.pointer (some ⟨a, 0, none⟩), .pointer (some ⟨m, 0, none⟩)] := by kernel_rfl
theorem b_both2 (a m a2 m2 : Nat) : Try.prog.built 55 [(0, .agg #[.pointer (some ⟨a, 0, none⟩), .pointer (some ⟨m, 0, none⟩)]), (1, .agg #[.pointer (some ⟨a2, 0, none⟩), .pointer (some ⟨m2, 0, none⟩)])] = some #[.pointer (some ⟨a, 0, none⟩), .pointer (some ⟨m, 0, none⟩), .pointer (some ⟨a2, 0, none⟩), .pointer (some ⟨m2, 0, none⟩)] := by kernel_rfl
theorem both_cells (a m a2 m2 : Nat) : ∀ u ∈ (#[Value.pointer (some ⟨a, 0, none⟩), .pointer (some ⟨m, 0, none⟩), .pointer (some ⟨a2, 0, none⟩), .pointer (some ⟨m2, 0, none⟩)] : Array Value).toList, u.oneCell' = true := by
  intro u hu
  simp at hu
  rcases hu with rfl | rfl | rfl | rfl <;> rfl
theorem and1 {x : Int} (h0 : (Lit.int .i64 x).wf = true) : bits .and .i64 x 1 = 0 ∨ bits .and .i64 x 1 = 1 := by
  unfold bits
  have h : (BitVec.ofInt 64 x &&& BitVec.ofInt 64 1).toNat < 2 := by
    rw [BitVec.toNat_and]
    exact Nat.lt_of_le_of_lt Nat.and_le_right (by decide)
  show IntKind.i64.wrap ((BitVec.ofInt 64 x &&& BitVec.ofInt 64 1).toNat : Int) = 0 ∨ IntKind.i64.wrap ((BitVec.ofInt 64 x &&& BitVec.ofInt 64 1).toNat : Int) = 1
  rw [IntWalk.i64_in _ (by omega)]
  omega
end Sp
end Go.Proofs.Ythbmlpiplfbehaa
