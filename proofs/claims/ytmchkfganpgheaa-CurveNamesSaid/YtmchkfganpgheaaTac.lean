/-
  What walks find by themselves, under short names.
-/
import Derived.Test.YtmchkfganpgheaaAny
namespace Go.Proofs.Ytmchkfganpgheaa
set_option linter.unusedSimpArgs false
set_option linter.unusedVariables false
open Go Go.RowKit
namespace Sp
open M
theorem bpp {α : Type} {a b : α} (h : a = b := by first | (dsimp only [putL, setNth, evL, nth, Nat.zero_add, Nat.add_zero, Nat.reduceAdd, Nat.reduceMul, Nat.reduceSub, Int.reduceToNat, Int.toNat_natCast, Nat.mul_one, Nat.one_mul, gi_c0, gi_c1, gi_c2, gi_c3]; rfl) | (dsimp only [putL, setNth, evL, nth, Nat.zero_add, Nat.add_zero, Nat.reduceAdd, Nat.reduceMul, Nat.reduceSub, Int.reduceToNat, Int.toNat_natCast, Nat.mul_one, Nat.one_mul, gi_c0, gi_c1, gi_c2, gi_c3]; done)) : a = b := h
theorem stt {α : Type} {a b : List α} (h : a = b := by first | (dsimp only [List.set]; done) | (dsimp only [List.set]; rfl)) : a = b := h
section
variable {w0 W : World} {mu : List Nat} {bs : Mem}
theorem gbk (b : Nat) {i : Nat} {A : Array Value} {T : TypeId} (h : bs[i]? = some (b, A, T) := by first | exact g0 | exact g1 | exact g2 | exact g3 | exact g4 | exact g5 | exact g6 | exact g7 | exact g8 | exact g9 | exact g10 | exact g11 | exact g12 | exact g13 | exact g14 | exact g15) : bs[i]? = some (b, A, T) := h
theorem mbk (b : Nat) {i : Nat} {A : Array Value} {T : TypeId} (h : bs[i]? = some (b, A, T) := by first | exact g0 | exact g1 | exact g2 | exact g3 | exact g4 | exact g5 | exact g6 | exact g7 | exact g8 | exact g9 | exact g10 | exact g11 | exact g12 | exact g13 | exact g14 | exact g15) : (b, A, T) ∈ bs := List.mem_of_getElem? h
theorem hbk (hw : OwnM w0 mu W bs) (b : Nat) {i : Nat} {A : Array Value} {T : TypeId} (h : bs[i]? = some (b, A, T) := by first | exact g0 | exact g1 | exact g2 | exact g3 | exact g4 | exact g5 | exact g6 | exact g7 | exact g8 | exact g9 | exact g10 | exact g11 | exact g12 | exact g13 | exact g14 | exact g15) : W.heap[b]? = some (.cells A T (0, 0)) := hw.block (List.mem_of_getElem? h)
theorem rdk {b : Nat} {A : Array Value} (h : RdA w0 mu bs b A := by first | exact RdA.own g0 | exact RdA.own g1 | exact RdA.own g2 | exact RdA.own g3 | exact RdA.own g4 | exact RdA.own g5 | exact RdA.own g6 | exact RdA.own g7 | exact RdA.own g8 | exact RdA.own g9 | exact RdA.own g10 | exact RdA.own g11 | exact RdA.own g12 | exact RdA.own g13 | exact RdA.own g14 | exact RdA.own g15 | exact RdA.old (by assumption) (by first | simp | assumption)) : RdA w0 mu bs b A := h
theorem sbl {l1 l2 : Mem} (h : l1.Sublist l2 := by repeat (first | exact List.sublist_append_left _ _ | exact List.Sublist.refl _ | refine List.Sublist.cons _ ?_ | refine List.Sublist.trans ?_ (List.sublist_append_right _ _))) : l1.Sublist l2 := h
theorem sbm {l1 l2 : Mem} (h : l1.Sublist l2 := by repeat (first | exact List.Sublist.refl _ | exact List.sublist_append_left _ _ | refine List.Sublist.cons_cons _ ?_ | refine List.Sublist.cons _ ?_ | refine List.Sublist.trans ?_ (List.sublist_append_right _ _))) : l1.Sublist l2 := h
end
section
variable {P : Program} {f : FuncId} {fn : Func} {c : Code} {args : Array Value} {w : World} {k : Nat} {rs : Array ResultVar} {l : List Value}
theorem padE (hn : fn.ntmps = k) (hl : args.toList ++ List.replicate (k - args.size) undef = l) : args ++ Array.replicate (fn.ntmps - args.size) undef = l.toArray := by
  subst hl hn
  apply Array.ext'
  simp
theorem pureE (hf : P.funcs[f]? = some fn) (hn : fn.ntmps = k) (hrs : fn.results = rs) {v : Value} (h : SP P w [] c (doneK P w [] rs (fun v' _ => v' = v)) l []) (hb : fn.body = some c := by rfl)
    (hl : args.toList ++ List.replicate (k - args.size) undef = l := by first | (simp only [List.size_toArray, List.length_cons, List.length_nil, Nat.reduceAdd, Nat.reduceSub, List.replicate_succ, List.replicate_zero, List.cons_append, List.nil_append]; done) | (simp only [List.size_toArray, List.length_cons, List.length_nil, Nat.reduceAdd, Nat.reduceSub, List.replicate_succ, List.replicate_zero, List.cons_append, List.nil_append]; rfl)) :
    Calls P f args w fun e w' => e = .returned v ∧ Below w.heap.size w w' := pure_of_SP hf hb l (padE hn hl) rs hrs v h
theorem mutE (hf : P.funcs[f]? = some fn) (hn : fn.ntmps = k) (hrs : fn.results = rs) {b : Nat} {A A' : Array Value} {T : TypeId} {v : Value} (hw : w.heap[b]? = some (.cells A T (0, 0))) (h : SP P w [b] c (doneK P w [b] rs (fun v' bs' => v' = v ∧ [(b, A', T)].Sublist bs')) l [(b, A, T)]) (hb : fn.body = some c := by rfl)
    (hl : args.toList ++ List.replicate (k - args.size) undef = l := by first | (simp only [List.size_toArray, List.length_cons, List.length_nil, Nat.reduceAdd, Nat.reduceSub, List.replicate_succ, List.replicate_zero, List.cons_append, List.nil_append]; done) | (simp only [List.size_toArray, List.length_cons, List.length_nil, Nat.reduceAdd, Nat.reduceSub, List.replicate_succ, List.replicate_zero, List.cons_append, List.nil_append]; rfl)) :
    Calls P f args w fun e w' => e = .returned v ∧ OwnM w [b] w' [(b, A', T)] := mut_of_SP hf hb hw l (padE hn hl) rs hrs v A' h
theorem newE (hf : P.funcs[f]? = some fn) (hn : fn.ntmps = k) (hrs : fn.results = rs) {A : Array Value} {T : TypeId} {V : Nat → Value} (h : SP P w [] c (doneK P w [] rs (fun v' bs' => ∃ b, v' = V b ∧ [(b, A, T)].Sublist bs')) l []) (hb : fn.body = some c := by rfl)
    (hl : args.toList ++ List.replicate (k - args.size) undef = l := by first | (simp only [List.size_toArray, List.length_cons, List.length_nil, Nat.reduceAdd, Nat.reduceSub, List.replicate_succ, List.replicate_zero, List.cons_append, List.nil_append]; done) | (simp only [List.size_toArray, List.length_cons, List.length_nil, Nat.reduceAdd, Nat.reduceSub, List.replicate_succ, List.replicate_zero, List.cons_append, List.nil_append]; rfl)) :
    Calls P f args w fun e w' => ∃ b, e = .returned (V b) ∧ OwnM w [] w' [(b, A, T)] := new_of_SP hf hb l (padE hn hl) rs hrs V h
theorem callE {mu : List Nat} {bs0 : Mem} (hf : P.funcs[f]? = some fn) (hn : fn.ntmps = k) (hrs : fn.results = rs) (h0 : OwnM w mu w bs0) (R : Value → Mem → Prop) (h : SP P w mu c (doneK P w mu rs R) l bs0) (hb : fn.body = some c := by rfl)
    (hl : args.toList ++ List.replicate (k - args.size) undef = l := by first | (simp only [List.size_toArray, List.length_cons, List.length_nil, Nat.reduceAdd, Nat.reduceSub, List.replicate_succ, List.replicate_zero, List.cons_append, List.nil_append]; done) | (simp only [List.size_toArray, List.length_cons, List.length_nil, Nat.reduceAdd, Nat.reduceSub, List.replicate_succ, List.replicate_zero, List.cons_append, List.nil_append]; rfl)) :
    Calls P f args w fun e w' => ∃ v bs', e = .returned v ∧ R v bs' ∧ OwnM w mu w' bs' := calls_of_SP hf hb h0 l (padE hn hl) rs hrs R h
end
end Sp
namespace F
open M Sp
section
variable {P : Program} {w0 : World} {mu : List Nat} {bs : Mem} {l : List Value} {Q : ExitP}
theorem SPa {id : Nat} {L : List Oper} {L1 : List (Nat × Oper)} (E D : List Nat) (keep : Mem) (ord : List Nat) (hm : P.follows .mixedOrders = true) (h : SF P L.toArray w0 mu E D keep L1 Q l bs) (hB : anyB L.toArray E D ord = true := by kernel_rfl)
    (h1 : (ord.filterMap fun i => (L[i]?).map fun o => (i, o)) = L1 := by first | (simp only [List.filterMap_cons, List.filterMap_nil, List.getElem?_cons_zero, List.getElem?_cons_succ, Option.map_some]; done) | (simp only [List.filterMap_cons, List.filterMap_nil, List.getElem?_cons_zero, List.getElem?_cons_succ, Option.map_some]; rfl)) (hkp : Kept keep bs := by first | exact Kept.nil | (simp [Kept]; done)) :
    SP P w0 mu (.region id L.toArray true) Q l bs := SP_any E D keep ord hm hB h1 hkp h
end
end F
end Go.Proofs.Ytmchkfganpgheaa
