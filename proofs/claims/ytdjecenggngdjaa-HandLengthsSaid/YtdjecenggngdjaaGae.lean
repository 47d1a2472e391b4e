/-
  Joined texts: Sh, Tab, Es. No conditions.
-/
import Derived.Test.YtdjecenggngdjaaGad
import Derived.Test.YtdjecenggngdjaaRows
namespace Go.Proofs.Ytdjecenggngdjaa
set_option linter.unusedSimpArgs false
set_option linter.unusedVariables false
set_option maxHeartbeats 16000000
section
open Go Go.RowKit
namespace Sp
open M
section
variable {P : Program} {tab : Tab} {w0 : World} {mu : List Nat} {bs : Mem} {l l' : List Value} {ops : Array Oper} {rest : List Oper} {Q : ExitP}
variable {dst : Option Tmp} {op : Op} {ty : TypeId} {pos : String} {af : Array Edge}
theorem cutm_zero {n off esz : Nat} : (if n = 0 then off else off + 0 * esz) = off := by split <;> simp
theorem SL.v {v : Value} (hv : ValO P w0 mu bs l ⟨dst, op, ty, pos, af, none⟩ v) (h : SL P ops w0 mu rest Q l' bs) (hp : putL l dst v = l' := by exact bpp) : SL P ops w0 mu (⟨dst, op, ty, pos, af, none⟩ :: rest) Q l bs := SL.val hv hp h
theorem SL.e (ht : TabOk P tab) {v : Value} (h : SL P ops w0 mu rest Q l' bs) (hev : evF tab l op = some v := by rfl) (hp : putL l dst v = l' := by exact bpp) : SL P ops w0 mu (⟨dst, op, ty, pos, af, none⟩ :: rest) Q l bs := SL.val (ValO.ev ht hev) hp h
theorem SL.gT {g : Nat × Bool} (h : SL P ops w0 mu (⟨dst, op, ty, pos, af, none⟩ :: rest) Q l bs) (hg : Region.wanted ⟨dst, op, ty, pos, af, some g⟩ (yielded ops l.toArray) = true := by rfl) : SL P ops w0 mu (⟨dst, op, ty, pos, af, some g⟩ :: rest) Q l bs := SL.guardT hg h
theorem SL.gF {g : Nat × Bool} (h : SL P ops w0 mu rest Q l' bs) (hg : Region.wanted ⟨dst, op, ty, pos, af, some g⟩ (yielded ops l.toArray) = false := by rfl) (hp : putL l dst undef = l' := by exact bpp) : SL P ops w0 mu (⟨dst, op, ty, pos, af, some g⟩ :: rest) Q l bs := SL.guardF hg hp h
theorem SL.c (b : Bool) (ht : TabOk P tab) {t : Bool} (h : SL P ops w0 mu rest Q l' bs) (hev : evF tab l op = some (.bool t) := by rfl) (hb : t = b := by first | rfl | (simp only [decide_eq_true_eq, decide_eq_false_iff_not, beq_iff_eq, bne_iff_ne, beq_eq_false_iff_ne, bne_eq_false_iff_eq, ne_eq, gt_iff_lt, ge_iff_le]; first | done | omega)) (hp : putL l dst (.bool b) = l' := by exact bpp) : SL P ops w0 mu (⟨dst, op, ty, pos, af, none⟩ :: rest) Q l bs :=
  SL.val (ValO.evB ht hev hb) hp h
theorem SL.ixA (ht : TabOk P tab) {t : Nat} {x y : Operand} {b off : Nat} {k : IntKind} {i : Int} {n e esz sz m : Nat} (h : SL P ops w0 mu rest Q l' bs) (hx : evL l x = .pointer (some ⟨b, off, none⟩) := by rfl) (hy : evL l y = .int k i := by rfl) (hl : Sp.look tab t = some (.arr n e esz, sz) := by rfl) (h0 : 0 ≤ i := by first | omega | (simp; done) | (simp; omega)) (h1 : i < n := by first | omega | (simp; done) | (simp; omega)) (hm : off + i.toNat * esz = m := by first | (simp only [Nat.zero_add, Nat.mul_one, Nat.one_mul, Int.toNat_natCast]; done) | (simp only [Nat.zero_add, Nat.mul_one, Nat.one_mul, Int.toNat_natCast]; rfl) | rfl) (hp : putL l dst (.pointer (some ⟨b, m, none⟩)) = l' := by exact bpp) : SL P ops w0 mu (⟨dst, .indexAddr t x y, ty, pos, af, none⟩ :: rest) Q l bs :=
  SL.val (ValO.idxA ht b off hx k i hy n e esz sz hl h0 h1 m hm) hp h
theorem SL.ixS (ht : TabOk P tab) {t : Nat} {x y : Operand} {b off n c : Nat} {k : IntKind} {i : Int} {e esz by_ sz m : Nat} (h : SL P ops w0 mu rest Q l' bs) (hx : evL l x = .slice (some ⟨b, off, none⟩) n c := by rfl) (hy : evL l y = .int k i := by rfl) (hl : Sp.look tab t = some (.sl e esz by_, sz) := by rfl) (h0 : 0 ≤ i := by first | omega | (simp; done) | (simp; omega)) (h1 : i < n := by first | omega | (simp; done) | (simp; omega)) (hm : off + i.toNat * esz = m := by first | (simp only [Nat.zero_add, Nat.mul_one, Nat.one_mul, Int.toNat_natCast]; done) | (simp only [Nat.zero_add, Nat.mul_one, Nat.one_mul, Int.toNat_natCast]; rfl) | rfl) (hp : putL l dst (.pointer (some ⟨b, m, none⟩)) = l' := by exact bpp) : SL P ops w0 mu (⟨dst, .indexAddr t x y, ty, pos, af, none⟩ :: rest) Q l bs :=
  SL.val (ValO.idxS ht b off n c hx k i hy e esz by_ sz hl h0 h1 m hm) hp h
theorem SL.ldI (ht : TabOk P tab) {t : Nat} {x : Operand} {b j : Nat} {k0 k : IntKind} {sz : Nat} {L : List Int} (h : SL P ops w0 mu rest Q l' bs) (hx : evL l x = .pointer (some ⟨b, j, none⟩) := by rfl) (hl : Sp.look tab t = some (.int k0, sz) := by rfl) (hr : RdA w0 mu bs b (ints k L) := by exact rdk) (hj : j < L.length := by first | omega | (simp; done) | (simp; omega)) (hp : putL l dst (.int k (gi L j)) = l' := by exact bpp) : SL P ops w0 mu (⟨dst, .load t x, ty, pos, af, none⟩ :: rest) Q l bs :=
  SL.val (ValO.ldInt ht b j hx k0 sz hl k L hr hj) hp h
theorem SL.ldC (ht : TabOk P tab) {t : Nat} {x : Operand} {b j : Nat} {td : TD} {sz : Nat} {A : Array Value} {v : Value} (h : SL P ops w0 mu rest Q l' bs) (hx : evL l x = .pointer (some ⟨b, j, none⟩) := by rfl) (hl : Sp.look tab t = some (td, sz) := by rfl) (hc : td.isCell = true := by rfl) (hr : RdA w0 mu bs b A := by exact rdk) (hv : A[j]? = some v := by rfl) (hp : putL l dst v = l' := by exact bpp) : SL P ops w0 mu (⟨dst, .load t x, ty, pos, af, none⟩ :: rest) Q l bs :=
  SL.val (ValO.ldCell ht b j hx td sz hl hc A hr v hv) hp h
theorem SL.ldR (ht : TabOk P tab) {t : Nat} {x : Operand} {b : Nat} {td : TD} {n : Nat} {A : Array Value} (h : SL P ops w0 mu rest Q l' bs) (hx : evL l x = .pointer (some ⟨b, 0, none⟩) := by rfl) (hl : Sp.look tab t = some (td, n) := by rfl) (hc : td.isAgg = true := by rfl) (hr : RdA w0 mu bs b A := by exact rdk) (hn : A.size = n := by first | (simp [ints_size]; done) | (simp [ints_size]; omega)) (hp : putL l dst (.agg A) = l' := by exact bpp) : SL P ops w0 mu (⟨dst, .load t x, ty, pos, af, none⟩ :: rest) Q l bs :=
  SL.val (ValO.ldRow ht b hx td n hl hc A hr hn) hp h
theorem SL.ldP (ht : TabOk P tab) {t : Nat} {x : Operand} {b off : Nat} {td : TD} {n : Nat} {A B : Array Value} (h : SL P ops w0 mu rest Q l' bs) (hx : evL l x = .pointer (some ⟨b, off, none⟩) := by rfl) (hl : Sp.look tab t = some (td, n) := by rfl) (hc : td.isAgg = true := by rfl) (hr : RdA w0 mu bs b A := by exact rdk) (hn : off + n ≤ A.size := by omega) (hB : A.extract off (off + n) = B := by rfl) (hp : putL l dst (.agg B) = l' := by exact bpp) : SL P ops w0 mu (⟨dst, .load t x, ty, pos, af, none⟩ :: rest) Q l bs :=
  SL.val (ValO.ldPart ht b off hx td n hl hc A hr hn B hB) hp h
theorem SL.ix (ht : TabOk P tab) {t : Nat} {x y : Operand} {k j k' : IntKind} {L : List Int} {i : Int} {n e sz sz' m : Nat} (h : SL P ops w0 mu rest Q l' bs) (hl : Sp.look tab t = some (.arr n e 1, sz) := by rfl) (hle : Sp.look tab e = some (.int k', sz') := by rfl) (hx : evL l x = .agg (ints k L) := by rfl) (hy : evL l y = .int j i := by rfl) (hL : L.length = n := by first | (simp; done) | (simp; omega) | omega) (h0 : 0 ≤ i := by first | omega | (simp; done) | (simp; omega)) (h1 : i < n := by first | omega | (simp; done) | (simp; omega)) (hm : i.toNat = m := by first | (simp only [Nat.zero_add, Nat.mul_one, Nat.one_mul, Int.toNat_natCast]; done) | (simp only [Nat.zero_add, Nat.mul_one, Nat.one_mul, Int.toNat_natCast]; rfl) | rfl) (hp : putL l dst (.int k (gi L m)) = l' := by exact bpp) : SL P ops w0 mu (⟨dst, .index t x y, ty, pos, af, none⟩ :: rest) Q l bs :=
  SL.val (ValO.index ht hl hle hx hy hL h0 h1 m hm) hp h
theorem SL.sh {o : BinOp} {t t' : TypeId} {x y : Operand} {k k' : IntKind} {a b : Int} {v : Value} (h : SL P ops w0 mu rest Q l' bs) (hx : evL l x = .int k a := by rfl) (hy : evL l y = .int k' b := by rfl) (hb : 0 ≤ b := by first | omega | (simp; done) | (simp; omega)) (hv : (match o with | .shl => some (.int k (k.wrap (a * 2 ^ (Min.min b.toNat k.bits)))) | .shr => some (.int k (a.fdiv (2 ^ (Min.min b.toNat k.bits)))) | _ => none) = some v := by rfl) (hp : putL l dst v = l' := by exact bpp) : SL P ops w0 mu (⟨dst, .binOp o t x y t', ty, pos, af, none⟩ :: rest) Q l bs :=
  SL.val (ValO.shift k k' a b hx hy hb v hv) hp h
theorem SL.dv {o : BinOp} {t t' : TypeId} {x y : Operand} {k : IntKind} {a b : Int} {v : Value} (h : SL P ops w0 mu rest Q l' bs) (hx : evL l x = .int k a := by rfl) (hy : evL l y = .int k b := by rfl) (hb : b ≠ 0 := by first | omega | (simp; done) | (simp; omega)) (hv : (match o with | .quo => some (.int k (k.wrap (a.tdiv b))) | .rem => some (.int k (a.tmod b)) | _ => none) = some v := by rfl) (hp : putL l dst v = l' := by exact bpp) : SL P ops w0 mu (⟨dst, .binOp o t x y t', ty, pos, af, none⟩ :: rest) Q l bs :=
  SL.val (ValO.divm k a b hx hy hb v hv) hp h
theorem SL.nc {x : Operand} {a : Addr} (h : SL P ops w0 mu rest Q l' bs) (hx : evL l x = .pointer (some a) := by rfl) (hp : putL l dst (.pointer (some a)) = l' := by exact bpp) : SL P ops w0 mu (⟨dst, .nilCheck x, ty, pos, af, none⟩ :: rest) Q l bs :=
  SL.val (ValO.nilc hx) hp h
theorem SL.ctA (ht : TabOk P tab) {t : TypeId} {x : Operand} {lo hi : Option Operand} {b off n e esz sz : Nat} (a z : Nat) {m c d : Nat} (h : SL P ops w0 mu rest Q l' bs) (hx : evL l x = .pointer (some ⟨b, off, none⟩) := by rfl) (hl : Sp.look tab t = some (.arr n e esz, sz) := by rfl) (hlo : bnd (lo.map (evL l)) 0 a := by first | rfl | (simp [bnd, evL]; done) | (simp [bnd, evL]; omega)) (hhi : bnd (hi.map (evL l)) n z := by first | rfl | (simp [bnd, evL]; done) | (simp [bnd, evL]; omega)) (h1 : a ≤ z := by first | omega | (simp; done) | (simp; omega)) (h2 : z ≤ n := by first | omega | (simp; done) | (simp; omega)) (hm : (if n = a then off else off + a * esz) = m := by first | exact cutm_zero | exact cutm_ne (by first | omega | decide | (simp; done) | (simp; omega)) (by (try simp only [Nat.zero_add, Nat.add_zero, Nat.zero_mul, Nat.mul_one, Nat.one_mul, Nat.reduceMul, Nat.reduceAdd]); rfl) | exact cutm_eq (by first | omega | decide)) (hc : z - a = c := by (try simp only [Nat.sub_zero, Nat.reduceSub]); rfl) (hd : n - a = d := by (try simp only [Nat.sub_zero, Nat.reduceSub]); rfl) (hp : putL l dst (.slice (some ⟨b, m, none⟩) c d) = l' := by exact bpp) : SL P ops w0 mu (⟨dst, .slice t x lo hi none, ty, pos, af, none⟩ :: rest) Q l bs :=
  SL.val (ValO.cutA ht hx hl hlo hhi h1 h2 m c d hm hc hd) hp h
theorem SL.ctS (ht : TabOk P tab) {t : TypeId} {x : Operand} {lo hi : Option Operand} {b off len cap e esz by_ sz : Nat} (a z : Nat) {m c d : Nat} (h : SL P ops w0 mu rest Q l' bs) (hx : evL l x = .slice (some ⟨b, off, none⟩) len cap := by rfl) (hl : Sp.look tab t = some (.sl e esz by_, sz) := by rfl) (hlo : bnd (lo.map (evL l)) 0 a := by first | rfl | (simp [bnd, evL]; done) | (simp [bnd, evL]; omega)) (hhi : bnd (hi.map (evL l)) len z := by first | rfl | (simp [bnd, evL]; done) | (simp [bnd, evL]; omega)) (h1 : a ≤ z := by first | omega | (simp; done) | (simp; omega)) (h2 : z ≤ cap := by first | omega | (simp; done) | (simp; omega)) (hm : (if cap = a then off else off + a * esz) = m := by first | exact cutm_zero | exact cutm_ne (by first | omega | decide | (simp; done) | (simp; omega)) (by (try simp only [Nat.zero_add, Nat.add_zero, Nat.zero_mul, Nat.mul_one, Nat.one_mul, Nat.reduceMul, Nat.reduceAdd]); rfl) | exact cutm_eq (by first | omega | decide)) (hc : z - a = c := by (try simp only [Nat.sub_zero, Nat.reduceSub]); rfl) (hd : cap - a = d := by (try simp only [Nat.sub_zero, Nat.reduceSub]); rfl) (hp : putL l dst (.slice (some ⟨b, m, none⟩) c d) = l' := by exact bpp) : SL P ops w0 mu (⟨dst, .slice t x lo hi none, ty, pos, af, none⟩ :: rest) Q l bs :=
  SL.val (ValO.cutS ht hx hl hlo hhi h1 h2 m c d hm hc hd) hp h
theorem SL.stI (ht : TabOk P tab) {t : TypeId} {x y : Operand} {b j : Nat} {k : IntKind} {v : Int} {td : TD} {i : Nat} {L : List Int} {T : TypeId} {bs' : Mem} (h : SL P ops w0 mu rest Q l' bs') (hx : evL l x = .pointer (some ⟨b, j, none⟩) := by rfl) (hy : evL l y = .int k v := by rfl) (hl : Sp.look tab t = some (td, 1) := by rfl) (hi : bs[i]? = some (b, ints k L, T) := by exact gbk _) (hj : j < L.length := by first | omega | (simp; done) | (simp; omega)) (hbs : bs.set i (b, ints k (L.set j v), T) = bs' := by exact stt) (hp : putL l dst undef = l' := by exact bpp) : SL P ops w0 mu (⟨dst, .store t x y, ty, pos, af, none⟩ :: rest) Q l bs :=
  SL.storeInt ht hx hy hl hi hj hbs hp h
theorem SL.stR (ht : TabOk P tab) {t : TypeId} {x y : Operand} {b : Nat} {k : IntKind} {L : List Int} {td : TD} {n i : Nat} {A : Array Value} {T : TypeId} {bs' : Mem} (h : SL P ops w0 mu rest Q l' bs') (hx : evL l x = .pointer (some ⟨b, 0, none⟩) := by rfl) (hy : evL l y = .agg (ints k L) := by rfl) (hl : Sp.look tab t = some (td, n) := by rfl) (hi : bs[i]? = some (b, A, T) := by exact gbk _) (hn : (ints k L).size = n := by first | (simp [ints_size]; done) | (simp [ints_size]; omega)) (hsz : A.size = n := by first | (simp [ints_size]; done) | (simp [ints_size]; omega)) (hbs : bs.set i (b, ints k L, T) = bs' := by exact stt) (hp : putL l dst undef = l' := by exact bpp) : SL P ops w0 mu (⟨dst, .store t x y, ty, pos, af, none⟩ :: rest) Q l bs :=
  SL.storeRow ht hx hy hl hi hn hsz ints_mem hbs hp h
theorem SL.stA (ht : TabOk P tab) {t : TypeId} {x y : Operand} {b : Nat} {B : Array Value} {td : TD} {n i : Nat} {A : Array Value} {T : TypeId} {bs' : Mem} (h1 : ∀ u ∈ B.toList, u.oneCell' = true) (h : SL P ops w0 mu rest Q l' bs') (hx : evL l x = .pointer (some ⟨b, 0, none⟩) := by rfl) (hy : evL l y = .agg B := by rfl) (hl : Sp.look tab t = some (td, n) := by rfl) (hi : bs[i]? = some (b, A, T) := by exact gbk _) (hn : B.size = n := by first | (simp [ints_size]; done) | (simp [ints_size]; omega)) (hsz : A.size = n := by first | (simp [ints_size]; done) | (simp [ints_size]; omega)) (hbs : bs.set i (b, B, T) = bs' := by exact stt) (hp : putL l dst undef = l' := by exact bpp) : SL P ops w0 mu (⟨dst, .store t x y, ty, pos, af, none⟩ :: rest) Q l bs :=
  SL.storeRow ht hx hy hl hi hn hsz h1 hbs hp h
theorem SL.stP (ht : TabOk P tab) {t : TypeId} {x y : Operand} {b off : Nat} {v : Value} {td : TD} {n i : Nat} {A A' : Array Value} {T : TypeId} {bs' : Mem} (h : SL P ops w0 mu rest Q l' bs') (hx : evL l x = .pointer (some ⟨b, off, none⟩) := by rfl) (hy : evL l y = v := by rfl) (hl : Sp.look tab t = some (td, n) := by rfl) (hi : bs[i]? = some (b, A, T) := by exact gbk _) (hn : (v : Value).cells.size = n := by rfl) (hsz : off + n ≤ A.size := by omega) (h1 : ∀ u ∈ (v : Value).cells.toList, u.oneCell' = true := by first | exact one1) (hA : putAt A off (v : Value).cells.toList = A' := by rfl) (hbs : bs.set i (b, A', T) = bs' := by exact stt) (hp : putL l dst undef = l' := by exact bpp) : SL P ops w0 mu (⟨dst, .store t x y, ty, pos, af, none⟩ :: rest) Q l bs :=
  SL.store ht hx hy hl hi hn hsz h1 hA hbs hp h
theorem SL.stQ (ht : TabOk P tab) {t : TypeId} {x y : Operand} {b off : Nat} {B : Array Value} {td : TD} {n i : Nat} {A A' : Array Value} {T : TypeId} {bs' : Mem} (h : SL P ops w0 mu rest Q l' bs') (hx : evL l x = .pointer (some ⟨b, off, none⟩) := by rfl) (hy : evL l y = (.agg B) := by rfl) (hl : Sp.look tab t = some (td, n) := by rfl) (hi : bs[i]? = some (b, A, T) := by exact gbk _) (hn : ((.agg B) : Value).cells.size = n := by first | (simp [Value.cells, ints]; done) | (simp [Value.cells, ints]; omega)) (hsz : off + n ≤ A.size := by omega) (h1 : ∀ u ∈ ((.agg B) : Value).cells.toList, u.oneCell' = true := by first | exact ints_mem | simp [Value.cells, ints]) (hA : putAt A off ((.agg B) : Value).cells.toList = A' := by rfl) (hbs : bs.set i (b, A', T) = bs' := by exact stt) (hp : putL l dst undef = l' := by exact bpp) : SL P ops w0 mu (⟨dst, .store t x y, ty, pos, af, none⟩ :: rest) Q l bs :=
  SL.store ht hx hy hl hi hn hsz h1 hA hbs hp h
theorem SL.al {T : TypeId} {A : Array Value} (hz : (P.info? T).map (·.zero) = some (some (.agg A))) {l' : Nat → List Value} (h : ∀ b, SL P ops w0 mu rest Q (l' b) ((b, A, T) :: bs)) (hp : ∀ b, putL l dst (.pointer (some ⟨b, 0, none⟩)) = l' b := by intro _; exact bpp) : SL P ops w0 mu (⟨dst, .alloc T, ty, pos, af, none⟩ :: rest) Q l bs :=
  SL.alloc hz hp h
theorem SL.bx {T : TypeId} {x : Operand} {A : Array Value} {l' : Nat → List Value} (h : ∀ b, SL P ops w0 mu rest Q (l' b) ((b, A, T) :: bs)) (hx : (evL l x).cells = A := by first | (dsimp only [evL, nth, Value.cells]; done) | (dsimp only [evL, nth, Value.cells]; rfl)) (hp : ∀ b, putL l dst (.pointer (some ⟨b, 0, none⟩)) = l' b := by intro _; exact bpp) : SL P ops w0 mu (⟨dst, .box T x, ty, pos, af, none⟩ :: rest) Q l bs :=
  SL.box hx hp h
theorem SL.clN {f : FuncId} {args : List Operand} {ats : Array TypeId} (hent : ∀ (A : Array Value) (w : World), (callFunc f A).run P w = .ok (.enter f A) w) {vals : List Value} (hv : args.map (evL l) = vals) {A : Array Value} {T : TypeId} {V : Nat → Value} {l' : Nat → List Value} (hc : ∀ w, OwnM w0 mu w bs → Calls P f vals.toArray w fun e w' => ∃ b, e = .returned (V b) ∧ OwnM w [] w' [(b, A, T)]) (h : ∀ b, SL P ops w0 mu rest Q (l' b) ((b, A, T) :: bs)) (hp : ∀ b, putL l dst (V b) = l' b := by intro _; exact bpp) : SL P ops w0 mu (⟨dst, .call { callee := .value (.func f), args := args.toArray, argTypes := ats }, ty, pos, af, none⟩ :: rest) Q l bs :=
  SL.callN hent hv hc hp h
theorem SL.cp (ht : TabOk P tab) {d s : Operand} {dT sT : TypeId} {b off dl dc b2 off2 sl sc e by_ sz : Nat} {i : Nat} {A A' B : Array Value} {T : TypeId} {bs' : Mem} (n : Nat) (hA' : putAt A off (B.extract off2 (off2 + n)).toList = A') (h : SL P ops w0 mu rest Q l' bs') (hd : evL l d = .slice (some ⟨b, off, none⟩) dl dc := by rfl) (hs : evL l s = .slice (some ⟨b2, off2, none⟩) sl sc := by rfl) (hl : Sp.look tab dT = some (.sl e 1 by_, sz) := by rfl) (hi : bs[i]? = some (b, A, T) := by exact gbk _) (hr : RdA w0 mu bs b2 B := by exact rdk) (hn : min sl dl = n := by first | omega | (simp; done) | (simp; omega)) (hA : off + n ≤ A.size := by first | omega | (simp [ints_size]; done) | (simp [ints_size]; omega)) (hB : off2 + n ≤ B.size := by first | omega | (simp [ints_size]; done) | (simp [ints_size]; omega)) (h1 : ∀ u ∈ B.toList, u.oneCell' = true := by first | exact ints_mem | assumption) (hbs : bs.set i (b, A', T) = bs' := by exact stt) (hp : putL l dst (.int .i64 (n : Int)) = l' := by exact bpp) : SL P ops w0 mu (⟨dst, .call { callee := .builtin .copy, args := #[d, s], argTypes := #[dT, sT] }, ty, pos, af, none⟩ :: rest) Q l bs :=
  SL.copy ht hd hs hl hi hr n hn hA hB h1 hA' hbs hp h
end
end Sp
namespace F
open M Sp
section
variable {P : Program} {tab : Tab} {w0 : World} {mu : List Nat} {bs : Mem} {l l' : List Value} {ops : Array Oper} {E D : List Nat} {keep : Mem} {rest : List (Nat × Oper)} {Q : ExitP} {i0 : Nat}
variable {dst : Option Tmp} {op : Op} {ty : TypeId} {pos : String} {af : Array Edge}
theorem SF.v {v : Value} (hv : ValO P w0 mu bs l ⟨dst, op, ty, pos, af, none⟩ v) (h : SF P ops w0 mu E D keep rest Q l' bs) (hE : E.contains i0 = false := by rfl) (hD : D.contains i0 = false := by rfl) (hf : freshM op = none := by rfl) (hi : isPure op = false := by rfl) (hp : putL l dst v = l' := by exact bpp) : SF P ops w0 mu E D keep ((i0, ⟨dst, op, ty, pos, af, none⟩) :: rest) Q l bs := SF.val hE hf hi hD hv hp h
theorem SF.vK {v : Value} (hv : ∀ m, Kept keep m → ValO P w0 mu m l ⟨dst, op, ty, pos, af, none⟩ v) (h : SF P ops w0 mu E D keep rest Q l' bs) (hE : E.contains i0 = false := by rfl) (hD : D.contains i0 = true := by rfl) (hf : freshM op = none := by rfl) (hi : isPure op = false := by rfl) (hp : putL l dst v = l' := by exact bpp) : SF P ops w0 mu E D keep ((i0, ⟨dst, op, ty, pos, af, none⟩) :: rest) Q l bs := SF.valK hE hf hi hD hv hp h
theorem SF.e (ht : TabOk P tab) {v : Value} (h : SF P ops w0 mu E D keep rest Q l' bs) (hE : E.contains i0 = false := by rfl) (hD : D.contains i0 = false := by rfl) (hf : freshM op = none := by rfl) (hi : isPure op = false := by rfl) (hev : evF tab l op = some v := by rfl) (hp : putL l dst v = l' := by exact bpp) : SF P ops w0 mu E D keep ((i0, ⟨dst, op, ty, pos, af, none⟩) :: rest) Q l bs := SF.val hE hf hi hD (ValO.ev ht hev) hp h
theorem SF.p (ht : TabOk P tab) {v : Value} (h : SF P ops w0 mu E D keep rest Q l' bs) (hE : E.contains i0 = false := by rfl) (hi : isPure op = true := by rfl) (hev : evF tab l op = some v := by rfl) (hp : putL l dst v = l' := by exact bpp) : SF P ops w0 mu E D keep ((i0, ⟨dst, op, ty, pos, af, none⟩) :: rest) Q l bs := SF.pure ht hE hi hev hp h
theorem SF.c (b : Bool) (ht : TabOk P tab) {t : Bool} (h : SF P ops w0 mu E D keep rest Q l' bs) (hev : evF tab l op = some (.bool t) := by rfl) (hb : t = b := by first | rfl | (simp only [decide_eq_true_eq, decide_eq_false_iff_not, beq_iff_eq, bne_iff_ne, beq_eq_false_iff_ne, bne_eq_false_iff_eq, ne_eq, gt_iff_lt, ge_iff_le]; first | done | omega)) (hE : E.contains i0 = false := by rfl) (hD : D.contains i0 = false := by rfl) (hf : freshM op = none := by rfl) (hi : isPure op = false := by rfl) (hp : putL l dst (.bool b) = l' := by exact bpp) : SF P ops w0 mu E D keep ((i0, ⟨dst, op, ty, pos, af, none⟩) :: rest) Q l bs :=
  SF.val hE hf hi hD (ValO.evB ht hev hb) hp h
theorem SF.ixA (ht : TabOk P tab) {t : Nat} {x y : Operand} {b off : Nat} {k : IntKind} {i : Int} {n e esz sz m : Nat} (h : SF P ops w0 mu E D keep rest Q l' bs) (hx : evL l x = .pointer (some ⟨b, off, none⟩) := by rfl) (hy : evL l y = .int k i := by rfl) (hl : Sp.look tab t = some (.arr n e esz, sz) := by rfl) (h0 : 0 ≤ i := by first | omega | (simp; done) | (simp; omega)) (h1 : i < n := by first | omega | (simp; done) | (simp; omega)) (hm : off + i.toNat * esz = m := by first | (simp only [Nat.zero_add, Nat.mul_one, Nat.one_mul, Int.toNat_natCast]; done) | (simp only [Nat.zero_add, Nat.mul_one, Nat.one_mul, Int.toNat_natCast]; rfl) | rfl) (hE : E.contains i0 = false := by rfl) (hD : D.contains i0 = false := by rfl) (hp : putL l dst (.pointer (some ⟨b, m, none⟩)) = l' := by exact bpp) : SF P ops w0 mu E D keep ((i0, ⟨dst, .indexAddr t x y, ty, pos, af, none⟩) :: rest) Q l bs :=
  SF.val hE rfl rfl hD (ValO.idxA ht b off hx k i hy n e esz sz hl h0 h1 m hm) hp h
theorem SF.ixS (ht : TabOk P tab) {t : Nat} {x y : Operand} {b off n c : Nat} {k : IntKind} {i : Int} {e esz by_ sz m : Nat} (h : SF P ops w0 mu E D keep rest Q l' bs) (hx : evL l x = .slice (some ⟨b, off, none⟩) n c := by rfl) (hy : evL l y = .int k i := by rfl) (hl : Sp.look tab t = some (.sl e esz by_, sz) := by rfl) (h0 : 0 ≤ i := by first | omega | (simp; done) | (simp; omega)) (h1 : i < n := by first | omega | (simp; done) | (simp; omega)) (hm : off + i.toNat * esz = m := by first | (simp only [Nat.zero_add, Nat.mul_one, Nat.one_mul, Int.toNat_natCast]; done) | (simp only [Nat.zero_add, Nat.mul_one, Nat.one_mul, Int.toNat_natCast]; rfl) | rfl) (hE : E.contains i0 = false := by rfl) (hD : D.contains i0 = false := by rfl) (hp : putL l dst (.pointer (some ⟨b, m, none⟩)) = l' := by exact bpp) : SF P ops w0 mu E D keep ((i0, ⟨dst, .indexAddr t x y, ty, pos, af, none⟩) :: rest) Q l bs :=
  SF.val hE rfl rfl hD (ValO.idxS ht b off n c hx k i hy e esz by_ sz hl h0 h1 m hm) hp h
theorem SF.ldI (ht : TabOk P tab) {t : Nat} {x : Operand} {b j : Nat} {k0 k : IntKind} {sz : Nat} {L : List Int} (h : SF P ops w0 mu E D keep rest Q l' bs) (hx : evL l x = .pointer (some ⟨b, j, none⟩) := by rfl) (hl : Sp.look tab t = some (.int k0, sz) := by rfl) (hr : RdA w0 mu bs b (ints k L) := by exact rdk) (hj : j < L.length := by first | omega | (simp; done) | (simp; omega)) (hE : E.contains i0 = false := by rfl) (hD : D.contains i0 = false := by rfl) (hp : putL l dst (.int k (gi L j)) = l' := by exact bpp) : SF P ops w0 mu E D keep ((i0, ⟨dst, .load t x, ty, pos, af, none⟩) :: rest) Q l bs :=
  SF.val hE rfl rfl hD (ValO.ldInt ht b j hx k0 sz hl k L hr hj) hp h
theorem SF.ldC (ht : TabOk P tab) {t : Nat} {x : Operand} {b j : Nat} {td : TD} {sz : Nat} {A : Array Value} {v : Value} (h : SF P ops w0 mu E D keep rest Q l' bs) (hx : evL l x = .pointer (some ⟨b, j, none⟩) := by rfl) (hl : Sp.look tab t = some (td, sz) := by rfl) (hc : td.isCell = true := by rfl) (hr : RdA w0 mu bs b A := by exact rdk) (hv : A[j]? = some v := by rfl) (hE : E.contains i0 = false := by rfl) (hD : D.contains i0 = false := by rfl) (hp : putL l dst v = l' := by exact bpp) : SF P ops w0 mu E D keep ((i0, ⟨dst, .load t x, ty, pos, af, none⟩) :: rest) Q l bs :=
  SF.val hE rfl rfl hD (ValO.ldCell ht b j hx td sz hl hc A hr v hv) hp h
theorem SF.ldR (ht : TabOk P tab) {t : Nat} {x : Operand} {b : Nat} {td : TD} {n : Nat} {A : Array Value} (h : SF P ops w0 mu E D keep rest Q l' bs) (hx : evL l x = .pointer (some ⟨b, 0, none⟩) := by rfl) (hl : Sp.look tab t = some (td, n) := by rfl) (hc : td.isAgg = true := by rfl) (hr : RdA w0 mu bs b A := by exact rdk) (hn : A.size = n := by first | (simp [ints_size]; done) | (simp [ints_size]; omega)) (hE : E.contains i0 = false := by rfl) (hD : D.contains i0 = false := by rfl) (hp : putL l dst (.agg A) = l' := by exact bpp) : SF P ops w0 mu E D keep ((i0, ⟨dst, .load t x, ty, pos, af, none⟩) :: rest) Q l bs :=
  SF.val hE rfl rfl hD (ValO.ldRow ht b hx td n hl hc A hr hn) hp h
theorem SF.ldP (ht : TabOk P tab) {t : Nat} {x : Operand} {b off : Nat} {td : TD} {n : Nat} {A B : Array Value} (h : SF P ops w0 mu E D keep rest Q l' bs) (hx : evL l x = .pointer (some ⟨b, off, none⟩) := by rfl) (hl : Sp.look tab t = some (td, n) := by rfl) (hc : td.isAgg = true := by rfl) (hr : RdA w0 mu bs b A := by exact rdk) (hn : off + n ≤ A.size := by omega) (hB : A.extract off (off + n) = B := by rfl) (hE : E.contains i0 = false := by rfl) (hD : D.contains i0 = false := by rfl) (hp : putL l dst (.agg B) = l' := by exact bpp) : SF P ops w0 mu E D keep ((i0, ⟨dst, .load t x, ty, pos, af, none⟩) :: rest) Q l bs :=
  SF.val hE rfl rfl hD (ValO.ldPart ht b off hx td n hl hc A hr hn B hB) hp h
theorem SF.nc {x : Operand} {a : Addr} (h : SF P ops w0 mu E D keep rest Q l' bs) (hx : evL l x = .pointer (some a) := by rfl) (hE : E.contains i0 = false := by rfl) (hD : D.contains i0 = false := by rfl) (hp : putL l dst (.pointer (some a)) = l' := by exact bpp) : SF P ops w0 mu E D keep ((i0, ⟨dst, .nilCheck x, ty, pos, af, none⟩) :: rest) Q l bs :=
  SF.val hE rfl rfl hD (ValO.nilc hx) hp h
theorem SF.ctA (ht : TabOk P tab) {t : TypeId} {x : Operand} {lo hi : Option Operand} {b off n e esz sz : Nat} (a z : Nat) {m c d : Nat} (h : SF P ops w0 mu E D keep rest Q l' bs) (hx : evL l x = .pointer (some ⟨b, off, none⟩) := by rfl) (hl : Sp.look tab t = some (.arr n e esz, sz) := by rfl) (hlo : bnd (lo.map (evL l)) 0 a := by first | rfl | (simp [bnd, evL]; done) | (simp [bnd, evL]; omega)) (hhi : bnd (hi.map (evL l)) n z := by first | rfl | (simp [bnd, evL]; done) | (simp [bnd, evL]; omega)) (h1 : a ≤ z := by first | omega | (simp; done) | (simp; omega)) (h2 : z ≤ n := by first | omega | (simp; done) | (simp; omega)) (hm : (if n = a then off else off + a * esz) = m := by first | exact cutm_zero | exact cutm_ne (by first | omega | decide | (simp; done) | (simp; omega)) (by (try simp only [Nat.zero_add, Nat.add_zero, Nat.zero_mul, Nat.mul_one, Nat.one_mul, Nat.reduceMul, Nat.reduceAdd]); rfl) | exact cutm_eq (by first | omega | decide)) (hc : z - a = c := by (try simp only [Nat.sub_zero, Nat.reduceSub]); rfl) (hd : n - a = d := by (try simp only [Nat.sub_zero, Nat.reduceSub]); rfl) (hE : E.contains i0 = false := by rfl) (hD : D.contains i0 = false := by rfl) (hp : putL l dst (.slice (some ⟨b, m, none⟩) c d) = l' := by exact bpp) : SF P ops w0 mu E D keep ((i0, ⟨dst, .slice t x lo hi none, ty, pos, af, none⟩) :: rest) Q l bs :=
  SF.val hE rfl rfl hD (ValO.cutA ht hx hl hlo hhi h1 h2 m c d hm hc hd) hp h
theorem SF.ctS (ht : TabOk P tab) {t : TypeId} {x : Operand} {lo hi : Option Operand} {b off len cap e esz by_ sz : Nat} (a z : Nat) {m c d : Nat} (h : SF P ops w0 mu E D keep rest Q l' bs) (hx : evL l x = .slice (some ⟨b, off, none⟩) len cap := by rfl) (hl : Sp.look tab t = some (.sl e esz by_, sz) := by rfl) (hlo : bnd (lo.map (evL l)) 0 a := by first | rfl | (simp [bnd, evL]; done) | (simp [bnd, evL]; omega)) (hhi : bnd (hi.map (evL l)) len z := by first | rfl | (simp [bnd, evL]; done) | (simp [bnd, evL]; omega)) (h1 : a ≤ z := by first | omega | (simp; done) | (simp; omega)) (h2 : z ≤ cap := by first | omega | (simp; done) | (simp; omega)) (hm : (if cap = a then off else off + a * esz) = m := by first | exact cutm_zero | exact cutm_ne (by first | omega | decide | (simp; done) | (simp; omega)) (by (try simp only [Nat.zero_add, Nat.add_zero, Nat.zero_mul, Nat.mul_one, Nat.one_mul, Nat.reduceMul, Nat.reduceAdd]); rfl) | exact cutm_eq (by first | omega | decide)) (hc : z - a = c := by (try simp only [Nat.sub_zero, Nat.reduceSub]); rfl) (hd : cap - a = d := by (try simp only [Nat.sub_zero, Nat.reduceSub]); rfl) (hE : E.contains i0 = false := by rfl) (hD : D.contains i0 = false := by rfl) (hp : putL l dst (.slice (some ⟨b, m, none⟩) c d) = l' := by exact bpp) : SF P ops w0 mu E D keep ((i0, ⟨dst, .slice t x lo hi none, ty, pos, af, none⟩) :: rest) Q l bs :=
  SF.val hE rfl rfl hD (ValO.cutS ht hx hl hlo hhi h1 h2 m c d hm hc hd) hp h
theorem SF.stI (ht : TabOk P tab) {t : TypeId} {x y : Operand} {b j : Nat} {k : IntKind} {v : Int} {td : TD} {i : Nat} {L : List Int} {T : TypeId} {bs' : Mem} (h : SF P ops w0 mu E D keep rest Q l' bs') (hE : E.contains i0 = true := by rfl) (hx : evL l x = .pointer (some ⟨b, j, none⟩) := by rfl) (hy : evL l y = .int k v := by rfl) (hl : Sp.look tab t = some (td, 1) := by rfl) (hi : bs[i]? = some (b, ints k L, T) := by exact gbk _) (hj : j < L.length := by first | omega | (simp; done) | (simp; omega)) (hbs : bs.set i (b, ints k (L.set j v), T) = bs' := by exact stt) (hkp : Kept keep bs' := by first | exact Kept.nil | (simp [Kept]; done)) (hp : putL l dst undef = l' := by exact bpp) : SF P ops w0 mu E D keep ((i0, ⟨dst, .store t x y, ty, pos, af, none⟩) :: rest) Q l bs :=
  SF.storeInt ht hE hx hy hl hi hj hbs hkp hp h
theorem SF.stR (ht : TabOk P tab) {t : TypeId} {x y : Operand} {b : Nat} {k : IntKind} {L : List Int} {td : TD} {n i : Nat} {A : Array Value} {T : TypeId} {bs' : Mem} (h : SF P ops w0 mu E D keep rest Q l' bs') (hE : E.contains i0 = true := by rfl) (hx : evL l x = .pointer (some ⟨b, 0, none⟩) := by rfl) (hy : evL l y = .agg (ints k L) := by rfl) (hl : Sp.look tab t = some (td, n) := by rfl) (hi : bs[i]? = some (b, A, T) := by exact gbk _) (hn : (ints k L).size = n := by first | (simp [ints_size]; done) | (simp [ints_size]; omega)) (hsz : A.size = n := by first | (simp [ints_size]; done) | (simp [ints_size]; omega)) (hbs : bs.set i (b, ints k L, T) = bs' := by exact stt) (hkp : Kept keep bs' := by first | exact Kept.nil | (simp [Kept]; done)) (hp : putL l dst undef = l' := by exact bpp) : SF P ops w0 mu E D keep ((i0, ⟨dst, .store t x y, ty, pos, af, none⟩) :: rest) Q l bs :=
  SF.storeRow ht hE hx hy hl hi hn hsz ints_mem hbs hkp hp h
theorem SF.stA (ht : TabOk P tab) {t : TypeId} {x y : Operand} {b : Nat} {B : Array Value} {td : TD} {n i : Nat} {A : Array Value} {T : TypeId} {bs' : Mem} (h1 : ∀ u ∈ B.toList, u.oneCell' = true) (h : SF P ops w0 mu E D keep rest Q l' bs') (hE : E.contains i0 = true := by rfl) (hx : evL l x = .pointer (some ⟨b, 0, none⟩) := by rfl) (hy : evL l y = .agg B := by rfl) (hl : Sp.look tab t = some (td, n) := by rfl) (hi : bs[i]? = some (b, A, T) := by exact gbk _) (hn : B.size = n := by first | (simp [ints_size]; done) | (simp [ints_size]; omega)) (hsz : A.size = n := by first | (simp [ints_size]; done) | (simp [ints_size]; omega)) (hbs : bs.set i (b, B, T) = bs' := by exact stt) (hkp : Kept keep bs' := by first | exact Kept.nil | (simp [Kept]; done)) (hp : putL l dst undef = l' := by exact bpp) : SF P ops w0 mu E D keep ((i0, ⟨dst, .store t x y, ty, pos, af, none⟩) :: rest) Q l bs :=
  SF.storeRow ht hE hx hy hl hi hn hsz h1 hbs hkp hp h
theorem SF.stP (ht : TabOk P tab) {t : TypeId} {x y : Operand} {b off : Nat} {v : Value} {td : TD} {n i : Nat} {A A' : Array Value} {T : TypeId} {bs' : Mem} (h : SF P ops w0 mu E D keep rest Q l' bs') (hE : E.contains i0 = true := by rfl) (hx : evL l x = .pointer (some ⟨b, off, none⟩) := by rfl) (hy : evL l y = v := by rfl) (hl : Sp.look tab t = some (td, n) := by rfl) (hi : bs[i]? = some (b, A, T) := by exact gbk _) (hn : (v : Value).cells.size = n := by rfl) (hsz : off + n ≤ A.size := by omega) (h1 : ∀ u ∈ (v : Value).cells.toList, u.oneCell' = true := by first | exact one1) (hA : putAt A off (v : Value).cells.toList = A' := by rfl) (hbs : bs.set i (b, A', T) = bs' := by exact stt) (hkp : Kept keep bs' := by first | exact Kept.nil | (simp [Kept]; done)) (hp : putL l dst undef = l' := by exact bpp) : SF P ops w0 mu E D keep ((i0, ⟨dst, .store t x y, ty, pos, af, none⟩) :: rest) Q l bs :=
  SF.store ht hE hx hy hl hi hn hsz h1 hA hbs hkp hp h
theorem SF.stQ (ht : TabOk P tab) {t : TypeId} {x y : Operand} {b off : Nat} {B : Array Value} {td : TD} {n i : Nat} {A A' : Array Value} {T : TypeId} {bs' : Mem} (h : SF P ops w0 mu E D keep rest Q l' bs') (hE : E.contains i0 = true := by rfl) (hx : evL l x = .pointer (some ⟨b, off, none⟩) := by rfl) (hy : evL l y = (.agg B) := by rfl) (hl : Sp.look tab t = some (td, n) := by rfl) (hi : bs[i]? = some (b, A, T) := by exact gbk _) (hn : ((.agg B) : Value).cells.size = n := by first | (simp [Value.cells, ints]; done) | (simp [Value.cells, ints]; omega)) (hsz : off + n ≤ A.size := by omega) (h1 : ∀ u ∈ ((.agg B) : Value).cells.toList, u.oneCell' = true := by first | exact ints_mem | simp [Value.cells, ints]) (hA : putAt A off ((.agg B) : Value).cells.toList = A' := by rfl) (hbs : bs.set i (b, A', T) = bs' := by exact stt) (hkp : Kept keep bs' := by first | exact Kept.nil | (simp [Kept]; done)) (hp : putL l dst undef = l' := by exact bpp) : SF P ops w0 mu E D keep ((i0, ⟨dst, .store t x y, ty, pos, af, none⟩) :: rest) Q l bs :=
  SF.store ht hE hx hy hl hi hn hsz h1 hA hbs hkp hp h
theorem SF.al {T : TypeId} {A : Array Value} (hz : (P.info? T).map (·.zero) = some (some (.agg A))) {l' : Nat → List Value} (h : ∀ b, SF P ops w0 mu E D keep rest Q (l' b) ((b, A, T) :: bs)) (hp : ∀ b, putL l dst (.pointer (some ⟨b, 0, none⟩)) = l' b := by intro _; exact bpp) : SF P ops w0 mu E D keep ((i0, ⟨dst, .alloc T, ty, pos, af, none⟩) :: rest) Q l bs :=
  SF.alloc hz hp h
theorem SF.bx {T : TypeId} {x : Operand} {A : Array Value} {l' : Nat → List Value} (h : ∀ b, SF P ops w0 mu E D keep rest Q (l' b) ((b, A, T) :: bs)) (hE : E.contains i0 = true := by rfl) (hkp : Kept keep bs := by first | exact Kept.nil | (simp [Kept]; done)) (hx : (evL l x).cells = A := by first | (dsimp only [evL, nth, Value.cells]; done) | (dsimp only [evL, nth, Value.cells]; rfl)) (hp : ∀ b, putL l dst (.pointer (some ⟨b, 0, none⟩)) = l' b := by intro _; exact bpp) : SF P ops w0 mu E D keep ((i0, ⟨dst, .box T x, ty, pos, af, none⟩) :: rest) Q l bs :=
  SF.box hE hkp hx hp h
theorem SF.clN {f : FuncId} {args : List Operand} {ats : Array TypeId} (hent : ∀ (A : Array Value) (w : World), (callFunc f A).run P w = .ok (.enter f A) w) {vals : List Value} (hv : args.map (evL l) = vals) {A : Array Value} {T : TypeId} {V : Nat → Value} {l' : Nat → List Value} (hc : ∀ w, OwnM w0 mu w bs → Calls P f vals.toArray w fun e w' => ∃ b, e = .returned (V b) ∧ OwnM w [] w' [(b, A, T)]) (h : ∀ b, SF P ops w0 mu E D keep rest Q (l' b) ((b, A, T) :: bs)) (hE : E.contains i0 = true := by rfl) (hkp : Kept keep bs := by first | exact Kept.nil | (simp [Kept]; done)) (hp : ∀ b, putL l dst (V b) = l' b := by intro _; exact bpp) : SF P ops w0 mu E D keep ((i0, ⟨dst, .call { callee := .value (.func f), args := args.toArray, argTypes := ats }, ty, pos, af, none⟩) :: rest) Q l bs :=
  by
  refine SF.callG hE hent hv (R := fun v' bs' => ∃ b, v' = V b ∧ bs' = (b, A, T) :: bs) (fun w hw => (hc w hw).mono fun e w' hx => ?_) (by rintro v' bs' ⟨b, rfl, rfl⟩; exact hkp.more) (by rintro v' bs' ⟨b, rfl, rfl⟩; rw [hp]; exact h b)
  obtain ⟨b, rfl, hw'⟩ := hx
  exact ⟨_, _, rfl, ⟨b, rfl, rfl⟩, hw.fresh hw'⟩
theorem SF.cp (ht : TabOk P tab) {d s : Operand} {dT sT : TypeId} {b off dl dc b2 off2 sl sc e by_ sz : Nat} {i : Nat} {A A' B : Array Value} {T : TypeId} {bs' : Mem} (n : Nat) (hA' : putAt A off (B.extract off2 (off2 + n)).toList = A') (h : SF P ops w0 mu E D keep rest Q l' bs') (hE : E.contains i0 = true := by rfl) (hd : evL l d = .slice (some ⟨b, off, none⟩) dl dc := by rfl) (hs : evL l s = .slice (some ⟨b2, off2, none⟩) sl sc := by rfl) (hl : Sp.look tab dT = some (.sl e 1 by_, sz) := by rfl) (hi : bs[i]? = some (b, A, T) := by exact gbk _) (hr : RdA w0 mu bs b2 B := by exact rdk) (hn : min sl dl = n := by first | omega | (simp; done) | (simp; omega)) (hA : off + n ≤ A.size := by first | omega | (simp [ints_size]; done) | (simp [ints_size]; omega)) (hB : off2 + n ≤ B.size := by first | omega | (simp [ints_size]; done) | (simp [ints_size]; omega)) (h1 : ∀ u ∈ (B.extract off2 (off2 + n)).toList, u.oneCell' = true := by first | exact extract_one _ ints_mem _ _ | assumption) (hbs : bs.set i (b, A', T) = bs' := by exact stt) (hkp : Kept keep bs' := by first | exact Kept.nil | (simp [Kept]; done)) (hp : putL l dst (.int .i64 (n : Int)) = l' := by exact bpp) : SF P ops w0 mu E D keep ((i0, ⟨dst, .call { callee := .builtin .copy, args := #[d, s], argTypes := #[dT, sT] }, ty, pos, af, none⟩) :: rest) Q l bs :=
  SF.copy ht hE hd hs hl hi hr n hn hA hB h1 hA' hbs hkp hp h
end
end F
end
section
open Go Go.RowKit
namespace Sp
def tab : Tab := [(2, .int .i64, 1),
  (3, .int .i64, 1),
  (4, .bool, 1),
  (5, .int .u8, 1),
  (6, .int .u8, 1),
  (7, .st [(2, 0, 1), (3, 1, 1), (4, 2, 1), (6, 3, 1)], 4),
  (8, .st [(2, 0, 1), (3, 1, 1), (4, 2, 1), (6, 3, 1)], 4),
  (9, .str, 1),
  (10, .str, 1),
  (11, .str, 1),
  (12, .int .u64, 1),
  (13, .st [(9, 0, 1), (12, 1, 1)], 2),
  (14, .st [(9, 0, 1), (12, 1, 1)], 2),
  (15, .ptr 164, 1),
  (16, .ptr 167, 1),
  (17, .ptr 176, 1),
  (18, .st [(17, 0, 1)], 1),
  (19, .st [(17, 0, 1)], 1),
  (21, .int .i32, 1),
  (22, .arr 32 5 1, 32),
  (23, .arr 32 5 1, 32),
  (24, .sl 5 1 1, 1),
  (25, .st [(3, 0, 1), (23, 1, 32), (23, 33, 32), (24, 65, 1), (23, 66, 32), (23, 98, 32), (23, 130, 32), (24, 162, 1), (24, 163, 1)], 164),
  (26, .st [(3, 0, 1), (23, 1, 32), (23, 33, 32), (24, 65, 1), (23, 66, 32), (23, 98, 32), (23, 130, 32), (24, 162, 1), (24, 163, 1)], 164),
  (28, .st [(3, 0, 1), (4, 1, 1), (23, 2, 32), (23, 34, 32), (24, 66, 1), (23, 67, 32)], 99),
  (29, .st [(3, 0, 1), (4, 1, 1), (23, 2, 32), (23, 34, 32), (24, 66, 1), (23, 67, 32)], 99),
  (32, .ptr 58, 1),
  (33, .int .i64, 1),
  (39, .ptr 78, 1),
  (54, .st [(22, 0, 32), (23, 32, 32), (23, 64, 32), (3, 96, 1), (4, 97, 1)], 98),
  (55, .st [(22, 0, 32), (23, 32, 32), (23, 64, 32), (3, 96, 1), (4, 97, 1)], 98),
  (56, .ptr 23, 1),
  (57, .st [(55, 0, 98), (3, 98, 1), (4, 99, 1), (23, 100, 32), (23, 132, 32), (23, 164, 32), (56, 196, 1), (23, 197, 32), (3, 229, 1)], 230),
  (58, .st [(55, 0, 98), (3, 98, 1), (4, 99, 1), (23, 100, 32), (23, 132, 32), (23, 164, 32), (56, 196, 1), (23, 197, 32), (3, 229, 1)], 230),
  (70, .ptr 55, 1),
  (75, .sl 23 32 32, 1),
  (77, .st [(4, 0, 1), (23, 1, 32), (3, 33, 1)], 34),
  (78, .st [(4, 0, 1), (23, 1, 32), (3, 33, 1)], 34),
  (79, .int .u64, 1),
  (80, .arr 5 79 1, 5),
  (81, .st [(80, 0, 5)], 5),
  (82, .st [(80, 0, 5)], 5),
  (85, .int .u32, 1),
  (86, .st [(82, 0, 5), (82, 5, 5)], 10),
  (87, .st [(82, 0, 5), (82, 5, 5)], 10),
  (89, .ptr 87, 1),
  (93, .ptr 120, 1),
  (97, .sl 24 1 24, 1),
  (109, .st [(79, 0, 1), (79, 1, 1)], 2),
  (110, .st [(79, 0, 1), (79, 1, 1)], 2),
  (112, .arr 5 110 2, 10),
  (115, .int .u64, 1),
  (116, .arr 8 85 1, 8),
  (118, .arr 64 5 1, 64),
  (119, .st [(3, 0, 1), (116, 1, 8), (118, 9, 64), (3, 73, 1), (79, 74, 1)], 75),
  (120, .st [(3, 0, 1), (116, 1, 8), (118, 9, 64), (3, 73, 1), (79, 74, 1)], 75),
  (128, .arr 16 85 1, 16),
  (130, .sl 85 1 4, 1),
  (131, .arr 10 79 1, 10),
  (135, .ptr 85, 1),
  (138, .arr 12 5 1, 12),
  (140, .arr 16 5 1, 16),
  (148, .ptr 157, 1),
  (154, .arr 2 79 1, 2),
  (155, .arr 3 79 1, 3),
  (156, .st [(4, 0, 1), (154, 1, 2), (154, 3, 2), (155, 5, 3), (140, 8, 16), (3, 24, 1)], 25),
  (157, .st [(4, 0, 1), (154, 1, 2), (154, 3, 2), (155, 5, 3), (140, 8, 16), (3, 24, 1)], 25),
  (159, .arr 17 5 1, 17),
  (161, .arr 4 79 1, 4),
  (163, .st [(17, 0, 1), (17, 1, 1), (17, 2, 1), (9, 3, 1)], 4),
  (164, .st [(17, 0, 1), (17, 1, 1), (17, 2, 1), (9, 3, 1)], 4),
  (169, .int .u8, 1),
  (170, .int .u8, 1),
  (172, .ptr 5, 1),
  (173, .int .i32, 1),
  (174, .int .i32, 1),
  (175, .st [(12, 0, 1), (12, 1, 1), (85, 2, 1), (169, 3, 1), (5, 4, 1), (5, 5, 1), (170, 6, 1), (171, 7, 1), (172, 8, 1), (173, 9, 1), (174, 10, 1)], 11),
  (176, .st [(12, 0, 1), (12, 1, 1), (85, 2, 1), (169, 3, 1), (5, 4, 1), (5, 5, 1), (170, 6, 1), (171, 7, 1), (172, 8, 1), (173, 9, 1), (174, 10, 1)], 11)]
theorem tabOk : TabOk Try.prog tab := by unfold TabOk; kernel_rfl
theorem follows : Try.prog.follows .mixedOrders = true := by kernel_rfl
theorem zero_5 : (Try.prog.info? 5).map (·.zero) = some (some (.int .u8 0)) := by kernel_rfl
theorem zero_22 : (Try.prog.info? 22).map (·.zero) = some (some (.agg (ints .u8 (List.replicate 32 0)))) := by kernel_rfl
theorem zero_23 : (Try.prog.info? 23).map (·.zero) = some (some (.agg (ints .u8 (List.replicate 32 0)))) := by kernel_rfl
theorem zero_24 : (Try.prog.info? 24).map (·.zero) = some (some (.slice none 0 0)) := by kernel_rfl
theorem zero_82 : (Try.prog.info? 82).map (·.zero) = some (some (.agg (ints .u64 (List.replicate 5 0)))) := by kernel_rfl
theorem zero_87 : (Try.prog.info? 87).map (·.zero) = some (some (.agg (ints .u64 (List.replicate 10 0)))) := by kernel_rfl
theorem zero_116 : (Try.prog.info? 116).map (·.zero) = some (some (.agg (ints .u32 (List.replicate 8 0)))) := by kernel_rfl
theorem zero_118 : (Try.prog.info? 118).map (·.zero) = some (some (.agg (ints .u8 (List.replicate 64 0)))) := by kernel_rfl
theorem zero_120 : (Try.prog.info? 120).map (·.zero) = some (some (.agg (#[.int .i64 0, .int .u32 0, .int .u32 0, .int .u32 0, .int .u32 0, .int .u32 0, .int .u32 0, .int .u32 0, .int .u32 0, .int .u8 0, .int .u8 0, .int .u8 0, .int .u8 0, .int .u8 0, .int .u8 0, .int .u8 0, .int .u8 0, .int .u8 0, .int .u8 0, .int .u8 0, .int .u8 0, .int .u8 0, .int .u8 0, .int .u8 0, .int .u8 0, .int .u8 0, .int .u8 0, .int .u8 0, .int .u8 0, .int .u8 0, .int .u8 0, .int .u8 0, .int .u8 0, .int .u8 0, .int .u8 0, .int .u8 0, .int .u8 0, .int .u8 0, .int .u8 0, .int .u8 0, .int .u8 0, .int .u8 0, .int .u8 0, .int .u8 0, .int .u8 0, .int .u8 0, .int .u8 0, .int .u8 0, .int .u8 0, .int .u8 0, .int .u8 0, .int .u8 0, .int .u8 0, .int .u8 0, .int .u8 0, .int .u8 0, .int .u8 0, .int .u8 0, .int .u8 0, .int .u8 0, .int .u8 0, .int .u8 0, .int .u8 0, .int .u8 0, .int .u8 0, .int .u8 0, .int .u8 0, .int .u8 0, .int .u8 0, .int .u8 0, .int .u8 0, .int .u8 0, .int .u8 0, .int .i64 0, .int .u64 0]))) := by kernel_rfl
theorem zero_128 : (Try.prog.info? 128).map (·.zero) = some (some (.agg (ints .u32 (List.replicate 16 0)))) := by kernel_rfl
theorem zero_131 : (Try.prog.info? 131).map (·.zero) = some (some (.agg (ints .u64 (List.replicate 10 0)))) := by kernel_rfl
theorem zero_138 : (Try.prog.info? 138).map (·.zero) = some (some (.agg (ints .u8 (List.replicate 12 0)))) := by kernel_rfl
theorem zero_140 : (Try.prog.info? 140).map (·.zero) = some (some (.agg (ints .u8 (List.replicate 16 0)))) := by kernel_rfl
theorem zero_154 : (Try.prog.info? 154).map (·.zero) = some (some (.agg (ints .u64 (List.replicate 2 0)))) := by kernel_rfl
theorem zero_157 : (Try.prog.info? 157).map (·.zero) = some (some (.agg (#[.bool false, .int .u64 0, .int .u64 0, .int .u64 0, .int .u64 0, .int .u64 0, .int .u64 0, .int .u64 0, .int .u8 0, .int .u8 0, .int .u8 0, .int .u8 0, .int .u8 0, .int .u8 0, .int .u8 0, .int .u8 0, .int .u8 0, .int .u8 0, .int .u8 0, .int .u8 0, .int .u8 0, .int .u8 0, .int .u8 0, .int .u8 0, .int .i64 0]))) := by kernel_rfl
theorem zero_159 : (Try.prog.info? 159).map (·.zero) = some (some (.agg (ints .u8 (List.replicate 17 0)))) := by kernel_rfl
theorem zero_161 : (Try.prog.info? 161).map (·.zero) = some (some (.agg (ints .u64 (List.replicate 4 0)))) := by kernel_rfl
theorem ent_7 (A : Array Value) (w : World) : (callFunc 7 A).run Try.prog w = .ok (.enter 7 A) w := run_callFn_enter Try.func7 (by kernel_rfl) rfl A w
theorem ent_8 (A : Array Value) (w : World) : (callFunc 8 A).run Try.prog w = .ok (.enter 8 A) w := run_callFn_enter Try.func8 (by kernel_rfl) rfl A w
theorem ent_9 (A : Array Value) (w : World) : (callFunc 9 A).run Try.prog w = .ok (.enter 9 A) w := run_callFn_enter Try.func9 (by kernel_rfl) rfl A w
theorem ent_10 (A : Array Value) (w : World) : (callFunc 10 A).run Try.prog w = .ok (.enter 10 A) w := run_callFn_enter Try.func10 (by kernel_rfl) rfl A w
theorem ent_11 (A : Array Value) (w : World) : (callFunc 11 A).run Try.prog w = .ok (.enter 11 A) w := run_callFn_enter Try.func11 (by kernel_rfl) rfl A w
theorem ent_12 (A : Array Value) (w : World) : (callFunc 12 A).run Try.prog w = .ok (.enter 12 A) w := run_callFn_enter Try.func12 (by kernel_rfl) rfl A w
theorem ent_13 (A : Array Value) (w : World) : (callFunc 13 A).run Try.prog w = .ok (.enter 13 A) w := run_callFn_enter Try.func13 (by kernel_rfl) rfl A w
theorem ent_14 (A : Array Value) (w : World) : (callFunc 14 A).run Try.prog w = .ok (.enter 14 A) w := run_callFn_enter Try.func14 (by kernel_rfl) rfl A w
theorem ent_15 (A : Array Value) (w : World) : (callFunc 15 A).run Try.prog w = .ok (.enter 15 A) w := run_callFn_enter Try.func15 (by kernel_rfl) rfl A w
theorem ent_16 (A : Array Value) (w : World) : (callFunc 16 A).run Try.prog w = .ok (.enter 16 A) w := run_callFn_enter Try.func16 (by kernel_rfl) rfl A w
theorem ent_17 (A : Array Value) (w : World) : (callFunc 17 A).run Try.prog w = .ok (.enter 17 A) w := run_callFn_enter Try.func17 (by kernel_rfl) rfl A w
theorem ent_18 (A : Array Value) (w : World) : (callFunc 18 A).run Try.prog w = .ok (.enter 18 A) w := run_callFn_enter Try.func18 (by kernel_rfl) rfl A w
theorem ent_20 (A : Array Value) (w : World) : (callFunc 20 A).run Try.prog w = .ok (.enter 20 A) w := run_callFn_enter Try.func20 (by kernel_rfl) rfl A w
theorem ent_21 (A : Array Value) (w : World) : (callFunc 21 A).run Try.prog w = .ok (.enter 21 A) w := run_callFn_enter Try.func21 (by kernel_rfl) rfl A w
theorem ent_22 (A : Array Value) (w : World) : (callFunc 22 A).run Try.prog w = .ok (.enter 22 A) w := run_callFn_enter Try.func22 (by kernel_rfl) rfl A w
theorem ent_23 (A : Array Value) (w : World) : (callFunc 23 A).run Try.prog w = .ok (.enter 23 A) w := run_callFn_enter Try.func23 (by kernel_rfl) rfl A w
theorem ent_24 (A : Array Value) (w : World) : (callFunc 24 A).run Try.prog w = .ok (.enter 24 A) w := run_callFn_enter Try.func24 (by kernel_rfl) rfl A w
theorem ent_25 (A : Array Value) (w : World) : (callFunc 25 A).run Try.prog w = .ok (.enter 25 A) w := run_callFn_enter Try.func25 (by kernel_rfl) rfl A w
theorem ent_26 (A : Array Value) (w : World) : (callFunc 26 A).run Try.prog w = .ok (.enter 26 A) w := run_callFn_enter Try.func26 (by kernel_rfl) rfl A w
theorem ent_27 (A : Array Value) (w : World) : (callFunc 27 A).run Try.prog w = .ok (.enter 27 A) w := run_callFn_enter Try.func27 (by kernel_rfl) rfl A w
theorem ent_28 (A : Array Value) (w : World) : (callFunc 28 A).run Try.prog w = .ok (.enter 28 A) w := run_callFn_enter Try.func28 (by kernel_rfl) rfl A w
theorem ent_29 (A : Array Value) (w : World) : (callFunc 29 A).run Try.prog w = .ok (.enter 29 A) w := run_callFn_enter Try.func29 (by kernel_rfl) rfl A w
theorem ent_30 (A : Array Value) (w : World) : (callFunc 30 A).run Try.prog w = .ok (.enter 30 A) w := run_callFn_enter Try.func30 (by kernel_rfl) rfl A w
theorem ent_31 (A : Array Value) (w : World) : (callFunc 31 A).run Try.prog w = .ok (.enter 31 A) w := run_callFn_enter Try.func31 (by kernel_rfl) rfl A w
theorem ent_32 (A : Array Value) (w : World) : (callFunc 32 A).run Try.prog w = .ok (.enter 32 A) w := run_callFn_enter Try.func32 (by kernel_rfl) rfl A w
theorem ent_33 (A : Array Value) (w : World) : (callFunc 33 A).run Try.prog w = .ok (.enter 33 A) w := run_callFn_enter Try.func33 (by kernel_rfl) rfl A w
theorem ent_34 (A : Array Value) (w : World) : (callFunc 34 A).run Try.prog w = .ok (.enter 34 A) w := run_callFn_enter Try.func34 (by kernel_rfl) rfl A w
theorem ent_36 (A : Array Value) (w : World) : (callFunc 36 A).run Try.prog w = .ok (.enter 36 A) w := run_callFn_enter Try.func36 (by kernel_rfl) rfl A w
theorem ent_37 (A : Array Value) (w : World) : (callFunc 37 A).run Try.prog w = .ok (.enter 37 A) w := run_callFn_enter Try.func37 (by kernel_rfl) rfl A w
theorem ent_38 (A : Array Value) (w : World) : (callFunc 38 A).run Try.prog w = .ok (.enter 38 A) w := run_callFn_enter Try.func38 (by kernel_rfl) rfl A w
theorem ent_39 (A : Array Value) (w : World) : (callFunc 39 A).run Try.prog w = .ok (.enter 39 A) w := run_callFn_enter Try.func39 (by kernel_rfl) rfl A w
theorem ent_40 (A : Array Value) (w : World) : (callFunc 40 A).run Try.prog w = .ok (.enter 40 A) w := run_callFn_enter Try.func40 (by kernel_rfl) rfl A w
theorem ent_41 (A : Array Value) (w : World) : (callFunc 41 A).run Try.prog w = .ok (.enter 41 A) w := run_callFn_enter Try.func41 (by kernel_rfl) rfl A w
theorem ent_42 (A : Array Value) (w : World) : (callFunc 42 A).run Try.prog w = .ok (.enter 42 A) w := run_callFn_enter Try.func42 (by kernel_rfl) rfl A w
theorem ent_43 (A : Array Value) (w : World) : (callFunc 43 A).run Try.prog w = .ok (.enter 43 A) w := run_callFn_enter Try.func43 (by kernel_rfl) rfl A w
theorem ent_44 (A : Array Value) (w : World) : (callFunc 44 A).run Try.prog w = .ok (.enter 44 A) w := run_callFn_enter Try.func44 (by kernel_rfl) rfl A w
theorem ent_45 (A : Array Value) (w : World) : (callFunc 45 A).run Try.prog w = .ok (.enter 45 A) w := run_callFn_enter Try.func45 (by kernel_rfl) rfl A w
theorem ent_46 (A : Array Value) (w : World) : (callFunc 46 A).run Try.prog w = .ok (.enter 46 A) w := run_callFn_enter Try.func46 (by kernel_rfl) rfl A w
theorem ent_47 (A : Array Value) (w : World) : (callFunc 47 A).run Try.prog w = .ok (.enter 47 A) w := run_callFn_enter Try.func47 (by kernel_rfl) rfl A w
theorem ent_48 (A : Array Value) (w : World) : (callFunc 48 A).run Try.prog w = .ok (.enter 48 A) w := run_callFn_enter Try.func48 (by kernel_rfl) rfl A w
theorem ent_49 (A : Array Value) (w : World) : (callFunc 49 A).run Try.prog w = .ok (.enter 49 A) w := run_callFn_enter Try.func49 (by kernel_rfl) rfl A w
theorem ent_50 (A : Array Value) (w : World) : (callFunc 50 A).run Try.prog w = .ok (.enter 50 A) w := run_callFn_enter Try.func50 (by kernel_rfl) rfl A w
theorem ent_51 (A : Array Value) (w : World) : (callFunc 51 A).run Try.prog w = .ok (.enter 51 A) w := run_callFn_enter Try.func51 (by kernel_rfl) rfl A w
theorem ent_52 (A : Array Value) (w : World) : (callFunc 52 A).run Try.prog w = .ok (.enter 52 A) w := run_callFn_enter Try.func52 (by kernel_rfl) rfl A w
theorem ent_53 (A : Array Value) (w : World) : (callFunc 53 A).run Try.prog w = .ok (.enter 53 A) w := run_callFn_enter Try.func53 (by kernel_rfl) rfl A w
theorem ent_55 (A : Array Value) (w : World) : (callFunc 55 A).run Try.prog w = .ok (.enter 55 A) w := run_callFn_enter Try.func55 (by kernel_rfl) rfl A w
theorem ent_56 (A : Array Value) (w : World) : (callFunc 56 A).run Try.prog w = .ok (.enter 56 A) w := run_callFn_enter Try.func56 (by kernel_rfl) rfl A w
theorem ent_58 (A : Array Value) (w : World) : (callFunc 58 A).run Try.prog w = .ok (.enter 58 A) w := run_callFn_enter Try.func58 (by kernel_rfl) rfl A w
theorem ent_59 (A : Array Value) (w : World) : (callFunc 59 A).run Try.prog w = .ok (.enter 59 A) w := run_callFn_enter Try.func59 (by kernel_rfl) rfl A w
theorem ent_60 (A : Array Value) (w : World) : (callFunc 60 A).run Try.prog w = .ok (.enter 60 A) w := run_callFn_enter Try.func60 (by kernel_rfl) rfl A w
theorem ent_61 (A : Array Value) (w : World) : (callFunc 61 A).run Try.prog w = .ok (.enter 61 A) w := run_callFn_enter Try.func61 (by kernel_rfl) rfl A w
theorem ent_62 (A : Array Value) (w : World) : (callFunc 62 A).run Try.prog w = .ok (.enter 62 A) w := run_callFn_enter Try.func62 (by kernel_rfl) rfl A w
theorem ent_63 (A : Array Value) (w : World) : (callFunc 63 A).run Try.prog w = .ok (.enter 63 A) w := run_callFn_enter Try.func63 (by kernel_rfl) rfl A w
theorem ent_65 (A : Array Value) (w : World) : (callFunc 65 A).run Try.prog w = .ok (.enter 65 A) w := run_callFn_enter Try.func65 (by kernel_rfl) rfl A w
theorem ent_66 (A : Array Value) (w : World) : (callFunc 66 A).run Try.prog w = .ok (.enter 66 A) w := run_callFn_enter Try.func66 (by kernel_rfl) rfl A w
theorem ent_67 (A : Array Value) (w : World) : (callFunc 67 A).run Try.prog w = .ok (.enter 67 A) w := run_callFn_enter Try.func67 (by kernel_rfl) rfl A w
theorem ent_68 (A : Array Value) (w : World) : (callFunc 68 A).run Try.prog w = .ok (.enter 68 A) w := run_callFn_enter Try.func68 (by kernel_rfl) rfl A w
theorem ent_71 (A : Array Value) (w : World) : (callFunc 71 A).run Try.prog w = .ok (.enter 71 A) w := run_callFn_enter Try.func71 (by kernel_rfl) rfl A w
theorem ent_72 (A : Array Value) (w : World) : (callFunc 72 A).run Try.prog w = .ok (.enter 72 A) w := run_callFn_enter Try.func72 (by kernel_rfl) rfl A w
theorem ent_73 (A : Array Value) (w : World) : (callFunc 73 A).run Try.prog w = .ok (.enter 73 A) w := run_callFn_enter Try.func73 (by kernel_rfl) rfl A w
theorem ent_74 (A : Array Value) (w : World) : (callFunc 74 A).run Try.prog w = .ok (.enter 74 A) w := run_callFn_enter Try.func74 (by kernel_rfl) rfl A w
theorem ent_75 (A : Array Value) (w : World) : (callFunc 75 A).run Try.prog w = .ok (.enter 75 A) w := run_callFn_enter Try.func75 (by kernel_rfl) rfl A w
theorem ent_76 (A : Array Value) (w : World) : (callFunc 76 A).run Try.prog w = .ok (.enter 76 A) w := run_callFn_enter Try.func76 (by kernel_rfl) rfl A w
theorem ent_77 (A : Array Value) (w : World) : (callFunc 77 A).run Try.prog w = .ok (.enter 77 A) w := run_callFn_enter Try.func77 (by kernel_rfl) rfl A w
theorem ent_78 (A : Array Value) (w : World) : (callFunc 78 A).run Try.prog w = .ok (.enter 78 A) w := run_callFn_enter Try.func78 (by kernel_rfl) rfl A w
theorem ent_79 (A : Array Value) (w : World) : (callFunc 79 A).run Try.prog w = .ok (.enter 79 A) w := run_callFn_enter Try.func79 (by kernel_rfl) rfl A w
theorem ent_80 (A : Array Value) (w : World) : (callFunc 80 A).run Try.prog w = .ok (.enter 80 A) w := run_callFn_enter Try.func80 (by kernel_rfl) rfl A w
theorem ent_81 (A : Array Value) (w : World) : (callFunc 81 A).run Try.prog w = .ok (.enter 81 A) w := run_callFn_enter Try.func81 (by kernel_rfl) rfl A w
theorem ent_82 (A : Array Value) (w : World) : (callFunc 82 A).run Try.prog w = .ok (.enter 82 A) w := run_callFn_enter Try.func82 (by kernel_rfl) rfl A w
theorem ent_83 (A : Array Value) (w : World) : (callFunc 83 A).run Try.prog w = .ok (.enter 83 A) w := run_callFn_enter Try.func83 (by kernel_rfl) rfl A w
theorem ent_84 (A : Array Value) (w : World) : (callFunc 84 A).run Try.prog w = .ok (.enter 84 A) w := run_callFn_enter Try.func84 (by kernel_rfl) rfl A w
theorem ent_85 (A : Array Value) (w : World) : (callFunc 85 A).run Try.prog w = .ok (.enter 85 A) w := run_callFn_enter Try.func85 (by kernel_rfl) rfl A w
theorem ent_86 (A : Array Value) (w : World) : (callFunc 86 A).run Try.prog w = .ok (.enter 86 A) w := run_callFn_enter Try.func86 (by kernel_rfl) rfl A w
theorem ent_87 (A : Array Value) (w : World) : (callFunc 87 A).run Try.prog w = .ok (.enter 87 A) w := run_callFn_enter Try.func87 (by kernel_rfl) rfl A w
theorem ent_88 (A : Array Value) (w : World) : (callFunc 88 A).run Try.prog w = .ok (.enter 88 A) w := run_callFn_enter Try.func88 (by kernel_rfl) rfl A w
theorem ent_89 (A : Array Value) (w : World) : (callFunc 89 A).run Try.prog w = .ok (.enter 89 A) w := run_callFn_enter Try.func89 (by kernel_rfl) rfl A w
theorem ent_90 (A : Array Value) (w : World) : (callFunc 90 A).run Try.prog w = .ok (.enter 90 A) w := run_callFn_enter Try.func90 (by kernel_rfl) rfl A w
theorem ent_91 (A : Array Value) (w : World) : (callFunc 91 A).run Try.prog w = .ok (.enter 91 A) w := run_callFn_enter Try.func91 (by kernel_rfl) rfl A w
theorem ent_92 (A : Array Value) (w : World) : (callFunc 92 A).run Try.prog w = .ok (.enter 92 A) w := run_callFn_enter Try.func92 (by kernel_rfl) rfl A w
theorem ent_93 (A : Array Value) (w : World) : (callFunc 93 A).run Try.prog w = .ok (.enter 93 A) w := run_callFn_enter Try.func93 (by kernel_rfl) rfl A w
theorem ent_94 (A : Array Value) (w : World) : (callFunc 94 A).run Try.prog w = .ok (.enter 94 A) w := run_callFn_enter Try.func94 (by kernel_rfl) rfl A w
theorem ent_95 (A : Array Value) (w : World) : (callFunc 95 A).run Try.prog w = .ok (.enter 95 A) w := run_callFn_enter Try.func95 (by kernel_rfl) rfl A w
theorem ent_96 (A : Array Value) (w : World) : (callFunc 96 A).run Try.prog w = .ok (.enter 96 A) w := run_callFn_enter Try.func96 (by kernel_rfl) rfl A w
theorem ent_97 (A : Array Value) (w : World) : (callFunc 97 A).run Try.prog w = .ok (.enter 97 A) w := run_callFn_enter Try.func97 (by kernel_rfl) rfl A w
theorem ent_98 (A : Array Value) (w : World) : (callFunc 98 A).run Try.prog w = .ok (.enter 98 A) w := run_callFn_enter Try.func98 (by kernel_rfl) rfl A w
theorem ent_99 (A : Array Value) (w : World) : (callFunc 99 A).run Try.prog w = .ok (.enter 99 A) w := run_callFn_enter Try.func99 (by kernel_rfl) rfl A w
theorem ent_100 (A : Array Value) (w : World) : (callFunc 100 A).run Try.prog w = .ok (.enter 100 A) w := run_callFn_enter Try.func100 (by kernel_rfl) rfl A w
theorem ent_101 (A : Array Value) (w : World) : (callFunc 101 A).run Try.prog w = .ok (.enter 101 A) w := run_callFn_enter Try.func101 (by kernel_rfl) rfl A w
theorem ent_102 (A : Array Value) (w : World) : (callFunc 102 A).run Try.prog w = .ok (.enter 102 A) w := run_callFn_enter Try.func102 (by kernel_rfl) rfl A w
end Sp
end
section
open Go Go.RowKit
namespace Sp
open M F
theorem sEv {w0 : World} {mu : List Nat} {bs : Mem} {l l' : List Value} {ops : Array Oper} {rest : List Oper} {Q : ExitP} {dst : Option Tmp} {op : Op} {ty : TypeId} {pos : String} {af : Array Edge} {v : Value} (h : SL Try.prog ops w0 mu rest Q l' bs) (hev : evF tab l op = some v := by rfl) (hp : putL l dst v = l' := by exact bpp) : SL Try.prog ops w0 mu (⟨dst, op, ty, pos, af, none⟩ :: rest) Q l bs := SL.e tabOk h hev hp
theorem fPv {w0 : World} {mu : List Nat} {bs keep : Mem} {l l' : List Value} {ops : Array Oper} {E D : List Nat} {i0 : Nat} {rest : List (Nat × Oper)} {Q : ExitP} {dst : Option Tmp} {op : Op} {ty : TypeId} {pos : String} {af : Array Edge} {v : Value} (h : SF Try.prog ops w0 mu E D keep rest Q l' bs) (hE : E.contains i0 = false := by rfl) (hi : isPure op = true := by rfl) (hev : evF tab l op = some v := by rfl) (hp : putL l dst v = l' := by exact bpp) : SF Try.prog ops w0 mu E D keep ((i0, ⟨dst, op, ty, pos, af, none⟩) :: rest) Q l bs := SF.p tabOk h hE hi hev hp
end Sp
end
end Go.Proofs.Ytdjecenggngdjaa
