/-
  Joined texts: Sl, Bits, Num, Bitm. No conditions.
-/
import Derived.Test.YtdjecenggngdjaaGaa
import Derived.Test.YtdjecenggngdjaaGac
import Derived.Test.YtdjecenggngdjaaGae
import Derived.Deep.AppendSrc
import Derived.Laws.AppendOwn
import Derived.Laws.MakeOwn
import Derived.Great.BuildSlice
import Derived.Lib.SlBytesConst
import Derived.Test.YtdjecenggngdjaaRows
import Derived.Lib.Mul64
import Derived.Laws.Externs
import Derived.Laws.BitsAllLaws
import Derived.Laws.Bits128
namespace Go.Proofs.Ytdjecenggngdjaa
set_option linter.unusedSimpArgs false
set_option linter.unusedVariables false
set_option maxHeartbeats 16000000
section
open Go Go.RowKit
namespace Sp
open M
def Byts (L : List Int) : Prop := ∀ j, 0 ≤ gi L j ∧ gi L j < 256
def Lies (A : Array Value) (o : Nat) (B : List Int) : Prop := ∀ j, j < B.length → A[o + j]? = some (.int .u8 (gi B j))
theorem Lies.extract {A : Array Value} {o : Nat} {B : List Int} (h : Lies A o B) {m : Nat} (hm : m ≤ B.length) : A.extract o (o + m) = ints .u8 (B.take m) := by
  apply Array.ext_getElem?
  intro j
  rw [Array.getElem?_extract]
  by_cases hj : j < m
  · have h1 := h j (by omega)
    have hs : o + j < A.size := (Array.getElem?_eq_some_iff.1 h1).1
    rw [if_pos (by omega), h1, ints_get (by simp; omega)]
    simp [gi, List.getElem?_take, hj]
  · rw [if_neg (by omega), Array.getElem?_eq_none (by simp [ints]; omega)]
theorem Lies.row (B J : List Int) : Lies (ints .u8 (B ++ J)) 0 B := by
  intro j hj
  rw [Nat.zero_add, ints_get (by simp; omega)]
  simp [gi, List.getElem?_append, hj]
theorem Lies.whole (B : List Int) : Lies (ints .u8 B) 0 B := by
  intro j hj
  rw [Nat.zero_add, ints_get hj]
theorem Lies.part (L : List Int) (o n : Nat) (h : o + n ≤ L.length) : Lies (ints .u8 L) o ((L.drop o).take n) := by
  intro j hj
  simp at hj
  have e : ((L.drop o).take n)[j]? = L[o + j]? := by rw [List.getElem?_take, if_pos (by omega), List.getElem?_drop]
  rw [ints_get (by omega)]
  unfold gi
  rw [List.getD_eq_getElem?_getD, List.getD_eq_getElem?_getD, e]
theorem Lies.cut {A : Array Value} {o : Nat} {B : List Int} (h : Lies A o B) (a n : Nat) : Lies A (o + a) ((B.drop a).take n) := by
  intro j hj
  simp at hj
  have := h (a + j) (by omega)
  have e : ((B.drop a).take n)[j]? = B[a + j]? := by rw [List.getElem?_take, if_pos (by omega), List.getElem?_drop]
  rw [Nat.add_assoc, this]
  unfold gi
  rw [List.getD_eq_getElem?_getD, List.getD_eq_getElem?_getD, e]
theorem Lies.drop {A : Array Value} {o : Nat} {B : List Int} (h : Lies A o B) (a : Nat) : Lies A (o + a) (B.drop a) := by
  intro j hj
  simp at hj
  have := h (a + j) (by omega)
  rw [Nat.add_assoc, this]
  simp [gi, List.getElem?_drop]
theorem Lies.size {A : Array Value} {o : Nat} {B : List Int} (h : Lies A o B) {m : Nat} (hm : m ≤ B.length) (h0 : 0 < m) : o + m ≤ A.size := by
  have h1 := h (m - 1) (by omega)
  have := (Array.getElem?_eq_some_iff.1 h1).1
  omega
structure Sl (w : World) (p : Option Addr) (n c : Nat) (B : List Int) : Prop where
  len : B.length = n
  cap : n ≤ c
  at_ : 0 < n → ∃ sb off A T fz, p = some ⟨sb, off, none⟩ ∧ w.heap[sb]? = some (.cells A T fz) ∧ Lies A off B
theorem Sl.nil (w : World) (p : Option Addr) (c : Nat) : Sl w p 0 c [] := ⟨rfl, Nat.zero_le _, fun h => absurd h (Nat.lt_irrefl 0)⟩
theorem Sl.mk' {w : World} {sb off c : Nat} {A : Array Value} {T : TypeId} {fz : Nat × Nat} {B : List Int} (hb : w.heap[sb]? = some (.cells A T fz)) (hA : Lies A off B) (hc : B.length ≤ c) : Sl w (some ⟨sb, off, none⟩) B.length c B :=
  ⟨rfl, hc, fun _ => ⟨sb, off, A, T, fz, rfl, hb, hA⟩⟩
theorem Sl.old {w w' : World} {p : Option Addr} {n c : Nat} {B : List Int} (h : Sl w p n c B) (hb : Below w.heap.size w w') : Sl w' p n c B :=
  ⟨h.len, h.cap, fun h0 => by
    obtain ⟨sb, off, A, T, fz, e, hh, hl⟩ := h.at_ h0
    exact ⟨sb, off, A, T, fz, e, by rw [hb.block _ (Array.getElem?_eq_some_iff.1 hh).1]; exact hh, hl⟩⟩
theorem Sl.take {w : World} {b off n c k : Nat} {B : List Int} (h : Sl w (some ⟨b, off, none⟩) n c B) (hk : k ≤ n) : Sl w (some ⟨b, off, none⟩) k c (B.take k) :=
  ⟨by rw [List.length_take, h.len]; omega, Nat.le_trans hk h.cap, fun h0 => by
    obtain ⟨sb, o, A, T, fz, e, hh, hl⟩ := h.at_ (by omega)
    exact ⟨sb, o, A, T, fz, e, hh, by have := hl.cut 0 k; simpa using this⟩⟩
theorem Sl.drop {w : World} {b off n c k : Nat} {B : List Int} (h : Sl w (some ⟨b, off, none⟩) n c B) (hk : k ≤ n) : Sl w (some ⟨b, off + k, none⟩) (n - k) (c - k) (B.drop k) :=
  ⟨by rw [List.length_drop, h.len], by have := h.cap; omega, fun h0 => by
    obtain ⟨sb, o, A, T, fz, e, hh, hl⟩ := h.at_ (by omega)
    simp only [Option.some.injEq, Addr.mk.injEq, and_true] at e
    obtain ⟨rfl, rfl⟩ := e
    exact ⟨_, _, A, T, fz, rfl, hh, hl.drop k⟩⟩
theorem Sl.apart {w0 W : World} {bs : Mem} {q : Option Addr} {k d pb : Nat} {D : List Int} {A : Array Value} {T : TypeId} (hS : Sl w0 q k d D) (hw : OwnM w0 [] W bs) (hm : (pb, A, T) ∈ bs) : 0 < k → ∀ sb off, q = some ⟨sb, off, none⟩ → sb ≠ pb := fun h0 sb off he => by
  obtain ⟨sb', off', A', T', fz', e', hh, _⟩ := hS.at_ h0
  rw [he] at e'
  have h1 := (hw.here _ hm).1
  have h2 := (Array.getElem?_eq_some_iff.1 hh).1
  simp at h1 e'
  omega
theorem zeroCells_int (k : IntKind) (n : Nat) : Builtin.zeroCells (Value.cells (.int k 0)) n = ints k (List.replicate n 0) := by
  apply Array.ext_getElem?
  intro j
  have e : Value.cells (.int k 0) = #[.int k 0] := rfl
  rw [e]
  by_cases hj : j < n
  · rw [ints_get (by simpa using hj)]
    simp [Builtin.zeroCells, hj, gi, Nat.mod_one]
  · rw [Array.getElem?_eq_none (by simp [Builtin.zeroCells]; omega), Array.getElem?_eq_none (by simp [ints]; omega)]
theorem ints_append (k : IntKind) (L M : List Int) : ints k (L ++ M) = ints k L ++ ints k M := by simp [ints]
theorem madeCells_int (k : IntKind) (n : Nat) : madeCells (Value.cells (.int k 0)) n = ints k (List.replicate n 0) := by
  apply Array.ext_getElem?
  intro j
  have e : Value.cells (.int k 0) = #[.int k 0] := rfl
  rw [e]
  by_cases hj : j < n
  · rw [ints_get (by simpa using hj)]
    simp [madeCells, hj, gi, Nat.mod_one]
  · rw [Array.getElem?_eq_none (by simp [madeCells]; omega), Array.getElem?_eq_none (by simp [ints]; omega)]
section
variable {P : Program} {tab : Tab} {w0 : World} {mu : List Nat} {bs : Mem} {l l' : List Value} {ops : Array Oper} {rest : List Oper} {Q : ExitP}
variable {dst : Option Tmp} {op : Op} {ty : TypeId} {pos : String} {af : Array Edge}
theorem Sl.of {w : World} {b off n c : Nat} {A : Array Value} {B : List Int} (hw : OwnM w0 mu w bs) (hr : RdA w0 mu bs b A) (hA : Lies A off B) (hn : B.length = n) (hc : n ≤ c) : Sl w (some ⟨b, off, none⟩) n c B := by
  subst hn
  obtain ⟨T, fz, hb⟩ := hr.get hw
  exact Sl.mk' hb hA hc
theorem run_call_append {w : World} {s x : Operand} {t tx : TypeId} {gd : Option (Nat × Bool)} {sv xv : Value} (hs : evL l s = sv) (hx : evL l x = xv) :
    (execOp (⟨l.toArray, []⟩ : Act).eval ⟨dst, .call { callee := .builtin .append, args := #[s, x], argTypes := #[t, tx] }, ty, pos, af, gd⟩).run P w = ((Builtin.append_ #[t, tx] ty #[sv, xv]).run P w).andThen fun v w' => .ok (.value v) w' := by
  unfold execOp
  have ha : (#[s, x].map (⟨l.toArray, []⟩ : Act).eval) = #[sv, xv] := by simp [evL_eq, hs, hx]
  simp only [resolve, Sem.run_bind, Sem.run_pure, Result.andThen_ok, invoke, builtin, ha]
theorem SL.eff {R : Value → Mem → Prop} (hr : ∀ w, OwnM w0 mu w bs → ∃ v w' bs', (execOp (⟨l.toArray, []⟩ : Act).eval ⟨dst, op, ty, pos, af, none⟩).run P w = .ok (.value v) w' ∧ R v bs' ∧ OwnM w0 mu w' bs')
    (h : ∀ v bs', R v bs' → SL P ops w0 mu rest Q (putL l dst v) bs') : SL P ops w0 mu (⟨dst, op, ty, pos, af, none⟩ :: rest) Q l bs := by
  refine ⟨fun W Q' hw hA => ?_⟩
  refine wpList_plain rfl fun K hK => ?_
  obtain ⟨v, w', bs', he, hR, hw'⟩ := hr W hw
  unfold Oper.wp
  rw [he]
  exact hK _ _ (by rw [putL_eq]; exact (h v bs' hR).run _ _ hw' hA)
theorem run_append_none {w : World} {t tx e : TypeId} {ty : TypeId} {i : TypeInfo} (ht : P.underlying t = some (.slice e)) (hi : P.info? e = some i) {x : Value} (hs : Src P i.size tx x 0 [] w) (base : Option Addr) (n c : Nat) (hc : n ≤ c) :
    (Builtin.append_ #[t, tx] ty #[.slice base n c, x]).run P w = .ok (.slice base n c) w := by
  have hst : ∀ a : Addr, (storeCells a ([] : List Value) 0).run P w = .ok () w := fun a => rfl
  rcases hs.kind with ⟨e', hk⟩ | hk <;> cases base <;> simp [Builtin.append_, run_underlying ht, run_underlying hk, sizeOf, typeInfo, hi, hs.len, hc, hs.cells, hst]
theorem SL.made (ht : TabOk P tab) {x y : Operand} {t e sz n : Nat} {k : IntKind} {kl kc : IntKind} (hz : (P.info? e).map (·.zero) = some (some (.int k 0))) (hmax : n ≤ 281474976710656)
    {l' : Nat → List Value} (h : ∀ nb, SL P ops w0 mu rest Q (l' nb) ((nb, ints k (List.replicate n 0), e) :: bs)) (hx : evL l x = .int kl (n : Int) := by rfl) (hy : evL l y = .int kc (n : Int) := by rfl)
    (hl : look tab t = some (.sl e 1 1, sz) := by rfl)
    (hp : ∀ nb, putL l dst (.slice (some ⟨nb, 0, none⟩) n n) = l' nb := by intro _; first | (dsimp only [putL, setNth]; done) | (dsimp only [putL, setNth]; rfl)) :
    SL P ops w0 mu (⟨dst, .makeSlice t x y, ty, pos, af, none⟩ :: rest) Q l bs := by
  refine SL.eff (R := fun v bs' => ∃ nb, v = .slice (some ⟨nb, 0, none⟩) n n ∧ bs' = (nb, ints k (List.replicate n 0), e) :: bs) (fun w hw => ?_) (by rintro v bs' ⟨nb, rfl, rfl⟩; rw [hp]; exact h nb)
  obtain ⟨hu, hsz, hby⟩ := td_sl (look_ok ht hl)
  cases hq : P.info? e with
  | none => simp [hq] at hsz
  | some inf =>
    have hs1 : inf.size = 1 := by simpa [hq] using hsz
    have hb1 : inf.bytes = 1 := by simpa [hq] using hby
    have hz1 : inf.zero = some (.int k 0) := by simpa [hq] using hz
    have hrun := run_make (P := P) w t e inf _ hu hq hz1 kl kc (n : Int) (n : Int) (by omega) (Int.le_refl _) (by rw [hb1]; omega) (by omega)
    have hex : (execOp (⟨l.toArray, []⟩ : Act).eval ⟨dst, .makeSlice t x y, ty, pos, af, none⟩).run P w = .ok (.value (.slice (some ⟨w.heap.size, 0, none⟩) n n)) (w.alloc (.cells (ints k (List.replicate n 0)) e)) := by
      rw [Int.toNat_natCast, hs1, Nat.mul_one, madeCells_int] at hrun
      unfold execOp
      simp only [evL_eq, hx, hy, Sem.run_bind, hrun, Result.andThen_ok, Sem.run_pure]
    exact ⟨_, _, _, hex, ⟨w.heap.size, rfl, rfl⟩, hw.alloc (ints k (List.replicate n 0)) e⟩
theorem SP.forget {c : Code} (pre : Mem) (h : SP P w0 mu c Q l bs) : SP P w0 mu c Q l (pre ++ bs) := ⟨fun W Q' hw hA => h.run W Q' hw.tail hA⟩
theorem SL.buildSlice {t e : TypeId} {n : Nat} {parts : Array (Nat × Operand)} {cells : Array Value} {ie : TypeInfo} {z : Value} (hu : P.underlying t = some (.slice e)) (hie : P.info? e = some ie) (hz : ie.zero = some z)
    (hsmall : ¬ n * ie.size > 2 ^ 24) (hpos : ¬ n * ie.size = 0) {vals : List (Nat × Value)} (hv : parts.toList.map (fun p => (p.1, evL l p.2)) = vals)
    (hf : Instr.fill (fun i => some (i * ie.size, ie.size)) ((Array.range (n * ie.size)).map (z.cells[· % z.cells.size]!)) vals = some cells)
    {l' : Nat → List Value} (hp : ∀ b, putL l dst (.slice (some ⟨b, 0, none⟩) n n) = l' b) (h : ∀ b, SL P ops w0 mu rest Q (l' b) ((b, cells, e) :: bs)) :
    SL P ops w0 mu (⟨dst, .buildSlice t n parts, ty, pos, af, none⟩ :: rest) Q l bs := by
  subst hv
  refine ⟨fun W Q' hw hA => ?_⟩
  refine wpList_plain rfl fun K hK => ?_
  refine wp_buildSlice t e n parts rfl cells ie z hu hie hz hsmall hpos ?_ ?_
  · rw [Array.toList_map, ← hf]
    simp only [evL_eq]
  · exact hK _ _ (by rw [putL_eq, hp]; exact (h _).run _ _ (hw.alloc _ e) hA)
theorem OwnM.comp {w1 W : World} {bs1 bs2 : Mem} (h1 : OwnM w0 mu w1 bs1) (h2 : OwnM w1 (bs1.map (·.1) ++ mu) W bs2) : OwnM w0 mu W bs2 := by
  have hm : ∀ b, b ∈ bs1.map (·.1) ++ mu → w0.heap.size ≤ b ∨ b ∈ mu := by
    intro b hb
    rcases List.mem_append.1 hb with h | h
    · obtain ⟨p, hp, rfl⟩ := List.mem_map.1 h
      exact (h1.here p hp).1
    · exact .inr h
  refine ⟨h2.os.trans h1.os, h2.tape.trans h1.tape, h2.output.trans h1.output, Nat.le_trans h1.size h2.size, ?_, ?_, h2.apart⟩
  · intro b hb hmu
    rw [h2.rest b (Nat.lt_of_lt_of_le hb h1.size) (fun h => by rcases hm b h with h | h; omega; exact hmu h)]
    exact h1.rest b hb hmu
  · intro p hp
    refine ⟨?_, (h2.here p hp).2⟩
    rcases (h2.here p hp).1 with h | h
    · exact .inl (Nat.le_trans h1.size h)
    · exact hm _ h
theorem SL.bytesC (ht : TabOk P tab) {t e n by_ sz : Nat} {parts : Array (Nat × Operand)} {cells : Array Value} {d1 : Nat} {dst2 : Option Tmp} {ty2 : TypeId} {pos2 : String} {af2 : Array Edge}
    (hl : look tab t = some (.sl e 1 by_, sz)) (hle : look tab e = some (.int .u8, 1)) (hz : (P.info? e).map (·.zero) = some (some (.int .u8 0))) (hn : 0 < n) (hs : n ≤ 16777216)
    {vals : List (Nat × Value)} (hv : parts.toList.map (fun p => (p.1, evL l p.2)) = vals)
    (hf : Instr.fill (fun i => some (i * 1, 1)) ((Array.range (n * 1)).map ((Value.cells (.int .u8 0))[· % (Value.cells (.int .u8 0)).size]!)) vals = some cells)
    {l1 l' : Nat → List Value} (hp : ∀ b, putL l (some d1) (.slice (some ⟨b, 0, none⟩) n n) = l1 b) (hx : ∀ b, evL (l1 b) (.tmp d1) = .slice (some ⟨b, 0, none⟩) n n) (hp2 : ∀ b, putL (l1 b) dst2 (.slice (some ⟨b, 0, none⟩) n n) = l' b)
    (h : ∀ w1 b fz, OwnM w0 [] w1 bs → w1.heap[b]? = some (.cells cells e fz) → b ∉ bs.map (·.1) ++ [] → SL P ops w1 (bs.map (·.1) ++ []) rest Q (l' b) bs) :
    SL P ops w0 [] (⟨some d1, .buildSlice t n parts, ty, pos, af, none⟩ :: ⟨dst2, .convert t t (.tmp d1), ty2, pos2, af2, none⟩ :: rest) Q l bs := by
  subst hv
  obtain ⟨hu, hsz, _⟩ := td_sl (look_ok ht hl)
  have hue := td_int (look_ok ht hle)
  refine ⟨fun W Q' hw hA => ?_⟩
  cases hq : P.info? e with
  | none => simp [hq] at hsz
  | some inf =>
    have hs1 : inf.size = 1 := by simpa [hq] using hsz
    have hz1 : inf.zero = some (.int .u8 0) := by simpa [hq] using hz
    refine wpList_plain rfl fun K hK => ?_
    refine wp_buildSlice t e n parts rfl cells inf _ hu hq hz1 (by rw [hs1]; omega) (by rw [hs1]; omega) ?_ ?_
    · rw [Array.toList_map, ← hf, hs1]
      simp only [evL_eq]
    · refine hK _ _ ?_
      rw [putL_eq, hp]
      refine wpList_plain rfl fun K hK => ?_
      have hc := Go.Lib.run_convert_bytes_const (P := P) W t e cells n n hu hue
      unfold Oper.wp execOp
      simp only [evL_eq, hx, Sem.run_bind, hc, Result.andThen_ok, Sem.run_pure]
      refine hK _ _ ?_
      rw [putL_eq, hp2]
      have hw1 : OwnM w0 [] (W.alloc (.cells cells e (cells.size, cells.size + 1))) bs := hw.grow ((Below.refl _ W).alloc (Nat.le_refl _) _)
      have hb : (W.alloc (.cells cells e (cells.size, cells.size + 1))).heap[W.heap.size]? = some (.cells cells e (cells.size, cells.size + 1)) := heap_alloc_new _ _
      have hnb : W.heap.size ∉ bs.map (·.1) ++ [] := by
        intro hm
        rw [List.append_nil] at hm
        obtain ⟨p, hp', he⟩ := List.mem_map.1 hm
        have := hw.lt hp'
        omega
      exact (h _ _ _ hw1 hb hnb).run _ Q' ⟨rfl, rfl, rfl, Nat.le_refl _, fun _ _ _ => rfl, fun p hp => ⟨.inr (List.mem_append_left _ (List.mem_map_of_mem hp)), (hw1.here p hp).2⟩, hw1.apart⟩ fun e l bs' W' hQ hw' => hA e l bs' W' hQ (OwnM.comp hw1 hw')
end
section
variable {P : Program} {tab : Tab} {w0 : World} {mu : List Nat} {bs : Mem} {l : List Value} {dst : Option Tmp} {ty : TypeId} {pos : String} {af : Array Edge} {gd : Option (Nat × Bool)}
theorem run_equalIn_bool (w : World) (d t : Nat) (a b : Bool) (h : P.underlying t = some .bool) : (Op.equalIn (d + 1) t (.bool a) (.bool b)).run P w = .ok (a == b) w := by
  simp [Op.equalIn, run_underlying h]
theorem ValO.eqB (ht : TabOk P tab) {t t' : TypeId} {x y : Operand} {a b r : Bool} {sz : Nat} (hl : look tab t = some (.bool, sz)) (hx : evL l x = .bool a) (hy : evL l y = .bool b) (hr : (a == b) = r) :
    ValO P w0 mu bs l ⟨dst, .binOp .eql t x y t', ty, pos, af, gd⟩ (.bool r) := by
  subst hr
  have hu := td_bool (look_ok ht hl)
  refine ⟨M.growAt_pure fun w => ?_⟩
  unfold execOp
  simp only [evL_eq, hx, hy]
  have h1 : (eqGuard .eql t x y (.bool a) (.bool b)).run P w = .ok () w := by simp [eqGuard]
  have h2 := run_equalIn_bool (P := P) w 9999 t a b hu
  have h3 : (binOp .eql t (.bool a) (.bool b)).run P w = .ok (.bool (a == b)) w := by
    simp only [binOp]
    simp [Op.equal, Op.maxDepth, h2]
  rw [Sem.run_bind, Sem.run_bind, h1, Result.andThen_ok, h3]
  rfl
theorem ValO.cutN (ht : TabOk P tab) {t : TypeId} {x : Operand} {lo hi : Option Operand} {e esz by_ sz : Nat} (hx : evL l x = .slice none 0 0) (hl : look tab t = some (.sl e esz by_, sz))
    (hlo : bnd (lo.map (evL l)) 0 0) (hhi : bnd (hi.map (evL l)) 0 0) : ValO P w0 mu bs l ⟨dst, .slice t x lo hi none, ty, pos, af, gd⟩ (.slice none 0 0) := by
  obtain ⟨hu, hs, _⟩ := td_sl (look_ok ht hl)
  refine ⟨M.growAt_pure fun w => ?_⟩
  cases hq : P.info? e with
  | none => simp [hq] at hs
  | some inf =>
    have hs' : inf.size = esz := by simpa [hq] using hs
    have hb := run_bounds (P := P) w true 0 0 0 0 _ _ hlo hhi (Nat.le_refl _) (Nat.le_refl _)
    unfold execOp
    simp only [evL_eq, hx]
    simp only [opt_eval, Instr.sliceAt, Instr.slice, Sem.run_bind, run_underlying hu, Result.andThen_ok, Sem.run_pure, Option.map_none, hb, sizeOf, typeInfo, run_program, hq, hs', Option.map_some]
    simp
end
end Sp
end
section
open Go Go.RowKit
def M64 : Int := 18446744073709551616
def W64 (x : Int) : Prop := 0 ≤ x ∧ x < M64
theorem maskN (a : Nat) (ha : a < 18446744073709551616) : bits .and .u64 (a : Int) 4294967295 = ((a % 4294967296 : Nat) : Int) := by
  have h := u64_and_nat a 4294967295 ha (by omega)
  have e : a &&& 4294967295 = a % 4294967296 := Nat.and_two_pow_sub_one_eq_mod a 32
  rw [e] at h
  exact h
theorem divN (a : Nat) : (a : Int) / 4294967296 = ((a / 4294967296 : Nat) : Int) := by omega
theorem mulN (a b : Nat) : (a : Int) * (b : Int) = ((a * b : Nat) : Int) := (Int.natCast_mul a b).symm
theorem addN' (a b : Nat) : (a : Int) + (b : Int) = ((a + b : Nat) : Int) := (Int.natCast_add a b).symm
theorem wrapN (a : Nat) (ha : a < 18446744073709551616) : IntKind.u64.wrap (a : Int) = (a : Int) := by rw [IntKind.wrap_u64]; omega
theorem wrapM (a : Nat) : IntKind.u64.wrap (a : Int) = ((a % 18446744073709551616 : Nat) : Int) := by rw [IntKind.wrap_u64]; omega
theorem mul64_nat (x y : Nat) (hx : x < 18446744073709551616) (hy : y < 18446744073709551616) (w : World) :
    Calls Try.prog 79 #[.int .u64 x, .int .u64 y] w fun e w' => e = .returned (.tuple #[.int .u64 ((x * y / 18446744073709551616 : Nat) : Int), .int .u64 ((x * y % 18446744073709551616 : Nat) : Int)]) ∧ w = w' := by
  obtain ⟨bd, bt, bw, hhi⟩ := Lib.mul64_hi x y hx hy
  have ba := Lib.half_mul_le (a := x / 4294967296) (b := y / 4294967296) (by omega) (by omega)
  have bb := Lib.half_mul_le (a := x / 4294967296) (b := y % 4294967296) (by omega) (by omega)
  have bc := Lib.half_mul_le (a := x % 4294967296) (b := y / 4294967296) (by omega) (by omega)
  have ba' : x / 4294967296 * (y / 4294967296) < 18446744073709551616 := by omega
  have bb' : x / 4294967296 * (y % 4294967296) < 18446744073709551616 := by omega
  have bc' : x % 4294967296 * (y / 4294967296) < 18446744073709551616 := by omega
  have bh1 : x / 4294967296 * (y / 4294967296) + (x / 4294967296 * (y % 4294967296) + x % 4294967296 * (y % 4294967296) / 4294967296) / 4294967296 < 18446744073709551616 := by omega
  have bh : x / 4294967296 * (y / 4294967296) + (x / 4294967296 * (y % 4294967296) + x % 4294967296 * (y % 4294967296) / 4294967296) / 4294967296 + ((x / 4294967296 * (y % 4294967296) + x % 4294967296 * (y % 4294967296) / 4294967296) % 4294967296 + x % 4294967296 * (y / 4294967296)) / 4294967296 < 18446744073709551616 := by omega
  go_enter Try.func79, Try.ntmps79
  go_wp2
  simp only [maskN x hx, maskN y hy, divN, mulN, addN', wrapN _ bd, wrapN _ bb', wrapN _ bt, maskN _ bt, wrapN _ bc', wrapN _ bw, wrapN _ ba', wrapN _ bh1, wrapN _ bh, wrapM (x * y)]
  rw [hhi]
  go_ret2
  exact ⟨rfl, rfl⟩
def mulHi (x y : Int) : Int := x * y / M64
def mulLo (x y : Int) : Int := x * y % M64
theorem mul64_any (x y : Int) (hx : W64 x) (hy : W64 y) (w : World) :
    Calls Try.prog 79 #[.int .u64 x, .int .u64 y] w fun e w' => e = .returned (.tuple #[.int .u64 (mulHi x y), .int .u64 (mulLo x y)]) ∧ w = w' := by
  obtain ⟨X, rfl⟩ := Int.eq_ofNat_of_zero_le hx.1
  obtain ⟨Y, rfl⟩ := Int.eq_ofNat_of_zero_le hy.1
  have h1 := hx.2
  have h2 := hy.2
  unfold M64 at h1 h2
  refine (mul64_nat X Y (by omega) (by omega) w).mono ?_
  rintro e w' ⟨rfl, rfl⟩
  refine ⟨?_, rfl⟩
  unfold mulHi mulLo M64
  simp
theorem mul64_grow (x y : Int) (hx : W64 x) (hy : W64 y) (w : World) :
    Calls Try.prog 79 #[.int .u64 x, .int .u64 y] w fun e w' => e = .returned (.tuple #[.int .u64 (mulHi x y), .int .u64 (mulLo x y)]) ∧ Below w.heap.size w w' :=
  (mul64_any x y hx hy w).mono fun _ _ ⟨he, hw⟩ => ⟨he, hw ▸ Below.refl _ _⟩
theorem W64.hi {x y : Int} (hx : W64 x) (hy : W64 y) : W64 (mulHi x y) := by
  obtain ⟨X, rfl⟩ := Int.eq_ofNat_of_zero_le hx.1
  obtain ⟨Y, rfl⟩ := Int.eq_ofNat_of_zero_le hy.1
  have h1 := hx.2
  have h2 := hy.2
  unfold M64 at h1 h2
  unfold W64 mulHi M64
  have : X * Y < 18446744073709551616 * 18446744073709551616 := by
    exact Nat.mul_lt_mul_of_lt_of_le (by omega) (by omega) (by omega)
  have e : (X : Int) * Y = ((X * Y : Nat) : Int) := by simp
  rw [e]
  omega
theorem W64.lo (x y : Int) : W64 (mulLo x y) := by unfold W64 mulLo M64; omega
def addLo (x y c : Int) : Int := (x + y + c) % M64
def addHi (x y c : Int) : Int := (x + y + c) / M64
theorem W64.addLo (x y c : Int) : W64 (addLo x y c) := by unfold W64 Go.Proofs.Ytdjecenggngdjaa.addLo M64; omega
def Bit (c : Int) : Prop := 0 ≤ c ∧ c ≤ 1
theorem Bit.zero : Bit 0 := by unfold Bit; omega
theorem Bit.addHi {x y c : Int} (hx : W64 x) (hy : W64 y) (hc : Bit c) : Bit (addHi x y c) := by unfold Bit Go.Proofs.Ytdjecenggngdjaa.addHi W64 M64 at *; omega
theorem add64_run (x y c : Int) (hx : W64 x) (hy : W64 y) (hc : Bit c) (w : World) :
    (callFunc 70 #[.int .u64 x, .int .u64 y, .int .u64 c]).run Try.prog w = .ok (.value (.tuple #[.int .u64 (addLo x y c), .int .u64 (addHi x y c)])) w := by
  rw [run_callFunc_extern Try.func70 (by kernel_rfl) (by kernel_rfl) (by kernel_rfl) (e := add64Entry) (by kernel_rfl), run_add64 x y c hx.1 hy.1 hc.1 hc.2]
  rfl
theorem run_call_f {P : Program} {w : World} {o : Oper} {a : Act} {f : FuncId} {args : Array Operand} {ats : Array TypeId} (hop : o.op = .call { callee := .value (.func f), args, argTypes := ats }) {A : Array Value} (hA : args.map a.eval = A) :
    (execOp a.eval o).run P w = (callFunc f A).run P w := by
  subst hA
  unfold execOp
  simp [hop, resolve, Deferred.ofValue, invoke, Act.eval]
section
variable {ops : Array Oper} {Q : Exit → Act → World → Prop} {lf : List Value} {df : List Deferred} {W w0 : World} {bs : Acc} {rest : List Oper} {o : Oper}
theorem wpl_add64 (hgd : o.guard = none) (p q r : Operand) (ats : Array TypeId) (ho : o.op = .call { callee := .value (.func 70), args := #[p, q, r], argTypes := ats })
    (x y c : Int) (hp : evL lf p = .int .u64 x) (hq : evL lf q = .int .u64 y) (hr : evL lf r = .int .u64 c) (hx : W64 x) (hy : W64 y) (hc : Bit c)
    (h : wpList Try.prog ops Q rest ⟨(putL lf o.dst (.tuple #[.int .u64 (addLo x y c), .int .u64 (addHi x y c)])).toArray, df⟩ W) : wpList Try.prog ops Q (o :: rest) ⟨lf.toArray, df⟩ W :=
  wpList_plain hgd fun _ hK => by
    unfold Oper.wp
    rw [run_call_f ho (A := #[.int .u64 x, .int .u64 y, .int .u64 c]) (by simp [evL_eq, hp, hq, hr]), add64_run x y c hx hy hc]
    exact hK _ _ (by rw [putL_eq]; exact h)
end
end
section
open Go Go.RowKit
def sumN (B : Int) (f : Nat → Int) : Nat → Int
  | 0 => 0
  | k + 1 => sumN B f k + f k * B ^ k
def Dig (B : Int) (f : Nat → Int) (k : Nat) : Prop := ∀ i, i < k → 0 ≤ f i ∧ f i < B
theorem sumN_congr {B : Int} {f g : Nat → Int} : ∀ {k : Nat}, (∀ i, i < k → f i = g i) → sumN B f k = sumN B g k
  | 0, _ => rfl
  | k + 1, h => by
    simp only [sumN]
    rw [sumN_congr (fun i hi => h i (by omega)), h k (by omega)]
theorem sumN_upd {B : Int} {f g : Nat → Int} {i : Nat} (h : ∀ j, j ≠ i → g j = f j) : ∀ {k : Nat}, i < k → sumN B g k = sumN B f k + (g i - f i) * B ^ i
  | 0, hi => by omega
  | k + 1, hi => by
    simp only [sumN]
    by_cases hk : i = k
    · subst hk
      rw [sumN_congr (f := g) (g := f) (fun j hj => h j (by omega)), Int.sub_mul]
      omega
    · rw [sumN_upd h (by omega), h k (fun e => hk e.symm)]
      omega
theorem gi_upd (l : List Int) (i : Nat) (v : Int) (j : Nat) (h : j ≠ i) : gi (l.set i v) j = gi l j := by
  unfold gi
  simp [List.getD_eq_getElem?_getD, List.getElem?_set_ne (fun e => h e.symm)]
theorem gi_same (l : List Int) (i : Nat) (v : Int) (h : i < l.length) : gi (l.set i v) i = v := by
  unfold gi
  simp [h]
theorem gi_over (l : List Int) (i : Nat) (h : l.length ≤ i) : gi l i = 0 := by
  unfold gi
  simp [List.getElem?_eq_none h]
theorem gi_rep (n : Nat) (i : Nat) : gi (List.replicate n 0) i = 0 := by
  unfold gi
  by_cases h : i < n <;> simp [h]
theorem sumN_set {B : Int} {l : List Int} {i : Nat} {v : Int} {k : Nat} (hk : i < k) (hl : i < l.length) : sumN B (gi (l.set i v)) k = sumN B (gi l) k + (v - gi l i) * B ^ i := by
  rw [sumN_upd (f := gi l) (fun j hj => gi_upd l i v j hj) hk, gi_same l i v hl]
theorem sumN_zero (B : Int) (f : Nat → Int) : ∀ k, (∀ i, i < k → f i = 0) → sumN B f k = 0
  | 0, _ => rfl
  | k + 1, h => by
    simp only [sumN]
    rw [sumN_zero B f k (fun i hi => h i (by omega)), h k (by omega), Int.zero_mul]
    rfl
theorem ext_gi {l m : List Int} (h : l.length = m.length) (hg : ∀ i, i < l.length → gi l i = gi m i) : l = m := by
  refine List.ext_getElem h fun i h1 h2 => ?_
  have := hg i h1
  unfold gi at this
  simpa [h1, h2] using this
theorem pow_pos' {B : Int} (hB : 0 < B) (k : Nat) : 0 < B ^ k := Int.pow_pos hB
theorem Dig.less {B : Int} {f : Nat → Int} {k j : Nat} (h : Dig B f k) (hj : j ≤ k) : Dig B f j := fun i hi => h i (by omega)
theorem sumN_bound {B : Int} {f : Nat → Int} (hB : 0 < B) : ∀ {k : Nat}, Dig B f k → 0 ≤ sumN B f k ∧ sumN B f k < B ^ k
  | 0, _ => by simp [sumN]
  | k + 1, h => by
    obtain ⟨i1, i2⟩ := sumN_bound hB (h.less (Nat.le_succ k))
    obtain ⟨f1, f2⟩ := h k (by omega)
    have hp := pow_pos' hB k
    have h1 : 0 ≤ f k * B ^ k := Int.mul_nonneg f1 (by omega)
    have h2 : f k * B ^ k ≤ (B - 1) * B ^ k := Int.mul_le_mul_of_nonneg_right (by omega) (by omega)
    rw [Int.sub_mul, Int.one_mul] at h2
    rw [Int.pow_succ, Int.mul_comm (B ^ k) B]
    simp only [sumN]
    omega
theorem digit_eq {P s t a b : Int} (hs : 0 ≤ s) (hs' : s < P) (ht : 0 ≤ t) (ht' : t < P) (h : s + a * P = t + b * P) : a = b ∧ s = t := by
  have h1 : (s + a * P) / P = a := by
    rw [Int.add_mul_ediv_right _ _ (by omega), Int.ediv_eq_zero_of_lt hs hs']
    omega
  have h2 : (t + b * P) / P = b := by
    rw [Int.add_mul_ediv_right _ _ (by omega), Int.ediv_eq_zero_of_lt ht ht']
    omega
  have h3 : a = b := by rw [← h1, ← h2, h]
  subst h3
  exact ⟨rfl, by omega⟩
theorem sumN_inj {B : Int} {f g : Nat → Int} (hB : 0 < B) : ∀ {k : Nat}, Dig B f k → Dig B g k → sumN B f k = sumN B g k → ∀ i, i < k → f i = g i
  | 0, _, _, _, i, hi => by omega
  | k + 1, hf, hg, h, i, hi => by
    obtain ⟨a1, a2⟩ := sumN_bound hB (hf.less (Nat.le_succ k))
    obtain ⟨b1, b2⟩ := sumN_bound hB (hg.less (Nat.le_succ k))
    simp only [sumN] at h
    obtain ⟨e1, e2⟩ := digit_eq a1 a2 b1 b2 h
    by_cases hk : i = k
    · subst hk
      exact e1
    · exact sumN_inj hB (hf.less (Nat.le_succ k)) (hg.less (Nat.le_succ k)) e2 i (by omega)
theorem sumN_digit {B : Int} {f : Nat → Int} (hB : 0 < B) {n i : Nat} (hf : Dig B f n) (hi : i < n) : f i = sumN B f n / B ^ i % B := by
  induction n with
  | zero => omega
  | succ n ih =>
    by_cases hn : i = n
    · subst hn
      obtain ⟨a1, a2⟩ := sumN_bound hB (hf.less (Nat.le_succ i))
      obtain ⟨f1, f2⟩ := hf i (by omega)
      have hp := pow_pos' hB i
      simp only [sumN]
      rw [Int.add_mul_ediv_right _ _ (by omega), Int.ediv_eq_zero_of_lt a1 a2, Int.zero_add, Int.emod_eq_of_lt f1 f2]
    · have h := ih (hf.less (Nat.le_succ n)) (by omega)
      rw [h]
      simp only [sumN]
      obtain ⟨d, hd⟩ : ∃ d, n = d + 1 + i := ⟨n - 1 - i, by omega⟩
      have hp := pow_pos' hB i
      rw [hd, Int.pow_add, ← Int.mul_assoc, Int.add_mul_ediv_right _ _ (by omega), Int.pow_succ, ← Int.mul_assoc, Int.add_mul_emod_self_right]
def IsB (r : List Int) (v : Int) : Prop := r.length = 32 ∧ Dig 256 (gi r) 32 ∧ sumN 256 (gi r) 32 = v
theorem IsB.inj {r s : List Int} {v : Int} (hr : IsB r v) (hs : IsB s v) : r = s :=
  ext_gi (by rw [hr.1, hs.1]) fun i hi => sumN_inj (by omega) hr.2.1 hs.2.1 (by rw [hr.2.2, hs.2.2]) i (by rw [hr.1] at hi; exact hi)
end
section
open Go Go.RowKit
theorem mask51 {x : Int} (h : W64 x) : bits .and .u64 x 2251799813685247 = x % 2251799813685248 := by
  obtain ⟨h0, h1⟩ := h
  unfold M64 at h1
  obtain ⟨n, rfl⟩ := Int.eq_ofNat_of_zero_le h0
  have := u64_and_nat n 2251799813685247 (by omega) (by omega)
  rw [nat_mask51] at this
  exact this
theorem u64_bit {x : Int} (h : W64 x) : bits .and .u64 x 1 = x % 2 := by
  obtain ⟨h0, h1⟩ := h
  unfold M64 at h1
  obtain ⟨n, rfl⟩ := Int.eq_ofNat_of_zero_le h0
  have := u64_and_nat n 1 (by omega) (by omega)
  rw [nat_mask1] at this
  exact this
theorem u8_bit {x : Int} (h0 : 0 ≤ x) (h1 : x < 256) : bits .and .u8 x 1 = x % 2 := by
  obtain ⟨n, rfl⟩ := Int.eq_ofNat_of_zero_le h0
  have := u8_and_nat n 1 (by omega) (by omega)
  rw [nat_mask1] at this
  exact this
theorem i64_low (k : Nat) (hk : k < 63) (n : Int) (m : Int) (hm : (BitVec.ofInt 64 m).toNat = 2 ^ k - 1) (M : Int) (hM : M = ((2 ^ k : Nat) : Int)) : bits .and .i64 n m = n % M := by
  have key : (BitVec.ofInt 64 n &&& BitVec.ofInt 64 m).toNat = (n % ((2 ^ 64 : Nat) : Int)).toNat % 2 ^ k := by
    rw [BitVec.toNat_and, BitVec.toNat_ofInt, hm, Nat.and_two_pow_sub_one_eq_mod]
  show IntKind.i64.wrap ((BitVec.ofInt 64 n &&& BitVec.ofInt 64 m).toNat : Nat) = n % M
  rw [key, IntKind.wrap_i64, hM]
  have h1 : (2 ^ k : Nat) ∣ 2 ^ 64 := Nat.pow_dvd_pow 2 (by omega)
  have h2 : (2 ^ k : Nat) ≤ 2 ^ 62 := Nat.pow_le_pow_right (by omega) (by omega)
  have h3 : 0 < (2 ^ k : Nat) := Nat.pow_pos (by omega)
  have h4 : (((n % ((2 ^ 64 : Nat) : Int)).toNat % 2 ^ k : Nat) : Int) = n % ((2 ^ k : Nat) : Int) := by
    rw [Int.natCast_emod, Int.toNat_of_nonneg (Int.emod_nonneg _ (by omega)), Int.emod_emod_of_dvd _ (Int.natCast_dvd_natCast.2 h1)]
  rw [h4]
  have h5 := Int.emod_nonneg n (show ((2 ^ k : Nat) : Int) ≠ 0 by omega)
  have h6 := Int.emod_lt_of_pos n (show (0 : Int) < ((2 ^ k : Nat) : Int) by omega)
  generalize n % ((2 ^ k : Nat) : Int) = r at *
  have h7 : ((2 ^ k : Nat) : Int) ≤ 4611686018427387904 := by
    have : ((2 ^ 62 : Nat) : Int) = 4611686018427387904 := rfl
    omega
  omega
theorem i64_bit (n : Int) : bits .and .i64 n 1 = n % 2 := i64_low 1 (by omega) n 1 (by decide) 2 rfl
theorem nat_or_high (x a i : Nat) (h : x < 2 ^ i) : x ||| a * 2 ^ i = x + a * 2 ^ i := by
  have := Nat.two_pow_add_eq_or_of_lt h a
  rw [Nat.or_comm, Nat.mul_comm a, ← this, Nat.add_comm]
theorem u64_or_high {x a : Int} (i : Nat) (h0 : 0 ≤ x) (h1 : x < 2 ^ i) (ha : 0 ≤ a) (hw : x + a * 2 ^ i < M64) : bits .or .u64 x (a * 2 ^ i) = x + a * 2 ^ i := by
  unfold M64 at hw
  obtain ⟨n, rfl⟩ := Int.eq_ofNat_of_zero_le h0
  obtain ⟨m, rfl⟩ := Int.eq_ofNat_of_zero_le ha
  have e : ((m : Int) * 2 ^ i) = ((m * 2 ^ i : Nat) : Int) := by simp
  have e2 : ((2 : Int) ^ i) = ((2 ^ i : Nat) : Int) := by simp
  rw [e2] at h1
  rw [e] at hw ⊢
  rw [u64_or_nat n (m * 2 ^ i) (by omega) (by omega), nat_or_high n m i (by omega)]
  rfl
theorem u8_or_high {x a : Int} (i : Nat) (h0 : 0 ≤ x) (h1 : x < 2 ^ i) (ha : 0 ≤ a) (hw : x + a * 2 ^ i < 256) : bits .or .u8 x (a * 2 ^ i) = x + a * 2 ^ i := by
  obtain ⟨n, rfl⟩ := Int.eq_ofNat_of_zero_le h0
  obtain ⟨m, rfl⟩ := Int.eq_ofNat_of_zero_le ha
  have e : ((m : Int) * 2 ^ i) = ((m * 2 ^ i : Nat) : Int) := by simp
  have e2 : ((2 : Int) ^ i) = ((2 ^ i : Nat) : Int) := by simp
  rw [e2] at h1
  rw [e] at hw ⊢
  rw [u8_or_nat n (m * 2 ^ i) (by omega) (by omega), nat_or_high n m i (by omega)]
  rfl
theorem u64_in {x : Int} (h0 : 0 ≤ x) (h1 : x < M64) : IntKind.u64.wrap x = x := by
  unfold M64 at h1
  rw [IntKind.wrap_u64]; omega
theorem u8_in {x : Int} (h0 : 0 ≤ x) (h1 : x < 256) : IntKind.u8.wrap x = x := by
  rw [IntKind.wrap_u8]; omega
end
end Go.Proofs.Ytdjecenggngdjaa
