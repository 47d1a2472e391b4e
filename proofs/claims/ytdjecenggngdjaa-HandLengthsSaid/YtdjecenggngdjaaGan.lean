/-
  Joined texts: SlX. No conditions.
-/
import Derived.Test.YtdjecenggngdjaaGaf
import Derived.Test.YtdjecenggngdjaaGam
import Derived.Lib.AppendZerosOnto
namespace Go.Proofs.Ytdjecenggngdjaa
set_option linter.unusedSimpArgs false
set_option linter.unusedVariables false
set_option maxHeartbeats 16000000
section
open Go Go.RowKit
namespace Sp
open M
section
variable {P : Program} {ops : Array Oper} {rest : List Oper} {dst : Option Tmp} {ty : TypeId} {pos : String} {af : Array Edge} {l : List Value} {w0 : World} {mu : List Nat} {bs : Mem} {Q : ExitP} {tab : Tab}
theorem set_perm (p : Nat × Array Value × TypeId) : ∀ (L : Mem) (i : Nat), i < L.length → (L.set i p).Perm (p :: L.eraseIdx i)
  | [], i, h => absurd h (Nat.not_lt_zero i)
  | a :: L, 0, _ => by simp
  | a :: L, i + 1, h => by
    simp only [List.set_cons_succ, List.eraseIdx_cons_succ]
    exact ((set_perm p L i (by simpa using h)).cons a).trans (List.Perm.swap _ _ _)
theorem putAt_mid (B M J : List Int) (h : M.length ≤ J.length) : putAt (ints .u8 (B ++ J)) B.length (M.map (Value.int .u8)) = ints .u8 (B ++ M ++ J.drop M.length) := by
  apply Array.ext_getElem?
  intro j
  rw [putAt_get _ _ _ _ (by simp [ints_size]; omega)]
  simp only [ints, List.getElem?_toArray, List.getElem?_map, List.length_map]
  by_cases h1 : j < B.length
  · rw [if_neg (by omega), List.append_assoc, List.getElem?_append_left h1, List.getElem?_append_left h1]
  · by_cases h2 : j < B.length + M.length
    · rw [if_pos (by omega), List.append_assoc, List.getElem?_append_right (by omega), List.getElem?_append_left (by omega)]
    · rw [if_neg (by omega), List.append_assoc, List.getElem?_append_right (by omega), List.getElem?_append_right (by omega), List.getElem?_append_right (by omega), List.getElem?_drop]
      congr 2
      omega
theorem SL.build0 (ht : TabOk P tab) {t e sz by_ : Nat}
    {l' : Nat → List Value} (h : ∀ b, SL P ops w0 mu rest Q (l' b) ((b, ints .u8 [], e) :: bs)) (hl : look tab t = some (.sl e 1 by_, sz) := by rfl)
    (hp : ∀ b, putL l dst (.slice (some ⟨b, 0, none⟩) 0 0) = l' b := by intro _; first | (dsimp only [putL, setNth]; done) | (dsimp only [putL, setNth]; rfl)) :
    SL P ops w0 mu (⟨dst, .buildSlice t 0 #[], ty, pos, af, none⟩ :: rest) Q l bs := by
  refine SL.eff (R := fun v bs' => ∃ b, v = .slice (some ⟨b, 0, none⟩) 0 0 ∧ bs' = (b, ints .u8 [], e) :: bs) (fun w hw => ?_) (by rintro v bs' ⟨b, rfl, rfl⟩; rw [hp]; exact h b)
  obtain ⟨hu, hsz, _⟩ := td_sl (look_ok ht hl)
  cases hq : P.info? e with
  | none => simp [hq] at hsz
  | some inf =>
    have hrun : (Instr.buildSlice t 0 #[]).run P w = .ok (.slice (some ⟨w.heap.size, 0, none⟩) 0 0) (w.alloc (.cells #[] e)) := by
      simp [Instr.buildSlice, run_underlying hu, sizeOf, typeInfo, hq, Instr.fill, newRow]
      congr 2
      exact Array.eq_empty_of_size_eq_zero (by simp)
    refine ⟨_, _, _, ?_, ⟨w.heap.size, rfl, rfl⟩, hw.alloc #[] e⟩
    unfold execOp
    simp only [Array.map_empty, List.map_toArray, List.map_nil, Sem.run_bind, hrun, Result.andThen_ok, Sem.run_pure]
theorem add_zero' (a : Addr) : a.add 0 = a := by
  cases a with
  | mk b o s => cases s <;> simp [Addr.add]
theorem ValO.cutF (ht : TabOk P tab) {gd : Option (Nat × Bool)} {t : TypeId} {x : Operand} {hi : Option Operand} {q : Option Addr} {n c e esz by_ sz z : Nat} (hx : evL l x = .slice q n c) (hl : look tab t = some (.sl e esz by_, sz))
    (hhi : bnd (hi.map (evL l)) n z) (hz : z ≤ c) : ValO P w0 mu bs l ⟨dst, .slice t x none hi none, ty, pos, af, gd⟩ (.slice q z c) := by
  obtain ⟨hu, hs, _⟩ := td_sl (look_ok ht hl)
  refine ⟨M.growAt_pure fun w => ?_⟩
  cases hq : P.info? e with
  | none => simp [hq] at hs
  | some inf =>
    have hs' : inf.size = esz := by simpa [hq] using hs
    have hb := run_bounds (P := P) w true n c 0 z none _ (by simp [bnd]) hhi (Nat.zero_le _) hz
    unfold execOp
    simp only [evL_eq, hx]
    cases q <;> simp [opt_eval, Instr.sliceAt, Instr.slice, Sem.run_bind, run_underlying hu, hb, sizeOf, typeInfo, hq, hs', add_zero']
theorem SL.build1 (ht : TabOk P tab) {t e sz by_ : Nat} {x : Operand} {v : Int} (hz : (P.info? e).map (·.zero) = some (some (.int .u8 0)))
    {l' : Nat → List Value} (h : ∀ b, SL P ops w0 mu rest Q (l' b) ((b, ints .u8 [v], e) :: bs)) (hx : evL l x = .int .u8 v := by rfl) (hl : look tab t = some (.sl e 1 by_, sz) := by rfl)
    (hp : ∀ b, putL l dst (.slice (some ⟨b, 0, none⟩) 1 1) = l' b := by intro _; first | (dsimp only [putL, setNth]; done) | (dsimp only [putL, setNth]; rfl)) :
    SL P ops w0 mu (⟨dst, .buildSlice t 1 #[(0, x)], ty, pos, af, none⟩ :: rest) Q l bs := by
  obtain ⟨hu, hsz, _⟩ := td_sl (look_ok ht hl)
  cases hq : P.info? e with
  | none => simp [hq] at hsz
  | some inf =>
    have hs1 : inf.size = 1 := by simpa [hq] using hsz
    have hz1 : inf.zero = some (.int .u8 0) := by simpa [hq] using hz
    refine SL.buildSlice (vals := [(0, .int .u8 v)]) hu hq hz1 (by rw [hs1]; decide) (by rw [hs1]; decide) (by simp [hx]) ?_ hp h
    rw [hs1]
    kernel_rfl
theorem SL.appOwn (ht : TabOk P tab) {s x : Operand} {t tx e sz : Nat} {b n cap i m : Nat} {B J M : List Int} {T : TypeId} {xv : Value}
    (hi : bs[i]? = some (b, ints .u8 (B ++ J), T)) (hB : B.length = n) (hJ : n + J.length = cap) (hM : M.length = m) (hmax : n + m ≤ 140737488355328)
    (hsrc : ∀ w, OwnM w0 mu w bs → Src P 1 tx xv m (M.map (Value.int .u8)) w) {nm : Nat} {bs1 : Mem}
    {l' : Nat → Nat → List Value} (h : ∀ nb cap' J' T', nm + J'.length = cap' → SL P ops w0 mu rest Q (l' nb cap') ((nb, ints .u8 (B ++ M ++ J'), T') :: bs1))
    (hz : (P.info? e).map (·.zero) = some (some (.int .u8 0))) (hs : evL l s = .slice (some ⟨b, 0, none⟩) n cap := by rfl) (hx : evL l x = xv := by rfl)
    (hl : look tab t = some (.sl e 1 1, sz) := by rfl)
    (hnm : n + m = nm := by first | rfl | omega) (hbs : bs.eraseIdx i = bs1 := by first | (dsimp only [List.eraseIdx]; done) | (dsimp only [List.eraseIdx]; rfl))
    (hp : ∀ nb cap', putL l dst (.slice (some ⟨nb, 0, none⟩) nm cap') = l' nb cap' := by intro _ _; first | (dsimp only [putL, setNth]; done) | (dsimp only [putL, setNth]; rfl)) :
    SL P ops w0 mu (⟨dst, .call { callee := .builtin .append, args := #[s, x], argTypes := #[t, tx] }, ty, pos, af, none⟩ :: rest) Q l bs := by
  subst hB hM hnm hbs
  refine SL.eff (R := fun v bs' => ∃ nb cap' J' T', B.length + M.length + J'.length = cap' ∧ v = .slice (some ⟨nb, 0, none⟩) (B.length + M.length) cap' ∧ bs' = (nb, ints .u8 (B ++ M ++ J'), T') :: bs.eraseIdx i) (fun w hw => ?_) (by rintro v bs' ⟨nb, cap', J', T', hc, rfl, rfl⟩; rw [hp]; exact h nb cap' J' T' hc)
  obtain ⟨hu, hsz, hby⟩ := td_sl (look_ok ht hl)
  have hb := hw.block (List.mem_of_getElem? hi)
  have hlt : i < bs.length := (List.getElem?_eq_some_iff.1 hi).1
  cases hq : P.info? e with
  | none => simp [hq] at hsz
  | some inf =>
    have hs1 : inf.size = 1 := by simpa [hq] using hsz
    have hb1 : inf.bytes = 1 := by simpa [hq] using hby
    have hz1 : inf.zero = some (.int .u8 0) := by simpa [hq] using hz
    have hsr := hsrc w hw
    rw [← hs1] at hsr
    rw [run_call_append hs hx]
    rcases Nat.lt_or_ge cap (B.length + M.length) with hg | hroom
    · have hcap : Builtin.nextslicecap (B.length + M.length) cap * inf.bytes ≤ 281474976710656 := by
        have := nextslicecap_le hg
        rw [hb1]; omega
      have hold : (Builtin.firstCells inf.size B.length (.slice (some ⟨b, 0, none⟩) B.length cap)).run P w.drew = .ok (B.map (Value.int .u8)).toArray w.drew := by
        refine run_firstCells_some w.drew inf.size B.length ⟨b, 0, none⟩ B.length cap _ (by rw [hs1]; simp) (fun j u hu => ?_)
        have hj : j < B.length := by
          cases h : B[j]? with
          | none => simp [h] at hu
          | some x => exact (List.getElem?_eq_some_iff.1 h).1
        rw [add_off, cell_of_row w.drew b (0 + j) (ints .u8 (B ++ J)) T (0, 0) hb, ← hu]
        simp only [ints, List.getElem?_toArray, List.getElem?_map, Nat.zero_add]
        rw [List.getElem?_append_left hj]
      have hge := grownCap_ge w (B.length + M.length) cap e
      have hrun := run_append_grow_src (P := P) w t tx ty e inf _ hu hq hz1 (some ⟨b, 0, none⟩) B.length cap _ hold xv M.length _ hsr hg (by omega) hcap
      rw [hrun]
      simp only [Result.andThen_ok]
      refine ⟨_, _, _, rfl, ⟨w.heap.size, _, List.replicate (grownCap w (B.length + M.length) cap e - (B.length + M.length)) 0, e, by simp; omega, rfl, rfl⟩, ?_⟩
      have := (hw.drew 1).alloc (ints .u8 (B ++ M ++ List.replicate (grownCap w (B.length + M.length) cap e - (B.length + M.length)) 0)) e
      rw [zeroCells_int, ← List.map_append, show (List.map (Value.int .u8) (B ++ M)).toArray = ints .u8 (B ++ M) from rfl, ← ints_append]
      exact this.sub ((List.eraseIdx_sublist _ _).cons_cons _)
    · have hst := run_storeCells_row (P := P) (M.map (Value.int .u8)) (fun v hv => hsr.one v hv) 0 w b B.length (ints .u8 (B ++ J)) T hb (by simp [ints_size]; omega)
      have hst2 : (storeCells ((⟨b, 0, none⟩ : Addr).add (B.length * inf.size)) (M.map (Value.int .u8)) 0).run P w = .ok () (w.setRow b (ints .u8 (B ++ M ++ J.drop M.length))) := by
        rw [add_off, hs1, Nat.mul_one, Nat.zero_add, hst, Nat.add_zero, putAt_mid B M J (by omega)]
      have hrun : (Builtin.append_ #[t, tx] ty #[.slice (some ⟨b, 0, none⟩) B.length cap, xv]).run P w = .ok (.slice (some ⟨b, 0, none⟩) (B.length + M.length) cap) (w.setRow b (ints .u8 (B ++ M ++ J.drop M.length))) := by
        rcases hsr.kind with ⟨e', hk⟩ | hk <;> simp [Builtin.append_, run_underlying hu, run_underlying hk, sizeOf, typeInfo, hq, hsr.len, hroom, hsr.cells, hst2]
      rw [hrun]
      simp only [Result.andThen_ok]
      exact ⟨_, _, _, rfl, ⟨b, cap, J.drop M.length, T, by simp; omega, rfl, rfl⟩, (hw.setRow hi _).perm (set_perm _ _ _ hlt)⟩
theorem SL.perm {bs' : Mem} (h : SL P ops w0 mu rest Q l bs') (hp : bs.Perm bs') : SL P ops w0 mu rest Q l bs := ⟨fun W Q' hw hA => h.run W Q' (hw.perm hp) hA⟩
theorem src_Sl {w : World} {tx e' : TypeId} (hk : P.underlying tx = some (.slice e')) {q : Option Addr} {m c : Nat} {M : List Int} (h : Sl w q m c M) : Src P 1 tx (.slice q m c) m (M.map (Value.int .u8)) w := by
  by_cases h0 : m = 0
  · subst h0
    obtain rfl : M = [] := List.eq_nil_of_length_eq_zero h.len
    cases q with
    | none => exact Src.ofNil w hk c
    | some a => exact Src.ofSlice w hk a 0 c [] (by simp) (fun j u hj => by simp at hj) (fun u hm => by cases hm)
  · obtain ⟨b, off, A, T, fz, rfl, hb, hA⟩ := h.at_ (by omega)
    have hlen := h.len
    refine Src.ofSlice w hk ⟨b, off, none⟩ m c _ (by simp [hlen]) (fun j u hu => ?_) (by simp [Value.oneCell'])
    rw [List.getElem?_map] at hu
    have hj : j < M.length := by
      cases h : M[j]? with
      | none => simp [h] at hu
      | some x => exact (List.getElem?_eq_some_iff.1 h).1
    have h1 := hA j hj
    rw [add_off, cell_of_row w b (off + j) A T fz hb, h1, ← hu]
    simp [gi, hj]
def AllO (v : Value) (X : List Int) (m : Mem) : Prop :=
  (X = [] ∧ v = .slice none 0 0 ∧ m = []) ∨ ∃ b cap J T, v = .slice (some ⟨b, 0, none⟩) X.length cap ∧ m = [(b, ints .u8 (X ++ J), T)] ∧ X.length + J.length = cap
theorem AllO.start : AllO (.slice none 0 0) [] [] := .inl ⟨rfl, rfl, rfl⟩
theorem AllO.sl {v : Value} {X : List Int} {m pre : Mem} (h : AllO v X m) {w : World} (hw : OwnM w0 mu w (pre ++ m)) : ∃ q c, v = .slice q X.length c ∧ Sl w q X.length c X := by
  rcases h with ⟨rfl, rfl, rfl⟩ | ⟨b, cap, J, T, rfl, rfl, hc⟩
  · exact ⟨none, 0, rfl, Sl.nil w none 0⟩
  · exact ⟨_, cap, rfl, Sl.of hw (.inl ⟨T, by simp⟩) (Lies.row X J) rfl (by omega)⟩
end
end Sp
end
section
open Go Go.RowKit
namespace Sp
open M
section
variable {P : Program} {ops : Array Oper} {rest : List Oper} {dst : Option Tmp} {ty : TypeId} {pos : String} {af : Array Edge} {l : List Value} {w0 : World} {mu : List Nat} {bs : Mem} {Q : ExitP} {tab : Tab}
end
end Sp
end
section
open Go Go.RowKit
namespace Sp
open M
section
variable {P : Program} {ops : Array Oper} {rest : List Oper} {dst : Option Tmp} {ty : TypeId} {pos : String} {af : Array Edge} {l : List Value} {w0 : World} {mu : List Nat} {bs : Mem} {Q : ExitP} {tab : Tab}
theorem SL.sub {bs' : Mem} (h : SL P ops w0 mu rest Q l bs') (hs : bs'.Sublist bs) : SL P ops w0 mu rest Q l bs := ⟨fun W Q' hw hA => h.run W Q' (hw.sub hs) hA⟩
theorem SP.sub {c : Code} {bs' : Mem} (h : SP P w0 mu c Q l bs') (hs : bs'.Sublist bs) : SP P w0 mu c Q l bs := ⟨fun W Q' hw hA => h.run W Q' (hw.sub hs) hA⟩
theorem ValO.cutM (ht : TabOk P tab) {gd : Option (Nat × Bool)} {t : TypeId} {x hi mx : Operand} {b off n c e esz by_ sz z : Nat} {k k' : IntKind} (hx : evL l x = .slice (some ⟨b, off, none⟩) n c) (hl : look tab t = some (.sl e esz by_, sz))
    (hhi : evL l hi = .int k (z : Int)) (hmx : evL l mx = .int k' (z : Int)) (hz : z ≤ c) : ValO P w0 mu bs l ⟨dst, .slice t x none (some hi) (some mx), ty, pos, af, gd⟩ (.slice (some ⟨b, off, none⟩) z z) := by
  obtain ⟨hu, hs, _⟩ := td_sl (look_ok ht hl)
  refine ⟨M.growAt_pure fun w => ?_⟩
  cases hq : P.info? e with
  | none => simp [hq] at hs
  | some inf =>
    have hs' : inf.size = esz := by simpa [hq] using hs
    have hb : (Instr.sliceBounds true n c none (some (.int k (z : Int))) (some (.int k' (z : Int)))).run P w = .ok (0, z, z) w := by
      simp [Instr.sliceBounds, Instr.sliceBound, asIntOf, hz]
    unfold execOp
    simp only [evL_eq, hx]
    by_cases h0 : z = 0
    · subst h0
      have e0 : ((0 : Nat) : Int) = 0 := rfl
      rw [e0] at hb hhi hmx
      simp [evL_eq, Instr.sliceAt, Instr.slice, Sem.run_bind, run_underlying hu, hhi, hmx, hb, sizeOf, typeInfo, hq, hs', add_zero']
    · simp [evL_eq, Instr.sliceAt, Instr.slice, Sem.run_bind, run_underlying hu, hhi, hmx, hb, sizeOf, typeInfo, hq, hs', add_zero', h0]
theorem SL.appGz (ht : TabOk P tab) {s x : Operand} {t tx e e' by' sz sz' : Nat} {p q : Option Addr} {n m c : Nat} {B M : List Int} (hm0 : 0 < m) (hmax : n + m ≤ 140737488355328)
    (hS : ∀ w, OwnM w0 mu w bs → Sl w p n n B) (hM : ∀ w, OwnM w0 mu w bs → Sl w q m c M) {nm : Nat}
    {l' : Nat → Nat → List Value} (h : ∀ nb cap', nm ≤ cap' → SL P ops w0 mu rest Q (l' nb cap') ((nb, ints .u8 (B ++ M ++ List.replicate (cap' - nm) 0), e) :: bs))
    (hz : (P.info? e).map (·.zero) = some (some (.int .u8 0))) (hs : evL l s = .slice p n n := by rfl) (hx : evL l x = .slice q m c := by rfl)
    (hl : look tab t = some (.sl e 1 1, sz) := by rfl) (hl' : look tab tx = some (.sl e' 1 by', sz') := by rfl)
    (hnm : n + m = nm := by first | rfl | omega)
    (hp : ∀ nb cap', putL l dst (.slice (some ⟨nb, 0, none⟩) nm cap') = l' nb cap' := by intro _ _; first | (dsimp only [putL, setNth]; done) | (dsimp only [putL, setNth]; rfl)) :
    SL P ops w0 mu (⟨dst, .call { callee := .builtin .append, args := #[s, x], argTypes := #[t, tx] }, ty, pos, af, none⟩ :: rest) Q l bs := by
  subst hnm
  refine SL.eff (R := fun v bs' => ∃ nb cap', n + m ≤ cap' ∧ v = .slice (some ⟨nb, 0, none⟩) (n + m) cap' ∧ bs' = (nb, ints .u8 (B ++ M ++ List.replicate (cap' - (n + m)) 0), e) :: bs) (fun w hw => ?_) (by rintro v bs' ⟨nb, cap', hc, rfl, rfl⟩; rw [hp]; exact h nb cap' hc)
  obtain ⟨hu, hsz, hby⟩ := td_sl (look_ok ht hl)
  obtain ⟨hu', _, _⟩ := td_sl (look_ok ht hl')
  have hSw := hS w hw
  have hMw := hM w hw
  have hlB := hSw.len
  have hlM := hMw.len
  cases hq : P.info? e with
  | none => simp [hq] at hsz
  | some inf =>
    have hs1 : inf.size = 1 := by simpa [hq] using hsz
    have hb1 : inf.bytes = 1 := by simpa [hq] using hby
    have hz1 : inf.zero = some (.int .u8 0) := by simpa [hq] using hz
    have hsr := src_Sl hu' hMw
    rw [← hs1] at hsr
    rw [run_call_append hs hx]
    have hg : n < n + m := by omega
    have hcap : Builtin.nextslicecap (n + m) n * inf.bytes ≤ 281474976710656 := by
      have := nextslicecap_le hg
      rw [hb1]; omega
    have hold : (Builtin.firstCells inf.size n (.slice p n n)).run P w.drew = .ok (B.map (Value.int .u8)).toArray w.drew := by
      by_cases h0 : n = 0
      · subst h0
        obtain rfl : B = [] := List.eq_nil_of_length_eq_zero hlB
        cases p with
        | none => exact run_firstCells_none w.drew _ 0 0 0
        | some a => exact run_firstCells_some w.drew inf.size 0 a 0 0 _ (by simp) (fun j u hu => by simp at hu)
      · obtain ⟨b, off, A, T, fz, rfl, hb, hA⟩ := hSw.at_ (by omega)
        have hdr : w.drew.heap[b]? = some (.cells A T fz) := hb
        refine run_firstCells_some w.drew inf.size n ⟨b, off, none⟩ n n _ (by rw [hs1]; simp [hlB]) (fun j u hu => ?_)
        rw [List.getElem?_map] at hu
        have hj : j < B.length := by
          cases h : B[j]? with
          | none => simp [h] at hu
          | some x => exact (List.getElem?_eq_some_iff.1 h).1
        have h1 := hA j hj
        rw [add_off, cell_of_row w.drew b (off + j) A T fz hdr, h1, ← hu]
        simp [gi, hj]
    have hge := grownCap_ge w (n + m) n e
    have hrun := run_append_grow_src (P := P) w t tx ty e inf _ hu hq hz1 p n n _ hold (.slice q m c) m _ hsr hg (by omega) hcap
    rw [hrun]
    simp only [Result.andThen_ok]
    refine ⟨_, _, _, rfl, ⟨w.heap.size, _, by omega, rfl, rfl⟩, ?_⟩
    have := (hw.drew 1).alloc (ints .u8 (B ++ M ++ List.replicate (grownCap w (n + m) n e - (n + m)) 0)) e
    rw [zeroCells_int, ← List.map_append, show (List.map (Value.int .u8) (B ++ M)).toArray = ints .u8 (B ++ M) from rfl, ← ints_append]
    exact this
end
end Sp
end
section
open Go Go.RowKit
namespace Sp
open M
structure AO (q : Option Addr) (n c : Nat) (X : List Int) (m : Mem) : Prop where
  len : X.length = n
  cap : n ≤ c
  at_ : 0 < n → ∃ b J T, q = some ⟨b, 0, none⟩ ∧ m = [(b, ints .u8 (X ++ J), T)]
theorem AO.nil : AO none 0 0 [] [] := ⟨rfl, Nat.le_refl _, fun h => absurd h (Nat.lt_irrefl 0)⟩
theorem AO.row {n c : Nat} {X J : List Int} {b : Nat} {T : TypeId} (hl : X.length = n) (hc : n ≤ c) : AO (some ⟨b, 0, none⟩) n c X [(b, ints .u8 (X ++ J), T)] := ⟨hl, hc, fun _ => ⟨b, J, T, rfl, rfl⟩⟩
variable {P : Program} {ops : Array Oper} {rest : List Oper} {dst : Option Tmp} {ty : TypeId} {pos : String} {af : Array Edge} {l : List Value} {w0 : World} {mu : List Nat} {bs : Mem} {Q : ExitP} {tab : Tab}
theorem AO.sl {q : Option Addr} {n c : Nat} {X : List Int} {m : Mem} (h : AO q n c X m) {w : World} (hw : OwnM w0 mu w bs) (hs : m.Sublist bs) : Sl w q n c X :=
  ⟨h.len, h.cap, fun h0 => by
    obtain ⟨b, J, T, rfl, rfl⟩ := h.at_ h0
    have hb := hw.block (hs.subset (List.mem_singleton.2 rfl))
    exact ⟨b, 0, _, T, _, rfl, hb, Lies.row X J⟩⟩
theorem OwnM.freshL {w w' : World} {abs : Mem} (h : OwnM w0 mu w bs) (h' : OwnM w [] w' abs) : OwnM w0 mu w' (bs ++ abs) := by
  have h2 := h.grow h'.below
  have hge : ∀ p ∈ abs, w.heap.size ≤ p.1 := fun p hp => by simpa using (h'.here p hp).1
  refine ⟨h2.os, h2.tape, h2.output, h2.size, h2.rest, ?_, ?_⟩
  · intro p hp
    rcases List.mem_append.1 hp with hp | hp
    · exact h2.here p hp
    · exact ⟨.inl (Nat.le_trans h.size (hge p hp)), (h'.here p hp).2⟩
  · rw [List.map_append, List.nodup_append]
    refine ⟨h2.apart, h'.apart, ?_⟩
    intro a ha b hb he
    obtain ⟨p, hp, rfl⟩ := List.mem_map.1 ha
    obtain ⟨p', hp', rfl⟩ := List.mem_map.1 hb
    have h1 := h.lt hp
    have h3 := hge p' hp'
    omega
theorem SL.clA {f : FuncId} {args : List Operand} {ats : Array TypeId} (hent : ∀ (A : Array Value) (w : World), (callFunc f A).run P w = .ok (.enter f A) w) {vals : List Value} (hv : args.map (evL l) = vals)
    {V : Option Addr → Nat → Value} {n : Nat} {X : List Int} {l' : Option Addr → Nat → List Value} {bs' : Mem → Mem}
    (hc : ∀ w, OwnM w0 mu w bs → Calls P f vals.toArray w fun e w' => ∃ q c abs, e = .returned (V q c) ∧ AO q n c X abs ∧ OwnM w [] w' abs)
    (h : ∀ q c abs, AO q n c X abs → SL P ops w0 mu rest Q (l' q c) (bs' abs)) (hbs : ∀ abs, bs ++ abs = bs' abs := by intro _; first | (simp only [List.cons_append, List.nil_append, List.append_assoc]; done) | (simp only [List.cons_append, List.nil_append, List.append_assoc]; rfl))
    (hp : ∀ q c, putL l dst (V q c) = l' q c := by intro _ _; first | (dsimp only [putL, setNth]; done) | (dsimp only [putL, setNth]; rfl)) :
    SL P ops w0 mu (⟨dst, .call { callee := .value (.func f), args := args.toArray, argTypes := ats }, ty, pos, af, none⟩ :: rest) Q l bs := by
  refine SL.callG hent hv (R := fun v' bs2 => ∃ q c abs, AO q n c X abs ∧ v' = V q c ∧ bs2 = bs' abs) (fun w hw => (hc w hw).mono fun e w' hx => ?_) (by rintro v' bs2 ⟨q, c, abs, ha, rfl, rfl⟩; rw [hp]; exact h q c abs ha)
  obtain ⟨q, c, abs, rfl, ha, hw'⟩ := hx
  exact ⟨_, _, rfl, ⟨q, c, abs, ha, rfl, rfl⟩, by rw [← hbs]; exact OwnM.freshL hw hw'⟩
end Sp
end
section
open Go Go.RowKit
namespace Sp
open M
section
variable {P : Program} {ops : Array Oper} {rest : List Oper} {dst : Option Tmp} {ty : TypeId} {pos : String} {af : Array Edge} {l : List Value} {w0 : World} {mu : List Nat} {bs : Mem} {Q : ExitP} {tab : Tab}
theorem ValO.s2a (ht : TabOk P tab) {gd : Option (Nat × Bool)} {arr : TypeId} {x : Operand} {q : Option Addr} {n c m e esz sz : Nat} (hx : evL l x = .slice q n c) (hl : look tab arr = some (.arr m e esz, sz)) (hm : m ≤ n) :
    ValO P w0 mu bs l ⟨dst, .sliceToArrayPointer arr x, ty, pos, af, gd⟩ (.pointer q) := by
  have hu := (td_arr (look_ok ht hl)).1
  refine ⟨M.growAt_pure fun w => ?_⟩
  unfold execOp
  simp only [evL_eq, hx]
  simp [Instr.arrayAt, run_underlying hu, Nat.not_lt.2 hm, Sem.run_bind]
theorem SL.build2S (ht : TabOk P tab) {t e sz by_ : Nat} {x y : Operand} {p q : Option Addr} {n c m d : Nat} (hz : (P.info? e).map (·.zero) = some (some (.slice none 0 0)))
    {l' : Nat → List Value} (h : ∀ b, SL P ops w0 mu rest Q (l' b) ((b, #[.slice p n c, .slice q m d], e) :: bs)) (hx : evL l x = .slice p n c := by rfl) (hy : evL l y = .slice q m d := by rfl) (hl : look tab t = some (.sl e 1 by_, sz) := by rfl)
    (hp : ∀ b, putL l dst (.slice (some ⟨b, 0, none⟩) 2 2) = l' b := by intro _; first | (dsimp only [putL, setNth]; done) | (dsimp only [putL, setNth]; rfl)) :
    SL P ops w0 mu (⟨dst, .buildSlice t 2 #[(0, x), (1, y)], ty, pos, af, none⟩ :: rest) Q l bs := by
  obtain ⟨hu, hsz, _⟩ := td_sl (look_ok ht hl)
  cases hq : P.info? e with
  | none => simp [hq] at hsz
  | some inf =>
    have hs1 : inf.size = 1 := by simpa [hq] using hsz
    have hz1 : inf.zero = some (.slice none 0 0) := by simpa [hq] using hz
    refine SL.buildSlice (vals := [(0, .slice p n c), (1, .slice q m d)]) hu hq hz1 (by rw [hs1]; decide) (by rw [hs1]; decide) (by simp [hx, hy]) ?_ hp h
    rw [hs1]
    kernel_rfl
end
def padN (n : Nat) : Nat := (16 - n % 16) % 16
theorem pad_eq (n : Nat) : bits .and .i64 (IntKind.i64.wrap (0 - (n : Int))) 15 = ((padN n : Nat) : Int) := by
  rw [i64_low 4 (by omega) _ 15 (by decide) 16 rfl, IntKind.wrap_i64]
  unfold padN
  omega
theorem padN_le (n : Nat) : padN n ≤ 15 := by unfold padN; omega
theorem byts_mem {L : List Int} (h : ∀ x ∈ L, 0 ≤ x ∧ x < 256) : Byts L := by
  intro j
  unfold gi
  rw [List.getD_eq_getElem?_getD]
  cases hj : L[j]? with
  | none => simp
  | some x => exact h x (List.mem_of_getElem? hj)
theorem mem_byts {L : List Int} (h : Byts L) {x : Int} (hx : x ∈ L) : 0 ≤ x ∧ x < 256 := by
  obtain ⟨j, hj⟩ := List.mem_iff_getElem?.1 hx
  have h1 := h j
  unfold gi at h1
  rwa [List.getD_eq_getElem?_getD, hj] at h1
theorem Byts.app2 {A B : List Int} (hA : Byts A) (hB : Byts B) : Byts (A ++ B) := byts_mem fun _ hx => (List.mem_append.1 hx).elim (mem_byts hA) (mem_byts hB)
theorem Byts.take2 {A : List Int} (hA : Byts A) (n : Nat) : Byts (A.take n) := byts_mem fun _ hx => mem_byts hA (List.mem_of_mem_take hx)
theorem Byts.drop2 {A : List Int} (hA : Byts A) (n : Nat) : Byts (A.drop n) := byts_mem fun _ hx => mem_byts hA (List.mem_of_mem_drop hx)
theorem Byts.upd2 {A : List Int} (hA : Byts A) (i : Nat) {v : Int} (hv : 0 ≤ v ∧ v < 256) : Byts (A.set i v) := byts_mem fun _ hx => (List.mem_or_eq_of_mem_set hx).elim (mem_byts hA) (fun h => h ▸ hv)
end Sp
end
section
open Go Go.RowKit
namespace Sp
open F M
section
variable {P : Program} {ops : Array Oper} {rest : List (Nat × Oper)} {dst : Option Tmp} {ty : TypeId} {pos : String} {af : Array Edge} {l : List Value} {w0 : World} {mu : List Nat} {bs : Mem} {Q : ExitP} {tab : Tab}
def EffO (P : Program) (w0 : World) (mu : List Nat) (bs : Mem) (o : Oper) (l : List Value) (R : Value → Mem → Prop) : Prop :=
  ∀ w, OwnM w0 mu w bs → ∃ v w' bs', (execOp (⟨l.toArray, []⟩ : Act).eval o).run P w = .ok (.value v) w' ∧ R v bs' ∧ OwnM w0 mu w' bs'
theorem eff_appOwn (ht : TabOk P tab) {s x : Operand} {t tx e sz : Nat} {b cap i : Nat} {B J M : List Int} {T : TypeId} {xv : Value}
    (hi : bs[i]? = some (b, ints .u8 (B ++ J), T)) (hJ : B.length + J.length = cap) (hmax : B.length + M.length ≤ 140737488355328)
    (hsrc : ∀ w, OwnM w0 mu w bs → Src P 1 tx xv M.length (M.map (Value.int .u8)) w) (hz : (P.info? e).map (·.zero) = some (some (.int .u8 0))) (hs : evL l s = .slice (some ⟨b, 0, none⟩) B.length cap) (hx : evL l x = xv)
    (hl : look tab t = some (.sl e 1 1, sz)) {gd : Option (Nat × Bool)} :
    EffO P w0 mu bs ⟨dst, .call { callee := .builtin .append, args := #[s, x], argTypes := #[t, tx] }, ty, pos, af, gd⟩ l (fun v bs' => ∃ nb cap' J' T', B.length + M.length + J'.length = cap' ∧ v = .slice (some ⟨nb, 0, none⟩) (B.length + M.length) cap' ∧ bs' = (nb, ints .u8 (B ++ M ++ J'), T') :: bs.eraseIdx i) := by
  intro w hw
  obtain ⟨hu, hsz, hby⟩ := td_sl (look_ok ht hl)
  have hb := hw.block (List.mem_of_getElem? hi)
  have hlt : i < bs.length := (List.getElem?_eq_some_iff.1 hi).1
  cases hq : P.info? e with
  | none => simp [hq] at hsz
  | some inf =>
    have hs1 : inf.size = 1 := by simpa [hq] using hsz
    have hb1 : inf.bytes = 1 := by simpa [hq] using hby
    have hz1 : inf.zero = some (.int .u8 0) := by simpa [hq] using hz
    have hsr := hsrc w hw
    rw [← hs1] at hsr
    rw [run_call_append hs hx]
    rcases Nat.lt_or_ge cap (B.length + M.length) with hg | hroom
    · have hcap : Builtin.nextslicecap (B.length + M.length) cap * inf.bytes ≤ 281474976710656 := by
        have := nextslicecap_le hg
        rw [hb1]; omega
      have hold : (Builtin.firstCells inf.size B.length (.slice (some ⟨b, 0, none⟩) B.length cap)).run P w.drew = .ok (B.map (Value.int .u8)).toArray w.drew := by
        refine run_firstCells_some w.drew inf.size B.length ⟨b, 0, none⟩ B.length cap _ (by rw [hs1]; simp) (fun j u hu => ?_)
        have hj : j < B.length := by
          cases h : B[j]? with
          | none => simp [h] at hu
          | some x => exact (List.getElem?_eq_some_iff.1 h).1
        rw [add_off, cell_of_row w.drew b (0 + j) (ints .u8 (B ++ J)) T (0, 0) hb, ← hu]
        simp only [ints, List.getElem?_toArray, List.getElem?_map, Nat.zero_add]
        rw [List.getElem?_append_left hj]
      have hge := grownCap_ge w (B.length + M.length) cap e
      have hrun := run_append_grow_src (P := P) w t tx ty e inf _ hu hq hz1 (some ⟨b, 0, none⟩) B.length cap _ hold xv M.length _ hsr hg (by omega) hcap
      rw [hrun]
      simp only [Result.andThen_ok]
      refine ⟨_, _, _, rfl, ⟨w.heap.size, _, List.replicate (grownCap w (B.length + M.length) cap e - (B.length + M.length)) 0, e, by simp; omega, rfl, rfl⟩, ?_⟩
      have := (hw.drew 1).alloc (ints .u8 (B ++ M ++ List.replicate (grownCap w (B.length + M.length) cap e - (B.length + M.length)) 0)) e
      rw [zeroCells_int, ← List.map_append, show (List.map (Value.int .u8) (B ++ M)).toArray = ints .u8 (B ++ M) from rfl, ← ints_append]
      exact this.sub ((List.eraseIdx_sublist _ _).cons_cons _)
    · have hst := run_storeCells_row (P := P) (M.map (Value.int .u8)) (fun v hv => hsr.one v hv) 0 w b B.length (ints .u8 (B ++ J)) T hb (by simp [ints_size]; omega)
      have hst2 : (storeCells ((⟨b, 0, none⟩ : Addr).add (B.length * inf.size)) (M.map (Value.int .u8)) 0).run P w = .ok () (w.setRow b (ints .u8 (B ++ M ++ J.drop M.length))) := by
        rw [add_off, hs1, Nat.mul_one, Nat.zero_add, hst, Nat.add_zero, putAt_mid B M J (by omega)]
      have hrun : (Builtin.append_ #[t, tx] ty #[.slice (some ⟨b, 0, none⟩) B.length cap, xv]).run P w = .ok (.slice (some ⟨b, 0, none⟩) (B.length + M.length) cap) (w.setRow b (ints .u8 (B ++ M ++ J.drop M.length))) := by
        rcases hsr.kind with ⟨e', hk⟩ | hk <;> simp [Builtin.append_, run_underlying hu, run_underlying hk, sizeOf, typeInfo, hq, hsr.len, hroom, hsr.cells, hst2]
      rw [hrun]
      simp only [Result.andThen_ok]
      exact ⟨_, _, _, rfl, ⟨b, cap, J.drop M.length, T, by simp; omega, rfl, rfl⟩, (hw.setRow hi _).perm (set_perm _ _ _ hlt)⟩
theorem EffO.mono {o : Oper} {R R' : Value → Mem → Prop} (h : EffO P w0 mu bs o l R) (hR : ∀ v b, R v b → R' v b) : EffO P w0 mu bs o l R' := fun w hw => by
  obtain ⟨v, w', bs', h1, h2, h3⟩ := h w hw
  exact ⟨v, w', bs', h1, hR _ _ h2, h3⟩
theorem eff_appGz (ht : TabOk P tab) {s x : Operand} {t tx e e' by' sz sz' : Nat} {p q : Option Addr} {n m c : Nat} {B M : List Int} (hm0 : 0 < m) (hmax : n + m ≤ 140737488355328)
    (hS : ∀ w, OwnM w0 mu w bs → Sl w p n n B) (hM : ∀ w, OwnM w0 mu w bs → Sl w q m c M) (hz : (P.info? e).map (·.zero) = some (some (.int .u8 0))) (hs : evL l s = .slice p n n) (hx : evL l x = .slice q m c)
    (hl : look tab t = some (.sl e 1 1, sz)) (hl' : look tab tx = some (.sl e' 1 by', sz')) {gd : Option (Nat × Bool)} :
    EffO P w0 mu bs ⟨dst, .call { callee := .builtin .append, args := #[s, x], argTypes := #[t, tx] }, ty, pos, af, gd⟩ l (fun v bs' => ∃ nb cap', n + m ≤ cap' ∧ v = .slice (some ⟨nb, 0, none⟩) (n + m) cap' ∧ bs' = (nb, ints .u8 (B ++ M ++ List.replicate (cap' - (n + m)) 0), e) :: bs) := by
  intro w hw
  obtain ⟨hu, hsz, hby⟩ := td_sl (look_ok ht hl)
  obtain ⟨hu', _, _⟩ := td_sl (look_ok ht hl')
  have hSw := hS w hw
  have hMw := hM w hw
  have hlB := hSw.len
  have hlM := hMw.len
  cases hq : P.info? e with
  | none => simp [hq] at hsz
  | some inf =>
    have hs1 : inf.size = 1 := by simpa [hq] using hsz
    have hb1 : inf.bytes = 1 := by simpa [hq] using hby
    have hz1 : inf.zero = some (.int .u8 0) := by simpa [hq] using hz
    have hsr := src_Sl hu' hMw
    rw [← hs1] at hsr
    rw [run_call_append hs hx]
    have hg : n < n + m := by omega
    have hcap : Builtin.nextslicecap (n + m) n * inf.bytes ≤ 281474976710656 := by
      have := nextslicecap_le hg
      rw [hb1]; omega
    have hold : (Builtin.firstCells inf.size n (.slice p n n)).run P w.drew = .ok (B.map (Value.int .u8)).toArray w.drew := by
      by_cases h0 : n = 0
      · subst h0
        obtain rfl : B = [] := List.eq_nil_of_length_eq_zero hlB
        cases p with
        | none => exact run_firstCells_none w.drew _ 0 0 0
        | some a => exact run_firstCells_some w.drew inf.size 0 a 0 0 _ (by simp) (fun j u hu => by simp at hu)
      · obtain ⟨b, off, A, T, fz, rfl, hb, hA⟩ := hSw.at_ (by omega)
        have hdr : w.drew.heap[b]? = some (.cells A T fz) := hb
        refine run_firstCells_some w.drew inf.size n ⟨b, off, none⟩ n n _ (by rw [hs1]; simp [hlB]) (fun j u hu => ?_)
        rw [List.getElem?_map] at hu
        have hj : j < B.length := by
          cases h : B[j]? with
          | none => simp [h] at hu
          | some x => exact (List.getElem?_eq_some_iff.1 h).1
        have h1 := hA j hj
        rw [add_off, cell_of_row w.drew b (off + j) A T fz hdr, h1, ← hu]
        simp [gi, hj]
    have hge := grownCap_ge w (n + m) n e
    have hrun := run_append_grow_src (P := P) w t tx ty e inf _ hu hq hz1 p n n _ hold (.slice q m c) m _ hsr hg (by omega) hcap
    rw [hrun]
    simp only [Result.andThen_ok]
    refine ⟨_, _, _, rfl, ⟨w.heap.size, _, by omega, rfl, rfl⟩, ?_⟩
    have := (hw.drew 1).alloc (ints .u8 (B ++ M ++ List.replicate (grownCap w (n + m) n e - (n + m)) 0)) e
    rw [zeroCells_int, ← List.map_append, show (List.map (Value.int .u8) (B ++ M)).toArray = ints .u8 (B ++ M) from rfl, ← ints_append]
    exact this
theorem eff_app00 (ht : TabOk P tab) {s x : Operand} {t tx e e' by' sz sz' : Nat} {p : Option Addr} {c : Nat} (hs : evL l s = .slice none 0 0) (hx : evL l x = .slice p 0 c) (hl : look tab t = some (.sl e 1 1, sz)) (hl' : look tab tx = some (.sl e' 1 by', sz')) {gd : Option (Nat × Bool)} :
    EffO P w0 mu bs ⟨dst, .call { callee := .builtin .append, args := #[s, x], argTypes := #[t, tx] }, ty, pos, af, gd⟩ l (fun v bs' => v = .slice none 0 0 ∧ bs' = bs) := by
  intro w hw
  obtain ⟨hu, hsz, _⟩ := td_sl (look_ok ht hl)
  obtain ⟨hu', _, _⟩ := td_sl (look_ok ht hl')
  cases hq : P.info? e with
  | none => simp [hq] at hsz
  | some inf =>
    have hs1 : inf.size = 1 := by simpa [hq] using hsz
    have hsrc : Src P inf.size tx (.slice p 0 c) 0 [] w := by
      rw [hs1]
      cases p with
      | none => exact Src.ofNil w hu' c
      | some a => exact Src.ofSlice w hu' a 0 c [] (by simp) (fun j u hj => by simp at hj) (fun u hm => by cases hm)
    rw [run_call_append hs hx, run_append_none hu hq hsrc none 0 0 (Nat.le_refl _)]
    exact ⟨_, _, _, rfl, ⟨rfl, rfl⟩, hw⟩
theorem eff_appS (ht : TabOk P tab) {s x : Operand} {t tx e e' by' sz sz' : Nat} {av : Value} {X M : List Int} {abs pre : Mem} {q : Option Addr} {m c : Nat} (hS : AllO av X abs) (hM : ∀ w, OwnM w0 mu w (pre ++ abs) → Sl w q m c M) (hlM : M.length = m) (hmax : X.length + m ≤ 140737488355328)
    (hz : (P.info? e).map (·.zero) = some (some (.int .u8 0))) (hs : evL l s = av) (hx : evL l x = .slice q m c) (hl : look tab t = some (.sl e 1 1, sz)) (hl' : look tab tx = some (.sl e' 1 by', sz')) {gd : Option (Nat × Bool)} :
    EffO P w0 mu (pre ++ abs) ⟨dst, .call { callee := .builtin .append, args := #[s, x], argTypes := #[t, tx] }, ty, pos, af, gd⟩ l (fun v bs' => ∃ abs', AllO v (X ++ M) abs' ∧ bs' = pre ++ abs') := by
  obtain ⟨hu', _, _⟩ := td_sl (look_ok ht hl')
  subst hlM
  rcases hS with ⟨rfl, rfl, rfl⟩ | ⟨b2, cap, J, T, rfl, rfl, hc⟩
  · by_cases h0 : M.length = 0
    · obtain rfl : M = [] := List.eq_nil_of_length_eq_zero h0
      intro w hw
      obtain ⟨v, w', bs', h1, ⟨rfl, rfl⟩, h3⟩ := eff_app00 (bs := pre ++ []) ht hs hx hl hl' w hw
      exact ⟨_, w', _, h1, ⟨[], AllO.start, rfl⟩, h3⟩
    · intro w hw
      obtain ⟨v, w', bs', h1, ⟨nb, cap', hc', rfl, rfl⟩, h3⟩ := eff_appGz (bs := pre ++ []) (n := 0) (B := []) ht (by omega) (by simpa using hmax) (fun w1 _ => Sl.nil w1 none 0) hM hz hs hx hl hl' w hw
      refine ⟨_, w', _, h1, ⟨[(nb, ints .u8 ([] ++ M ++ List.replicate (cap' - (0 + M.length)) 0), e)], .inr ⟨nb, cap', List.replicate (cap' - (0 + M.length)) 0, e, by simp, by simp, by simp; omega⟩, rfl⟩, ?_⟩
      refine h3.perm ?_
      simpa using (List.perm_append_comm (l₁ := [(nb, ints .u8 (M ++ List.replicate (cap' - M.length) 0), e)]) (l₂ := pre))
  · intro w hw
    have hi : (pre ++ [(b2, ints .u8 (X ++ J), T)])[pre.length]? = some (b2, ints .u8 (X ++ J), T) := by simp
    obtain ⟨v, w', bs', h1, ⟨nb, cap', J', T', hc', rfl, rfl⟩, h3⟩ := eff_appOwn (M := M) ht hi hc hmax (fun w1 hw1 => src_Sl hu' (hM w1 hw1)) hz hs hx hl w hw
    refine ⟨_, w', _, h1, ⟨[(nb, ints .u8 (X ++ M ++ J'), T')], .inr ⟨nb, cap', J', T', by simp, rfl, by simp; omega⟩, rfl⟩, ?_⟩
    refine h3.perm ?_
    have e : (pre ++ [(b2, ints .u8 (X ++ J), T)]).eraseIdx pre.length = pre := by simp [List.eraseIdx_append_of_length_le]
    rw [e]
    simpa using (List.perm_append_comm (l₁ := [(nb, ints .u8 (X ++ M ++ J'), T')]) (l₂ := pre))
theorem SL.appS (ht : TabOk P tab) {ops : Array Oper} {rest : List Oper} {s x : Operand} {t tx e e' by' sz sz' : Nat} {av : Value} {X M : List Int} {abs pre : Mem} {q : Option Addr} {m c : Nat} (hS : AllO av X abs) (hM : ∀ w, OwnM w0 mu w (pre ++ abs) → Sl w q m c M) (hlM : M.length = m) (hmax : X.length + m ≤ 140737488355328)
    {l' : Value → List Value} (h : ∀ av' abs', AllO av' (X ++ M) abs' → SL P ops w0 mu rest Q (l' av') (pre ++ abs')) (hz : (P.info? e).map (·.zero) = some (some (.int .u8 0)))
    (hs : evL l s = av := by rfl) (hx : evL l x = .slice q m c := by rfl) (hl : look tab t = some (.sl e 1 1, sz) := by rfl) (hl' : look tab tx = some (.sl e' 1 by', sz') := by rfl)
    (hbs : bs = pre ++ abs := by rfl) (hp : ∀ v, putL l dst v = l' v := by intro _; first | (dsimp only [putL, setNth]; done) | (dsimp only [putL, setNth]; rfl)) :
    SL P ops w0 mu (⟨dst, .call { callee := .builtin .append, args := #[s, x], argTypes := #[t, tx] }, ty, pos, af, none⟩ :: rest) Q l bs := by
  subst hbs
  exact SL.eff (eff_appS ht hS hM hlM hmax hz hs hx hl hl') (by rintro v m' ⟨abs', ha, rfl⟩; rw [hp]; exact h v abs' ha)
variable {E D : List Nat} {keep : Mem} {i0 : Nat} {op : Op}
end
end Sp
end
section
open Go Go.RowKit
namespace Sp
open M
variable {P : Program} {tab : Tab} {w0 W : World} {mu : List Nat} {bs : Mem} {l : List Value} {Post : Exit → Act → World → Prop}
theorem raw_k {x y : Code} (hw : OwnM w0 mu W bs) (hx : ∀ K : List Value → Mem → Prop, (∀ l bs, (∀ W, OwnM w0 mu W bs → y.wp P Post ⟨l.toArray, []⟩ W) → K l bs) → SP P w0 mu x (fun e l bs => e = .normal ∧ K l bs) l bs) : (Code.seq x y).wp P Post ⟨l.toArray, []⟩ W :=
  wp_seq ((hx _ fun _ _ h => h).run W _ hw (by rintro e l' bs' W' ⟨rfl, hR⟩ hw'; exact hR W' hw'))
theorem raw_rest {id : Nat} {ops : Array Oper} {rest : List Oper} {y : Code} {Q : ExitP} {bs : Mem} (hw : OwnM w0 mu W bs) (h : SL P ops w0 mu rest (thenK (SP P w0 mu y Q) Q) l bs) (hQ : After w0 mu Q Post) : wpList P ops (Exit.then (y.wp P Post) Post) rest ⟨l.toArray, []⟩ W := by
  refine h.run W _ hw ?_
  intro e l' bs' W' q hw'
  cases e with
  | normal => exact q.run W' Post hw' hQ
  | exit id => exact hQ _ _ _ _ q hw'
  | goto id => exact hQ _ _ _ _ q hw'
  | ret => exact hQ _ _ _ _ q hw'
  | panic c => exact hQ _ _ _ _ q hw'
  | outgrown => exact hQ _ _ _ _ q hw'
theorem raw_call {id f : Nat} {args : List Operand} {ats : Array TypeId} {dst : Option Tmp} {ty : TypeId} {pos : String} {af : Array Edge} {rest : List Oper} {y : Code} (hent : ∀ (A : Array Value) (w : World), (callFunc f A).run P w = .ok (.enter f A) w)
    {vals : List Value} (hv : args.map (evL l) = vals) {α : Type} {V : α → Value} {Φ : α → World → Prop} (hc : Calls P f vals.toArray W fun e w' => ∃ a, e = .returned (V a) ∧ Φ a w')
    (h : ∀ w1 a, Φ a w1 → ∃ Q, SL P (⟨dst, .call { callee := .value (.func f), args := args.toArray, argTypes := ats }, ty, pos, af, none⟩ :: rest).toArray w1 [] rest (thenK (SP P w1 [] y Q) Q) (putL l dst (V a)) [] ∧ After w1 [] Q Post) :
    (Code.seq (.region id (⟨dst, .call { callee := .value (.func f), args := args.toArray, argTypes := ats }, ty, pos, af, none⟩ :: rest).toArray false) y).wp P Post ⟨l.toArray, []⟩ W := by
  refine wp_seq (wp_region_lit (wpList_plain rfl fun K hK => ?_))
  unfold Oper.wp
  rw [run_call_fn (args_map args), hv, hent]
  simp only [Oper.upon]
  refine hc.mono ?_
  rintro e w' ⟨a, rfl, hΦ⟩
  obtain ⟨Q, hS, hQ⟩ := h w' a hΦ
  exact hK _ _ (by rw [putL_eq]; exact raw_rest (id := id) (OwnM.start w') hS hQ)
theorem after_done {fn : Func} {rs : Array ResultVar} (hrs : fn.results = rs) {R : Value → Mem → Prop} {S : Ending → World → Prop} (h : ∀ v bs W, R v bs → OwnM w0 mu W bs → S (.returned v) W) : After w0 mu (doneK P w0 mu rs R) (bodyPost P fn S) := by
  rintro e l' bs' W ⟨he, v, hr, hR⟩ hW
  cases e <;> simp [isEnd] at he
  · exact ⟨rfl, v, hr W fn hrs hW, h v bs' W hR hW⟩
  · exact ⟨rfl, v, hr W fn hrs hW, h v bs' W hR hW⟩
end Sp
end
section
open Go Go.RowKit
namespace Sp
variable {K N : List Int} {a b : Value}
end Sp
end
end Go.Proofs.Ytdjecenggngdjaa
