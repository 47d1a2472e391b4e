/-
  Joined texts: PrB, SmL, PrC, Hss, Hrl, Haw, Hin, OpenS, OpenSN, OpenPr, LawS. No conditions.
-/
import Derived.Test.YtdjecenggngdjaaGae
import Derived.Test.YtdjecenggngdjaaGaf
import Derived.Test.YtdjecenggngdjaaGah
import Derived.Test.YtdjecenggngdjaaGaj
import Derived.Test.YtdjecenggngdjaaGan
import Derived.Test.YtdjecenggngdjaaGay
import Derived.Orders
import Derived.Deep.Slices
import Derived.SizedLaws
import Derived.Lib.SmallJoins
namespace Go.Proofs.Ytdjecenggngdjaa
set_option linter.unusedSimpArgs false
set_option linter.unusedVariables false
section
open Go Go.RowKit
namespace Sp
open F M
set_option maxRecDepth 100000 in
theorem su_built1 (k : Int) (q : Option Addr) (n c : Nat) {a u s : List Int} (ha : a.length = 32) (hu : u.length = 32) (hs : s.length = 32) : Try.prog.built 29 [(0, .int .i64 k), (1, .bool true), (2, .agg (ints .u8 a)), (3, .agg (ints .u8 u)), (4, .slice q n c), (5, .agg (ints .u8 s))] = some (suRow ⟨k, true, a, u, .slice q n c, s⟩) := by
  obtain ⟨a0, a1, a2, a3, a4, a5, a6, a7, a8, a9, a10, a11, a12, a13, a14, a15, a16, a17, a18, a19, a20, a21, a22, a23, a24, a25, a26, a27, a28, a29, a30, a31, rfl⟩ := list32 ha
  obtain ⟨b0, b1, b2, b3, b4, b5, b6, b7, b8, b9, b10, b11, b12, b13, b14, b15, b16, b17, b18, b19, b20, b21, b22, b23, b24, b25, b26, b27, b28, b29, b30, b31, rfl⟩ := list32 hu
  obtain ⟨c0, c1, c2, c3, c4, c5, c6, c7, c8, c9, c10, c11, c12, c13, c14, c15, c16, c17, c18, c19, c20, c21, c22, c23, c24, c25, c26, c27, c28, c29, c30, c31, rfl⟩ := list32 hs
  unfold suRow
  kernel_rfl
set_option maxRecDepth 100000 in
theorem su_built2 (k : Int) (q : Option Addr) (n c : Nat) {a s : List Int} (ha : a.length = 32) (hs : s.length = 32) : Try.prog.built 29 [(0, .int .i64 k), (2, .agg (ints .u8 a)), (4, .slice q n c), (5, .agg (ints .u8 s))] = some (suRow ⟨k, false, a, List.replicate 32 0, .slice q n c, s⟩) := by
  obtain ⟨a0, a1, a2, a3, a4, a5, a6, a7, a8, a9, a10, a11, a12, a13, a14, a15, a16, a17, a18, a19, a20, a21, a22, a23, a24, a25, a26, a27, a28, a29, a30, a31, rfl⟩ := list32 ha
  obtain ⟨b0, b1, b2, b3, b4, b5, b6, b7, b8, b9, b10, b11, b12, b13, b14, b15, b16, b17, b18, b19, b20, b21, b22, b23, b24, b25, b26, b27, b28, b29, b30, b31, rfl⟩ := list32 hs
  unfold suRow
  kernel_rfl
def suA (p : PR) : SU := ⟨p.kind, true, p.A, pubL p.B, p.pv, p.psk⟩
def suB (p : PR) : SU := ⟨p.kind, false, p.B, List.replicate 32 0, p.pv, p.psk⟩
theorem suA_ok {p : PR} (hp : p.Ok) : (suA p).Ok := ⟨hp.A, pubL_length _, hp.psk⟩
theorem suB_ok {p : PR} (hp : p.Ok) : (suB p).Ok := ⟨hp.B, rfl, hp.psk⟩
set_option maxRecDepth 20000 in
set_option maxHeartbeats 1000000 in
theorem setups_any (p : PR) (hp : p.Ok) (bB : Bytes32 p.B) (q : Option Addr) (n c : Nat) (hpv : p.pv = .slice q n c) (w : World) : Calls Try.prog 8 #[.agg (prRow p)] w (fun e w' => e = .returned (.tuple #[.agg (suRow (suA p)), .agg (suRow (suB p))]) ∧ Below w.heap.size w w') := by
  have ha : (⟨p.kind, true, p.A, pubL p.B, .slice q n c, p.psk⟩ : SU).Ok := ⟨hp.A, pubL_length _, hp.psk⟩
  have hb : (⟨p.kind, false, p.B, List.replicate 32 0, .slice q n c, p.psk⟩ : SU).Ok := ⟨hp.B, rfl, hp.psk⟩
  have ea : suA p = ⟨p.kind, true, p.A, pubL p.B, .slice q n c, p.psk⟩ := by unfold suA; rw [hpv]
  have eb : suB p = ⟨p.kind, false, p.B, List.replicate 32 0, .slice q n c, p.psk⟩ := by unfold suB; rw [hpv]
  rw [ea, eb]
  refine pureE Try.func8 Try.ntmps8 Try.results8 ?_
  repeat (first | (refine rgn 0 ?_; refine SL.bx ?_ (T := 26); intro pb; refine SL.al zero_Setup ?_; intro xb; refine SL.al zero_Setup ?_; intro yb; refine nlx ?_) | ((with_reducible show SP _ _ _ (Code.region _ _ true) _ _ _); first | (refine SPa (id := 1) [21, 22] [12, 13, 14, 15, 16, 17, 18, 19, 20] ([(pb, prRow p, 26)]) [0, 1, 2, 3, 4, 5, 6, 7, 8, 9, 10, 11, 12, 13, 14, 15, 16, 17, 18, 19, 20, 21, 22] follows ?_; refine SF.e tabOk ?_; refine SF.ldC tabOk ?_ (hv := (pq_kind hp)); refine SF.e tabOk ?_; refine SF.ldP tabOk ?_ (hn := by rw [pq_size hp]; decide) (hB := pq_A hp); refine SF.e tabOk ?_; refine SF.ldP tabOk ?_ (hn := by rw [pq_size hp]; decide) (hB := pq_B hp); refine SF.v (ValO.call ent_18 _ rfl _ (fun w1 hw1 => pub_h p.B bB w1)) ?_; refine SF.e tabOk ?_; refine SF.ldC tabOk ?_ (hv := (pq_pv hp).trans (by rw [hpv])); refine SF.e tabOk ?_; refine SF.ldP tabOk ?_ (hn := by rw [pq_size hp]; decide) (hB := pq_psk hp); refine SF.v (ValO.build (by first | (dsimp only [List.map, evL, nth]; done) | (dsimp only [List.map, evL, nth]; rfl)) (su_built1 p.kind q n c hp.A (pubL_length _) hp.psk)) ?_; refine SF.valK rfl rfl rfl rfl (fun m hm => ValO.ev tabOk (by rfl)) bpp ?_; refine SF.vK (fun m0 hm0 => ValO.ldCell tabOk pb 0 rfl _ _ rfl rfl _ (RdA.kept hm0 g0) _ ((pq_kind hp))) ?_; refine SF.valK rfl rfl rfl rfl (fun m hm => ValO.ev tabOk (by rfl)) bpp ?_; refine SF.vK (fun m0 hm0 => ValO.ldPart tabOk pb 33 rfl _ _ rfl rfl _ (RdA.kept hm0 g0) (by rw [pq_size hp]; decide) _ (pq_B hp)) ?_; refine SF.valK rfl rfl rfl rfl (fun m hm => ValO.ev tabOk (by rfl)) bpp ?_; refine SF.vK (fun m0 hm0 => ValO.ldCell tabOk pb 65 rfl _ _ rfl rfl _ (RdA.kept hm0 g0) _ ((pq_pv hp).trans (by rw [hpv]))) ?_; refine SF.valK rfl rfl rfl rfl (fun m hm => ValO.ev tabOk (by rfl)) bpp ?_; refine SF.vK (fun m0 hm0 => ValO.ldPart tabOk pb 66 rfl _ _ rfl rfl _ (RdA.kept hm0 g0) (by rw [pq_size hp]; decide) _ (pq_psk hp)) ?_; refine SF.vK (fun m0 hm0 => ValO.build (by first | (dsimp only [List.map, evL, nth]; done) | (dsimp only [List.map, evL, nth]; rfl)) (su_built2 p.kind q n c hp.B hp.psk)) ?_; refine SF.stA tabOk (su_cells rfl) ?_ (hn := su_size ha) (hsz := su_size u00_ok); refine SF.stA tabOk (su_cells rfl) ?_ (hn := su_size hb) (hsz := su_size u00_ok); refine SF.done ?_)) | (refine zsq ?_; intro _ _) | (with_reducible refine zkN ?_) | (refine useK (by assumption) ?_) | (with_reducible first | refine zsB ?_ | refine zkX ?_ | refine zkR ?_ | refine zbN ?_ | refine zbR ?_ | refine zbE ?_ | refine zbX ?_ | refine zsS ?_ | refine zsR ?_ | refine zsX ?_) | (refine cdT ?_) | (refine cdF ?_))
  exact doneK.mk rfl (ResO.cell2 tabOk rfl rfl rfl (RdA.own g1) (su_size ha) rfl rfl rfl (RdA.own g0) (su_size hb)) rfl
end Sp
end
section
open Go Go.RowKit
namespace Sp
open F M
section
variable {P : Program} {ops : Array Oper} {X : Exit → Act → World → Prop} {ys : List Oper}
theorem wpList_app : ∀ (xs : List Oper) (a : Act) (w : World), wpList P ops (Exit.then (wpList P ops X ys) X) xs a w → wpList P ops X (xs ++ ys) a w
  | [], _, _, h => h
  | o :: xs, a, w, h => by
    show wpList P ops X (o :: (xs ++ ys)) a w
    unfold wpList at h ⊢
    split
    · rename_i hw
      rw [if_pos hw] at h
      rcases h with h | ⟨h1, h2⟩
      · refine .inl ?_
        have h2 := Oper.wp_mono (K' := wpList P ops X (xs ++ ys)) (fun a w h => wpList_app xs a w h) h
        unfold Oper.wp at h2 ⊢
        revert h2
        generalize (execOp a.eval o).run P w = r
        intro h2
        cases r with
        | ok nx w' => cases nx <;> exact h2
        | halt x w' => cases x <;> exact h2
      · exact .inr ⟨h1, h2⟩
    · rename_i hw
      rw [if_neg hw] at h
      exact wpList_app xs _ _ h
theorem rawL_chunk {w0 W : World} {mu : List Nat} {bs : Mem} {l : List Value} {xs : List Oper} (hw : OwnM w0 mu W bs) (hx : ∀ K : List Value → Mem → Prop, (∀ l bs, (∀ W', OwnM w0 mu W' bs → wpList P ops X ys ⟨l.toArray, []⟩ W') → K l bs) → SL P ops w0 mu xs (fun e l bs => e = .normal ∧ K l bs) l bs) :
    wpList P ops X (xs ++ ys) ⟨l.toArray, []⟩ W :=
  wpList_app xs _ _ ((hx _ fun _ _ h => h).run W _ hw (by rintro e l' bs' W' ⟨rfl, hR⟩ hw'; exact hR W' hw'))
theorem rawL_bytesC {tab : Tab} (ht : TabOk P tab) {w0 W : World} {mu : List Nat} {bs : Mem} {l : List Value} {t e n by_ sz : Nat} {parts : Array (Nat × Operand)} {cells : Array Value} {d1 : Nat} {dst2 : Option Tmp} {ty ty2 : TypeId} {pos pos2 : String} {af af2 : Array Edge} (hw : OwnM w0 mu W bs)
    (hl : look tab t = some (.sl e 1 by_, sz)) (hle : look tab e = some (.int .u8, 1)) (hz : (P.info? e).map (·.zero) = some (some (.int .u8 0))) (hn : 0 < n) (hs : n ≤ 16777216)
    {vals : List (Nat × Value)} (hv : parts.toList.map (fun p => (p.1, evL l p.2)) = vals)
    (hf : Instr.fill (fun i => some (i * 1, 1)) ((Array.range (n * 1)).map ((Value.cells (.int .u8 0))[· % (Value.cells (.int .u8 0)).size]!)) vals = some cells)
    {l1 l' : Nat → List Value} (hp : ∀ b, putL l (some d1) (.slice (some ⟨b, 0, none⟩) n n) = l1 b) (hx : ∀ b, evL (l1 b) (.tmp d1) = .slice (some ⟨b, 0, none⟩) n n) (hp2 : ∀ b, putL (l1 b) dst2 (.slice (some ⟨b, 0, none⟩) n n) = l' b)
    (h : ∀ w1 b fz, OwnM w0 mu w1 bs → Below W.heap.size W w1 → w1.heap[b]? = some (.cells cells e fz) → b ∉ bs.map (·.1) → W.heap.size ≤ b → wpList P ops X ys ⟨(l' b).toArray, []⟩ w1) :
    wpList P ops X (⟨some d1, .buildSlice t n parts, ty, pos, af, none⟩ :: ⟨dst2, .convert t t (.tmp d1), ty2, pos2, af2, none⟩ :: ys) ⟨l.toArray, []⟩ W := by
  subst hv
  obtain ⟨hu, hsz, _⟩ := td_sl (look_ok ht hl)
  have hue := td_int (look_ok ht hle)
  cases hq : P.info? e with
  | none => simp [hq] at hsz
  | some inf =>
    have hs1 : inf.size = 1 := by simpa [hq] using hsz
    have hz1 : inf.zero = some (.int .u8 0) := by simpa [hq] using hz
    refine wpList_plain rfl fun K hK => ?_
    refine wp_buildSlice t e n parts rfl cells inf _ hu hq hz1 (by rw [hs1]; omega) (by rw [hs1]; omega) ?_ ?_
    · rw [Array.toList_map, ← hf, hs1]
      simp only [evL_eq]
    · refine hK _ _ ?_
      rw [putL_eq, hp]
      refine wpList_plain rfl fun K hK => ?_
      have hc := Go.Lib.run_convert_bytes_const (P := P) W t e cells n n hu hue
      unfold Oper.wp execOp
      simp only [evL_eq, hx, Sem.run_bind, hc, Result.andThen_ok, Sem.run_pure]
      refine hK _ _ ?_
      rw [putL_eq, hp2]
      have hbl : Below W.heap.size W (W.alloc (.cells cells e (cells.size, cells.size + 1))) := (Below.refl _ W).alloc (Nat.le_refl _) _
      refine h _ _ _ (hw.grow hbl) hbl (heap_alloc_new _ _) (fun hm => ?_) (Nat.le_refl _)
      obtain ⟨p, hp', he⟩ := List.mem_map.1 hm
      have := hw.lt hp'
      omega
end
end Sp
end
section
open Go Go.RowKit
namespace Sp
open F M
def usP (x y z : Nat) : PR := ⟨1, (List.replicate 32 1), (List.replicate 32 2), .slice (some ⟨x, 0, none⟩) 1 1, (List.replicate 32 0), (List.replicate 32 3), (List.replicate 32 4), .slice (some ⟨y, 0, none⟩) 5 5, .slice (some ⟨z, 0, none⟩) 4 4⟩
theorem usP_ok (x y z : Nat) : (usP x y z).Ok := ⟨rfl, rfl, rfl, rfl, rfl, fun v hv => by rcases hv with rfl | rfl | rfl <;> rfl⟩
set_option maxRecDepth 100000 in
theorem us_built (x y z : Nat) : Try.prog.built 26 [(0, .int .i64 1), (1, .agg (ints .u8 (List.replicate 32 1))), (2, .agg (ints .u8 (List.replicate 32 2))), (3, .slice (some ⟨x, 0, none⟩) 1 1), (5, .agg (ints .u8 (List.replicate 32 3))), (6, .agg (ints .u8 (List.replicate 32 4))), (7, .slice (some ⟨y, 0, none⟩) 5 5), (8, .slice (some ⟨z, 0, none⟩) 4 4)] = some (prRow (usP x y z)) := by unfold prRow; kernel_rfl
def usPro : List Int := [112]
def usOne : List Int := [104, 101, 108, 108, 111]
def usTwo : List Int := [119, 101, 108, 108]
def UsPost (w : World) (e : Ending) (w' : World) : Prop := ∃ x y z, e = .returned (.agg (prRow (usP x y z))) ∧ Below w.heap.size w w' ∧ Sl w' (some ⟨x, 0, none⟩) 1 1 usPro ∧ Sl w' (some ⟨y, 0, none⟩) 5 5 usOne ∧ Sl w' (some ⟨z, 0, none⟩) 4 4 usTwo
theorem us_c0 : Instr.fill (fun i => some (i * 1, 1)) ((Array.range (1 * 1)).map ((Value.cells (.int .u8 0))[· % (Value.cells (.int .u8 0)).size]!)) [(0, .int .u8 112)] = some (ints .u8 (usPro)) := by unfold usPro; kernel_rfl
theorem us_c1 : Instr.fill (fun i => some (i * 1, 1)) ((Array.range (5 * 1)).map ((Value.cells (.int .u8 0))[· % (Value.cells (.int .u8 0)).size]!)) [(0, .int .u8 104), (1, .int .u8 101), (2, .int .u8 108), (3, .int .u8 108), (4, .int .u8 111)] = some (ints .u8 (usOne)) := by unfold usOne; kernel_rfl
theorem us_c2 : Instr.fill (fun i => some (i * 1, 1)) ((Array.range (4 * 1)).map ((Value.cells (.int .u8 0))[· % (Value.cells (.int .u8 0)).size]!)) [(0, .int .u8 119), (1, .int .u8 101), (2, .int .u8 108), (3, .int .u8 108)] = some (ints .u8 (usTwo)) := by unfold usTwo; kernel_rfl
set_option maxRecDepth 20000 in
set_option maxHeartbeats 1000000 in
theorem usual_any (w : World) : Calls Try.prog 16 #[] w (UsPost w) := by
  refine calls_of_wp Try.func16 rfl ?_
  rw [show (#[] : Array Value) ++ Array.replicate _ undef = ([undef, undef, undef, undef, undef, undef, undef, undef, undef, undef, undef, undef] : List Value).toArray from (by simp only [Try.ntmps16, List.size_toArray, List.length_cons, List.length_nil, Nat.reduceAdd, Nat.reduceSub, Array.replicate_succ, Array.replicate_zero, List.push_toArray, List.append_toArray, List.nil_append, List.cons_append])]
  refine raw_k (OwnM.start w) (fun K hK => ?_)
  repeat (first | (refine rgn 0 ?_; refine SL.al zero_Pair ?_; intro tb; refine nlx ?_) | (refine zsq ?_; intro _ _) | (with_reducible refine zkN ?_) | (refine useK (by assumption) ?_) | (with_reducible first | refine zsB ?_ | refine zkX ?_ | refine zkR ?_ | refine zbN ?_ | refine zbR ?_ | refine zbE ?_ | refine zbX ?_ | refine zsS ?_ | refine zsR ?_ | refine zsX ?_) | (refine cdT ?_) | (refine cdF ?_))
  refine ⟨rfl, hK _ _ (fun W0 hw0 => ?_)⟩
  clear hK K
  refine wp_seq (wp_region_lit ?_)
  refine rawL_chunk (xs := [_, _]) hw0 (fun K hK => ?_)
  refine SL.v (ValO.call ent_17 _ rfl _ (fun w1 hw1 => all_any 1 w1)) ?_
  refine SL.v (ValO.call ent_17 _ rfl _ (fun w1 hw1 => all_any 2 w1)) ?_
  refine SL.nil ?_
  refine ⟨rfl, hK _ _ (fun W1 hW1 => ?_)⟩
  clear hK K
  refine rawL_bytesC tabOk hW1 rfl rfl zero_u8 (by decide) (by decide) rfl us_c0 (fun _ => bpp) (fun _ => rfl) (fun _ => bpp) (fun v1 x fz1 hv1 bl1 r1 nb1 ge1 => ?_)
  refine rawL_chunk (xs := [_, _]) (OwnM.start1 v1 (hv1.block (List.mem_cons_self ..))) (fun K hK => ?_)
  refine SL.v (ValO.call ent_17 _ rfl _ (fun w1 hw1 => all_any 3 w1)) ?_
  refine SL.v (ValO.call ent_17 _ rfl _ (fun w1 hw1 => all_any 4 w1)) ?_
  refine SL.nil ?_
  refine ⟨rfl, hK _ _ (fun W2 hW2 => ?_)⟩
  clear hK K
  refine rawL_bytesC tabOk hW2 rfl rfl zero_u8 (by decide) (by decide) rfl us_c1 (fun _ => bpp) (fun _ => rfl) (fun _ => bpp) (fun v2 y fz2 hv2 bl2 r2 nb2 ge2 => ?_)
  refine rawL_bytesC tabOk (OwnM.start1 v2 (hv2.block (List.mem_cons_self ..))) rfl rfl zero_u8 (by decide) (by decide) rfl us_c2 (fun _ => bpp) (fun _ => rfl) (fun _ => bpp) (fun v3 z fz3 hv3 bl3 r3 nb3 ge3 => ?_)
  refine raw_rest (id := 1) (Q := doneK Try.prog v3 [tb] #[.cell 0 26] (fun v' bs' => v' = .agg (prRow (usP x y z)))) (OwnM.start1 v3 (hv3.block (List.mem_cons_self ..))) ?_ ?_
  · refine SL.v (ValO.build (by first | (dsimp only [List.map, evL, nth]; done) | (dsimp only [List.map, evL, nth]; rfl)) (us_built x y z)) ?_
    refine SL.stA tabOk (pq_cells (usP_ok x y z)) ?_ (hn := pq_size (usP_ok x y z)) (hsz := pq_size p00_ok)
    refine SL.nil ?_
    refine thenK_normal ?_
    repeat (first | (refine zsq ?_; intro _ _) | (with_reducible refine zkN ?_) | (refine useK (by assumption) ?_) | (with_reducible first | refine zsB ?_ | refine zkX ?_ | refine zkR ?_ | refine zbN ?_ | refine zbR ?_ | refine zbE ?_ | refine zbX ?_ | refine zsS ?_ | refine zsR ?_ | refine zsX ?_) | (refine cdT ?_) | (refine cdF ?_))
    exact doneK.mk rfl (ResO.cell tabOk rfl rfl rfl (RdA.own g0) (pq_size (usP_ok x y z))) rfl
  · refine after_done Try.results16 (fun v bs W hv hW => ⟨x, y, z, by rw [hv], ?_, ?_, ?_, ?_⟩)
    · exact (OwnM.comp (OwnM.comp (OwnM.comp hv1 hv2) hv3) hW).below
    · have h1 : v2.heap[x]? = some (.cells (ints .u8 usPro) 5 fz1) := by rw [hv2.rest x (Array.getElem?_eq_some_iff.1 r1).1 (by simpa using nb1)]; exact r1
      have h2 : v3.heap[x]? = some (.cells (ints .u8 usPro) 5 fz1) := by rw [hv3.rest x (Array.getElem?_eq_some_iff.1 h1).1 (by simpa using nb1)]; exact h1
      have h3 : W.heap[x]? = some (.cells (ints .u8 usPro) 5 fz1) := by rw [hW.rest x (Array.getElem?_eq_some_iff.1 h2).1 (by simpa using nb1)]; exact h2
      exact Sl.mk' (c := 1) h3 (Lies.whole usPro) (by decide)
    · have h2 : v3.heap[y]? = some (.cells (ints .u8 usOne) 5 fz2) := by rw [hv3.rest y (Array.getElem?_eq_some_iff.1 r2).1 (by simpa using nb2)]; exact r2
      have h3 : W.heap[y]? = some (.cells (ints .u8 usOne) 5 fz2) := by rw [hW.rest y (Array.getElem?_eq_some_iff.1 h2).1 (by simpa using nb2)]; exact h2
      exact Sl.mk' (c := 5) h3 (Lies.whole usOne) (by decide)
    · have h3 : W.heap[z]? = some (.cells (ints .u8 usTwo) 5 fz3) := by rw [hW.rest z (Array.getElem?_eq_some_iff.1 r3).1 (by simpa using nb3)]; exact r3
      exact Sl.mk' (c := 4) h3 (Lies.whole usTwo) (by decide)
end Sp
end
section
open Go Go.RowKit
namespace Sp
open F M
structure PK (p : PR) : Prop where
  ok : p.Ok
  A : Bytes32 p.A
  B : Bytes32 p.B
  oa : Bytes32 p.oa
  ob : Bytes32 p.ob
  k : p.kind = 1 ∨ p.kind = 2
def TA0 (p : PR) (r : Nat) : HT := {HT.new p.kind true p.A p.psk with rp := .pointer (some ⟨r, 0, none⟩)}
def TA1 (p : PR) (r : Nat) : HT := {TA0 p r with once := p.oa, done := 1}
def TB0 (p : PR) : HT := HT.new p.kind false p.B p.psk
def TB1 (p : PR) (r : Nat) : HT := {TB0 p with their := pubL p.oa, rp := .pointer (some ⟨r, 0, none⟩), done := 1}
def TB2 (p : PR) (r : Nat) : HT := {TB1 p r with once := p.ob, done := 2}
def TA2 (p : PR) (r : Nat) : HT := {TA1 p r with their := pubL p.ob, done := 2}
@[irreducible] def M0 (p : PR) (P : List Int) : Mx := Mx.nw p.kind P (pubL p.B)
@[irreducible] def M1 (p : PR) (P F : List Int) : Mx := ((M0 p P).f3 {TA0 p 0 with once := p.oa} (pubL p.B)).enc F
@[irreducible] def X1 (p : PR) (P F : List Int) : List Int := fstX (M0 p P) {TA0 p 0 with once := p.oa} (pubL p.B) F
@[irreducible] def M2 (p : PR) (P F S : List Int) : Mx := ((M1 p P F).s3 {TB1 p 0 with once := p.ob} (pubL p.ob) p.ob (pubL p.oa) p.ob (pubL p.A)).enc S
@[irreducible] def X2 (p : PR) (P F S : List Int) : List Int := sndX (M1 p P F) {TB1 p 0 with once := p.ob} (pubL p.A) S
section
variable {p : PR} {P F S : List Int}
theorem M0_ok : (M0 p P).Ok := by unfold M0; exact Mx.nw_ok _ _ _
theorem M1_ok : (M1 p P F).Ok := by unfold M1; exact (M0_ok.f3 _ _).enc _
theorem M2_ok : (M2 p P F S).Ok := by unfold M2; exact (M1_ok.s3 _ _ _ _ _ _).enc _
theorem X1_len : (X1 p P F).length = F.length + 96 := by unfold X1; exact fstX_len _ _ _ _
theorem X2_len : (X2 p P F S).length = S.length + 48 := by unfold X2; exact sndX_len _ _ _ _
theorem X1_byts (h : Byts F) : Byts (X1 p P F) := by unfold X1; exact fstX_byts h
theorem X2_byts (h : Byts S) : Byts (X2 p P F S) := by unfold X2; exact sndX_byts h
theorem PK.n0 (h : PK p) : p.kind ≠ 0 := by rcases h.k with h | h <;> rw [h] <;> decide
theorem PK.psk (h : PK p) : p.psk.length = 32 := h.ok.psk
theorem TA0_ok (h : PK p) (r : Nat) : (TA0 p r).Ok := (new_ok p.kind true h.A.1 h.psk).rp_ rfl
theorem TB0_ok (h : PK p) : (TB0 p).Ok := new_ok p.kind false h.B.1 h.psk
theorem TA1_ok (h : PK p) (r : Nat) : (TA1 p r).Ok := ((TA0_ok h r).once_ h.oa.1).done_ 1
theorem TB1_ok (h : PK p) (r : Nat) : (TB1 p r).Ok := (((TB0_ok h).their_ (pubL_length _)).rp_ rfl).done_ 1
theorem TB2_ok (h : PK p) (r : Nat) : (TB2 p r).Ok := ((TB1_ok h r).once_ h.ob.1).done_ 2
theorem TA2_ok (h : PK p) (r : Nat) : (TA2 p r).Ok := ((TA1_ok h r).their_ (pubL_length _)).done_ 2
theorem f3_rp (m : Mx) (t : HT) (v : Value) (U : List Int) : m.f3 {t with rp := v} U = m.f3 t U := by unfold Mx.f3 Mx.f2 Mx.f1; rfl
theorem fstX_rp (m : Mx) (t : HT) (v : Value) (U B : List Int) : fstX m {t with rp := v} U B = fstX m t U B := by unfold fstX Mx.f3 Mx.f2 Mx.f1; rfl
theorem s3_rp (m : Mx) (t : HT) (v : Value) (a b c d e : List Int) : m.s3 {t with rp := v} a b c d e = m.s3 t a b c d e := by unfold Mx.s3 Mx.s2; rfl
theorem sndX_rp (m : Mx) (t : HT) (v : Value) (U B : List Int) : sndX m {t with rp := v} U B = sndX m t U B := by unfold sndX Mx.s3 Mx.s2; rfl
set_option maxHeartbeats 1000000 in
theorem cNA (h : PK p) (q : Option Addr) (n c : Nat) (hpv : p.pv = .slice q n c) (w : World) (hS : Sl w q n c P) (hn : n ≤ 140737488351232) : Calls Try.prog 9 #[.agg (suRow (suA p))] w (fun e w' => ∃ hb rb, e = .returned (.tuple #[.pointer (some ⟨hb, 0, none⟩), .int .i64 0]) ∧ OwnM w [] w' [(hb, gRow (M0 p P) (TA0 p rb), 58), (rb, ints .u8 (pubL p.B), 23)]) := by
  have e : M0 p P = Mx.nw p.kind P (pubL p.B) := by unfold M0; rfl
  rw [e]
  exact hnewA_ok (suA p) (suA_ok h.ok) h.A q n c P hpv w hS hn h.k rfl
set_option maxHeartbeats 1000000 in
theorem cNB (h : PK p) (q : Option Addr) (n c : Nat) (hpv : p.pv = .slice q n c) (w : World) (hS : Sl w q n c P) (hn : n ≤ 140737488351232) : Calls Try.prog 9 #[.agg (suRow (suB p))] w (fun e w' => ∃ hb rb, e = .returned (.tuple #[.pointer (some ⟨hb, 0, none⟩), .int .i64 0]) ∧ OwnM w [] w' [(hb, gRow (M0 p P) (TB0 p), 58), (rb, ints .u8 (pubL p.B), 23)]) := by
  have e : M0 p P = Mx.nw p.kind P (pubL p.B) := by unfold M0; rfl
  rw [e]
  exact hnewB_ok (suB p) (suB_ok h.ok) h.B q n c P hpv w hS hn h.k rfl
set_option maxHeartbeats 1000000 in
theorem cWA (h : PK p) (q : Option Addr) (n c b r : Nat) (w : World) (hb : w.heap[b]? = some (.cells (gRow (M0 p P) (TA0 p r)) 58 (0, 0))) {RT : TypeId} {fz : Nat × Nat} (hrb : w.heap[r]? = some (.cells (ints .u8 (pubL p.B)) RT fz)) (hne : r ∉ [b]) (bF : Byts F) (hn : n ≤ 4096) (hS : Sl w q n c F) (hA : ApartB b q n) : Calls Try.prog 10 #[.pointer (some ⟨b, 0, none⟩), .agg (ints .u8 p.oa), .slice q n c] w (StPost w b 58 (gRow (M1 p P F) (TA1 p r)) (X1 p P F) 0) := by
  have k := hWA_ok q n c F p.oa (pubL p.B) r b (M0 p P) (TA0 p r) M0_ok (TA0_ok h r) w hb h.n0 rfl rfl h.A h.oa (b32_pubL _) rfl hrb hne bF hn hS hA (shN_ok h.oa h.B) (shN_ok h.A h.B)
  have e1 : M1 p P F = ((M0 p P).f3 {TA0 p r with once := p.oa} (pubL p.B)).enc F := by unfold M1; rw [← f3_rp (M0 p P) {TA0 p 0 with once := p.oa} (.pointer (some ⟨r, 0, none⟩))]; rfl
  have e2 : X1 p P F = fstX (M0 p P) {TA0 p r with once := p.oa} (pubL p.B) F := by unfold X1; rw [← fstX_rp (M0 p P) {TA0 p 0 with once := p.oa} (.pointer (some ⟨r, 0, none⟩))]; rfl
  rw [e1, e2]
  exact k
set_option maxHeartbeats 1000000 in
theorem cRB (h : PK p) (q : Option Addr) (n c b : Nat) (w : World) (hb : w.heap[b]? = some (.cells (gRow (M0 p P) (TB0 p)) 58 (0, 0))) (bF : Byts F) (hF : F.length ≤ 4096) (hS : Sl w q n c (X1 p P F)) (hA : ApartB b q n) : Calls Try.prog 13 #[.pointer (some ⟨b, 0, none⟩), .slice q n c] w (RdPost w b 58 (fun rb => gRow (M1 p P F) (TB1 p rb)) (pubL p.A) F 0) := by
  have hl := hS.len
  rw [X1_len] at hl
  obtain ⟨f1, f2, f3, f4, f5, f6, f7, f8, f9, f10⟩ := first_back (m := M0 p P) M0_ok (t := {TA0 p 0 with once := p.oa}) (s := TB0 p) rfl h.A h.oa h.B (B := F) (M := X1 p P F) hF bF (by unfold X1; rfl)
  have k := hRB_ok q n c (X1 p P F) b (M0 p P) (TB0 p) M0_ok (TB0_ok h) w hb h.n0 rfl rfl h.B (X1_byts bF) (by omega) (by omega) hS hA f2 f4 f6 f8
  have e1 : M1 p P F = ((M0 p P).f3 {TA0 p 0 with once := p.oa} (pubL p.B)).enc F := by unfold M1; rfl
  have e2 : ((M0 p P).r4 (TB0 p) (X1 p P F)).dec ((X1 p P F).drop 80) = M1 p P F := f10.trans e1.symm
  rw [e2, f9, f5, f1] at k
  exact k
set_option maxHeartbeats 1000000 in
theorem cWB (h : PK p) (q : Option Addr) (n c b r : Nat) (w : World) (hb : w.heap[b]? = some (.cells (gRow (M1 p P F) (TB1 p r)) 58 (0, 0))) {RT : TypeId} {fz : Nat × Nat} (hrb : w.heap[r]? = some (.cells (ints .u8 (pubL p.A)) RT fz)) (hne : r ∉ [b]) (bS : Byts S) (hn : n ≤ 4096) (hS : Sl w q n c S) (hA : ApartB b q n) : Calls Try.prog 10 #[.pointer (some ⟨b, 0, none⟩), .agg (ints .u8 p.ob), .slice q n c] w (StPost w b 58 (gRow (M2 p P F S) (TB2 p r)) (X2 p P F S) 0) := by
  have k := hWB_ok q n c S p.ob (pubL p.A) r b (M1 p P F) (TB1 p r) M1_ok (TB1_ok h r) w hb h.n0 rfl rfl (b32_pubL _) h.ob (b32_pubL _) rfl hrb hne bS hn hS hA (bothE_ok h.ob h.oa h.ob h.A)
  have e1 : M2 p P F S = ((M1 p P F).s3 {TB1 p r with once := p.ob} (pubL p.ob) p.ob (pubL p.oa) p.ob (pubL p.A)).enc S := by unfold M2; rw [← s3_rp (M1 p P F) {TB1 p 0 with once := p.ob} (.pointer (some ⟨r, 0, none⟩))]; rfl
  have e2 : X2 p P F S = sndX (M1 p P F) {TB1 p r with once := p.ob} (pubL p.A) S := by unfold X2; rw [← sndX_rp (M1 p P F) {TB1 p 0 with once := p.ob} (.pointer (some ⟨r, 0, none⟩))]; rfl
  rw [e1, e2]
  exact k
set_option maxHeartbeats 1000000 in
theorem cRA (h : PK p) (q : Option Addr) (n c b r : Nat) (w : World) (hb : w.heap[b]? = some (.cells (gRow (M1 p P F) (TA1 p r)) 58 (0, 0))) (bS : Byts S) (hF : S.length ≤ 4096) (hS : Sl w q n c (X2 p P F S)) (hA : ApartB b q n) : Calls Try.prog 13 #[.pointer (some ⟨b, 0, none⟩), .slice q n c] w (StPost w b 58 (gRow (M2 p P F S) (TA2 p r)) S 0) := by
  have hl := hS.len
  rw [X2_len] at hl
  obtain ⟨f1, f2, f3, f4, f5, f6, f7⟩ := second_back (m := M1 p P F) M1_ok (t := TA1 p r) (s := {TB1 p 0 with once := p.ob}) rfl rfl h.A h.oa h.ob rfl (B := S) (M := X2 p P F S) hF bS (by unfold X2; rfl)
  have k := hRA_ok q n c (X2 p P F S) b (M1 p P F) (TA1 p r) M1_ok (TA1_ok h r) w hb h.n0 rfl rfl h.A h.oa (X2_byts bS) (by omega) (by omega) hS hA f3 f5
  have e1 : M2 p P F S = ((M1 p P F).s3 {TB1 p 0 with once := p.ob} (pubL p.ob) p.ob (pubL p.oa) p.ob (pubL p.A)).enc S := by unfold M2; rfl
  have e2 := f7.trans e1.symm
  rw [e2, f6, f1] at k
  exact k
set_option maxHeartbeats 1000000 in
theorem cW_A1 (h : PK p) (q : Option Addr) (n c b r : Nat) (O : List Int) (m : Mx) (hm : m.Ok) (w : World) (hb : w.heap[b]? = some (.cells (gRow m (TA1 p r)) 58 (0, 0))) : Calls Try.prog 10 #[.pointer (some ⟨b, 0, none⟩), .agg (ints .u8 O), .slice q n c] w (fun e w' => e = .returned (.tuple #[.slice none 0 0, .int .i64 100]) ∧ OwnM w [b] w' [(b, gRow m (TA1 p r), 58)]) := by
  exact hwrite_turn q n c O b m (TA1 p r) hm (TA1_ok h r) 58 w hb h.n0 (show ¬ ((true == ((1 : Int) == 0)) = true ∧ decide ((1 : Int) < 2) = true) by decide)
set_option maxHeartbeats 1000000 in
theorem cW_B0 (h : PK p) (q : Option Addr) (n c b : Nat) (O : List Int) (m : Mx) (hm : m.Ok) (w : World) (hb : w.heap[b]? = some (.cells (gRow m (TB0 p)) 58 (0, 0))) : Calls Try.prog 10 #[.pointer (some ⟨b, 0, none⟩), .agg (ints .u8 O), .slice q n c] w (fun e w' => e = .returned (.tuple #[.slice none 0 0, .int .i64 100]) ∧ OwnM w [b] w' [(b, gRow m (TB0 p), 58)]) := by
  exact hwrite_turn q n c O b m (TB0 p) hm (TB0_ok h) 58 w hb h.n0 (show ¬ ((false == ((0 : Int) == 0)) = true ∧ decide ((0 : Int) < 2) = true) by decide)
set_option maxHeartbeats 1000000 in
theorem cW_B2 (h : PK p) (q : Option Addr) (n c b r : Nat) (O : List Int) (m : Mx) (hm : m.Ok) (w : World) (hb : w.heap[b]? = some (.cells (gRow m (TB2 p r)) 58 (0, 0))) : Calls Try.prog 10 #[.pointer (some ⟨b, 0, none⟩), .agg (ints .u8 O), .slice q n c] w (fun e w' => e = .returned (.tuple #[.slice none 0 0, .int .i64 100]) ∧ OwnM w [b] w' [(b, gRow m (TB2 p r), 58)]) := by
  exact hwrite_turn q n c O b m (TB2 p r) hm (TB2_ok h r) 58 w hb h.n0 (show ¬ ((false == ((2 : Int) == 0)) = true ∧ decide ((2 : Int) < 2) = true) by decide)
set_option maxHeartbeats 1000000 in
theorem cR_B1 (h : PK p) (q : Option Addr) (n c b r : Nat) (m : Mx) (hm : m.Ok) (w : World) (hb : w.heap[b]? = some (.cells (gRow m (TB1 p r)) 58 (0, 0))) : Calls Try.prog 13 #[.pointer (some ⟨b, 0, none⟩), .slice q n c] w (fun e w' => e = .returned (.tuple #[.slice none 0 0, .int .i64 100]) ∧ OwnM w [b] w' [(b, gRow m (TB1 p r), 58)]) := by
  exact hreadB_turn q n c b m (TB1 p r) hm (TB1_ok h r) 58 w hb h.n0 rfl (show ¬ ((false == ((1 : Int) == 0)) = false ∧ decide ((1 : Int) < 2) = true) by decide)
set_option maxHeartbeats 1000000 in
theorem cR_B2 (h : PK p) (q : Option Addr) (n c b r : Nat) (m : Mx) (hm : m.Ok) (w : World) (hb : w.heap[b]? = some (.cells (gRow m (TB2 p r)) 58 (0, 0))) : Calls Try.prog 13 #[.pointer (some ⟨b, 0, none⟩), .slice q n c] w (fun e w' => e = .returned (.tuple #[.slice none 0 0, .int .i64 100]) ∧ OwnM w [b] w' [(b, gRow m (TB2 p r), 58)]) := by
  exact hreadB_turn q n c b m (TB2 p r) hm (TB2_ok h r) 58 w hb h.n0 rfl (show ¬ ((false == ((2 : Int) == 0)) = false ∧ decide ((2 : Int) < 2) = true) by decide)
set_option maxHeartbeats 1000000 in
theorem cR_A2 (h : PK p) (q : Option Addr) (n c b r : Nat) (m : Mx) (hm : m.Ok) (w : World) (hb : w.heap[b]? = some (.cells (gRow m (TA2 p r)) 58 (0, 0))) : Calls Try.prog 13 #[.pointer (some ⟨b, 0, none⟩), .slice q n c] w (fun e w' => e = .returned (.tuple #[.slice none 0 0, .int .i64 100]) ∧ OwnM w [b] w' [(b, gRow m (TA2 p r), 58)]) := by
  exact hreadA_turn q n c b m (TA2 p r) hm (TA2_ok h r) 58 w hb h.n0 rfl (show ¬ ((true == ((2 : Int) == 0)) = false ∧ decide ((2 : Int) < 2) = true) by decide)
set_option maxHeartbeats 1000000 in
theorem cS_A1 (h : PK p) (b r : Nat) (m : Mx) (hm : m.Ok) (w : World) (hb : w.heap[b]? = some (.cells (gRow m (TA1 p r)) 58 (0, 0))) : Calls Try.prog 12 #[.pointer (some ⟨b, 0, none⟩)] w (fun e w' => e = .returned (.tuple #[.pointer none, .pointer none, .int .i64 100]) ∧ Below w.heap.size w w') := by
  exact hsplit_turn b m (TA1 p r) hm (TA1_ok h r) 58 w hb h.n0 (show (1 : Int) < 2 by decide)
set_option maxHeartbeats 1000000 in
theorem cS_B1 (h : PK p) (b r : Nat) (m : Mx) (hm : m.Ok) (w : World) (hb : w.heap[b]? = some (.cells (gRow m (TB1 p r)) 58 (0, 0))) : Calls Try.prog 12 #[.pointer (some ⟨b, 0, none⟩)] w (fun e w' => e = .returned (.tuple #[.pointer none, .pointer none, .int .i64 100]) ∧ Below w.heap.size w w') := by
  exact hsplit_turn b m (TB1 p r) hm (TB1_ok h r) 58 w hb h.n0 (show (1 : Int) < 2 by decide)
end
end Sp
end
section
open Go Go.RowKit
namespace Sp
open F M
section
variable {P : Program} {tab : Tab} {w0 : World} {mu : List Nat} {bs : Mem} {l : List Value} {ops : Array Oper} {rest : List Oper} {Q : ExitP} {dst : Option Tmp} {ty : TypeId} {pos : String} {af : Array Edge} {gd : Option (Nat × Bool)}
theorem SL.castF {l' : List Value} (hl : l = l') (h : SL P ops w0 mu rest Q l' bs) : SL P ops w0 mu rest Q l bs := hl ▸ h
theorem ValO.eqA {L L' : List Int} {k : IntKind} (ht : TabOk P tab) {t t' : TypeId} {x y : Operand} {n e sz : Nat} (hl : look tab t = some (.arr n e 1, sz)) {k' : IntKind} {sz' : Nat} (hle : look tab e = some (.int k', sz')) (hx : evL l x = .agg (ints k L)) (hy : evL l y = .agg (ints k L'))
    (hg : P.eqGuardType P.depth t = false) (hL : L.length = n) (hM : L'.length = n) (e : L = L') : ValO P w0 mu bs l ⟨dst, .binOp .eql t x y t', ty, pos, af, gd⟩ (.bool true) := by
  have h := ValO.eqlI (mu := mu) (dst := dst) (t' := t') (ty := ty) (pos := pos) (af := af) (gd := gd) (w0 := w0) (bs := bs) ht hl hle hx hy hg hL hM
  rwa [decide_eq_true e] at h
theorem SL.cl2N {f : FuncId} {args : List Operand} {ats : Array TypeId} (hent : ∀ (A : Array Value) (w : World), (callFunc f A).run P w = .ok (.enter f A) w) {vals : List Value} (hv : args.map (evL l) = vals) {V : Nat → Nat → Value} {X : Nat → Nat → Mem} {l' : Nat → Nat → List Value} {bs' : Nat → Nat → Mem}
    (hc : ∀ w, OwnM w0 mu w bs → Calls P f vals.toArray w fun e w' => ∃ a b, e = .returned (V a b) ∧ OwnM w [] w' (X a b)) (h : ∀ a b, SL P ops w0 mu rest Q (l' a b) (bs' a b))
    (hbs : ∀ a b, bs ++ X a b = bs' a b := by intro _ _; first | (simp only [List.cons_append, List.nil_append, List.append_assoc]; done) | (simp only [List.cons_append, List.nil_append, List.append_assoc]; rfl))
    (hp : ∀ a b, putL l dst (V a b) = l' a b := by intro _ _; first | (dsimp only [putL, setNth]; done) | (dsimp only [putL, setNth]; rfl)) :
    SL P ops w0 mu (⟨dst, .call { callee := .value (.func f), args := args.toArray, argTypes := ats }, ty, pos, af, none⟩ :: rest) Q l bs := by
  refine SL.callG hent hv (R := fun v' bs2 => ∃ a b, v' = V a b ∧ bs2 = bs' a b) (fun w hw => (hc w hw).mono fun e w' hx => ?_) (by rintro v' bs2 ⟨a, b, rfl, rfl⟩; rw [hp]; exact h a b)
  obtain ⟨a, b, rfl, hw'⟩ := hx
  exact ⟨_, _, rfl, ⟨a, b, rfl, rfl⟩, by rw [← hbs]; exact OwnM.freshL hw hw'⟩
theorem SL.clRd {f : FuncId} {args : List Operand} {ats : Array TypeId} (hent : ∀ (A : Array Value) (w : World), (callFunc f A).run P w = .ok (.enter f A) w) {vals : List Value} (hv : args.map (evL l) = vals)
    {i b : Nat} {A : Array Value} {T : TypeId} (hi : bs[i]? = some (b, A, T)) {R : Nat → Array Value} {U X : List Int} {m : Nat} {n : Int} {l' : Option Addr → Nat → List Value} {bs' : Nat → Mem → Mem}
    (hc : ∀ w, OwnM w0 mu w bs → Calls P f vals.toArray w (RdPost w b T R U X n))
    (h : ∀ rb q c abs, AO q m c X abs → SL P ops w0 mu rest Q (l' q c) (bs' rb abs)) (hm : X.length = m := by rfl)
    (hbs : ∀ rb abs, (rb, ints .u8 U, 23) :: (bs.set i (b, R rb, T) ++ abs) = bs' rb abs := by intro _ _; first | (simp only [List.set, List.cons_append, List.nil_append, List.append_assoc]; done) | (simp only [List.set, List.cons_append, List.nil_append, List.append_assoc]; rfl))
    (hp : ∀ q c, putL l dst (.tuple #[.slice q m c, .int .i64 n]) = l' q c := by intro _ _; first | (dsimp only [putL, setNth]; done) | (dsimp only [putL, setNth]; rfl)) :
    SL P ops w0 mu (⟨dst, .call { callee := .value (.func f), args := args.toArray, argTypes := ats }, ty, pos, af, none⟩ :: rest) Q l bs := by
  subst hm
  refine SL.callG hent hv (R := fun v' bs2 => ∃ rb q c abs, AO q X.length c X abs ∧ v' = .tuple #[.slice q X.length c, .int .i64 n] ∧ bs2 = bs' rb abs) (fun w hw => (hc w hw).mono fun e w' hx => ?_) (by rintro v' bs2 ⟨rb, q, c, abs, ha, rfl, rfl⟩; rw [hp]; exact h rb q c abs ha)
  obtain ⟨rb, q, c, abs, rfl, ha, hw'⟩ := hx
  refine ⟨_, _, rfl, ⟨rb, q, c, abs, ha, rfl, rfl⟩, ?_⟩
  rw [← hbs]
  exact (OwnM.call1A hw hi hw').perm List.perm_middle
theorem ApartB.aoT {W : World} (hw : OwnM w0 mu W bs) {q : Option Addr} {n c b : Nat} {X : List Int} {abs : Mem} (ha : AO q n c X abs) {A : Array Value} {T : TypeId} (hs : ((b, A, T) :: abs).Sublist bs) : ApartB b q n := by
  refine ApartB.ao ha ?_
  have := hw.apart.sublist (hs.map (·.1))
  rw [List.map_cons, List.nodup_cons] at this
  exact this.1
end
end Sp
end
section
open Go Go.RowKit
namespace Sp
open F M
theorem us_b32 {x : Int} (hx : 0 ≤ x ∧ x < 256) : Bytes32 (List.replicate 32 x) := b32_of (List.length_replicate ..) (byts_mem (fun y hy => by rw [List.eq_of_mem_replicate hy]; exact hx))
theorem us_pk (x y z : Nat) : PK (usP x y z) := ⟨usP_ok x y z, us_b32 (by decide), us_b32 (by decide), us_b32 (by decide), us_b32 (by decide), .inl rfl⟩
theorem us_one : ((strOfNums usOne).toList == ({ data := #[104, 101, 108, 108, 111] } : ByteArray).toList) = true := by decide +kernel
theorem us_two : ((strOfNums usTwo).toList == ({ data := #[119, 101, 108, 108] } : ByteArray).toList) = true := by decide +kernel
theorem us_bo : Byts usOne := byts_mem (by decide)
theorem us_bt : Byts usTwo := byts_mem (by decide)
set_option maxRecDepth 20000 in
set_option maxHeartbeats 4000000 in
theorem awake_any (w : World) : Calls Try.prog 14 #[] w fun e w' => e = .returned (.bool true) ∧ Below w.heap.size w w' := by
  refine calls_of_wp Try.func14 rfl ?_
  rw [show (#[] : Array Value) ++ Array.replicate _ undef = ([undef, undef, undef, undef, undef, undef, undef, undef, undef, undef, undef, undef, undef, undef, undef, undef, undef, undef, undef, undef, undef, undef, undef, undef, undef, undef, undef, undef, undef, undef, undef, undef, undef, undef, undef, undef, undef, undef, undef, undef, undef, undef, undef, undef, undef, undef, undef, undef, undef, undef, undef, undef, undef, undef, undef, undef, undef, undef, undef, undef, undef, undef, undef, undef, undef, undef, undef, undef, undef, undef, undef, undef, undef, undef, undef, undef, undef, undef, undef, undef, undef, undef, undef, undef, undef, undef, undef, undef, undef, undef, undef, undef, undef, undef, undef, undef, undef, undef, undef, undef, undef, undef, undef, undef, undef, undef, undef, undef, undef, undef, undef, undef, undef, undef, undef, undef, undef, undef, undef, undef, undef, undef, undef, undef, undef, undef, undef, undef, undef, undef, undef, undef, undef, undef, undef, undef, undef, undef] : List Value).toArray from (by simp only [Try.ntmps14, List.size_toArray, List.length_cons, List.length_nil, Nat.reduceAdd, Nat.reduceSub, Array.replicate_succ, Array.replicate_zero, List.push_toArray, List.append_toArray, List.nil_append, List.cons_append])]
  refine raw_k (OwnM.start w) (fun K hK => ?_)
  repeat (first | (refine rgn 0 ?_; refine sEv ?_; refine nlx ?_) | (refine zsq ?_; intro _ _) | (with_reducible refine zkN ?_) | (refine useK (by assumption) ?_) | (with_reducible first | refine zsB ?_ | refine zkX ?_ | refine zkR ?_ | refine zbN ?_ | refine zbR ?_ | refine zbE ?_ | refine zbX ?_ | refine zsS ?_ | refine zsR ?_ | refine zsX ?_) | (refine cdT ?_) | (refine cdF ?_))
  refine ⟨rfl, hK _ _ (fun W0 hw0 => ?_)⟩
  clear hK K
  refine raw_call (α := Nat × Nat × Nat) ent_16 rfl (V := fun a => .agg (prRow (usP a.1 a.2.1 a.2.2))) (Φ := fun a w' => Below W0.heap.size W0 w' ∧ Sl w' (some ⟨a.1, 0, none⟩) 1 1 usPro ∧ Sl w' (some ⟨a.2.1, 0, none⟩) 5 5 usOne ∧ Sl w' (some ⟨a.2.2, 0, none⟩) 4 4 usTwo) ((usual_any W0).mono (by rintro e w' ⟨x, y, z, he, h1, h2, h3, h4⟩; exact ⟨(x, y, z), he, h1, h2, h3, h4⟩)) ?_
  rintro w1 ⟨x, y, z⟩ ⟨hb1, S0, S1, S2⟩
  have h := us_pk x y z
  refine ⟨doneK Try.prog w1 [] #[.tmp 0] (fun v' _ => v' = .bool true), ?_, ?_⟩
  · refine SL.castF (l' := [.bool false, undef, undef, undef, undef, undef, undef, undef, undef, undef, undef, undef, undef, undef, undef, undef, undef, undef, undef, .agg (prRow (usP x y z)), undef, undef, undef, undef, undef, undef, undef, undef, undef, undef, undef, undef, undef, undef, undef, undef, undef, undef, undef, undef, undef, undef, undef, undef, undef, undef, undef, undef, undef, undef, undef, undef, undef, undef, undef, undef, undef, undef, undef, undef, undef, undef, undef, undef, undef, undef, undef, undef, undef, undef, undef, undef, undef, undef, undef, undef, undef, undef, undef, undef, undef, undef, undef, undef, undef, undef, undef, undef, undef, undef, undef, undef, undef, undef, undef, undef, undef, undef, undef, undef, undef, undef, undef, undef, undef, undef, undef, undef, undef, undef, undef, undef, undef, undef, undef, undef, undef, undef, undef, undef, undef, undef, undef, undef, undef, undef, undef, undef, undef, undef, undef, undef, undef, undef, undef, undef, undef, undef]) bpp ?_
    refine SL.al zero_Pair ?_; intro pb
    refine SL.stA tabOk (pq_cells h.ok) ?_ (hn := pq_size h.ok) (hsz := pq_size p00_ok)
    refine SL.nil ?_
    refine thenK_normal ?_
    repeat (first | (refine rgn 2 ?_; refine SL.ldR tabOk ?_ (hn := pq_size h.ok); refine SL.v (ValO.call ent_8 _ rfl _ (fun w1 hw1 => setups_any _ h.ok h.B _ _ _ rfl w1)) ?_; (iterate 3 refine sEv ?_); refine SL.al zero_Setup ?_; intro xb; refine SL.al zero_Setup ?_; intro yb; refine SL.stA tabOk (su_cells rfl) ?_ (hn := su_size (suA_ok h.ok)) (hsz := su_size u00_ok); refine SL.stA tabOk (su_cells rfl) ?_ (hn := su_size (suB_ok h.ok)) (hsz := su_size u00_ok); refine nlx ?_) | (refine rgn 3 ?_; refine SL.ldR tabOk ?_ (hn := su_size (suA_ok h.ok)); refine SL.cl2N ent_9 rfl (fun w1 hw1 => cNA h _ _ _ rfl w1 (S0.old hw1.below) (by decide)) (fun ha ra => ?_); (iterate 5 refine sEv ?_); refine nlx ?_) | (refine rgn 4 ?_; refine SL.ldR tabOk ?_ (hn := su_size (suB_ok h.ok)); refine SL.cl2N ent_9 rfl (fun w1 hw1 => cNB h _ _ _ rfl w1 (S0.old hw1.below) (by decide)) (fun hb rb => ?_); (iterate 5 refine sEv ?_); refine nlx ?_) | (refine rgn 5 ?_; refine sEv ?_; (first | (refine SL.c true tabOk ?_) | (refine SL.c false tabOk ?_) | (refine sEv ?_)); refine sEv ?_; (first | (refine SL.gT ?_; refine sEv ?_) | refine SL.gF ?_); (first | (refine SL.gT ?_; (first | (refine SL.c true tabOk ?_) | (refine SL.c false tabOk ?_) | (refine sEv ?_))) | refine SL.gF ?_); refine sEv ?_; refine nlx ?_) | (refine zsq ?_; intro _ _) | (with_reducible refine zkN ?_) | (refine useK (by assumption) ?_) | (with_reducible first | refine zsB ?_ | refine zkX ?_ | refine zkR ?_ | refine zbN ?_ | refine zbR ?_ | refine zbE ?_ | refine zbX ?_ | refine zsS ?_ | refine zsR ?_ | refine zsX ?_) | (refine cdT ?_) | (refine cdF ?_))
    repeat (first | (refine rgn 7 ?_; refine sEv ?_; refine sEv ?_; refine SL.ldP tabOk ?_ (hn := by rw [pq_size h.ok]; decide) (hB := pq_oa h.ok); refine sEv ?_; refine SL.ldC tabOk ?_ (hv := (pq_f h.ok)); refine SL.clS (i := 3) ent_10 rfl rfl (X := X1 (usP x y z) usPro usOne) (n := 0) (m := 101) (hm := by rw [X1_len]; rfl) (fun w1 hw1 => cWA h _ _ _ ha ra w1 (hw1.block (List.mem_of_getElem? (i := 3) rfl)) (hw1.block (List.mem_of_getElem? (i := 4) rfl)) (by simpa using hw1.ne (i := 4) (j := 3) rfl rfl (by decide)) us_bo (by decide) (S1.old hw1.below) (ApartB.old S1 hw1 (List.mem_of_getElem? (i := 3) rfl))) (fun q1 c1 abs1 O1 => ?_); (iterate 5 refine sEv ?_); refine nlx ?_) | (refine rgn 8 ?_; refine sEv ?_; refine sEv ?_; refine SL.ldP tabOk ?_ (hn := by rw [pq_size h.ok]; decide) (hB := pq_ob h.ok); refine SL.cl2 hb (i := 5) ent_10 rfl (fun w1 hw1 hb1 => cW_B0 h none 0 0 hb _ _ M0_ok w1 hb1) ?_; (iterate 5 refine sEv ?_); refine nlx ?_) | (refine rgn 9 ?_; refine sEv ?_; refine sEv ?_; refine SL.clRd (i := 5) ent_13 rfl rfl (X := usOne) (m := 5) (hm := rfl) (fun w1 hw1 => cRB h _ _ _ hb w1 (hw1.block (List.mem_of_getElem? (i := 5) rfl)) us_bo (by decide) (O1.sl hw1 (by (try simp only [List.append_assoc, List.cons_append, List.nil_append]); repeat (first | exact List.Sublist.refl _ | exact List.sublist_append_left _ _ | refine List.Sublist.cons _ ?_ | refine List.Sublist.trans ?_ (List.sublist_append_right _ _)))) (ApartB.aoT (b := hb) hw1 O1 (by (try simp only [List.append_assoc, List.cons_append, List.nil_append]); repeat (first | exact List.Sublist.cons_cons _ (by (try simp only [List.append_assoc, List.cons_append, List.nil_append]); repeat (first | exact List.Sublist.refl _ | exact List.sublist_append_left _ _ | refine List.Sublist.cons _ ?_ | refine List.Sublist.trans ?_ (List.sublist_append_right _ _))) | refine List.Sublist.cons _ ?_)))) (fun rb2 q2 c2 abs2 O2 => ?_); (iterate 5 refine sEv ?_); refine nlx ?_) | (refine rgn 10 ?_; refine sEv ?_; refine SL.v (ValO.call ent_12 _ rfl _ (fun w1 hw1 => cS_B1 h hb rb2 _ M1_ok w1 (hw1.block (List.mem_of_getElem? (i := 6) rfl)))) ?_; (iterate 7 refine sEv ?_); refine nlx ?_) | (refine rgn 11 ?_; refine sEv ?_; refine sEv ?_; refine SL.ldP tabOk ?_ (hn := by rw [pq_size h.ok]; decide) (hB := pq_ob h.ok); refine sEv ?_; refine SL.ldC tabOk ?_ (hv := (pq_s h.ok)); refine SL.clS (i := 6) ent_10 rfl rfl (X := X2 (usP x y z) usPro usOne usTwo) (n := 0) (m := 52) (hm := by rw [X2_len]; rfl) (fun w1 hw1 => cWB h _ _ _ hb rb2 w1 (hw1.block (List.mem_of_getElem? (i := 6) rfl)) (hw1.block (List.mem_of_getElem? (i := 0) rfl)) (by simpa using hw1.ne (i := 0) (j := 6) rfl rfl (by decide)) us_bt (by decide) (S2.old hw1.below) (ApartB.old S2 hw1 (List.mem_of_getElem? (i := 6) rfl))) (fun q3 c3 abs3 O3 => ?_); (iterate 5 refine sEv ?_); refine nlx ?_) | (refine rgn 12 ?_; refine sEv ?_; refine sEv ?_; refine SL.clS (i := 4) ent_13 rfl rfl (X := usTwo) (n := 0) (m := 4) (hm := rfl) (fun w1 hw1 => cRA h _ _ _ ha ra w1 (hw1.block (List.mem_of_getElem? (i := 4) rfl)) us_bt (by decide) (O3.sl hw1 (by (try simp only [List.append_assoc, List.cons_append, List.nil_append]); repeat (first | exact List.Sublist.refl _ | exact List.sublist_append_left _ _ | refine List.Sublist.cons _ ?_ | refine List.Sublist.trans ?_ (List.sublist_append_right _ _)))) (ApartB.aoT (b := ha) hw1 O3 (by (try simp only [List.append_assoc, List.cons_append, List.nil_append]); repeat (first | exact List.Sublist.cons_cons _ (by (try simp only [List.append_assoc, List.cons_append, List.nil_append]); repeat (first | exact List.Sublist.refl _ | exact List.sublist_append_left _ _ | refine List.Sublist.cons _ ?_ | refine List.Sublist.trans ?_ (List.sublist_append_right _ _))) | refine List.Sublist.cons _ ?_)))) (fun q4 c4 abs4 O4 => ?_); (iterate 5 refine sEv ?_); refine nlx ?_) | (refine zsq ?_; intro _ _) | (with_reducible refine zkN ?_) | (refine useK (by assumption) ?_) | (with_reducible first | refine zsB ?_ | refine zkX ?_ | refine zkR ?_ | refine zbN ?_ | refine zbR ?_ | refine zbE ?_ | refine zbX ?_ | refine zsS ?_ | refine zsR ?_ | refine zsX ?_) | (refine cdT ?_) | (refine cdF ?_))
    repeat (first | (refine rgn 13 ?_; refine sEv ?_; (first | (refine SL.c true tabOk ?_) | (refine SL.c false tabOk ?_) | (refine sEv ?_)); refine sEv ?_; (first | (refine SL.gT ?_; refine sEv ?_) | refine SL.gF ?_); (first | (refine SL.gT ?_; (first | (refine SL.c true tabOk ?_) | (refine SL.c false tabOk ?_) | (refine sEv ?_))) | refine SL.gF ?_); refine sEv ?_; refine sEv ?_; (first | (refine SL.gT ?_; refine sEv ?_) | refine SL.gF ?_); (first | (refine SL.gT ?_; refine SL.v (ValO.len tabOk (by rfl)) ?_) | refine SL.gF ?_); (first | (refine SL.gT ?_; (first | (refine SL.c true tabOk ?_) | (refine SL.c false tabOk ?_) | (refine sEv ?_))) | refine SL.gF ?_); refine sEv ?_; refine sEv ?_; (first | (refine SL.gT ?_; refine sEv ?_) | refine SL.gF ?_); (first | (refine SL.gT ?_; (first | (refine SL.c true tabOk ?_) | (refine SL.c false tabOk ?_) | (refine sEv ?_))) | refine SL.gF ?_); refine sEv ?_; refine sEv ?_; (first | (refine SL.gT ?_; refine sEv ?_) | refine SL.gF ?_); (first | (refine SL.gT ?_; (first | (refine SL.c true tabOk ?_) | (refine SL.c false tabOk ?_) | (refine sEv ?_))) | refine SL.gF ?_); refine sEv ?_; refine sEv ?_; (first | (refine SL.gT ?_; refine sEv ?_) | refine SL.gF ?_); (first | (refine SL.gT ?_; (first | (refine SL.c true tabOk ?_) | (refine SL.c false tabOk ?_) | (refine sEv ?_))) | refine SL.gF ?_); refine sEv ?_; refine sEv ?_; (first | (refine SL.gT ?_; refine sEv ?_) | refine SL.gF ?_); (first | (refine SL.gT ?_; (first | (refine SL.c true tabOk ?_) | (refine SL.c false tabOk ?_) | (refine sEv ?_))) | refine SL.gF ?_); refine sEv ?_; refine sEv ?_; (first | (refine SL.gT ?_; refine sEv ?_) | refine SL.gF ?_); (first | (refine SL.gT ?_; refine SL.v (ValO.len tabOk (by rfl)) ?_) | refine SL.gF ?_); (first | (refine SL.gT ?_; (first | (refine SL.c true tabOk ?_) | (refine SL.c false tabOk ?_) | (refine sEv ?_))) | refine SL.gF ?_); refine sEv ?_; refine sEv ?_; (first | (refine SL.gT ?_; refine sEv ?_) | refine SL.gF ?_); (first | (refine SL.gT ?_; refine SL.v (ValO.len tabOk (by rfl)) ?_) | refine SL.gF ?_); (first | (refine SL.gT ?_; (first | (refine SL.c true tabOk ?_) | (refine SL.c false tabOk ?_) | (refine sEv ?_))) | refine SL.gF ?_); refine sEv ?_; refine sEv ?_; (first | (refine SL.gT ?_; refine sEv ?_) | refine SL.gF ?_); (first | (refine SL.gT ?_; refine SL.v (ValO.bytesStr tabOk (fun w1 hw1 => (O2.sl hw1 (by (try simp only [List.append_assoc, List.cons_append, List.nil_append]); repeat (first | exact List.Sublist.refl _ | exact List.sublist_append_left _ _ | refine List.Sublist.cons _ ?_ | refine List.Sublist.trans ?_ (List.sublist_append_right _ _))))) (by decide) rfl rfl rfl rfl) ?_) | refine SL.gF ?_); (first | (refine SL.gT ?_; refine SL.v (ValO.eqlStr rfl rfl us_one) ?_) | refine SL.gF ?_); refine sEv ?_; refine sEv ?_; (first | (refine SL.gT ?_; refine sEv ?_) | refine SL.gF ?_); (first | (refine SL.gT ?_; refine SL.v (ValO.bytesStr tabOk (fun w1 hw1 => (O4.sl hw1 (by (try simp only [List.append_assoc, List.cons_append, List.nil_append]); repeat (first | exact List.Sublist.refl _ | exact List.sublist_append_left _ _ | refine List.Sublist.cons _ ?_ | refine List.Sublist.trans ?_ (List.sublist_append_right _ _))))) (by decide) rfl rfl rfl rfl) ?_) | refine SL.gF ?_); (first | (refine SL.gT ?_; refine SL.v (ValO.eqlStr rfl rfl us_two) ?_) | refine SL.gF ?_); refine sEv ?_; refine sEv ?_; (first | (refine SL.gT ?_; refine sEv ?_) | refine SL.gF ?_); (first | (refine SL.gT ?_; refine SL.v (ValO.call ent_11 _ rfl _ (fun w1 hw1 => hdigest_any ha _ (TA2 (usP x y z) ra) M2_ok (TA2_ok h ra) 58 w1 (hw1.block (List.mem_of_getElem? (i := 4) rfl)) h.n0)) ?_) | refine SL.gF ?_); (first | (refine SL.gT ?_; refine sEv ?_) | refine SL.gF ?_); (first | (refine SL.gT ?_; refine SL.v (ValO.call ent_11 _ rfl _ (fun w1 hw1 => hdigest_any hb _ (TB2 (usP x y z) rb2) M2_ok (TB2_ok h rb2) 58 w1 (hw1.block (List.mem_of_getElem? (i := 6) rfl)) h.n0)) ?_) | refine SL.gF ?_); (first | (refine SL.gT ?_; refine SL.v (ValO.eqA tabOk rfl rfl rfl rfl (by kernel_rfl) M2_ok.d M2_ok.d rfl) ?_) | refine SL.gF ?_); refine sEv ?_; refine sEv ?_; refine nlx ?_) | (refine zsq ?_; intro _ _) | (with_reducible refine zkN ?_) | (refine useK (by assumption) ?_) | (with_reducible first | refine zsB ?_ | refine zkX ?_ | refine zkR ?_ | refine zbN ?_ | refine zbR ?_ | refine zbE ?_ | refine zbX ?_ | refine zsS ?_ | refine zsR ?_ | refine zsX ?_) | (refine cdT ?_) | (refine cdF ?_))
    exact doneK.mk rfl (ResO.tmp rfl) rfl
  · refine after_done Try.results14 (fun v bs W hv hW => ⟨by rw [hv], ?_⟩)
    exact (OwnM.comp (bs1 := []) ((hw0.grow hb1).sub (List.nil_sublist _)) hW).below
end Sp
end
section
open Go Go.RowKit
namespace Sp
open F
structure PIn (w : World) (p : PR) (q0 q1 q2 : Option Addr) (n0 c0 n1 c1 n2 c2 : Nat) (P F S : List Int) : Prop where
  ok : p.Ok
  A : Byts p.A
  B : Byts p.B
  oa : Byts p.oa
  ob : Byts p.ob
  pv : p.pv = .slice q0 n0 c0
  f : p.f = .slice q1 n1 c1
  s : p.s = .slice q2 n2 c2
  S0 : Sl w q0 n0 c0 P
  b0 : Byts P
  m0 : n0 ≤ 140737488351232
  S1 : Sl w q1 n1 c1 F
  b1 : Byts F
  m1 : n1 ≤ 140737488351232
  S2 : Sl w q2 n2 c2 S
  b2 : Byts S
  m2 : n2 ≤ 140737488351232
def mkP (p : PR) (q1 q2 : Option Addr) (n1 c1 n2 c2 : Nat) : PR := {p with kind := 1 + p.kind % 2, f := .slice q1 (min n1 4096) c1, s := .slice q2 (min n2 4096) c2}
theorem Sl.fr {w : World} {q : Option Addr} {n c k : Nat} {B : List Int} (h : Sl w q n c B) (hk : k ≤ n) : Sl w q k c (B.take k) := by
  have hl := h.len
  have hc := h.cap
  by_cases h0 : k = 0
  · subst h0; rw [List.take_zero]; exact Sl.nil w q c
  · obtain ⟨b, off, A, T, fz, rfl, hb, hA⟩ := h.at_ (by omega)
    exact h.take hk
section
variable {w : World} {p : PR} {q0 q1 q2 : Option Addr} {n0 c0 n1 c1 n2 c2 : Nat} {P F S : List Int}
theorem PIn.pk (h : PIn w p q0 q1 q2 n0 c0 n1 c1 n2 c2 P F S) : PK (mkP p q1 q2 n1 c1 n2 c2) :=
  ⟨((h.ok.kind_ _).f_ rfl).s_ rfl, b32_of h.ok.A h.A, b32_of h.ok.B h.B, b32_of h.ok.oa h.oa, b32_of h.ok.ob h.ob, by show 1 + p.kind % 2 = 1 ∨ 1 + p.kind % 2 = 2; omega⟩
theorem PIn.s1 (h : PIn w p q0 q1 q2 n0 c0 n1 c1 n2 c2 P F S) : Sl w q1 (min n1 4096) c1 (F.take (min n1 4096)) := h.S1.fr (Nat.min_le_left _ _)
theorem PIn.s2 (h : PIn w p q0 q1 q2 n0 c0 n1 c1 n2 c2 P F S) : Sl w q2 (min n2 4096) c2 (S.take (min n2 4096)) := h.S2.fr (Nat.min_le_left _ _)
end
end Sp
end
section
open Go Go.ChangeShapes Go.WideShapes Go.ChangeAt Go.RowKit Sp M
section
variable {H : Type} {enc : TypeId × Value → H} {P : Program} {w : World} {base : Nat} {spare : Nat → Bool} {held : Bool}
theorem trod_lt' {t : TypeId} {v : Value} {d : DataW H} {ps : List MemPlace} (h : DataW.Trod enc P w base spare held t v d ps) : ∀ x ∈ ps, x.block < w.heap.size := by
  obtain ⟨n, h⟩ := h
  exact DataW.trod_lt n t _ _ h
theorem byts_of {L : List Int} (h : ∀ x ∈ L, (Lit.int .u8 x).wf = true) : Byts L := by
  intro j
  unfold gi
  rw [List.getD_eq_getElem?_getD]
  cases hj : L[j]? with
  | none => simp
  | some x =>
    have := h x (List.mem_of_getElem? hj)
    simp only [Lit.wf, Bool.and_eq_true, decide_eq_true_eq] at this
    have h1 : (0 : Int) ≤ x := this.1
    have h2 : x ≤ 255 := this.2
    show 0 ≤ x ∧ x < 256
    omega
end
end
section
open Go Go.ChangeShapes Go.WideShapes Go.ChangeAt Go.RowKit Sp M
section
variable {H : Type} {enc : TypeId × Value → H} {P : Program} {w : World} {base : Nat} {spare : Nat → Bool} {held : Bool}
theorem row_of_cell {a : Addr} {n : Nat} {V : Nat → Value} (h0 : 0 < n) (h : ∀ i, i < n → w.cell? (a.add i) = some (V i)) :
    ∃ b off A T fz, a = ⟨b, off, none⟩ ∧ w.heap[b]? = some (.cells A T fz) ∧ ∀ i, i < n → A[off + i]? = some (V i) := by
  have h0' := h 0 h0
  have hspot := World.cell?_spot h0'
  obtain ⟨blk, off, spot⟩ := a
  have hsp : spot = none := by simpa [Addr.add] using hspot
  subst hsp
  unfold World.cell? at h0'
  cases hh : w.heap[((⟨blk, off, none⟩ : Addr).add 0).block]? with
  | none => rw [hh] at h0'; cases h0'
  | some o =>
    rw [hh] at h0'
    cases o with
    | cells A T fz =>
      have hh' : w.heap[blk]? = some (.cells A T fz) := by simpa [Addr.add] using hh
      refine ⟨blk, off, A, T, fz, rfl, hh', fun j hj => ?_⟩
      have h1 := h j hj
      rwa [add_off, cell_of_row w blk (off + j) A T fz hh'] at h1
    | map _ _ => cases h0'
    | chan _ _ _ _ _ _ => cases h0'
    | _ => cases h0'
theorem open_cell_bytes {t e : TypeId} {fuel : Nat} {v : Value} {x : DataW H × List MemPlace} (hu : P.underlying t = some (.slice e)) (hue : P.underlying e = some (.int .u8)) (hce : P.cellsOf e = 1)
    (hf : DataW.trod enc P w base spare held fuel t [v] = some x) : ∃ (q : Option Addr) (n c : Nat) (B : List Int), v = .slice q n c ∧ Sl w q n c B ∧ Byts B := by
  rcases Go.Deep.open_slice1 hu hce hf with ⟨he, _⟩ | ⟨a', len', cap', m, n, V, D, Pl, he, hb, hl, hm, hmm, hx, hc⟩
  · simp only [List.cons.injEq, and_true] at he
    exact ⟨none, 0, 0, [], he, Sl.nil w none 0, fun j => by simp [gi]⟩
  · simp only [List.cons.injEq, and_true] at he
    have hlen : len' ≤ m := by rw [hmm]; split <;> omega
    have hV : ∀ i, i < len' → ∃ z : Int, V i = .int .u8 z ∧ (Lit.int .u8 z).wf = true := by
      intro i hi
      obtain ⟨z, h1, _, h3⟩ := DataW.trod_int hue (hc i (by omega)).2
      exact ⟨z, by simpa using h1, h3⟩
    refine ⟨some a', len', cap', (List.range len').map fun i => intOf (V i), he, ⟨by simp, hl, fun h0 => ?_⟩, byts_of ?_⟩
    · obtain ⟨b, off, A, T, fz, rfl, hh, hA⟩ := row_of_cell h0 (fun i hi => (hc i (by omega)).1)
      refine ⟨b, off, A, T, fz, rfl, hh, fun j hj => ?_⟩
      simp at hj
      obtain ⟨z, hz, _⟩ := hV j hj
      rw [hA j hj, hz]
      simp [gi, hj, hz, intOf]
    · intro x hx'
      obtain ⟨i, hi, rfl⟩ := List.mem_map.1 hx'
      obtain ⟨z, hz, hw⟩ := hV i (by simpa using hi)
      rw [hz]
      exact hw
end
end
section
open Go Go.ChangeShapes Go.WideShapes Go.ChangeAt Go.RowKit Sp M
structure SlI (k : IntKind) (w : World) (p : Option Addr) (n c : Nat) (L : List Int) : Prop where
  len : L.length = n
  at_ : 0 < n → ∃ b off A T fz, p = some ⟨b, off, none⟩ ∧ w.heap[b]? = some (.cells A T fz) ∧ ∀ j, j < n → A[off + j]? = some (.int k (gi L j))
theorem SlI.old {k : IntKind} {w w' : World} {p : Option Addr} {n c : Nat} {L : List Int} (h : SlI k w p n c L) (hb : Below w.heap.size w w') : SlI k w' p n c L :=
  ⟨h.len, fun h0 => by
    obtain ⟨b, off, A, T, fz, rfl, hh, hA⟩ := h.at_ h0
    exact ⟨b, off, A, T, fz, rfl, by rw [hb.block _ (Array.getElem?_eq_some_iff.1 hh).1]; exact hh, hA⟩⟩
section
variable {H : Type} {enc : TypeId × Value → H} {P : Program} {w : World} {base : Nat} {spare : Nat → Bool} {held : Bool}
end
end
section
open Go Go.ChangeShapes Go.WideShapes Go.ChangeAt Go.RowKit Sp M
structure DoV where
  (k m : Int) (p q : Option Addr) (la ca lb cb : Nat) (A B : List Int)
def DoV.row (d : DoV) : Array Value := #[.int .i64 d.k, .int .i64 d.m, .slice d.p d.la d.ca, .slice d.q d.lb d.cb]
def DoV.ok (w : World) (d : DoV) : Prop := Sl w d.p d.la d.ca d.A ∧ Sl w d.q d.lb d.cb d.B ∧ Byts d.A ∧ Byts d.B ∧ d.la ≤ 140737488351232 ∧ d.lb ≤ 140737488351232 ∧ (Lit.int .i64 d.k).wf = true ∧ (Lit.int .i64 d.m).wf = true
section
variable {H : Type} {enc : TypeId × Value → H} {P : Program} {w : World} {base : Nat} {spare : Nat → Bool} {held : Bool}
theorem open_cell_sized {t e : TypeId} {fuel : Nat} {v : Value} {x : DataW H × List MemPlace} (hu : P.underlying t = some (.slice e)) (hue : P.underlying e = some (.int .u8)) (hce : P.cellsOf e = 1)
    (hf : DataW.trod enc P w base spare held fuel t [v] = some x) (hsz : ∀ elems sp, x.1 = .slice elems sp → (elems.length + sp.length) * 1 ≤ reachBytes) :
    ∃ (q : Option Addr) (n c : Nat) (B : List Int), v = .slice q n c ∧ Sl w q n c B ∧ Byts B ∧ n ≤ 140737488351232 := by
  obtain ⟨q, n, c, B, rfl, hS, hB⟩ := open_cell_bytes hu hue hce hf
  refine ⟨q, n, c, B, rfl, hS, hB, ?_⟩
  rcases Go.Deep.open_slice1 hu hce hf with ⟨he, _⟩ | ⟨a', len', cap', m, n', V, D, Pl, he, hb, hl, hm, hmm, hx, hc⟩
  · simp only [List.cons.injEq, Value.slice.injEq, and_true] at he
    obtain ⟨rfl, rfl, rfl⟩ := he
    omega
  · simp only [List.cons.injEq, Value.slice.injEq, and_true] at he
    obtain ⟨rfl, rfl, rfl⟩ := he
    have hlen : n ≤ m := by rw [hmm]; split <;> omega
    have hs := hsz _ _ (by rw [hx])
    simp only [List.length_map, List.length_range] at hs
    have e : reachBytes = 140737488351232 := by decide
    rw [e] at hs
    omega
end
end
section
open Go Go.ChangeShapes Go.WideShapes Go.ChangeAt Go.RowKit Sp M
section
variable {H : Type} {enc : TypeId × Value → H} {P : Program} {w : World} {base : Nat} {spare : Nat → Bool} {held : Bool}
end
end
section
open Go Go.ChangeShapes Go.WideShapes Go.ChangeAt Go.RowKit Sp M
section
variable {H : Type} {enc : TypeId × Value → H} {P : Program} {w : World} {base : Nat} {spare : Nat → Bool} {held : Bool}
theorem open_cells_arr {t e : TypeId} {n fuel : Nat} {cs : List Value} {x : DataW H × List MemPlace} (hu : P.underlying t = some (.array n e)) (hue : P.underlying e = some (.int .u8)) (hce : P.cellsOf e = 1) (hl : cs.length = n)
    (hf : DataW.trod enc P w base spare held fuel t cs = some x) : ∃ L : List Int, cs = L.map (Value.int .u8) ∧ L.length = n ∧ Byts L := by
  obtain ⟨xs, m, _, hx, _, hxl, hxs⟩ := DataW.trod_array hu hf
  have key : ∀ i, i < n → ∃ z : Int, cs[i]? = some (.int .u8 z) ∧ (Lit.int .u8 z).wf = true := by
    intro i hi
    have h1 := hxs i hi
    rw [hce, Nat.mul_one] at h1
    have hlt : i < cs.length := by omega
    have h2 : (cs.drop i).take 1 = [cs[i]] := by
      rw [List.drop_eq_getElem_cons hlt]
      rfl
    rw [h2] at h1
    have hsome : xs[i]? = some xs[i] := by simp [hxl, hi]
    rw [hsome] at h1
    obtain ⟨z, h3, h4, h5⟩ := DataW.trod_int hue h1
    refine ⟨z, ?_, h5⟩
    simp only [List.cons.injEq, and_true] at h3
    rw [← h3]
    simp [hlt]
  refine ⟨cs.map intOf, ?_, by simp [hl], byts_of ?_⟩
  · apply List.ext_getElem?
    intro i
    by_cases hi : i < n
    · obtain ⟨z, h1, _⟩ := key i hi
      simp [h1, intOf]
    · rw [List.getElem?_eq_none (by omega), List.getElem?_eq_none (by simp; omega)]
  · intro x hx'
    obtain ⟨v, hv, rfl⟩ := List.mem_map.1 hx'
    obtain ⟨i, hi⟩ := List.mem_iff_getElem?.1 hv
    have hlt : i < n := by
      have := (List.getElem?_eq_some_iff.1 hi).1
      omega
    obtain ⟨z, h1, h2⟩ := key i hlt
    rw [hi] at h1
    obtain rfl := Option.some.inj h1
    exact h2
theorem sized_in {ts : List TypeId} {ds : List (DataW H)} (h : (DataW.weightsEach P ts ds).all (· ≤ reachBytes) = true) {j i : Nat} {t s e : TypeId} {fs : Array Field} {parts : List (DataW H)} {elems sp : List (DataW H)} (ht : ts[j]? = some t) (hd : ds[j]? = some (.agg parts))
    (hu : P.underlying t = some (.struct fs)) (hs : (fs.toList.map (·.type))[i]? = some s) (hp : parts[i]? = some (.slice elems sp)) (hus : P.underlying s = some (.slice e)) : (elems.length + sp.length) * P.bytesOf e ≤ reachBytes := by
  have h1 : ∀ wt ∈ DataW.weightsEach P (fs.toList.map (·.type)) parts, wt ≤ reachBytes := fun wt hwt => by
    have := List.all_eq_true.1 h _ (DataW.weights_mem_each ht hd wt (by simpa [DataW.weights, hu] using hwt))
    simpa using this
  exact h1 _ (DataW.weights_mem_each hs hp _ (by simp [DataW.weights, hus]))
theorem pr_seg {α : Type} (l : List α) (a n : Nat) : l.drop a = (l.drop a).take n ++ l.drop (a + n) := by rw [← List.drop_drop, List.take_append_drop]
theorem open_pair {r : Reach} {b0 : Nat} {t e8 : TypeId} {f0 f1 f2 f3 f4 f5 f6 f7 f8 : Field} {v : Value} {d : DataW H} {p : List MemPlace} (hs : P.underlying t = some (.struct #[f0, f1, f2, f3, f4, f5, f6, f7, f8])) (hc : P.cellsOf t = 164)
    (h0 : P.underlying f0.type = some (.int .i64)) (h1 : P.underlying f1.type = some (.array 32 e8)) (h2 : P.underlying f2.type = some (.array 32 e8)) (h3 : P.underlying f3.type = some (.slice e8)) (h4 : P.underlying f4.type = some (.array 32 e8)) (h5 : P.underlying f5.type = some (.array 32 e8)) (h6 : P.underlying f6.type = some (.array 32 e8)) (h7 : P.underlying f7.type = some (.slice e8)) (h8 : P.underlying f8.type = some (.slice e8)) (hue : P.underlying e8 = some (.int .u8)) (hce : P.cellsOf e8 = 1)
    (hc0 : P.cellsOf f0.type = 1) (hc1 : P.cellsOf f1.type = 32) (hc2 : P.cellsOf f2.type = 32) (hc3 : P.cellsOf f3.type = 1) (hc4 : P.cellsOf f4.type = 32) (hc5 : P.cellsOf f5.type = 32) (hc6 : P.cellsOf f6.type = 32) (hc7 : P.cellsOf f7.type = 1) (hc8 : P.cellsOf f8.type = 1) (ho : f0.offset = 0 ∧ f1.offset = 1 ∧ f2.offset = 33 ∧ f3.offset = 65 ∧ f4.offset = 66 ∧ f5.offset = 98 ∧ f6.offset = 130 ∧ f7.offset = 162 ∧ f8.offset = 163)
    (hv : Value.okWide P w r b0 t v) (h : DataW.Trod enc P w base spare held t v d p) (hsz : ∀ parts i elems sp, d = .agg parts → (i = 3 ∨ i = 7 ∨ i = 8) → parts[i]? = some (.slice elems sp) → (elems.length + sp.length) * 1 ≤ reachBytes) :
    ∃ (k : Int) (A B s a b : List Int) (q0 q1 q2 : Option Addr) (n0 c0 n1 c1 n2 c2 : Nat) (P0 F0 S0 : List Int), v = .agg (prRow ⟨k, A, B, .slice q0 n0 c0, s, a, b, .slice q1 n1 c1, .slice q2 n2 c2⟩) ∧ (A.length = 32 ∧ B.length = 32 ∧ s.length = 32 ∧ a.length = 32 ∧ b.length = 32) ∧ (Byts A ∧ Byts B ∧ Byts s ∧ Byts a ∧ Byts b) ∧ (Sl w q0 n0 c0 P0 ∧ Byts P0 ∧ n0 ≤ 140737488351232) ∧ (Sl w q1 n1 c1 F0 ∧ Byts F0 ∧ n1 ≤ 140737488351232) ∧ (Sl w q2 n2 c2 S0 ∧ Byts S0 ∧ n2 ≤ 140737488351232) := by
  obtain ⟨cs, rfl, hcs⟩ := okWide_struct hs hv
  rw [hc] at hcs
  obtain ⟨fuel, hf⟩ := h
  obtain ⟨xs, n, _, hx, hl0, hlen, hg⟩ := DataW.trod_struct hs hf
  obtain ⟨o0, o1, o2, o3, o4, o5, o6, o7, o8⟩ := ho
  have hl : cs.toList.length = 164 := by simpa using hcs
  simp only [Value.cells] at hg
  match xs, hlen with
  | [y0, y1, y2, y3, y4, y5, y6, y7, y8], _ =>
    have t0 := hg 0 f0 rfl
    rw [o0, hc0] at t0
    simp only [List.getElem?_cons_zero, List.getElem?_cons_succ] at t0
    have t1 := hg 1 f1 rfl
    rw [o1, hc1] at t1
    simp only [List.getElem?_cons_zero, List.getElem?_cons_succ] at t1
    have t2 := hg 2 f2 rfl
    rw [o2, hc2] at t2
    simp only [List.getElem?_cons_zero, List.getElem?_cons_succ] at t2
    have t3 := hg 3 f3 rfl
    rw [o3, hc3] at t3
    simp only [List.getElem?_cons_zero, List.getElem?_cons_succ] at t3
    have t4 := hg 4 f4 rfl
    rw [o4, hc4] at t4
    simp only [List.getElem?_cons_zero, List.getElem?_cons_succ] at t4
    have t5 := hg 5 f5 rfl
    rw [o5, hc5] at t5
    simp only [List.getElem?_cons_zero, List.getElem?_cons_succ] at t5
    have t6 := hg 6 f6 rfl
    rw [o6, hc6] at t6
    simp only [List.getElem?_cons_zero, List.getElem?_cons_succ] at t6
    have t7 := hg 7 f7 rfl
    rw [o7, hc7] at t7
    simp only [List.getElem?_cons_zero, List.getElem?_cons_succ] at t7
    have t8 := hg 8 f8 rfl
    rw [o8, hc8] at t8
    simp only [List.getElem?_cons_zero, List.getElem?_cons_succ] at t8
    have hd : d = .agg [y0.1, y1.1, y2.1, y3.1, y4.1, y5.1, y6.1, y7.1, y8.1] := by have := congrArg Prod.fst hx; simpa using this
    have g0 : (cs.toList.drop 0).take 1 = [cs.toList[0]] := by rw [List.drop_eq_getElem_cons (by omega)]; rfl
    rw [g0] at t0
    obtain ⟨z, i1, i2, i3⟩ := DataW.trod_int h0 t0
    simp only [List.cons.injEq, and_true] at i1
    obtain ⟨L1, e1, l1, b1⟩ := open_cells_arr h1 hue hce (by simp [hcs]) t1
    obtain ⟨L2, e2, l2, b2⟩ := open_cells_arr h2 hue hce (by simp [hcs]) t2
    have g3 : (cs.toList.drop 65).take 1 = [cs.toList[65]] := by rw [List.drop_eq_getElem_cons (by omega)]; rfl
    rw [g3] at t3
    obtain ⟨q0, n0, c0, B0, e3, S0, b0', m0⟩ := open_cell_sized h3 hue hce t3 (fun es sp he => hsz _ 3 es sp hd (by decide) (by simp [he]))
    obtain ⟨L4, e4, l4, b4⟩ := open_cells_arr h4 hue hce (by simp [hcs]) t4
    obtain ⟨L5, e5, l5, b5⟩ := open_cells_arr h5 hue hce (by simp [hcs]) t5
    obtain ⟨L6, e6, l6, b6⟩ := open_cells_arr h6 hue hce (by simp [hcs]) t6
    have g7 : (cs.toList.drop 162).take 1 = [cs.toList[162]] := by rw [List.drop_eq_getElem_cons (by omega)]; rfl
    rw [g7] at t7
    obtain ⟨q1, n1, c1, B1, e7, S1, b1', m1⟩ := open_cell_sized h7 hue hce t7 (fun es sp he => hsz _ 7 es sp hd (by decide) (by simp [he]))
    have g8 : (cs.toList.drop 163).take 1 = [cs.toList[163]] := by rw [List.drop_eq_getElem_cons (by omega)]; rfl
    rw [g8] at t8
    obtain ⟨q2, n2, c2, B2, e8, S2, b2', m2⟩ := open_cell_sized h8 hue hce t8 (fun es sp he => hsz _ 8 es sp hd (by decide) (by simp [he]))
    refine ⟨z, L1, L2, L4, L5, L6, q0, q1, q2, n0, c0, n1, c1, n2, c2, B0, B1, B2, ?_, ⟨l1, l2, l4, l5, l6⟩, ⟨b1, b2, b4, b5, b6⟩, ⟨S0, b0', m0⟩, ⟨S1, b1', m1⟩, ⟨S2, b2', m2⟩⟩
    congr 1
    unfold prRow
    apply Array.ext'
    have hsp : cs.toList = (cs.toList.drop 0).take 1 ++ ((cs.toList.drop 1).take 32 ++ ((cs.toList.drop 33).take 32 ++ ((cs.toList.drop 65).take 1 ++ ((cs.toList.drop 66).take 32 ++ ((cs.toList.drop 98).take 32 ++ ((cs.toList.drop 130).take 32 ++ ((cs.toList.drop 162).take 1 ++ ((cs.toList.drop 163).take 1 ++ [])))))))) := by
      have s0 := pr_seg cs.toList 0 1
      have s1 := pr_seg cs.toList 1 32
      have s2 := pr_seg cs.toList 33 32
      have s3 := pr_seg cs.toList 65 1
      have s4 := pr_seg cs.toList 66 32
      have s5 := pr_seg cs.toList 98 32
      have s6 := pr_seg cs.toList 130 32
      have s7 := pr_seg cs.toList 162 1
      have s8 := pr_seg cs.toList 163 1
      have s9 : cs.toList.drop 164 = [] := List.drop_eq_nil_of_le (by omega)
      simp only [Nat.reduceAdd] at s0 s1 s2 s3 s4 s5 s6 s7 s8
      rw [s9] at s8
      rw [← s8, ← s7, ← s6, ← s5, ← s4, ← s3, ← s2, ← s1, ← s0]
      rfl
    rw [hsp, g0, e1, e2, g3, e4, e5, e6, g7, g8, i1, e3, e7, e8]
    simp only [cat, Array.toList_append, ints]
end
end
section
open Go Go.RowKit
open Go.ChangeShapes Go.WideShapes Go.ChangeAt in
end
end Go.Proofs.Ytdjecenggngdjaa
