/-
  Joined texts: HnD, HnE, HnF, HnG, HnH, HnI. No conditions.
-/
import Derived.Test.YtdjecenggngdjaaGae
import Derived.Test.YtdjecenggngdjaaGaj
import Derived.Test.YtdjecenggngdjaaGas
import Derived.Test.YtdjecenggngdjaaGaw
namespace Go.Proofs.Ytdjecenggngdjaa
set_option linter.unusedSimpArgs false
set_option linter.unusedVariables false
set_option maxHeartbeats 16000000
set_option maxRecDepth 20000
section
open Go Go.RowKit
namespace Sp
open F M
section
variable {P : Program} {tab : Tab} {w0 : World} {mu : List Nat} {bs : Mem} {l l' : List Value} {ops : Array Oper} {Q : ExitP} {dst : Option Tmp} {ty : TypeId} {pos : String} {af : Array Edge}
theorem SL.build3S {rest : List Oper} (ht : TabOk P tab) {t e sz by_ : Nat} {x y z : Operand} {p q r : Option Addr} {n c m d k f : Nat} (hz : (P.info? e).map (·.zero) = some (some (.slice none 0 0)))
    {l' : Nat → List Value} (h : ∀ b, SL P ops w0 mu rest Q (l' b) ((b, #[.slice p n c, .slice q m d, .slice r k f], e) :: bs)) (hx : evL l x = .slice p n c := by rfl) (hy : evL l y = .slice q m d := by rfl) (hz' : evL l z = .slice r k f := by rfl) (hl : look tab t = some (.sl e 1 by_, sz) := by rfl)
    (hp : ∀ b, putL l dst (.slice (some ⟨b, 0, none⟩) 3 3) = l' b := by intro _; first | (dsimp only [putL, setNth]; done) | (dsimp only [putL, setNth]; rfl)) :
    SL P ops w0 mu (⟨dst, .buildSlice t 3 #[(0, x), (1, y), (2, z)], ty, pos, af, none⟩ :: rest) Q l bs := by
  obtain ⟨hu, hsz, _⟩ := td_sl (look_ok ht hl)
  cases hq : P.info? e with
  | none => simp [hq] at hsz
  | some inf =>
    have hs1 : inf.size = 1 := by simpa [hq] using hsz
    have hz1 : inf.zero = some (.slice none 0 0) := by simpa [hq] using hz
    refine SL.buildSlice (vals := [(0, .slice p n c), (1, .slice q m d), (2, .slice r k f)]) hu hq hz1 (by rw [hs1]; decide) (by rw [hs1]; decide) (by simp [hx, hy, hz']) ?_ hp h
    rw [hs1]
    kernel_rfl
end
theorem cpre_le (L : List (Value × List Int)) (j : Nat) : (cpre L j).length ≤ (cpre L L.length).length := by
  have e : cpre L L.length = cpre L j ++ ((L.drop j).map (·.2)).flatten := by
    unfold cpre
    rw [List.take_length, ← List.flatten_append, ← List.map_append, List.take_append_drop]
  rw [e]
  simp
theorem cc_any (L : List (Value × List Int)) {X : List Int} {rb : Nat} {A : Array Value} {U : TypeId} {w0 w1 : World} {mu : List Nat} {bs : Mem} {k : Nat} (hX : cpre L L.length = X) (hmx : X.length ≤ 1000000) (hk : L.length = k) (hA : A = (L.map (·.1)).toArray) (hk2 : k ≤ 1000) (hw1 : OwnM w0 mu w1 ((rb, A, U) :: bs)) (hL : ∀ p ∈ L, ∃ q n c, p.1 = .slice q n c ∧ Sl w1 q n c p.2) :
    Calls Try.prog 35 #[.slice (some ⟨rb, 0, none⟩) k k] w1 fun e w' => ∃ v bs', e = .returned v ∧ (∃ q c abs, AO q X.length c X abs ∧ v = .slice q X.length c ∧ bs' = ((rb, A, U) :: bs) ++ abs) ∧ OwnM w0 mu w' bs' := by
  subst hk
  have h := concat_any L rb A U (0, 0) w1 hA (hw1.block (List.mem_cons_self ..)) hL (fun j => Nat.le_trans (cpre_le L j) (by rw [hX]; omega)) hk2
  rw [hX] at h
  refine h.mono ?_
  rintro e w' ⟨av, abs, rfl, ha, hw'⟩
  obtain ⟨q, c, rfl, ha'⟩ := ha.ao_ rfl
  exact ⟨_, _, rfl, ⟨q, c, abs, ha', rfl, rfl⟩, OwnM.freshL hw1 hw'⟩
theorem all2 {α : Type} {p : α → Prop} {a b : α} (h1 : p a) (h2 : p b) : ∀ x ∈ [a, b], p x := by simp [h1, h2]
theorem all3 {α : Type} {p : α → Prop} {a b c : α} (h1 : p a) (h2 : p b) (h3 : p c) : ∀ x ∈ [a, b, c], p x := by simp [h1, h2, h3]
theorem cpre_2 (a b : Value) (A B : List Int) : cpre [(a, A), (b, B)] 2 = A ++ B := by simp [cpre]
theorem cpre_3 (a b c : Value) (A B C : List Int) : cpre [(a, A), (b, B), (c, C)] 3 = A ++ (B ++ C) := by simp [cpre]
@[irreducible] def pubL (k : List Int) : List Int := le32 (Low.pubV k)
theorem pubL_length (k : List Int) : (pubL k).length = 32 := by unfold pubL; exact le32_length _
attribute [simp] pubL_length
theorem byts_le32 (v : Int) : Byts (le32 v) := Low.byt_le32 v
theorem byts_pubL (k : List Int) : Byts (pubL k) := by unfold pubL; exact byts_le32 _
theorem b32_of {k : List Int} (h : k.length = 32) (hb : Byts k) : Bytes32 k := ⟨h, fun j _ => hb j⟩
theorem b32_pubL (k : List Int) : Bytes32 (pubL k) := b32_of (pubL_length k) (byts_pubL k)
theorem pub_h (k : List Int) (hk : Bytes32 k) (w : World) : Calls Try.prog 18 #[.agg (ints .u8 k)] w fun e w' => e = .returned (.agg (ints .u8 (pubL k))) ∧ Below w.heap.size w w' := by
  unfold pubL
  exact Low.pub_any k hk.1 (Low.byt_clamp hk) w
theorem Mx.share_q {m : Mx} {a u : List Int} (h : Low.shN a u = 0) : (m.share a u).q = true := by unfold Mx.share; rw [if_pos h]; unfold Mx.key; rfl
theorem Mx.share_n {m : Mx} {a u : List Int} (h : Low.shN a u = 0) : (m.share a u).n = 0 := by unfold Mx.share; rw [if_pos h]; unfold Mx.key; rfl
theorem Mx.sX_len (m : Mx) (B : List Int) : (m.sX B).length = B.length + 16 := by unfold Mx.sX; rw [sealV_length]
@[irreducible] def Mx.f1 (m : Mx) (t : HT) : Mx := m.point t.kind (pubL t.once)
@[irreducible] def Mx.f2 (m : Mx) (t : HT) (U : List Int) : Mx := (m.f1 t).share t.once U
@[irreducible] def Mx.f3 (m : Mx) (t : HT) (U : List Int) : Mx := ((m.f2 t U).enc (pubL t.own)).share t.own U
@[irreducible] def fstX (m : Mx) (t : HT) (U B : List Int) : List Int := pubL t.once ++ ((m.f2 t U).sX (pubL t.own) ++ (m.f3 t U).sX B)
theorem Mx.Ok.f1 {m : Mx} (h : m.Ok) (t : HT) : (m.f1 t).Ok := by unfold Mx.f1; exact h.point _ _
theorem Mx.Ok.f2 {m : Mx} (h : m.Ok) (t : HT) (U : List Int) : (m.f2 t U).Ok := by unfold Mx.f2; exact (h.f1 t).share _ _
theorem Mx.Ok.f3 {m : Mx} (h : m.Ok) (t : HT) (U : List Int) : (m.f3 t U).Ok := by unfold Mx.f3; exact ((h.f2 t U).enc _).share _ _
theorem fstX_len (m : Mx) (t : HT) (U B : List Int) : (fstX m t U B).length = B.length + 96 := by unfold fstX; simp [Mx.sX_len]; omega
theorem hfirst_ok (q : Option Addr) (n c : Nat) (B U : List Int) (rb : Nat) {RT : TypeId} {fz : Nat × Nat} (b : Nat) (m : Mx) (t : HT) (hm : m.Ok) (ht : t.Ok) (T : TypeId) (w : World) (hb : w.heap[b]? = some (.cells (gRow m t) T (0, 0))) (lo : Bytes32 t.own) (lc : Bytes32 t.once) (hU : Bytes32 U) (hr : t.rp = .pointer (some ⟨rb, 0, none⟩)) (hrb : w.heap[rb]? = some (.cells (ints .u8 U) RT fz)) (hne : rb ∉ [b]) (bB : Byts B) (hn : n ≤ 4096) (hS : Sl w q n c B) (hA : ApartB b q n) (h1 : Low.shN t.once U = 0) (h2 : Low.shN t.own U = 0) : Calls Try.prog 26 #[.pointer (some ⟨b, 0, none⟩), .slice q n c] w (StPost w b T (gRow ((m.f3 t U).enc B) t) (fstX m t U B) 0) := by
  have e1 : m.f1 t = m.point t.kind (pubL t.once) := by unfold Mx.f1; rfl
  have e2 : m.f2 t U = (m.f1 t).share t.once U := by unfold Mx.f2; rfl
  have e3 : m.f3 t U = ((m.f2 t U).enc (pubL t.own)).share t.own U := by unfold Mx.f3; rfl
  have q2 : (m.f2 t U).q = true := by rw [e2]; exact Mx.share_q h1
  have n2 : (m.f2 t U).n = 0 := by rw [e2]; exact Mx.share_n h1
  have q3 : (m.f3 t U).q = true := by rw [e3]; exact Mx.share_q h2
  have n3 : (m.f3 t U).n = 0 := by rw [e3]; exact Mx.share_n h2
  refine (callE (mu := [b]) Try.func26 Try.ntmps26 Try.results26 (OwnM.start1 w hb) (fun v bs => ∃ q c abs, v = .tuple #[.slice q (fstX m t U B).length c, .int .i64 (0)] ∧ AO q (fstX m t U B).length c (fstX m t U B) abs ∧ ((b, gRow ((m.f3 t U).enc B) t, T) :: abs).Sublist bs) ?_).mono ?_
  · repeat (first | (refine rgn 0 ?_; refine sEv ?_; refine sEv ?_; refine nlx ?_) | (refine rgn 2 ?_; refine sEv ?_; refine SL.ldR tabOk ?_; refine SL.cl2 b (i := 2) ent_36 rfl (fun w1 hw1 hb1 => by have h := hpoint_any (pubL t.once) (pubL_length _) b m t hm ht T w1 hb1; rw [← e1] at h; exact h) ?_; refine nlx ?_) | (refine rgn 4 ?_; refine sEv ?_; refine sEv ?_; refine nlx ?_) | (refine rgn 7 ?_; refine sEv ?_; refine sEv ?_; refine nlx ?_) | (refine rgn 10 ?_; refine sEv ?_; refine sEv ?_; refine nlx ?_) | (refine rgn 12 ?_; refine sEv ?_; refine SL.nc ?_; refine sEv ?_; refine sEv ?_; refine SL.clS (i := 2) ent_39 rfl (by exact gbk _) (X := (m.f3 t U).sX B) (n := 0) (m := n + 16) (hm := by rw [Mx.sX_len, hS.len]) (fun w1 hw1 => hseal_any b _ t (hm.f3 t U) T q n c B w1 hS.len hn (hw1.block (List.mem_of_getElem? (show _ = some (b, _, _) from (by exact gbk _)))) (fun w2 hw2 => hS.oldM (hw1.call1 (i := 2) (by exact gbk _) hw2) hA) bB q3 (by omega) (by omega)) (fun q3 c3 abs3 O3 => ?_); (iterate 5 refine sEv ?_); refine nlx ?_) | (refine rgn 13 ?_; refine SL.ctA tabOk 0 32 ?_; refine sEv ?_; refine sEv ?_; refine SL.build3S tabOk zero_24 (fun rb3 => ?_); refine SL.callG ent_concat rfl (fun w1 hw1 => cc_any [(.slice (some ⟨pb, 0, none⟩) 32 32, (pubL t.once)), (.slice q2 48 c2, (m.f2 t U).sX (pubL t.own)), (.slice q3 (n + 16) c3, (m.f3 t U).sX B)] (X := fstX m t U B) (by rw [List.length_cons, List.length_cons, List.length_cons, List.length_nil]; refine (cpre_3 _ _ _ _ _ _).trans ?_; unfold fstX; rfl) (by rw [fstX_len, hS.len]; omega) rfl rfl (by decide) hw1 (all3 ⟨_, _, _, rfl, Sl.of hw1 (RdA.own g2) (Lies.whole _) (pubL_length _) (Nat.le_refl _)⟩ ⟨_, _, _, rfl, O2.sl hw1 (by (try simp only [List.append_assoc, List.cons_append, List.nil_append]); repeat (first | exact List.sublist_append_left _ _ | exact List.Sublist.refl _ | exact List.sublist_append_right _ _ | exact (List.sublist_append_left _ _).trans (List.sublist_append_right _ _) | refine List.Sublist.cons _ ?_))⟩ ⟨_, _, _, rfl, O3.sl hw1 (by (try simp only [List.append_assoc, List.cons_append, List.nil_append]); repeat (first | exact List.sublist_append_left _ _ | exact List.Sublist.refl _ | exact List.sublist_append_right _ _ | exact (List.sublist_append_left _ _).trans (List.sublist_append_right _ _) | refine List.Sublist.cons _ ?_))⟩)) ?_; rintro v bs' ⟨q4, c4, abs4, O4, rfl, rfl⟩; dsimp only [putL, setNth]; (iterate 3 refine sEv ?_); refine nlx ?_) | ((with_reducible show SP _ _ _ (Code.region _ _ true) _ _ _); first | (refine SPa (id := 1) [12, 13] [] ([]) [0, 1, 2, 3, 4, 5, 6, 7, 8, 9, 10, 11, 12, 13] follows ?_; refine fPv ?_; refine SF.nc ?_; refine SF.e tabOk ?_; refine SF.ldP tabOk ?_ (hn := by rw [gr_size hm ht]; decide) (hB := gr_once hm ht); refine SF.v (ValO.call ent_18 _ rfl _ (fun w1 hw1 => pub_h t.once lc w1)) ?_; refine fPv ?_; refine SF.nc ?_; refine SF.e tabOk ?_; refine SF.ldP tabOk ?_ (hn := by rw [gr_size hm ht]; decide) (hB := gr_own hm ht); refine SF.v (ValO.call ent_18 _ rfl _ (fun w1 hw1 => pub_h t.own lo w1)) ?_; refine SF.al zero_23 ?_; intro pb; refine SF.al zero_23 ?_; intro ob; refine SF.stR tabOk ?_; refine SF.stR tabOk ?_; refine SF.done ?_) | (refine SPa (id := 3) [13] [] ([]) [0, 1, 2, 3, 4, 5, 6, 7, 8, 9, 10, 11, 12, 13, 14] follows ?_; refine fPv ?_; refine SF.nc ?_; refine SF.e tabOk ?_; refine fPv ?_; refine SF.nc ?_; refine SF.e tabOk ?_; refine SF.ldP tabOk ?_ (hn := by rw [gr_size (hm.f1 t) ht]; decide) (hB := gr_once (hm.f1 t) ht); refine fPv ?_; refine SF.nc ?_; refine SF.e tabOk ?_; refine SF.ldC tabOk ?_ (hv := (gr_rp (hm.f1 t) ht).trans (by rw [hr])); refine SF.nc ?_; refine SF.ldR tabOk ?_ (hr := RdA.old hrb hne) (hn := by rw [ints_size, hU.1]); refine SF.cl2 b (i := 2) ent_40 rfl (fun w1 hw1 hb1 => by have h := hshare_any b _ t (hm.f1 t) T t.once U lc.1 hU (Low.byt_clamp lc) w1 hb1; rw [← e2] at h; exact h) ?_; refine fPv ?_; refine SF.done ?_) | (refine SPa (id := 6) [4] [] ([]) [0, 1, 2, 3, 4, 5, 6, 7, 8, 9] follows ?_; refine fPv ?_; refine SF.nc ?_; refine SF.e tabOk ?_; refine SF.ctA tabOk 0 32 ?_; refine SF.clS (i := 2) ent_39 rfl (by exact gbk _) (X := (m.f2 t U).sX (pubL t.own)) (n := 0) (m := 48) (hm := by rw [Mx.sX_len, pubL_length]) (fun w1 hw1 => hseal_any b _ t (hm.f2 t U) T _ 32 32 (pubL t.own) w1 (pubL_length _) (by decide) (hw1.block (List.mem_of_getElem? (show _ = some (b, _, _) from (by exact gbk _)))) (fun w2 hw2 => Sl.of (hw1.call1 (i := 2) (by exact gbk _) hw2) (RdA.own g0) (Lies.whole (pubL t.own)) (pubL_length _) (Nat.le_refl _)) (byts_pubL _) q2 (by omega) (by omega)) (fun q2 c2 abs2 O2 => ?_); (iterate 5 refine fPv ?_); refine SF.done ?_) | (refine SPa (id := 9) [13] [] ([]) [0, 1, 2, 3, 4, 5, 6, 7, 8, 9, 10, 11, 12, 13, 14] follows ?_; refine fPv ?_; refine SF.nc ?_; refine SF.e tabOk ?_; refine fPv ?_; refine SF.nc ?_; refine SF.e tabOk ?_; refine SF.ldP tabOk ?_ (hn := by rw [gr_size ((hm.f2 t U).enc (pubL t.own)) ht]; decide) (hB := gr_own ((hm.f2 t U).enc (pubL t.own)) ht); refine fPv ?_; refine SF.nc ?_; refine SF.e tabOk ?_; refine SF.ldC tabOk ?_ (hv := (gr_rp ((hm.f2 t U).enc (pubL t.own)) ht).trans (by rw [hr])); refine SF.nc ?_; refine SF.ldR tabOk ?_ (hr := RdA.old hrb hne) (hn := by rw [ints_size, hU.1]); refine SF.cl2 b (i := 2) ent_40 rfl (fun w1 hw1 hb1 => by have h := hshare_any b _ t ((hm.f2 t U).enc (pubL t.own)) T t.own U lo.1 hU (Low.byt_clamp lo) w1 hb1; rw [← e3] at h; exact h) ?_; refine fPv ?_; refine SF.done ?_)) | (refine zsq ?_; intro _ _) | (with_reducible refine zkN ?_) | (refine useK (by assumption) ?_) | (with_reducible first | refine zsB ?_ | refine zkX ?_ | refine zkR ?_ | refine zbN ?_ | refine zbR ?_ | refine zbE ?_ | refine zbX ?_ | refine zsS ?_ | refine zsR ?_ | refine zsX ?_) | (refine cdT ?_) | (refine cdF ?_))
    exact doneK.mk rfl (ResO.tmp2 rfl rfl) ⟨q4, c4, abs4, rfl, O4, List.Sublist.cons _ (List.Sublist.cons _ (List.Sublist.cons _ (List.Sublist.cons_cons _ (List.sublist_append_right _ _))))⟩
  · rintro e w' ⟨v, bs, rfl, ⟨q', c', abs, rfl, ha, hs⟩, hw'⟩
    exact ⟨_, _, _, rfl, ha, hw'.sub hs⟩
end Sp
end
section
open Go Go.RowKit
namespace Sp
open F M
theorem Mx.both_q {m : Mx} {a u a' u' : List Int} (h : bothE a u a' u' = 0) : (m.both a u a' u').q = true ∧ (m.both a u a' u').n = 0 := by
  unfold bothE at h
  unfold Mx.both
  by_cases h1 : Low.shN a u = 0
  · rw [if_pos h1] at h
    rw [if_pos h1]
    exact ⟨Mx.share_q h, Mx.share_n h⟩
  · rw [if_neg h1] at h
    exact absurd h h1
theorem Mx.shd_q {m : Mx} {k : Int} {p : List Int} (h : m.q = true ∧ m.n = 0) : (m.shd k p).q = true ∧ (m.shd k p).n = 0 := by
  unfold Mx.shd
  split
  · unfold Mx.shr; exact ⟨rfl, rfl⟩
  · exact h
@[irreducible] def Mx.s2 (m : Mx) (t : HT) (p a1 u1 a2 u2 : List Int) : Mx := (m.point t.kind p).both a1 u1 a2 u2
@[irreducible] def Mx.s3 (m : Mx) (t : HT) (p a1 u1 a2 u2 : List Int) : Mx := (m.s2 t p a1 u1 a2 u2).shd t.kind t.psk
@[irreducible] def sndX (m : Mx) (t : HT) (U B : List Int) : List Int := pubL t.once ++ (m.s3 t (pubL t.once) t.once t.their t.once U).sX B
theorem Mx.Ok.s2 {m : Mx} (h : m.Ok) (t : HT) (p a1 u1 a2 u2 : List Int) : (m.s2 t p a1 u1 a2 u2).Ok := by unfold Mx.s2; exact (h.point _ _).both _ _ _ _
theorem Mx.Ok.s3 {m : Mx} (h : m.Ok) (t : HT) (p a1 u1 a2 u2 : List Int) : (m.s3 t p a1 u1 a2 u2).Ok := by unfold Mx.s3; exact (h.s2 t p a1 u1 a2 u2).shd _ _
theorem sndX_len (m : Mx) (t : HT) (U B : List Int) : (sndX m t U B).length = B.length + 48 := by unfold sndX; simp [Mx.sX_len]; omega
theorem s3_q {m : Mx} {t : HT} {p a1 u1 a2 u2 : List Int} (h : bothE a1 u1 a2 u2 = 0) : (m.s3 t p a1 u1 a2 u2).q = true ∧ (m.s3 t p a1 u1 a2 u2).n = 0 := by
  unfold Mx.s3 Mx.s2
  exact Mx.shd_q (Mx.both_q h)
theorem hsecond_ok (q : Option Addr) (n c : Nat) (B U : List Int) (rb : Nat) {RT : TypeId} {fz : Nat × Nat} (b : Nat) (m : Mx) (t : HT) (hm : m.Ok) (ht : t.Ok) (T : TypeId) (w : World) (hb : w.heap[b]? = some (.cells (gRow m t) T (0, 0))) (lt : Bytes32 t.their) (lc : Bytes32 t.once) (hU : Bytes32 U) (hr : t.rp = .pointer (some ⟨rb, 0, none⟩)) (hrb : w.heap[rb]? = some (.cells (ints .u8 U) RT fz)) (hne : rb ∉ [b]) (bB : Byts B) (hn : n ≤ 4096) (hS : Sl w q n c B) (hA : ApartB b q n) (h1 : bothE t.once t.their t.once U = 0) : Calls Try.prog 25 #[.pointer (some ⟨b, 0, none⟩), .slice q n c] w (StPost w b T (gRow ((m.s3 t (pubL t.once) t.once t.their t.once U).enc B) t) (sndX m t U B) 0) := by
  have hp := hm.point t.kind (pubL t.once)
  have e2 : m.s2 t (pubL t.once) t.once t.their t.once U = (m.point t.kind (pubL t.once)).both t.once t.their t.once U := by unfold Mx.s2; rfl
  have e3 : m.s3 t (pubL t.once) t.once t.their t.once U = (m.s2 t (pubL t.once) t.once t.their t.once U).shd t.kind t.psk := by unfold Mx.s3; rfl
  obtain ⟨q3, n3⟩ : (m.s3 t (pubL t.once) t.once t.their t.once U).q = true ∧ (m.s3 t (pubL t.once) t.once t.their t.once U).n = 0 := s3_q h1
  refine (callE (mu := [b]) Try.func25 Try.ntmps25 Try.results25 (OwnM.start1 w hb) (fun v bs => ∃ q c abs, v = .tuple #[.slice q (sndX m t U B).length c, .int .i64 (0)] ∧ AO q (sndX m t U B).length c (sndX m t U B) abs ∧ ((b, gRow ((m.s3 t (pubL t.once) t.once t.their t.once U).enc B) t, T) :: abs).Sublist bs) ?_).mono ?_
  · repeat (first | (refine rgn 0 ?_; refine sEv ?_; refine sEv ?_; refine nlx ?_) | (refine rgn 1 ?_; refine sEv ?_; refine SL.nc ?_; refine sEv ?_; refine SL.ldP tabOk ?_ (hn := by rw [gr_size hm ht]; decide) (hB := gr_once hm ht); refine SL.v (ValO.call ent_18 _ rfl _ (fun w1 hw1 => pub_h t.once lc w1)) ?_; refine SL.al zero_23 ?_; intro pb; refine SL.stR tabOk ?_; refine nlx ?_) | (refine rgn 2 ?_; refine sEv ?_; refine SL.ldR tabOk ?_; refine SL.cl2 b (i := 1) ent_36 rfl (fun w1 hw1 hb1 => hpoint_any (pubL t.once) (pubL_length _) b m t hm ht T w1 hb1) ?_; refine nlx ?_) | (refine rgn 4 ?_; refine sEv ?_; refine sEv ?_; refine nlx ?_) | (refine rgn 6 ?_; refine sEv ?_; refine SL.cl2 b (i := 1) ent_38 rfl (fun w1 hw1 hb1 => by have h := hshared_any b _ t (hm.s2 t (pubL t.once) t.once t.their t.once U) ht T w1 hb1; rw [← e3] at h; exact h) ?_; refine nlx ?_) | (refine rgn 7 ?_; refine sEv ?_; refine SL.nc ?_; refine sEv ?_; refine sEv ?_; refine SL.clS (i := 1) ent_39 rfl (by exact gbk _) (X := (m.s3 t (pubL t.once) t.once t.their t.once U).sX B) (n := 0) (m := n + 16) (hm := by rw [Mx.sX_len, hS.len]) (fun w1 hw1 => hseal_any b _ t (hm.s3 t (pubL t.once) t.once t.their t.once U) T q n c B w1 hS.len hn (hw1.block (List.mem_of_getElem? (show _ = some (b, _, _) from (by exact gbk _)))) (fun w2 hw2 => hS.oldM (hw1.call1 (i := 1) (by exact gbk _) hw2) hA) bB q3 (by omega) (by omega)) (fun q3 c3 abs3 O3 => ?_); (iterate 5 refine sEv ?_); refine nlx ?_) | (refine rgn 8 ?_; refine SL.ctA tabOk 0 32 ?_; refine sEv ?_; refine SL.build2S tabOk zero_24 (fun rb3 => ?_); refine SL.callG ent_concat rfl (fun w1 hw1 => cc_any [(.slice (some ⟨pb, 0, none⟩) 32 32, (pubL t.once)), (.slice q3 (n + 16) c3, (m.s3 t (pubL t.once) t.once t.their t.once U).sX B)] (X := sndX m t U B) (by rw [List.length_cons, List.length_cons, List.length_nil]; refine (cpre_2 _ _ _ _).trans ?_; unfold sndX; rfl) (by rw [sndX_len, hS.len]; omega) rfl rfl (by decide) hw1 (all2 ⟨_, _, _, rfl, Sl.of hw1 (RdA.own g1) (Lies.whole _) (pubL_length _) (Nat.le_refl _)⟩ ⟨_, _, _, rfl, O3.sl hw1 (by (try simp only [List.append_assoc, List.cons_append, List.nil_append]); repeat (first | exact List.sublist_append_left _ _ | exact List.Sublist.refl _ | exact List.sublist_append_right _ _ | exact (List.sublist_append_left _ _).trans (List.sublist_append_right _ _) | refine List.Sublist.cons _ ?_))⟩)) ?_; rintro v bs' ⟨q4, c4, abs4, O4, rfl, rfl⟩; dsimp only [putL, setNth]; (iterate 3 refine sEv ?_); refine nlx ?_) | ((with_reducible show SP _ _ _ (Code.region _ _ true) _ _ _); first | (refine SPa (id := 3) [19] [] ([]) [0, 1, 2, 3, 4, 5, 6, 7, 8, 9, 10, 11, 12, 13, 14, 15, 16, 17, 18, 19, 20] follows ?_; refine fPv ?_; refine fPv ?_; refine SF.nc ?_; refine SF.e tabOk ?_; refine SF.ldP tabOk ?_ (hn := by rw [gr_size hp ht]; decide) (hB := gr_once hp ht); refine fPv ?_; refine SF.nc ?_; refine SF.e tabOk ?_; refine SF.ldP tabOk ?_ (hn := by rw [gr_size hp ht]; decide) (hB := gr_their hp ht); refine fPv ?_; refine SF.nc ?_; refine SF.e tabOk ?_; refine SF.ldP tabOk ?_ (hn := by rw [gr_size hp ht]; decide) (hB := gr_once hp ht); refine fPv ?_; refine SF.nc ?_; refine SF.e tabOk ?_; refine SF.ldC tabOk ?_ (hv := (gr_rp hp ht).trans (by rw [hr])); refine SF.nc ?_; refine SF.ldR tabOk ?_ (hr := RdA.old hrb hne) (hn := by rw [ints_size, hU.1]); refine SF.cl2 b (i := 1) ent_37 rfl (fun w1 hw1 hb1 => by have h := hboth_any t.once t.their t.once U lc.1 lt (Low.byt_clamp lc) lc.1 hU (Low.byt_clamp lc) b _ t hp ht T w1 hb1; rw [← e2] at h; exact h) ?_; refine fPv ?_; refine SF.done ?_)) | (refine zsq ?_; intro _ _) | (with_reducible refine zkN ?_) | (refine useK (by assumption) ?_) | (with_reducible first | refine zsB ?_ | refine zkX ?_ | refine zkR ?_ | refine zbN ?_ | refine zbR ?_ | refine zbE ?_ | refine zbX ?_ | refine zsS ?_ | refine zsR ?_ | refine zsX ?_) | (refine cdT ?_) | (refine cdF ?_))
    exact doneK.mk rfl (ResO.tmp2 rfl rfl) ⟨q4, c4, abs4, rfl, O4, List.Sublist.cons _ (List.Sublist.cons _ (List.Sublist.cons_cons _ (List.sublist_append_right _ _)))⟩
  · rintro e w' ⟨v, bs, rfl, ⟨q', c', abs, rfl, ha, hs⟩, hw'⟩
    exact ⟨_, _, _, rfl, ha, hw'.sub hs⟩
end Sp
end
section
open Go Go.RowKit
namespace Sp
open F M
def RdPost (w : World) (b : Nat) (T : TypeId) (R : Nat → Array Value) (U X : List Int) (n : Int) (e : Ending) (w' : World) : Prop :=
  ∃ rb q c abs, e = .returned (.tuple #[.slice q X.length c, .int .i64 n]) ∧ AO q X.length c X abs ∧ OwnM w [b] w' ((b, R rb, T) :: (rb, ints .u8 U, 23) :: abs)
@[irreducible] def Mx.r2 (m : Mx) (t : HT) (M : List Int) : Mx := (m.point t.kind (M.take 32)).share t.own (M.take 32)
@[irreducible] def rK (m : Mx) (t : HT) (M : List Int) : List Int := (m.r2 t M).oX ((M.drop 32).take 48)
@[irreducible] def Mx.r4 (m : Mx) (t : HT) (M : List Int) : Mx := ((m.r2 t M).dec ((M.drop 32).take 48)).share t.own (rK m t M)
theorem Mx.Ok.r2 {m : Mx} (h : m.Ok) (t : HT) (M : List Int) : (m.r2 t M).Ok := by unfold Mx.r2; exact (h.point _ _).share _ _
theorem Mx.Ok.r4 {m : Mx} (h : m.Ok) (t : HT) (M : List Int) : (m.r4 t M).Ok := by unfold Mx.r4; exact ((h.r2 t M).dec _).share _ _
theorem Mx.oX_byts (m : Mx) {B : List Int} (hB : Byts B) : Byts (m.oX B) := by
  unfold Mx.oX Sp.oX
  split
  · exact xo_byts _ _ _ (hB.take2 _)
  · exact byts_mem (fun _ h => absurd h (by simp))
theorem Mx.oX_len {m : Mx} {B : List Int} (h : m.oE B = 0) : (m.oX B).length = B.length - 16 := by
  unfold Mx.oE at h
  unfold Mx.oX Sp.oX
  rw [if_pos h, xo_length, List.length_take]
  omega
theorem Mx.oX_no {m : Mx} {B : List Int} (h : m.oE B ≠ 0) : m.oX B = [] := by
  unfold Mx.oE at h
  unfold Mx.oX Sp.oX
  rw [if_neg h]
theorem rd_key {X J : List Int} (h : X.length = 32) : (ints .u8 (X ++ J)).extract 0 (0 + 32) = ints .u8 X := by
  have e := (Lies.row X J).extract (m := 32) (by omega)
  rw [List.take_of_length_le (by omega)] at e
  exact e
theorem hrf_n1 (sb off n c : Nat) (M : List Int) {A : Array Value} {AT : TypeId} {fz : Nat × Nat} (b : Nat) (m : Mx) (t : HT) (hm : m.Ok) (ht : t.Ok) (T : TypeId) (w : World) (hb : w.heap[b]? = some (.cells (gRow m t) T (0, 0))) (lo : Bytes32 t.own) (bM : Byts M) (hlM : M.length = n) (hc : n ≤ c) (hsb : w.heap[sb]? = some (.cells A AT fz)) (hsn : sb ∉ [b]) (hL : Lies A off M) (h0 : 96 ≤ n) (hn : n ≤ 4192) (h1 : Low.shN t.own (M.take 32) ≠ 0) : Calls Try.prog 31 #[.pointer (some ⟨b, 0, none⟩), .slice (some ⟨sb, off, none⟩) n c] w (StPost w b T (gRow (m.r2 t M) ({t with their := (M.take 32)} : HT)) [] (Low.shN t.own (M.take 32))) := by
  have lE : (M.take 32).length = 32 := by rw [List.length_take]; omega
  have bE : Bytes32 (M.take 32) := b32_of lE (bM.take2 32)
  have lC : ((M.drop 32).take 48).length = 48 := by rw [List.length_take, List.length_drop]; omega
  have ht1 := ht.their_ lE
  have hM : Sl w (some ⟨sb, off, none⟩) n c M := ⟨hlM, hc, fun _ => ⟨sb, off, A, AT, fz, rfl, hsb, hL⟩⟩
  have hp := hm.point t.kind (M.take 32)
  have e2 : (m.r2 t M) = (m.point t.kind (M.take 32)).share t.own (M.take 32) := by unfold Mx.r2; rfl
  refine (callE (mu := [b]) Try.func31 Try.ntmps31 Try.results31 (OwnM.start1 w hb) (fun v bs => ∃ q c abs, v = .tuple #[.slice q (([] : List Int)).length c, .int .i64 (Low.shN t.own (M.take 32))] ∧ AO q (([] : List Int)).length c (([] : List Int)) abs ∧ ((b, gRow (m.r2 t M) ({t with their := (M.take 32)} : HT), T) :: abs).Sublist bs) ?_).mono ?_
  · repeat (first | (refine rgn 0 ?_; refine sEv ?_; refine sEv ?_; refine nlx ?_) | (refine rgn 1 ?_; refine sEv ?_; refine sEv ?_; refine SL.ctS tabOk 0 32 ?_; refine SL.v (ValO.s2a (n := 32) tabOk rfl rfl (Nat.le_refl _)) ?_; refine SL.ldP tabOk ?_ (hr := RdA.old hsb hsn) (hn := hL.size (by omega) (by decide)) (hB := hL.extract (by omega)); refine SL.nc ?_; refine sEv ?_; refine SL.stQ tabOk ?_ (B := ints .u8 (M.take 32)) (hn := by simp only [Value.cells]; rw [ints_size, lE]) (hsz := by rw [gr_size hm ht]; decide) (hA := gr_ptheir hm ht lE); refine nlx ?_) | (refine rgn 2 ?_; refine sEv ?_; refine sEv ?_; refine SL.nc ?_; refine sEv ?_; refine SL.ldP tabOk ?_ (hn := by rw [gr_size hm ht1]; decide) (hB := gr_their hm ht1); refine SL.cl2 b (i := 0) ent_36 rfl (fun w1 hw1 hb1 => hpoint_any (M.take 32) lE b m ({t with their := (M.take 32)} : HT) hm ht1 T w1 hb1) ?_; refine nlx ?_) | (refine rgn 4 ?_; refine sEv ?_; refine sEv ?_; refine nlx ?_) | (refine rgn 5 ?_; (iterate 3 refine sEv ?_); refine nlx ?_) | ((with_reducible show SP _ _ _ (Code.region _ _ true) _ _ _); first | (refine SPa (id := 3) [11] [] ([]) [0, 1, 2, 3, 4, 5, 6, 7, 8, 9, 10, 11, 12] follows ?_; refine fPv ?_; refine SF.nc ?_; refine SF.e tabOk ?_; refine fPv ?_; refine SF.nc ?_; refine SF.e tabOk ?_; refine SF.ldP tabOk ?_ (hn := by rw [gr_size hp ht1]; decide) (hB := gr_own hp ht1); refine fPv ?_; refine SF.nc ?_; refine SF.e tabOk ?_; refine SF.ldP tabOk ?_ (hn := by rw [gr_size hp ht1]; decide) (hB := gr_their hp ht1); refine SF.cl2 b (i := 0) ent_40 rfl (fun w1 hw1 hb1 => by have h := hshare_any b _ ({t with their := (M.take 32)} : HT) hp T t.own (M.take 32) lo.1 bE (Low.byt_clamp lo) w1 hb1; rw [← e2] at h; exact h) ?_; refine fPv ?_; refine SF.done ?_)) | (refine zsq ?_; intro _ _) | (with_reducible refine zkN ?_) | (refine useK (by assumption) ?_) | (with_reducible first | refine zsB ?_ | refine zkX ?_ | refine zkR ?_ | refine zbN ?_ | refine zbR ?_ | refine zbE ?_ | refine zbX ?_ | refine zsS ?_ | refine zsR ?_ | refine zsX ?_) | (refine cdT ?_) | (refine cdF ?_))
    exact doneK.mk rfl (ResO.tmp2 rfl rfl) ⟨none, 0, [], rfl, AO.nil, by simp⟩
  · rintro e w' ⟨v, bs, rfl, ⟨q', c', abs, rfl, ha, hs⟩, hw'⟩
    exact ⟨_, _, _, rfl, ha, hw'.sub hs⟩
theorem hrf_end (sb off n c : Nat) (M : List Int) {A : Array Value} {AT : TypeId} {fz : Nat × Nat} (b : Nat) (m : Mx) (t : HT) (hm : m.Ok) (ht : t.Ok) (T : TypeId) (w : World) (hb : w.heap[b]? = some (.cells (gRow m t) T (0, 0))) (lo : Bytes32 t.own) (bM : Byts M) (hlM : M.length = n) (hc : n ≤ c) (hsb : w.heap[sb]? = some (.cells A AT fz)) (hsn : sb ∉ [b]) (hL : Lies A off M) (h0 : 96 ≤ n) (hn : n ≤ 4192) (h1 : Low.shN t.own (M.take 32) = 0) (h2 : (m.r2 t M).oE ((M.drop 32).take 48) = 0) (h3 : Low.shN t.own (rK m t M) = 0) : Calls Try.prog 31 #[.pointer (some ⟨b, 0, none⟩), .slice (some ⟨sb, off, none⟩) n c] w (RdPost w b T (fun rb => gRow ((m.r4 t M).dec (M.drop 80)) ({t with their := (M.take 32), rp := .pointer (some ⟨rb, 0, none⟩)} : HT)) (rK m t M) ((m.r4 t M).oX (M.drop 80)) ((m.r4 t M).oE (M.drop 80))) := by
  have lE : (M.take 32).length = 32 := by rw [List.length_take]; omega
  have bE : Bytes32 (M.take 32) := b32_of lE (bM.take2 32)
  have lC : ((M.drop 32).take 48).length = 48 := by rw [List.length_take, List.length_drop]; omega
  have ht1 := ht.their_ lE
  have hM : Sl w (some ⟨sb, off, none⟩) n c M := ⟨hlM, hc, fun _ => ⟨sb, off, A, AT, fz, rfl, hsb, hL⟩⟩
  have hp := hm.point t.kind (M.take 32)
  have e2 : (m.r2 t M) = (m.point t.kind (M.take 32)).share t.own (M.take 32) := by unfold Mx.r2; rfl
  have q2 : (m.r2 t M).q = true := by rw [e2]; exact Mx.share_q h1
  have n2 : (m.r2 t M).n = 0 := by rw [e2]; exact Mx.share_n h1
  have e4 : (m.r4 t M) = ((m.r2 t M).dec ((M.drop 32).take 48)).share t.own (rK m t M) := by unfold Mx.r4; rfl
  have eK : (m.r2 t M).oX ((M.drop 32).take 48) = (rK m t M) := by unfold rK; rfl
  have lK : (rK m t M).length = 32 := by rw [← eK, Mx.oX_len h2, lC]
  have bK : Bytes32 (rK m t M) := b32_of lK (by rw [← eK]; exact Mx.oX_byts _ ((bM.drop2 32).take2 48))
  have q4 : (m.r4 t M).q = true := by rw [e4]; exact Mx.share_q h3
  have n4 : (m.r4 t M).n = 0 := by rw [e4]; exact Mx.share_n h3
  refine (callE (mu := [b]) Try.func31 Try.ntmps31 Try.results31 (OwnM.start1 w hb) (fun v bs => ∃ rb q c abs bs2, v = .tuple #[.slice q ((m.r4 t M).oX (M.drop 80)).length c, .int .i64 ((m.r4 t M).oE (M.drop 80))] ∧ AO q ((m.r4 t M).oX (M.drop 80)).length c ((m.r4 t M).oX (M.drop 80)) abs ∧ bs.Perm bs2 ∧ ((b, gRow ((m.r4 t M).dec (M.drop 80)) ({t with their := (M.take 32), rp := .pointer (some ⟨rb, 0, none⟩)} : HT), T) :: (rb, ints .u8 (rK m t M), 23) :: abs).Sublist bs2) ?_).mono ?_
  · repeat (first | (refine rgn 0 ?_; refine sEv ?_; refine sEv ?_; refine nlx ?_) | (refine rgn 1 ?_; refine sEv ?_; refine sEv ?_; refine SL.ctS tabOk 0 32 ?_; refine SL.v (ValO.s2a (n := 32) tabOk rfl rfl (Nat.le_refl _)) ?_; refine SL.ldP tabOk ?_ (hr := RdA.old hsb hsn) (hn := hL.size (by omega) (by decide)) (hB := hL.extract (by omega)); refine SL.nc ?_; refine sEv ?_; refine SL.stQ tabOk ?_ (B := ints .u8 (M.take 32)) (hn := by simp only [Value.cells]; rw [ints_size, lE]) (hsz := by rw [gr_size hm ht]; decide) (hA := gr_ptheir hm ht lE); refine nlx ?_) | (refine rgn 2 ?_; refine sEv ?_; refine sEv ?_; refine SL.nc ?_; refine sEv ?_; refine SL.ldP tabOk ?_ (hn := by rw [gr_size hm ht1]; decide) (hB := gr_their hm ht1); refine SL.cl2 b (i := 0) ent_36 rfl (fun w1 hw1 hb1 => hpoint_any (M.take 32) lE b m ({t with their := (M.take 32)} : HT) hm ht1 T w1 hb1) ?_; refine nlx ?_) | (refine rgn 4 ?_; refine sEv ?_; refine sEv ?_; refine nlx ?_) | (refine rgn 6 ?_; refine sEv ?_; refine SL.ctS tabOk 32 n ?_ (m := off + 32) (c := n - 32) (d := c - 32) (hm := by rw [if_neg (by omega)]) (hc := rfl) (hd := rfl); refine sEv ?_; refine nlx ?_) | (refine rgn 8 ?_; refine sEv ?_; refine sEv ?_; refine nlx ?_) | (refine rgn 10 ?_; refine sEv ?_; refine SL.v (ValO.s2a (n := 32) tabOk rfl rfl (Nat.le_refl _)) ?_; obtain ⟨kb, J2, TJ, rfl, rfl⟩ := O2.at_ (by decide); refine SL.ldP tabOk ?_ (hr := RdA.own (i := 1) rfl) (hn := by rw [ints_size, List.length_append, lK]; omega) (hB := rd_key lK); refine SL.al zero_23 ?_; intro rb; refine SL.stR tabOk ?_ (k := .u8) (L := (rK m t M)) (hn := by rw [ints_size, lK]) (hsz := by simp [ints_size]); refine nlx ?_) | (refine rgn 11 ?_; refine sEv ?_; refine SL.nc ?_; refine sEv ?_; refine SL.stP tabOk ?_ (hsz := by rw [gr_size ((hm.r2 t M).dec ((M.drop 32).take 48)) ht1]; decide) (hA := gr_prp ((hm.r2 t M).dec ((M.drop 32).take 48)) ht1 _); refine nlx ?_) | (refine rgn 13 ?_; refine sEv ?_; refine sEv ?_; refine nlx ?_) | ((with_reducible show SP _ _ _ (Code.region _ _ true) _ _ _); first | (refine SPa (id := 3) [11] [] ([]) [0, 1, 2, 3, 4, 5, 6, 7, 8, 9, 10, 11, 12] follows ?_; refine fPv ?_; refine SF.nc ?_; refine SF.e tabOk ?_; refine fPv ?_; refine SF.nc ?_; refine SF.e tabOk ?_; refine SF.ldP tabOk ?_ (hn := by rw [gr_size hp ht1]; decide) (hB := gr_own hp ht1); refine fPv ?_; refine SF.nc ?_; refine SF.e tabOk ?_; refine SF.ldP tabOk ?_ (hn := by rw [gr_size hp ht1]; decide) (hB := gr_their hp ht1); refine SF.cl2 b (i := 0) ent_40 rfl (fun w1 hw1 hb1 => by have h := hshare_any b _ ({t with their := (M.take 32)} : HT) hp T t.own (M.take 32) lo.1 bE (Low.byt_clamp lo) w1 hb1; rw [← e2] at h; exact h) ?_; refine fPv ?_; refine SF.done ?_) | (refine SPa (id := 7) [5] [] ([]) [0, 1, 2, 3, 4, 5, 6, 7, 8, 9, 10] follows ?_; refine fPv ?_; refine SF.nc ?_; refine SF.e tabOk ?_; refine fPv ?_; refine SF.ctS tabOk 0 48 ?_; refine SF.clS (i := 0) ent_42 rfl (by exact gbk _) (X := (rK m t M)) (n := ((m.r2 t M).oE ((M.drop 32).take 48))) (m := 32) (hm := lK) (fun w1 hw1 => by have h := hopen_any b _ ({t with their := (M.take 32)} : HT) (hm.r2 t M) T (some ⟨sb, off + 32, none⟩) 48 (c - 32) ((M.drop 32).take 48) w1 lC (by decide) (hw1.block (List.mem_of_getElem? (show _ = some (b, _, _) from (by exact gbk _)))) (((hM.drop (k := 32) (by omega)).take (k := 48) (by omega)).oldM hw1 (ApartB.ne (fun h => hsn (List.mem_singleton.2 h)))) (ApartB.ne (fun h => hsn (List.mem_singleton.2 h))) ((bM.drop2 32).take2 48) q2 (by omega) (by omega); rw [eK] at h; exact h) (fun q2 c2 abs2 O2 => ?_); (iterate 5 refine fPv ?_); refine SF.done ?_) | (refine SPa (id := 12) [8] [] ([]) [0, 1, 2, 3, 4, 5, 6, 7, 8, 9] follows ?_; refine fPv ?_; refine SF.nc ?_; refine SF.e tabOk ?_; refine fPv ?_; refine SF.nc ?_; refine SF.e tabOk ?_; refine SF.ldP tabOk ?_ (hn := by rw [gr_size ((hm.r2 t M).dec ((M.drop 32).take 48)) (ht1.rp_ rfl)]; decide) (hB := gr_own ((hm.r2 t M).dec ((M.drop 32).take 48)) (ht1.rp_ rfl)); refine SF.ldR tabOk ?_ (hn := by rw [ints_size, lK]); refine SF.cl2 b (i := 1) ent_40 rfl (fun w1 hw1 hb1 => by have h := hshare_any b _ ({t with their := (M.take 32), rp := .pointer (some ⟨rb, 0, none⟩)} : HT) ((hm.r2 t M).dec ((M.drop 32).take 48)) T t.own (rK m t M) lo.1 bK (Low.byt_clamp lo) w1 hb1; rw [← e4] at h; exact h) ?_; refine fPv ?_; refine SF.done ?_) | (refine SPa (id := 15) [5] [] ([]) [0, 1, 2, 3, 4, 5, 6, 7, 8, 9] follows ?_; refine fPv ?_; refine SF.nc ?_; refine SF.e tabOk ?_; refine fPv ?_; refine SF.ctS tabOk 48 (n - 32) ?_ (m := off + 80) (c := n - 80) (d := c - 80) (hm := by rw [if_neg (by omega)]) (hc := by omega) (hd := by omega); refine SF.clS (i := 1) ent_42 rfl (by exact gbk _) (X := ((m.r4 t M).oX (M.drop 80))) (n := ((m.r4 t M).oE (M.drop 80))) (m := ((m.r4 t M).oX (M.drop 80)).length) (hm := rfl) (fun w1 hw1 => hopen_any b _ ({t with their := (M.take 32), rp := .pointer (some ⟨rb, 0, none⟩)} : HT) (hm.r4 t M) T (some ⟨sb, off + 80, none⟩) (n - 80) (c - 80) (M.drop 80) w1 (by rw [List.length_drop, hlM]) (by omega) (hw1.block (List.mem_of_getElem? (show _ = some (b, _, _) from (by exact gbk _)))) ((hM.drop (k := 80) (by omega)).oldM hw1 (ApartB.ne (fun h => hsn (List.mem_singleton.2 h)))) (ApartB.ne (fun h => hsn (List.mem_singleton.2 h))) (bM.drop2 80) q4 (by omega) (by omega)) (fun q3 c3 abs3 O3 => ?_); (iterate 4 refine fPv ?_); refine SF.done ?_)) | (refine zsq ?_; intro _ _) | (with_reducible refine zkN ?_) | (refine useK (by assumption) ?_) | (with_reducible first | refine zsB ?_ | refine zkX ?_ | refine zkR ?_ | refine zbN ?_ | refine zbR ?_ | refine zbE ?_ | refine zbX ?_ | refine zsS ?_ | refine zsR ?_ | refine zsX ?_) | (refine cdT ?_) | (refine cdF ?_))
    exact doneK.mk rfl (ResO.tmp2 rfl rfl) ⟨_, q3, c3, abs3, _, rfl, O3, List.Perm.swap _ _ _, List.Sublist.cons_cons _ (List.Sublist.cons_cons _ (List.sublist_cons_self _ _))⟩
  · rintro e w' ⟨v, bs, rfl, ⟨rb, q', c', abs, bs2, rfl, ha, hp, hs⟩, hw'⟩
    exact ⟨rb, _, _, _, rfl, ha, (hw'.perm hp).sub hs⟩
end Sp
end
section
open Go Go.RowKit
namespace Sp
open F M
theorem hrs_no (sb off n c : Nat) (M : List Int) {A : Array Value} {AT : TypeId} {fz : Nat × Nat} (b : Nat) (m : Mx) (t : HT) (hm : m.Ok) (ht : t.Ok) (T : TypeId) (w : World) (hb : w.heap[b]? = some (.cells (gRow m t) T (0, 0))) (lo : Bytes32 t.own) (lc : Bytes32 t.once) (bM : Byts M) (hlM : M.length = n) (hc : n ≤ c) (hsb : w.heap[sb]? = some (.cells A AT fz)) (hsn : sb ∉ [b]) (hL : Lies A off M) (h0 : 48 ≤ n) (hn : n ≤ 4192) (h1 : bothE t.once (M.take 32) t.own (M.take 32) ≠ 0) : Calls Try.prog 32 #[.pointer (some ⟨b, 0, none⟩), .slice (some ⟨sb, off, none⟩) n c] w (StPost w b T (gRow (m.s2 t (M.take 32) t.once (M.take 32) t.own (M.take 32)) ({t with their := (M.take 32)} : HT)) [] (bothE t.once (M.take 32) t.own (M.take 32))) := by
  have lE : (M.take 32).length = 32 := by rw [List.length_take]; omega
  have bE : Bytes32 (M.take 32) := b32_of lE (bM.take2 32)
  have ht1 := ht.their_ lE
  have hM : Sl w (some ⟨sb, off, none⟩) n c M := ⟨hlM, hc, fun _ => ⟨sb, off, A, AT, fz, rfl, hsb, hL⟩⟩
  have hp := hm.point t.kind (M.take 32)
  have e2 : (m.s2 t (M.take 32) t.once (M.take 32) t.own (M.take 32)) = (m.point t.kind (M.take 32)).both t.once (M.take 32) t.own (M.take 32) := by unfold Mx.s2; rfl
  have e3 : (m.s3 t (M.take 32) t.once (M.take 32) t.own (M.take 32)) = (m.s2 t (M.take 32) t.once (M.take 32) t.own (M.take 32)).shd t.kind t.psk := by unfold Mx.s3; rfl
  refine (callE (mu := [b]) Try.func32 Try.ntmps32 Try.results32 (OwnM.start1 w hb) (fun v bs => ∃ q c abs, v = .tuple #[.slice q (([] : List Int)).length c, .int .i64 (bothE t.once (M.take 32) t.own (M.take 32))] ∧ AO q (([] : List Int)).length c (([] : List Int)) abs ∧ ((b, gRow (m.s2 t (M.take 32) t.once (M.take 32) t.own (M.take 32)) ({t with their := (M.take 32)} : HT), T) :: abs).Sublist bs) ?_).mono ?_
  · repeat (first | (refine rgn 0 ?_; refine sEv ?_; refine sEv ?_; refine nlx ?_) | (refine rgn 1 ?_; refine sEv ?_; refine sEv ?_; refine SL.ctS tabOk 0 32 ?_; refine SL.v (ValO.s2a (n := 32) tabOk rfl rfl (Nat.le_refl _)) ?_; refine SL.ldP tabOk ?_ (hr := RdA.old hsb hsn) (hn := hL.size (by omega) (by decide)) (hB := hL.extract (by omega)); refine SL.nc ?_; refine sEv ?_; refine SL.stQ tabOk ?_ (B := ints .u8 (M.take 32)) (hn := by simp only [Value.cells]; rw [ints_size, lE]) (hsz := by rw [gr_size hm ht]; decide) (hA := gr_ptheir hm ht lE); refine nlx ?_) | (refine rgn 2 ?_; refine sEv ?_; refine sEv ?_; refine SL.nc ?_; refine sEv ?_; refine SL.ldP tabOk ?_ (hn := by rw [gr_size hm ht1]; decide) (hB := gr_their hm ht1); refine SL.cl2 b (i := 0) ent_36 rfl (fun w1 hw1 hb1 => hpoint_any (M.take 32) lE b m ({t with their := (M.take 32)} : HT) hm ht1 T w1 hb1) ?_; refine nlx ?_) | (refine rgn 4 ?_; refine sEv ?_; refine sEv ?_; refine nlx ?_) | (refine rgn 5 ?_; (iterate 3 refine sEv ?_); refine nlx ?_) | ((with_reducible show SP _ _ _ (Code.region _ _ true) _ _ _); first | (refine SPa (id := 3) [17] [] ([]) [0, 1, 2, 3, 4, 5, 6, 7, 8, 9, 10, 11, 12, 13, 14, 15, 16, 17, 18] follows ?_; refine fPv ?_; refine fPv ?_; refine SF.nc ?_; refine SF.e tabOk ?_; refine SF.ldP tabOk ?_ (hn := by rw [gr_size hp ht1]; decide) (hB := gr_once hp ht1); refine fPv ?_; refine SF.nc ?_; refine SF.e tabOk ?_; refine SF.ldP tabOk ?_ (hn := by rw [gr_size hp ht1]; decide) (hB := gr_their hp ht1); refine fPv ?_; refine SF.nc ?_; refine SF.e tabOk ?_; refine SF.ldP tabOk ?_ (hn := by rw [gr_size hp ht1]; decide) (hB := gr_own hp ht1); refine fPv ?_; refine SF.nc ?_; refine SF.e tabOk ?_; refine SF.ldP tabOk ?_ (hn := by rw [gr_size hp ht1]; decide) (hB := gr_their hp ht1); refine SF.cl2 b (i := 0) ent_37 rfl (fun w1 hw1 hb1 => by have h := hboth_any t.once (M.take 32) t.own (M.take 32) lc.1 bE (Low.byt_clamp lc) lo.1 bE (Low.byt_clamp lo) b _ ({t with their := (M.take 32)} : HT) hp ht1 T w1 hb1; rw [← e2] at h; exact h) ?_; refine fPv ?_; refine SF.done ?_)) | (refine zsq ?_; intro _ _) | (with_reducible refine zkN ?_) | (refine useK (by assumption) ?_) | (with_reducible first | refine zsB ?_ | refine zkX ?_ | refine zkR ?_ | refine zbN ?_ | refine zbR ?_ | refine zbE ?_ | refine zbX ?_ | refine zsS ?_ | refine zsR ?_ | refine zsX ?_) | (refine cdT ?_) | (refine cdF ?_))
    exact doneK.mk rfl (ResO.tmp2 rfl rfl) ⟨none, 0, [], rfl, AO.nil, by simp⟩
  · rintro e w' ⟨v, bs, rfl, ⟨q', c', abs, rfl, ha, hs⟩, hw'⟩
    exact ⟨_, _, _, rfl, ha, hw'.sub hs⟩
theorem hrs_end (sb off n c : Nat) (M : List Int) {A : Array Value} {AT : TypeId} {fz : Nat × Nat} (b : Nat) (m : Mx) (t : HT) (hm : m.Ok) (ht : t.Ok) (T : TypeId) (w : World) (hb : w.heap[b]? = some (.cells (gRow m t) T (0, 0))) (lo : Bytes32 t.own) (lc : Bytes32 t.once) (bM : Byts M) (hlM : M.length = n) (hc : n ≤ c) (hsb : w.heap[sb]? = some (.cells A AT fz)) (hsn : sb ∉ [b]) (hL : Lies A off M) (h0 : 48 ≤ n) (hn : n ≤ 4192) (h1 : bothE t.once (M.take 32) t.own (M.take 32) = 0) : Calls Try.prog 32 #[.pointer (some ⟨b, 0, none⟩), .slice (some ⟨sb, off, none⟩) n c] w (StPost w b T (gRow ((m.s3 t (M.take 32) t.once (M.take 32) t.own (M.take 32)).dec (M.drop 32)) ({t with their := (M.take 32)} : HT)) ((m.s3 t (M.take 32) t.once (M.take 32) t.own (M.take 32)).oX (M.drop 32)) ((m.s3 t (M.take 32) t.once (M.take 32) t.own (M.take 32)).oE (M.drop 32))) := by
  have lE : (M.take 32).length = 32 := by rw [List.length_take]; omega
  have bE : Bytes32 (M.take 32) := b32_of lE (bM.take2 32)
  have ht1 := ht.their_ lE
  have hM : Sl w (some ⟨sb, off, none⟩) n c M := ⟨hlM, hc, fun _ => ⟨sb, off, A, AT, fz, rfl, hsb, hL⟩⟩
  have hp := hm.point t.kind (M.take 32)
  have e2 : (m.s2 t (M.take 32) t.once (M.take 32) t.own (M.take 32)) = (m.point t.kind (M.take 32)).both t.once (M.take 32) t.own (M.take 32) := by unfold Mx.s2; rfl
  have e3 : (m.s3 t (M.take 32) t.once (M.take 32) t.own (M.take 32)) = (m.s2 t (M.take 32) t.once (M.take 32) t.own (M.take 32)).shd t.kind t.psk := by unfold Mx.s3; rfl
  obtain ⟨q3, n3⟩ : (m.s3 t (M.take 32) t.once (M.take 32) t.own (M.take 32)).q = true ∧ (m.s3 t (M.take 32) t.once (M.take 32) t.own (M.take 32)).n = 0 := s3_q h1
  refine (callE (mu := [b]) Try.func32 Try.ntmps32 Try.results32 (OwnM.start1 w hb) (fun v bs => ∃ q c abs, v = .tuple #[.slice q ((m.s3 t (M.take 32) t.once (M.take 32) t.own (M.take 32)).oX (M.drop 32)).length c, .int .i64 ((m.s3 t (M.take 32) t.once (M.take 32) t.own (M.take 32)).oE (M.drop 32))] ∧ AO q ((m.s3 t (M.take 32) t.once (M.take 32) t.own (M.take 32)).oX (M.drop 32)).length c ((m.s3 t (M.take 32) t.once (M.take 32) t.own (M.take 32)).oX (M.drop 32)) abs ∧ ((b, gRow ((m.s3 t (M.take 32) t.once (M.take 32) t.own (M.take 32)).dec (M.drop 32)) ({t with their := (M.take 32)} : HT), T) :: abs).Sublist bs) ?_).mono ?_
  · repeat (first | (refine rgn 0 ?_; refine sEv ?_; refine sEv ?_; refine nlx ?_) | (refine rgn 1 ?_; refine sEv ?_; refine sEv ?_; refine SL.ctS tabOk 0 32 ?_; refine SL.v (ValO.s2a (n := 32) tabOk rfl rfl (Nat.le_refl _)) ?_; refine SL.ldP tabOk ?_ (hr := RdA.old hsb hsn) (hn := hL.size (by omega) (by decide)) (hB := hL.extract (by omega)); refine SL.nc ?_; refine sEv ?_; refine SL.stQ tabOk ?_ (B := ints .u8 (M.take 32)) (hn := by simp only [Value.cells]; rw [ints_size, lE]) (hsz := by rw [gr_size hm ht]; decide) (hA := gr_ptheir hm ht lE); refine nlx ?_) | (refine rgn 2 ?_; refine sEv ?_; refine sEv ?_; refine SL.nc ?_; refine sEv ?_; refine SL.ldP tabOk ?_ (hn := by rw [gr_size hm ht1]; decide) (hB := gr_their hm ht1); refine SL.cl2 b (i := 0) ent_36 rfl (fun w1 hw1 hb1 => hpoint_any (M.take 32) lE b m ({t with their := (M.take 32)} : HT) hm ht1 T w1 hb1) ?_; refine nlx ?_) | (refine rgn 4 ?_; refine sEv ?_; refine sEv ?_; refine nlx ?_) | (refine rgn 6 ?_; refine sEv ?_; refine SL.cl2 b (i := 0) ent_38 rfl (fun w1 hw1 hb1 => by have h := hshared_any b _ ({t with their := (M.take 32)} : HT) (hm.s2 t (M.take 32) t.once (M.take 32) t.own (M.take 32)) ht1 T w1 hb1; rw [← e3] at h; exact h) ?_; refine nlx ?_) | ((with_reducible show SP _ _ _ (Code.region _ _ true) _ _ _); first | (refine SPa (id := 3) [17] [] ([]) [0, 1, 2, 3, 4, 5, 6, 7, 8, 9, 10, 11, 12, 13, 14, 15, 16, 17, 18] follows ?_; refine fPv ?_; refine fPv ?_; refine SF.nc ?_; refine SF.e tabOk ?_; refine SF.ldP tabOk ?_ (hn := by rw [gr_size hp ht1]; decide) (hB := gr_once hp ht1); refine fPv ?_; refine SF.nc ?_; refine SF.e tabOk ?_; refine SF.ldP tabOk ?_ (hn := by rw [gr_size hp ht1]; decide) (hB := gr_their hp ht1); refine fPv ?_; refine SF.nc ?_; refine SF.e tabOk ?_; refine SF.ldP tabOk ?_ (hn := by rw [gr_size hp ht1]; decide) (hB := gr_own hp ht1); refine fPv ?_; refine SF.nc ?_; refine SF.e tabOk ?_; refine SF.ldP tabOk ?_ (hn := by rw [gr_size hp ht1]; decide) (hB := gr_their hp ht1); refine SF.cl2 b (i := 0) ent_37 rfl (fun w1 hw1 hb1 => by have h := hboth_any t.once (M.take 32) t.own (M.take 32) lc.1 bE (Low.byt_clamp lc) lo.1 bE (Low.byt_clamp lo) b _ ({t with their := (M.take 32)} : HT) hp ht1 T w1 hb1; rw [← e2] at h; exact h) ?_; refine fPv ?_; refine SF.done ?_) | (refine SPa (id := 7) [5] [] ([]) [0, 1, 2, 3, 4, 5, 6, 7, 8, 9] follows ?_; refine fPv ?_; refine SF.nc ?_; refine SF.e tabOk ?_; refine fPv ?_; refine SF.ctS tabOk 32 n ?_ (m := off + 32) (c := n - 32) (d := c - 32) (hm := by rw [if_neg (by omega)]) (hc := rfl) (hd := rfl); refine SF.clS (i := 0) ent_42 rfl (by exact gbk _) (X := ((m.s3 t (M.take 32) t.once (M.take 32) t.own (M.take 32)).oX (M.drop 32))) (n := ((m.s3 t (M.take 32) t.once (M.take 32) t.own (M.take 32)).oE (M.drop 32))) (m := ((m.s3 t (M.take 32) t.once (M.take 32) t.own (M.take 32)).oX (M.drop 32)).length) (hm := rfl) (fun w1 hw1 => hopen_any b _ ({t with their := (M.take 32)} : HT) (hm.s3 t (M.take 32) t.once (M.take 32) t.own (M.take 32)) T (some ⟨sb, off + 32, none⟩) (n - 32) (c - 32) (M.drop 32) w1 (by rw [List.length_drop, hlM]) (by omega) (hw1.block (List.mem_of_getElem? (show _ = some (b, _, _) from (by exact gbk _)))) ((hM.drop (k := 32) (by omega)).oldM hw1 (ApartB.ne (fun h => hsn (List.mem_singleton.2 h)))) (ApartB.ne (fun h => hsn (List.mem_singleton.2 h))) (bM.drop2 32) q3 (by omega) (by omega)) (fun q3 c3 abs3 O3 => ?_); (iterate 4 refine fPv ?_); refine SF.done ?_)) | (refine zsq ?_; intro _ _) | (with_reducible refine zkN ?_) | (refine useK (by assumption) ?_) | (with_reducible first | refine zsB ?_ | refine zkX ?_ | refine zkR ?_ | refine zbN ?_ | refine zbR ?_ | refine zbE ?_ | refine zbX ?_ | refine zsS ?_ | refine zsR ?_ | refine zsX ?_) | (refine cdT ?_) | (refine cdF ?_))
    exact doneK.mk rfl (ResO.tmp2 rfl rfl) ⟨q3, c3, abs3, rfl, O3, List.Sublist.refl _⟩
  · rintro e w' ⟨v, bs, rfl, ⟨q', c', abs, rfl, ha, hs⟩, hw'⟩
    exact ⟨_, _, _, rfl, ha, hw'.sub hs⟩
end Sp
end
section
open Go Go.RowKit
namespace Sp
open F M
def m00 : Mx := ⟨List.replicate 32 0, List.replicate 32 0, List.replicate 32 0, 0, false⟩
def t00 : HT := ⟨0, false, List.replicate 32 0, List.replicate 32 0, List.replicate 32 0, .pointer none, List.replicate 32 0, 0⟩
theorem zero_Hand : (Try.prog.info? 58).map (·.zero) = some (some (.agg (gRow m00 t00))) := by unfold gRow; kernel_rfl
theorem m00_ok : m00.Ok := ⟨rfl, rfl, rfl, byts_mem (fun x hx => by rw [List.eq_of_mem_replicate hx]; decide)⟩
theorem t00_ok : t00.Ok := ⟨rfl, rfl, rfl, rfl, rfl⟩
def WPost (w : World) (b : Nat) (T : TypeId) (R : Nat → Array Value) (X : List Int) (n : Int) (ex : Nat → Mem) (e : Ending) (w' : World) : Prop :=
  ∃ rb q c abs, e = .returned (.tuple #[.slice q X.length c, .int .i64 n]) ∧ AO q X.length c X abs ∧ OwnM w [b] w' ((b, R rb, T) :: (ex rb ++ abs))
theorem StPost.w {w : World} {b : Nat} {T : TypeId} {R : Array Value} {X : List Int} {n : Int} {e : Ending} {w' : World} (h : StPost w b T R X n e w') : WPost w b T (fun _ => R) X n (fun _ => []) e w' := by
  obtain ⟨q, c, abs, rfl, ha, hw⟩ := h
  exact ⟨0, q, c, abs, rfl, ha, hw⟩
theorem RdPost.w {w : World} {b : Nat} {T : TypeId} {R : Nat → Array Value} {U X : List Int} {n : Int} {e : Ending} {w' : World} (h : RdPost w b T R U X n e w') : WPost w b T R X n (fun rb => [(rb, ints .u8 U, 23)]) e w' := by
  obtain ⟨rb, q, c, abs, rfl, ha, hw⟩ := h
  exact ⟨rb, q, c, abs, rfl, ha, hw⟩
theorem WPost.s {w : World} {b : Nat} {T : TypeId} {R : Array Value} {X : List Int} {n : Int} {e : Ending} {w' : World} (h : WPost w b T (fun _ => R) X n (fun _ => []) e w') : StPost w b T R X n e w' := by
  obtain ⟨rb, q, c, abs, rfl, ha, hw⟩ := h
  exact ⟨q, c, abs, rfl, ha, hw⟩
theorem hdoes_no {f : FuncId} (hent : ∀ (A : Array Value) (w : World), (callFunc f A).run Try.prog w = .ok (.enter f A) w) (C : List Value) (q : Option Addr) (n c : Nat) (X : List Int) (E : Int) (R : Nat → Array Value) (ex : Nat → Mem) (b : Nat) (m : Mx) (t : HT) (hm : m.Ok) (ht : t.Ok) (T : TypeId) (w : World) (hb : w.heap[b]? = some (.cells (gRow m t) T (0, 0))) (hwork : ∀ xb w1, OwnM w [b] w1 [(xb, gRow m t, 58), (b, gRow m t, T)] → Calls Try.prog f (Value.pointer (some ⟨xb, 0, none⟩) :: Value.slice q n c :: C).toArray w1 (WPost w1 xb 58 R X E ex)) (hE : E ≠ 0) : Calls Try.prog 27 #[.pointer (some ⟨b, 0, none⟩), .func (.func f) #[] C.toArray, .slice q n c] w (StPost w b T (gRow m t) [] E) := by
  refine (callE (mu := [b]) Try.func27 Try.ntmps27 Try.results27 (OwnM.start1 w hb) (fun v bs => ∃ q c abs, v = .tuple #[.slice q (([] : List Int)).length c, .int .i64 (E)] ∧ AO q (([] : List Int)).length c (([] : List Int)) abs ∧ ((b, gRow m t, T) :: abs).Sublist bs) ?_).mono ?_
  · repeat (first | (refine rgn 0 ?_; refine sEv ?_; refine sEv ?_; refine nlx ?_) | (refine rgn 1 ?_; refine sEv ?_; refine SL.nc ?_; refine SL.ldR tabOk ?_ (hn := gr_size hm ht); refine SL.al zero_Hand ?_; intro xb; refine SL.stA tabOk (gr_cells ht) ?_ (hn := gr_size hm ht) (hsz := gr_size m00_ok t00_ok); refine nlx ?_) | (refine rgn 2 ?_; refine sEv ?_; refine sEv ?_; refine SL.callGC (f := f) rfl hent rfl (R := fun v bs' => ∃ rb q' c' abs, v = .tuple #[.slice q' X.length c', .int .i64 E] ∧ AO q' X.length c' X abs ∧ bs' = [(xb, R rb, 58), (b, gRow m t, T)] ++ (ex rb ++ abs)) (fun w1 hw1 => (hwork xb w1 hw1).mono (by rintro e w' ⟨rb, q', c', abs, rfl, ha, hw'⟩; exact ⟨_, _, rfl, ⟨rb, q', c', abs, rfl, ha, rfl⟩, OwnM.call1A hw1 (i := 0) rfl hw'⟩)) ?_; rintro v bs' ⟨rb, q', c', abs, rfl, ha, rfl⟩; dsimp only [putL, setNth, List.cons_append, List.nil_append]; (iterate 5 refine sEv ?_); refine nlx ?_) | (refine rgn 3 ?_; refine sEv ?_; refine sEv ?_; refine nlx ?_) | (refine rgn 4 ?_; (iterate 3 refine sEv ?_); refine nlx ?_) | (refine zsq ?_; intro _ _) | (with_reducible refine zkN ?_) | (refine useK (by assumption) ?_) | (with_reducible first | refine zsB ?_ | refine zkX ?_ | refine zkR ?_ | refine zbN ?_ | refine zbR ?_ | refine zbE ?_ | refine zbX ?_ | refine zsS ?_ | refine zsR ?_ | refine zsX ?_) | (refine cdT ?_) | (refine cdF ?_))
    exact doneK.mk rfl (ResO.tmp2 rfl rfl) ⟨none, 0, [], rfl, AO.nil, List.Sublist.cons _ (List.Sublist.cons_cons _ (List.nil_sublist _))⟩
  · rintro e w' ⟨v, bs, rfl, ⟨q', c', abs, rfl, ha, hs⟩, hw'⟩
    exact ⟨_, _, _, rfl, ha, hw'.sub hs⟩
theorem hdoes_ok {f : FuncId} (hent : ∀ (A : Array Value) (w : World), (callFunc f A).run Try.prog w = .ok (.enter f A) w) (C : List Value) (q : Option Addr) (n c : Nat) (X : List Int) (m' : Mx) (t' : Nat → HT) (ex : Nat → Mem) (b : Nat) (m : Mx) (t : HT) (hm : m.Ok) (ht : t.Ok) (T : TypeId) (w : World) (hb : w.heap[b]? = some (.cells (gRow m t) T (0, 0))) (hwork : ∀ xb w1, OwnM w [b] w1 [(xb, gRow m t, 58), (b, gRow m t, T)] → Calls Try.prog f (Value.pointer (some ⟨xb, 0, none⟩) :: Value.slice q n c :: C).toArray w1 (WPost w1 xb 58 (fun rb => gRow m' (t' rb)) X 0 ex)) (hm' : m'.Ok) (ht' : ∀ rb, (t' rb).Ok) (hd : ∀ rb, 0 ≤ (t' rb).done ∧ (t' rb).done ≤ 100) : Calls Try.prog 27 #[.pointer (some ⟨b, 0, none⟩), .func (.func f) #[] C.toArray, .slice q n c] w (WPost w b T (fun rb => gRow m' {t' rb with done := (t' rb).done + 1}) X 0 ex) := by
  refine (callE (mu := [b]) Try.func27 Try.ntmps27 Try.results27 (OwnM.start1 w hb) (fun v bs => ∃ rb q c abs, v = .tuple #[.slice q X.length c, .int .i64 0] ∧ AO q X.length c X abs ∧ ((b, gRow m' {t' rb with done := (t' rb).done + 1}, T) :: (ex rb ++ abs)).Sublist bs) ?_).mono ?_
  · repeat (first | (refine rgn 0 ?_; refine sEv ?_; refine sEv ?_; refine nlx ?_) | (refine rgn 1 ?_; refine sEv ?_; refine SL.nc ?_; refine SL.ldR tabOk ?_ (hn := gr_size hm ht); refine SL.al zero_Hand ?_; intro xb; refine SL.stA tabOk (gr_cells ht) ?_ (hn := gr_size hm ht) (hsz := gr_size m00_ok t00_ok); refine nlx ?_) | (refine rgn 2 ?_; refine sEv ?_; refine sEv ?_; refine SL.callGC (f := f) rfl hent rfl (R := fun v bs' => ∃ rb q' c' abs, v = .tuple #[.slice q' X.length c', .int .i64 0] ∧ AO q' X.length c' X abs ∧ bs' = [(xb, gRow m' (t' rb), 58), (b, gRow m t, T)] ++ (ex rb ++ abs)) (fun w1 hw1 => (hwork xb w1 hw1).mono (by rintro e w' ⟨rb, q', c', abs, rfl, ha, hw'⟩; exact ⟨_, _, rfl, ⟨rb, q', c', abs, rfl, ha, rfl⟩, OwnM.call1A hw1 (i := 0) rfl hw'⟩)) ?_; rintro v bs' ⟨rb, q', c', abs, rfl, ha, rfl⟩; dsimp only [putL, setNth, List.cons_append, List.nil_append]; have hwr : some (Value.int .i64 (IntKind.i64.wrap ((t' rb).done + 1))) = some (Value.int .i64 ((t' rb).done + 1)) := (by have := hd rb; rw [IntWalk.i64_in _ (by omega)]); (iterate 5 refine sEv ?_); refine nlx ?_) | (refine rgn 3 ?_; refine sEv ?_; refine sEv ?_; refine nlx ?_) | (refine rgn 5 ?_; refine sEv ?_; refine SL.ldC tabOk ?_ (hv := gr_done hm' (ht' rb)); refine SL.v (v := .int .i64 ((t' rb).done + 1)) (ValO.ev tabOk hwr) ?_; refine sEv ?_; refine SL.stP tabOk ?_ (hsz := by rw [gr_size hm' (ht' rb)]; decide) (hA := gr_pdone hm' (ht' rb) _); refine nlx ?_) | (refine rgn 6 ?_; refine sEv ?_; refine SL.ldR tabOk ?_ (hn := gr_size hm' ((ht' rb).done_ _)); refine SL.nc ?_; refine SL.stA tabOk (gr_cells ((ht' rb).done_ _)) ?_ (hn := gr_size hm' ((ht' rb).done_ _)) (hsz := gr_size hm ht); refine nlx ?_) | (refine rgn 7 ?_; (iterate 3 refine sEv ?_); refine nlx ?_) | (refine zsq ?_; intro _ _) | (with_reducible refine zkN ?_) | (refine useK (by assumption) ?_) | (with_reducible first | refine zsB ?_ | refine zkX ?_ | refine zkR ?_ | refine zbN ?_ | refine zbR ?_ | refine zbE ?_ | refine zbX ?_ | refine zsS ?_ | refine zsR ?_ | refine zsX ?_) | (refine cdT ?_) | (refine cdF ?_))
    exact doneK.mk rfl (ResO.tmp2 rfl rfl) ⟨rb, q', c', abs, rfl, ha, List.Sublist.cons _ (List.Sublist.refl _)⟩
  · rintro e w' ⟨v, bs, rfl, ⟨rb, q', c', abs, rfl, ha, hs⟩, hw'⟩
    exact ⟨rb, _, _, _, rfl, ha, hw'.sub hs⟩
end Sp
end
section
open Go Go.RowKit
namespace Sp
open F M
theorem zero_fn : (Try.prog.info? 63).map (·.zero) = some (some .nilFunc) := by kernel_rfl
def fTab : Tab := [(63, .other, 1)]
theorem fTabOk : TabOk Try.prog fTab := by unfold TabOk; kernel_rfl
theorem fTab_u : ∃ d, Try.prog.underlying 63 = some d ∧ (match d with | .struct _ | .array _ _ => true | _ => false) = false := by
  have h : (match Try.prog.underlying 63 with | some (.struct _) => false | some (.array _ _) => false | none => false | some _ => true) = true := by kernel_rfl
  cases hq : Try.prog.underlying 63 with
  | none => rw [hq] at h; cases h
  | some d => rw [hq] at h; exact ⟨d, rfl, by cases d <;> first | rfl | cases h⟩
theorem ValO.ldF {w0 : World} {mu : List Nat} {bs : Mem} {l : List Value} {x : Operand} {dst : Option Tmp} {ty : TypeId} {pos : String} {af : Array Edge} {gd : Option (Nat × Bool)} (b : Nat) (hx : evL l x = .pointer (some ⟨b, 0, none⟩)) {v : Value} (hr : RdA w0 mu bs b #[v]) : ValO Try.prog w0 mu bs l ⟨dst, .load 63 x, ty, pos, af, gd⟩ v := by
  refine ⟨fun w hw => ?_⟩
  obtain ⟨T, fz, hb⟩ := hr.get hw
  obtain ⟨d, hu, hd⟩ := fTab_u
  have hld := run_loadAt_cell (P := Try.prog) (W := w) 63 d hu (by cases d <;> simp_all) ⟨b, 0, none⟩ v (by rw [cell_of_row w b 0 #[v] T fz hb]; rfl)
  unfold execOp
  simp only [evL_eq, hx, Sem.run_bind, Sem.run_pure, Result.andThen_ok, hld]
  exact ⟨rfl, rfl⟩
structure Cpy (w : World) (b xb : Nat) (A : Array Value) (w2 : World) : Prop where
  row : w2.heap[xb]? = some (.cells A 58 (0, 0))
  old : ∀ r X, w.heap[r]? = some X → r ∉ [b] → w2.heap[r]? = some X ∧ r ∉ [xb]
theorem Cpy.of {w w2 : World} {b xb : Nat} {A A' : Array Value} {T : TypeId} {bs : Mem} (hw : OwnM w [b] w2 bs) {i j : Nat} (hi : bs[i]? = some (xb, A, 58)) (hj : bs[j]? = some (b, A', T)) (hij : i ≠ j) : Cpy w b xb A w2 := by
  refine ⟨hw.block (List.mem_of_getElem? hi), fun r X hr hne => ?_⟩
  have lt := (Array.getElem?_eq_some_iff.1 hr).1
  refine ⟨by rw [hw.rest r lt hne]; exact hr, fun h => ?_⟩
  obtain rfl := List.mem_singleton.1 h
  rcases (hw.here _ (List.mem_of_getElem? hi)).1 with h | h
  · exact absurd lt (Nat.not_lt.2 h)
  · exact absurd (List.mem_singleton.1 h) (hw.ne hi hj hij)
theorem Cpy.sl {w w2 : World} {b xb n c : Nat} {A : Array Value} {q : Option Addr} {B : List Int} (h : Cpy w b xb A w2) (hS : Sl w q n c B) (hA : ApartB b q n) : Sl w2 q n c B ∧ ApartB xb q n := by
  refine ⟨⟨hS.len, hS.cap, fun h0 => ?_⟩, fun h0 sb off hq => ?_⟩
  · obtain ⟨sb, off, A, T, fz, e, hb, hL⟩ := hS.at_ h0
    exact ⟨sb, off, A, T, fz, e, (h.old sb _ hb (by simpa using hA h0 sb off e)).1, hL⟩
  · obtain ⟨sb', off', A, T, fz, e, hb, hL⟩ := hS.at_ h0
    have e2 := hA h0 sb off hq
    subst hq
    obtain rfl : sb = sb' := by injection e with e; injection e
    simpa using (h.old sb _ hb (by simpa using e2)).2
theorem hw1_any {g : FuncId} (hent : ∀ (A : Array Value) (w : World), (callFunc g A).run Try.prog w = .ok (.enter g A) w) (q : Option Addr) (n c : Nat) (O : List Int) (lO : O.length = 32) (R : Nat → Array Value) (X : List Int) (E : Int) (ex : Nat → Mem) (ob fb : Nat) (b : Nat) (m : Mx) (t : HT) (hm : m.Ok) (ht : t.Ok) (T : TypeId) (w : World) (hb : w.heap[b]? = some (.cells (gRow m t) T (0, 0))) {OT FT : TypeId} {fo ff : Nat × Nat} (hob : w.heap[ob]? = some (.cells (ints .u8 O) OT fo)) (hob' : ob ∉ [b]) (hfb : w.heap[fb]? = some (.cells #[.func (.func g) #[] #[]] FT ff)) (hfb' : fb ∉ [b]) (hwork : ∀ w1, OwnM w [b] w1 [(b, gRow m ({t with once := O} : HT), T)] → Calls Try.prog g #[.pointer (some ⟨b, 0, none⟩), .slice q n c] w1 (WPost w1 b T R X E ex)) : Calls Try.prog 28 #[.pointer (some ⟨b, 0, none⟩), .slice q n c, .pointer (some ⟨ob, 0, none⟩), .pointer (some ⟨fb, 0, none⟩)] w (WPost w b T R X E ex) := by
  refine (callE (mu := [b]) Try.func28 Try.ntmps28 Try.results28 (OwnM.start1 w hb) (fun v bs => ∃ rb q c abs, v = .tuple #[.slice q (X).length c, .int .i64 (E)] ∧ AO q (X).length c (X) abs ∧ ((b, R rb, T) :: (ex rb ++ abs)).Sublist bs) ?_).mono ?_
  · repeat (first | (refine rgn 0 ?_; refine sEv ?_; refine sEv ?_; refine nlx ?_) | (refine rgn 1 ?_; refine sEv ?_; refine SL.ldR tabOk ?_ (hr := RdA.old hob hob') (hn := by rw [ints_size, lO]); refine SL.nc ?_; refine sEv ?_; refine SL.stQ tabOk ?_ (B := ints .u8 O) (hn := by simp only [Value.cells]; rw [ints_size, lO]) (hsz := by rw [gr_size hm ht]; decide) (hA := gr_ponce hm ht lO); refine nlx ?_) | (refine rgn 2 ?_; refine SL.v (ValO.ldF fb rfl (RdA.old hfb hfb')) ?_; refine sEv ?_; refine sEv ?_; refine SL.callGC (f := g) rfl hent rfl (R := fun v bs' => ∃ rb q' c' abs, v = .tuple #[.slice q' X.length c', .int .i64 E] ∧ AO q' X.length c' X abs ∧ bs' = [(b, R rb, T)] ++ (ex rb ++ abs)) (fun w1 hw1 => (hwork w1 hw1).mono (by rintro e w' ⟨rb, q', c', abs, rfl, ha, hw'⟩; exact ⟨_, _, rfl, ⟨rb, q', c', abs, rfl, ha, rfl⟩, OwnM.call1A hw1 (i := 0) rfl hw'⟩)) ?_; rintro v bs' ⟨rb, q', c', abs, rfl, ha, rfl⟩; dsimp only [putL, setNth, List.cons_append, List.nil_append]; (iterate 4 refine sEv ?_); refine nlx ?_) | (refine zsq ?_; intro _ _) | (with_reducible refine zkN ?_) | (refine useK (by assumption) ?_) | (with_reducible first | refine zsB ?_ | refine zkX ?_ | refine zkR ?_ | refine zbN ?_ | refine zbR ?_ | refine zbE ?_ | refine zbX ?_ | refine zsS ?_ | refine zsR ?_ | refine zsX ?_) | (refine cdT ?_) | (refine cdF ?_))
    exact doneK.mk rfl (ResO.tmp2 rfl rfl) ⟨rb, q', c', abs, rfl, ha, List.Sublist.refl _⟩
  · rintro e w' ⟨v, bs, rfl, ⟨rb, q', c', abs, rfl, ha, hs⟩, hw'⟩
    exact ⟨rb, _, _, _, rfl, ha, hw'.sub hs⟩
end Sp
end
end Go.Proofs.Ytdjecenggngdjaa
