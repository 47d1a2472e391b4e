/-
  Joined texts: HnO, Brg, PrA, PrB, SmL, PrC, Hss, Hrl, Haw. No conditions.
-/
import Derived.Test.YtdjecenggngdjaaGae
import Derived.Test.YtdjecenggngdjaaGan
import Derived.Test.YtdjecenggngdjaaGay
import Derived.Orders
namespace Go.Proofs.Ytdjecenggngdjaa
set_option linter.unusedSimpArgs false
set_option linter.unusedVariables false
set_option maxHeartbeats 16000000
set_option maxRecDepth 20000
section
open Go Go.RowKit
namespace Sp
open F M
theorem hWA_ok (q : Option Addr) (n c : Nat) (B O U : List Int) (rb : Nat) {RT : TypeId} {fz : Nat × Nat} (b : Nat) (m : Mx) (t : HT) (hm : m.Ok) (ht : t.Ok) (w : World) (hb : w.heap[b]? = some (.cells (gRow m t) 58 (0, 0))) (hk : t.kind ≠ 0) (hbg : t.bg = true) (hd : t.done = 0) (lo : Bytes32 t.own) (hO : Bytes32 O) (hU : Bytes32 U) (hr : t.rp = .pointer (some ⟨rb, 0, none⟩)) (hrb : w.heap[rb]? = some (.cells (ints .u8 U) RT fz)) (hne : rb ∉ [b]) (bB : Byts B) (hn : n ≤ 4096) (hS : Sl w q n c B) (hA : ApartB b q n) (h1 : Low.shN O U = 0) (h2 : Low.shN t.own U = 0) : Calls Try.prog 10 #[.pointer (some ⟨b, 0, none⟩), .agg (ints .u8 O), .slice q n c] w (StPost w b 58 (gRow ((m.f3 ({t with once := O} : HT) U).enc B) {t with once := O, done := t.done + 1}) (fstX m ({t with once := O} : HT) U B) 0) := by
  have ho : (t.bg == (t.done == 0)) = true := by rw [hbg, hd]; rfl
  have hth : decide (t.done < 2) = true := by rw [hd]; rfl
  have hm' : ((m.f3 ({t with once := O} : HT) U).enc B).Ok := (hm.f3 _ _).enc _
  have h := hwriteA_ok q n c O b m t hm ht 58 w hb hk ho hth hbg hO.1 hn ((m.f3 ({t with once := O} : HT) U).enc B) (fun _ => ({t with once := O} : HT)) (fstX m ({t with once := O} : HT) U B) (fun _ => []) (fun xb w3 hc => by have hs := hc.sl hS hA; exact (hfirst_ok q n c B U rb xb m ({t with once := O} : HT) hm (ht.once_ hO.1) 58 w3 hc.row lo hO hU hr (hc.old rb _ hrb hne).1 (hc.old rb _ hrb hne).2 bB hn hs.1 hs.2 h1 h2).mono (fun _ _ hx => hx.w)) hm' (fun _ => (ht.once_ hO.1)) (fun _ => by show 0 ≤ t.done ∧ t.done ≤ 100; omega)
  exact h.mono (fun _ _ hx => hx.s)
theorem hWB_ok (q : Option Addr) (n c : Nat) (B O U : List Int) (rb : Nat) {RT : TypeId} {fz : Nat × Nat} (b : Nat) (m : Mx) (t : HT) (hm : m.Ok) (ht : t.Ok) (w : World) (hb : w.heap[b]? = some (.cells (gRow m t) 58 (0, 0))) (hk : t.kind ≠ 0) (hbg : t.bg = false) (hd : t.done = 1) (hq : Bytes32 t.their) (hO : Bytes32 O) (hU : Bytes32 U) (hr : t.rp = .pointer (some ⟨rb, 0, none⟩)) (hrb : w.heap[rb]? = some (.cells (ints .u8 U) RT fz)) (hne : rb ∉ [b]) (bB : Byts B) (hn : n ≤ 4096) (hS : Sl w q n c B) (hA : ApartB b q n) (h1 : bothE O t.their O U = 0) : Calls Try.prog 10 #[.pointer (some ⟨b, 0, none⟩), .agg (ints .u8 O), .slice q n c] w (StPost w b 58 (gRow ((m.s3 ({t with once := O} : HT) (pubL O) O t.their O U).enc B) {t with once := O, done := t.done + 1}) (sndX m ({t with once := O} : HT) U B) 0) := by
  have ho : (t.bg == (t.done == 0)) = true := by rw [hbg, hd]; rfl
  have hth : decide (t.done < 2) = true := by rw [hd]; rfl
  have hm' : ((m.s3 ({t with once := O} : HT) (pubL O) O t.their O U).enc B).Ok := (hm.s3 _ _ _ _ _ _).enc _
  have h := hwriteB_ok q n c O b m t hm ht 58 w hb hk ho hth hbg hO.1 hn ((m.s3 ({t with once := O} : HT) (pubL O) O t.their O U).enc B) (fun _ => ({t with once := O} : HT)) (sndX m ({t with once := O} : HT) U B) (fun _ => []) (fun xb w3 hc => by have hs := hc.sl hS hA; exact (hsecond_ok q n c B U rb xb m ({t with once := O} : HT) hm (ht.once_ hO.1) 58 w3 hc.row hq hO hU hr (hc.old rb _ hrb hne).1 (hc.old rb _ hrb hne).2 bB hn hs.1 hs.2 h1).mono (fun _ _ hx => hx.w)) hm' (fun _ => (ht.once_ hO.1)) (fun _ => by show 0 ≤ t.done ∧ t.done ≤ 100; omega)
  exact h.mono (fun _ _ hx => hx.s)
theorem hRB_n1 (q : Option Addr) (n c : Nat) (M : List Int) (b : Nat) (m : Mx) (t : HT) (hm : m.Ok) (ht : t.Ok) (w : World) (hb : w.heap[b]? = some (.cells (gRow m t) 58 (0, 0))) (hk : t.kind ≠ 0) (hbg : t.bg = false) (hd : t.done = 0) (lo : Bytes32 t.own) (bM : Byts M) (h0 : 96 ≤ n) (hn : n ≤ 4192) (hS : Sl w q n c M) (hA : ApartB b q n) (h1 : Low.shN t.own (M.take 32) ≠ 0) : Calls Try.prog 13 #[.pointer (some ⟨b, 0, none⟩), .slice q n c] w (StPost w b 58 (gRow m t) [] (Low.shN t.own (M.take 32))) := by
  obtain ⟨sb, off, A, AT, fz, rfl, hsb, hL⟩ := hS.at_ (by omega)
  have hsn : sb ∉ [b] := by simpa using hA (by omega) sb off rfl
  have hlM := hS.len
  have hcc := hS.cap
  have ho : (t.bg == (t.done == 0)) = false := by rw [hbg, hd]; rfl
  have hth : decide (t.done < 2) = true := by rw [hd]; rfl
  exact hreadB_no (some ⟨sb, off, none⟩) n c b m t hm ht 58 w hb hk ho hth hbg h0 hn (fun _ => gRow (m.r2 t M) ({t with their := (M.take 32)} : HT)) [] (Low.shN t.own (M.take 32)) (fun _ => []) (fun xb w3 hc => (hrf_n1 sb off n c M xb m t hm ht 58 w3 hc.row lo bM hlM hcc (hc.old sb _ hsb hsn).1 (hc.old sb _ hsb hsn).2 hL h0 hn h1).mono (fun _ _ hx => hx.w)) h1
theorem hRB_ok (q : Option Addr) (n c : Nat) (M : List Int) (b : Nat) (m : Mx) (t : HT) (hm : m.Ok) (ht : t.Ok) (w : World) (hb : w.heap[b]? = some (.cells (gRow m t) 58 (0, 0))) (hk : t.kind ≠ 0) (hbg : t.bg = false) (hd : t.done = 0) (lo : Bytes32 t.own) (bM : Byts M) (h0 : 96 ≤ n) (hn : n ≤ 4192) (hS : Sl w q n c M) (hA : ApartB b q n) (h1 : Low.shN t.own (M.take 32) = 0) (h2 : (m.r2 t M).oE ((M.drop 32).take 48) = 0) (h3 : Low.shN t.own (rK m t M) = 0) (h4 : (m.r4 t M).oE (M.drop 80) = 0) : Calls Try.prog 13 #[.pointer (some ⟨b, 0, none⟩), .slice q n c] w (RdPost w b 58 (fun rb => gRow ((m.r4 t M).dec (M.drop 80)) {t with their := M.take 32, rp := .pointer (some ⟨rb, 0, none⟩), done := t.done + 1}) (rK m t M) ((m.r4 t M).oX (M.drop 80)) 0) := by
  obtain ⟨sb, off, A, AT, fz, rfl, hsb, hL⟩ := hS.at_ (by omega)
  have hsn : sb ∉ [b] := by simpa using hA (by omega) sb off rfl
  have hlM := hS.len
  have hcc := hS.cap
  have ho : (t.bg == (t.done == 0)) = false := by rw [hbg, hd]; rfl
  have hth : decide (t.done < 2) = true := by rw [hd]; rfl
  have hm' : ((m.r4 t M).dec (M.drop 80)).Ok := (hm.r4 t M).dec _
  have lE : (M.take 32).length = 32 := by rw [List.length_take]; omega
  have h := hreadB_ok (some ⟨sb, off, none⟩) n c b m t hm ht 58 w hb hk ho hth hbg h0 hn ((m.r4 t M).dec (M.drop 80)) (fun rb => ({t with their := (M.take 32), rp := .pointer (some ⟨rb, 0, none⟩)} : HT)) ((m.r4 t M).oX (M.drop 80)) (fun rb => [(rb, ints .u8 (rK m t M), 23)]) (fun xb w3 hc => by have h := hrf_end sb off n c M xb m t hm ht 58 w3 hc.row lo bM hlM hcc (hc.old sb _ hsb hsn).1 (hc.old sb _ hsb hsn).2 hL h0 hn h1 h2 h3; rw [h4] at h; exact h.mono (fun _ _ hx => hx.w)) hm' (fun _ => (ht.their_ lE).rp_ rfl) (fun _ => by show 0 ≤ t.done ∧ t.done ≤ 100; omega)
  exact h
theorem hRA_n1 (q : Option Addr) (n c : Nat) (M : List Int) (b : Nat) (m : Mx) (t : HT) (hm : m.Ok) (ht : t.Ok) (w : World) (hb : w.heap[b]? = some (.cells (gRow m t) 58 (0, 0))) (hk : t.kind ≠ 0) (hbg : t.bg = true) (hd : t.done = 1) (lo : Bytes32 t.own) (lc : Bytes32 t.once) (bM : Byts M) (h0 : 48 ≤ n) (hn : n ≤ 4144) (hS : Sl w q n c M) (hA : ApartB b q n) (h1 : bothE t.once (M.take 32) t.own (M.take 32) ≠ 0) : Calls Try.prog 13 #[.pointer (some ⟨b, 0, none⟩), .slice q n c] w (StPost w b 58 (gRow m t) [] (bothE t.once (M.take 32) t.own (M.take 32))) := by
  obtain ⟨sb, off, A, AT, fz, rfl, hsb, hL⟩ := hS.at_ (by omega)
  have hsn : sb ∉ [b] := by simpa using hA (by omega) sb off rfl
  have hlM := hS.len
  have hcc := hS.cap
  have ho : (t.bg == (t.done == 0)) = false := by rw [hbg, hd]; rfl
  have hth : decide (t.done < 2) = true := by rw [hd]; rfl
  exact hreadA_no (some ⟨sb, off, none⟩) n c b m t hm ht 58 w hb hk ho hth hbg h0 hn (fun _ => gRow (m.s2 t (M.take 32) t.once (M.take 32) t.own (M.take 32)) ({t with their := (M.take 32)} : HT)) [] (bothE t.once (M.take 32) t.own (M.take 32)) (fun _ => []) (fun xb w3 hc => (hrs_no sb off n c M xb m t hm ht 58 w3 hc.row lo lc bM hlM hcc (hc.old sb _ hsb hsn).1 (hc.old sb _ hsb hsn).2 hL h0 (by omega) h1).mono (fun _ _ hx => hx.w)) h1
theorem hRA_ok (q : Option Addr) (n c : Nat) (M : List Int) (b : Nat) (m : Mx) (t : HT) (hm : m.Ok) (ht : t.Ok) (w : World) (hb : w.heap[b]? = some (.cells (gRow m t) 58 (0, 0))) (hk : t.kind ≠ 0) (hbg : t.bg = true) (hd : t.done = 1) (lo : Bytes32 t.own) (lc : Bytes32 t.once) (bM : Byts M) (h0 : 48 ≤ n) (hn : n ≤ 4144) (hS : Sl w q n c M) (hA : ApartB b q n) (h1 : bothE t.once (M.take 32) t.own (M.take 32) = 0) (h2 : (m.s3 t (M.take 32) t.once (M.take 32) t.own (M.take 32)).oE (M.drop 32) = 0) : Calls Try.prog 13 #[.pointer (some ⟨b, 0, none⟩), .slice q n c] w (StPost w b 58 (gRow ((m.s3 t (M.take 32) t.once (M.take 32) t.own (M.take 32)).dec (M.drop 32)) {t with their := M.take 32, done := t.done + 1}) ((m.s3 t (M.take 32) t.once (M.take 32) t.own (M.take 32)).oX (M.drop 32)) 0) := by
  obtain ⟨sb, off, A, AT, fz, rfl, hsb, hL⟩ := hS.at_ (by omega)
  have hsn : sb ∉ [b] := by simpa using hA (by omega) sb off rfl
  have hlM := hS.len
  have hcc := hS.cap
  have ho : (t.bg == (t.done == 0)) = false := by rw [hbg, hd]; rfl
  have hth : decide (t.done < 2) = true := by rw [hd]; rfl
  have hm' : ((m.s3 t (M.take 32) t.once (M.take 32) t.own (M.take 32)).dec (M.drop 32)).Ok := (hm.s3 _ _ _ _ _ _).dec _
  have lE : (M.take 32).length = 32 := by rw [List.length_take]; omega
  have h := hreadA_ok (some ⟨sb, off, none⟩) n c b m t hm ht 58 w hb hk ho hth hbg h0 hn ((m.s3 t (M.take 32) t.once (M.take 32) t.own (M.take 32)).dec (M.drop 32)) (fun _ => ({t with their := (M.take 32)} : HT)) ((m.s3 t (M.take 32) t.once (M.take 32) t.own (M.take 32)).oX (M.drop 32)) (fun _ => []) (fun xb w3 hc => by have h := hrs_end sb off n c M xb m t hm ht 58 w3 hc.row lo lc bM hlM hcc (hc.old sb _ hsb hsn).1 (hc.old sb _ hsb hsn).2 hL h0 (by omega) h1; rw [h2] at h; exact h.mono (fun _ _ hx => hx.w)) hm' (fun _ => ht.their_ lE) (fun _ => by show 0 ≤ t.done ∧ t.done ≤ 100; omega)
  exact h.mono (fun _ _ hx => hx.s)
end Sp
end
section
open Go Go.RowKit
namespace Sp
open F M
theorem tmod_cases (a m : Int) (hm : 0 < m) : (a.tmod m < 0 ∧ a.tmod m + m = a % m) ∨ (0 ≤ a.tmod m ∧ a.tmod m = a % m) := by
  have h1 := Int.emod_nonneg a (show m ≠ 0 by omega)
  have h2 := Int.emod_lt_of_pos a hm
  by_cases ha : 0 ≤ a
  · exact .inr ⟨by rw [Int.tmod_eq_emod_of_nonneg ha]; exact h1, Int.tmod_eq_emod_of_nonneg ha⟩
  · have h3 := Int.tmod_eq_emod (a := a) (b := m)
    split at h3
    · right
      rw [h3]
      omega
    · left
      omega
theorem bring_any (a m : Int) (hm : 0 < m) (hm2 : m < 4294967296) (w : World) :
    Calls Try.prog 15 #[.int .i64 a, .int .i64 m] w fun e w' => e = .returned (.int .i64 (a % m)) ∧ Below w.heap.size w w' := by
  have h1 := Int.emod_nonneg a (show m ≠ 0 by omega)
  have h2 := Int.emod_lt_of_pos a hm
  rcases tmod_cases a m hm with ⟨h3, h4⟩ | ⟨h3, h4⟩
  · have hw : IntKind.i64.wrap (a.tmod m + m) = a % m := by rw [h4, IntWalk.i64_in _ (by omega)]
    have hw2 : IntKind.i64.wrap (a.tmod m) = a.tmod m := IntWalk.i64_in _ (by omega)
    refine pureE Try.func15 Try.ntmps15 Try.results15 ?_
    repeat (first | (refine rgn 0 ?_; refine sEv ?_; refine nlx ?_) | (refine rgn 1 ?_; refine sEv ?_; refine sEv ?_; refine nlx ?_) | (refine rgn 3 ?_; refine sEv ?_; refine sEv ?_; refine SL.dv ?_; refine sEv ?_; refine nlx ?_) | (refine rgn 4 ?_; refine sEv ?_; refine sEv ?_; refine nlx ?_) | (refine rgn 5 ?_; (iterate 4 refine sEv ?_); refine nlx ?_) | (refine rgn 6 ?_; refine sEv ?_; refine sEv ?_; refine nlx ?_) | (refine zsq ?_; intro _ _) | (with_reducible refine zkN ?_) | (refine useK (by assumption) ?_) | (with_reducible first | refine zsS ?_ | refine zsR ?_) | (refine cdT ?_) | (refine cdF ?_))
    exact doneK.mk rfl (ResO.tmp rfl) (by simp only [hw]; rfl)
  · refine pureE Try.func15 Try.ntmps15 Try.results15 ?_
    repeat (first | (refine rgn 0 ?_; refine sEv ?_; refine nlx ?_) | (refine rgn 1 ?_; refine sEv ?_; refine sEv ?_; refine nlx ?_) | (refine rgn 3 ?_; refine sEv ?_; refine sEv ?_; refine SL.dv ?_; refine sEv ?_; refine nlx ?_) | (refine rgn 4 ?_; refine sEv ?_; refine sEv ?_; refine nlx ?_) | (refine rgn 6 ?_; refine sEv ?_; refine sEv ?_; refine nlx ?_) | (refine zsq ?_; intro _ _) | (with_reducible refine zkN ?_) | (refine useK (by assumption) ?_) | (with_reducible first | refine zsS ?_ | refine zsR ?_) | ((with_reducible show SP _ _ _ (Code.cond _ _ _) _ _ _); first | (refine cdF ?_)))
    exact doneK.mk rfl (ResO.tmp rfl) (by rw [h4]; rfl)
end Sp
end
section
open Go Go.RowKit
namespace Sp
open F M
structure PR where
  kind : Int
  A : List Int
  B : List Int
  pv : Value
  psk : List Int
  oa : List Int
  ob : List Int
  f : Value
  s : Value
structure PR.Ok (p : PR) : Prop where
  A : p.A.length = 32
  B : p.B.length = 32
  psk : p.psk.length = 32
  oa : p.oa.length = 32
  ob : p.ob.length = 32
  c : ∀ v, v = p.pv ∨ v = p.f ∨ v = p.s → v.oneCell' = true
@[irreducible] def prRow (p : PR) : Array Value := cat [#[.int .i64 p.kind], ints .u8 p.A, ints .u8 p.B, #[p.pv], ints .u8 p.psk, ints .u8 p.oa, ints .u8 p.ob, #[p.f], #[p.s]]
section
variable {p : PR}
theorem pq_size (hp : p.Ok) : (prRow p).size = 164 := by unfold prRow; simp [cat, ints_size, hp.A, hp.B, hp.psk, hp.oa, hp.ob]
theorem pq_kind (hp : p.Ok) : (prRow p)[0]? = some (.int .i64 p.kind) := by unfold prRow; exact cat_at (L := []) rfl
theorem pq_pkind (hp : p.Ok) (v : Int) : putAt (prRow p) 0 [.int .i64 v] = prRow {p with kind := v} := by unfold prRow; exact cat_put (L := []) rfl rfl
theorem pq_A (hp : p.Ok) : (prRow p).extract 1 (1 + 32) = ints .u8 p.A := by unfold prRow; exact cat_ex (L := [#[.int .i64 p.kind]]) (by simp [cat, ints_size, hp.A, hp.B, hp.psk, hp.oa, hp.ob]) (by simp [cat, ints_size, hp.A, hp.B, hp.psk, hp.oa, hp.ob])
theorem pq_B (hp : p.Ok) : (prRow p).extract 33 (33 + 32) = ints .u8 p.B := by unfold prRow; exact cat_ex (L := [#[.int .i64 p.kind], ints .u8 p.A]) (by simp [cat, ints_size, hp.A, hp.B, hp.psk, hp.oa, hp.ob]) (by simp [cat, ints_size, hp.A, hp.B, hp.psk, hp.oa, hp.ob])
theorem pq_pv (hp : p.Ok) : (prRow p)[65]? = some (p.pv) := by unfold prRow; exact cat_at (L := [#[.int .i64 p.kind], ints .u8 p.A, ints .u8 p.B]) (by simp [cat, ints_size, hp.A, hp.B, hp.psk, hp.oa, hp.ob])
theorem pq_psk (hp : p.Ok) : (prRow p).extract 66 (66 + 32) = ints .u8 p.psk := by unfold prRow; exact cat_ex (L := [#[.int .i64 p.kind], ints .u8 p.A, ints .u8 p.B, #[p.pv]]) (by simp [cat, ints_size, hp.A, hp.B, hp.psk, hp.oa, hp.ob]) (by simp [cat, ints_size, hp.A, hp.B, hp.psk, hp.oa, hp.ob])
theorem pq_oa (hp : p.Ok) : (prRow p).extract 98 (98 + 32) = ints .u8 p.oa := by unfold prRow; exact cat_ex (L := [#[.int .i64 p.kind], ints .u8 p.A, ints .u8 p.B, #[p.pv], ints .u8 p.psk]) (by simp [cat, ints_size, hp.A, hp.B, hp.psk, hp.oa, hp.ob]) (by simp [cat, ints_size, hp.A, hp.B, hp.psk, hp.oa, hp.ob])
theorem pq_ob (hp : p.Ok) : (prRow p).extract 130 (130 + 32) = ints .u8 p.ob := by unfold prRow; exact cat_ex (L := [#[.int .i64 p.kind], ints .u8 p.A, ints .u8 p.B, #[p.pv], ints .u8 p.psk, ints .u8 p.oa]) (by simp [cat, ints_size, hp.A, hp.B, hp.psk, hp.oa, hp.ob]) (by simp [cat, ints_size, hp.A, hp.B, hp.psk, hp.oa, hp.ob])
theorem pq_f (hp : p.Ok) : (prRow p)[162]? = some (p.f) := by unfold prRow; exact cat_at (L := [#[.int .i64 p.kind], ints .u8 p.A, ints .u8 p.B, #[p.pv], ints .u8 p.psk, ints .u8 p.oa, ints .u8 p.ob]) (by simp [cat, ints_size, hp.A, hp.B, hp.psk, hp.oa, hp.ob])
theorem pq_pf (hp : p.Ok) (v : Value) : putAt (prRow p) 162 [v] = prRow {p with f := v} := by unfold prRow; exact cat_put (L := [#[.int .i64 p.kind], ints .u8 p.A, ints .u8 p.B, #[p.pv], ints .u8 p.psk, ints .u8 p.oa, ints .u8 p.ob]) (by simp [cat, ints_size, hp.A, hp.B, hp.psk, hp.oa, hp.ob]) rfl
theorem pq_s (hp : p.Ok) : (prRow p)[163]? = some (p.s) := by unfold prRow; exact cat_at (L := [#[.int .i64 p.kind], ints .u8 p.A, ints .u8 p.B, #[p.pv], ints .u8 p.psk, ints .u8 p.oa, ints .u8 p.ob, #[p.f]]) (by simp [cat, ints_size, hp.A, hp.B, hp.psk, hp.oa, hp.ob])
theorem pq_ps (hp : p.Ok) (v : Value) : putAt (prRow p) 163 [v] = prRow {p with s := v} := by unfold prRow; exact cat_put (L := [#[.int .i64 p.kind], ints .u8 p.A, ints .u8 p.B, #[p.pv], ints .u8 p.psk, ints .u8 p.oa, ints .u8 p.ob, #[p.f]]) (by simp [cat, ints_size, hp.A, hp.B, hp.psk, hp.oa, hp.ob]) rfl
theorem pq_cells (hp : p.Ok) : ∀ u ∈ (prRow p).toList, u.oneCell' = true := by
  unfold prRow
  intro u hu
  simp only [cat, Array.toList_append, List.mem_append] at hu
  rcases hu with h | h | h | h | h | h | h | h | h | h
  all_goals first | exact ints_mem u h | (simp at h; done) | (simp at h; subst h; first | rfl | exact hp.c _ (.inl rfl) | exact hp.c _ (.inr (.inl rfl)) | exact hp.c _ (.inr (.inr rfl)))
theorem PR.Ok.kind_ (hp : p.Ok) (v : Int) : ({p with kind := v} : PR).Ok := ⟨hp.A, hp.B, hp.psk, hp.oa, hp.ob, hp.c⟩
theorem PR.Ok.f_ (hp : p.Ok) {v : Value} (hv : v.oneCell' = true) : ({p with f := v} : PR).Ok := ⟨hp.A, hp.B, hp.psk, hp.oa, hp.ob, fun x hx => by
  rcases hx with rfl | rfl | rfl
  · exact hp.c _ (.inl rfl)
  · exact hv
  · exact hp.c _ (.inr (.inr rfl))⟩
theorem PR.Ok.s_ (hp : p.Ok) {v : Value} (hv : v.oneCell' = true) : ({p with s := v} : PR).Ok := ⟨hp.A, hp.B, hp.psk, hp.oa, hp.ob, fun x hx => by
  rcases hx with rfl | rfl | rfl
  · exact hp.c _ (.inl rfl)
  · exact hp.c _ (.inr (.inl rfl))
  · exact hv⟩
theorem su_cells {u : SU} (h : u.pv.oneCell' = true) : ∀ x ∈ (suRow u).toList, x.oneCell' = true := by
  unfold suRow
  intro x hx
  simp only [cat, Array.toList_append, List.mem_append] at hx
  rcases hx with h' | h' | h' | h' | h' | h' | h'
  all_goals first | exact ints_mem x h' | (simp at h'; done) | (simp at h'; subst h'; first | rfl | exact h)
end
def p00 : PR := ⟨0, List.replicate 32 0, List.replicate 32 0, .slice none 0 0, List.replicate 32 0, List.replicate 32 0, List.replicate 32 0, .slice none 0 0, .slice none 0 0⟩
theorem zero_Pair : (Try.prog.info? 26).map (·.zero) = some (some (.agg (prRow p00))) := by unfold prRow; kernel_rfl
theorem p00_ok : p00.Ok := ⟨rfl, rfl, rfl, rfl, rfl, fun v hv => by rcases hv with rfl | rfl | rfl <;> rfl⟩
def u00 : SU := ⟨0, false, List.replicate 32 0, List.replicate 32 0, .slice none 0 0, List.replicate 32 0⟩
theorem zero_Setup : (Try.prog.info? 29).map (·.zero) = some (some (.agg (suRow u00))) := by unfold suRow; kernel_rfl
theorem u00_ok : u00.Ok := ⟨rfl, rfl, rfl⟩
def alI' (x : Int) : Nat → List Int
  | 0 => List.replicate 32 0
  | i + 1 => (alI' x i).set i x
@[irreducible] def alI (x : Int) (i : Nat) : List Int := alI' x i
theorem alI_0 (x : Int) : alI x 0 = List.replicate 32 0 := by unfold alI; rfl
theorem alI_s (x : Int) (i : Nat) : alI x (i + 1) = (alI x i).set i x := by unfold alI; rfl
theorem alI_length (x : Int) : ∀ i, (alI x i).length = 32
  | 0 => by rw [alI_0]; simp
  | i + 1 => by rw [alI_s]; simp [alI_length x i]
attribute [simp] alI_length
theorem alI_32 (x : Int) : alI x 32 = List.replicate 32 x := by unfold alI; kernel_rfl
theorem all_any (x : Int) (w : World) : Calls Try.prog 17 #[.int .u8 x] w (fun e w' => e = .returned (.agg (ints .u8 (List.replicate 32 x))) ∧ Below w.heap.size w w') := by
  refine pureE Try.func17 Try.ntmps17 Try.results17 ?_
  repeat (first | (refine rgn 0 ?_; refine SL.al zero_23 ?_; intro rb; refine nlx ?_) | (refine rgn 1 ?_; refine SL.al zero_23 ?_; intro kb; refine nlx ?_) | (refine rgn 2 ?_; refine sEv ?_; refine nlx ?_) | (refine zsq ?_; intro _ _) | (with_reducible refine zkN ?_) | (refine useK (by assumption) ?_) | (with_reducible first | refine zsB ?_ | refine zkX ?_ | refine zkR ?_ | refine zbN ?_ | refine zbR ?_ | refine zbE ?_ | refine zbX ?_ | refine zsS ?_ | refine zsR ?_ | refine zsX ?_) | (refine cdT ?_) | (refine cdF ?_))
  refine SP.loopN (fun i l bs => l = [.int .u8 x, nth l 1, .pointer (some ⟨rb, 0, none⟩), .pointer (some ⟨kb, 0, none⟩), .int .i64 ((i : Nat)), nth l 5, nth l 6, nth l 7, nth l 8, nth l 9, nth l 10, nth l 11, nth l 12] ∧ bs = [(kb, ints .u8 (alI x i), 23), (rb, ints .u8 (List.replicate 32 0), 23)]) 32 ⟨rfl, by rw [alI_0]⟩ ?_
  rintro i lfi _ hki ⟨hli, rfl⟩
  refine SP.cast hli ?_
  clear hli
  by_cases hlti : i < 32
  · have hi1 : IntKind.i64.wrap ((i : Int) + 1) = ((i + 1 : Nat) : Int) := by rw [IntWalk.i64_in _ (by omega)]; omega
    repeat (first | (refine rgn 3 ?_; refine sEv ?_; refine sEv ?_; refine nlx ?_) | (refine rgn 4 ?_; (iterate 3 refine sEv ?_); refine nlx ?_) | (refine rgn 5 ?_; refine sEv ?_; refine sEv ?_; refine SL.ixA tabOk ?_; refine SL.stI tabOk ?_; refine nlx ?_) | (refine zsq ?_; intro _ _) | (with_reducible refine zkN ?_) | (refine useK (by assumption) ?_) | (with_reducible first | refine zsB ?_ | refine zkX ?_ | refine zkR ?_ | refine zbN ?_ | refine zbR ?_ | refine zbE ?_ | refine zbX ?_ | refine zsS ?_ | refine zsR ?_ | refine zsX ?_) | (refine cdT ?_) | (refine cdF ?_))
    simp only [hi1]
    exact ⟨hlti, rfl, by rw [alI_s]⟩
  · have hendi : i = 32 := by omega
    replace hendi := Lib.hid hendi
    repeat (first | (refine rgn 3 ?_; refine sEv ?_; refine sEv ?_; refine nlx ?_) | (refine zsq ?_; intro _ _) | (with_reducible refine zkN ?_) | (refine useK (by assumption) ?_) | (with_reducible first | refine zsB ?_ | refine zkX ?_ | refine zkR ?_ | refine zbN ?_ | refine zbR ?_ | refine zbE ?_ | refine zbX ?_ | refine zsS ?_ | refine zsR ?_ | refine zsX ?_) | (refine cdT ?_) | (refine cdF ?_))
    have hq := hendi.out; clear hendi; subst hq
    rw [alI_32]
    repeat (first | (refine rgn 6 ?_; refine SL.ldR tabOk ?_; refine SL.stR tabOk ?_; refine nlx ?_) | (refine zsq ?_; intro _ _) | (with_reducible refine zkN ?_) | (refine useK (by assumption) ?_) | (with_reducible first | refine zsB ?_ | refine zkX ?_ | refine zkR ?_ | refine zbN ?_ | refine zbR ?_ | refine zbE ?_ | refine zbX ?_ | refine zsS ?_ | refine zsR ?_ | refine zsX ?_) | (refine cdT ?_) | (refine cdF ?_))
    exact doneK.mk rfl (ResO.cell tabOk rfl rfl rfl (RdA.own g1) (by simp [ints_size])) rfl
theorem made_any (p : PR) (hp : p.Ok) (q1 q2 : Option Addr) (n1 c1 n2 c2 : Nat) (hf : p.f = .slice q1 n1 c1) (hs : p.s = .slice q2 n2 c2) (hc1 : n1 ≤ c1) (hc2 : n2 ≤ c2) (w : World) : Calls Try.prog 7 #[.agg (prRow p)] w (fun e w' => e = .returned (.agg (prRow ({p with kind := 1 + p.kind % 2, f := .slice q1 (min n1 4096) c1, s := .slice q2 (min n2 4096) c2} : PR))) ∧ Below w.heap.size w w') := by
  have hadd : some (Value.int .i64 (IntKind.i64.wrap (1 + p.kind % 2))) = some (Value.int .i64 (1 + p.kind % 2)) := by rw [IntWalk.i64_in _ (by omega)]
  have hp1 : (({p with kind := 1 + p.kind % 2} : PR)).Ok := hp.kind_ _
  have hp2 : (({p with kind := 1 + p.kind % 2, f := .slice q1 (min n1 4096) c1} : PR)).Ok := hp1.f_ rfl
  have hp3 : (({p with kind := 1 + p.kind % 2, f := .slice q1 (min n1 4096) c1, s := .slice q2 (min n2 4096) c2} : PR)).Ok := hp2.s_ rfl
  refine pureE Try.func7 Try.ntmps7 Try.results7 ?_
  repeat (first | (refine rgn 0 ?_; refine SL.bx ?_; intro pb; refine SL.al zero_Pair ?_; intro rb; refine nlx ?_) | (refine rgn 1 ?_; refine sEv ?_; refine SL.ldC tabOk ?_ (hv := pq_kind hp); refine SL.v (ValO.call ent_15 _ rfl _ (fun w1 hw1 => bring_any p.kind 2 (by decide) (by decide) w1)) ?_; refine SL.v (v := .int .i64 (1 + p.kind % 2)) (ValO.ev tabOk hadd) ?_; refine sEv ?_; refine SL.stP tabOk ?_ (hsz := by rw [pq_size hp]; decide) (hA := pq_pkind hp _); refine nlx ?_) | (refine rgn 2 ?_; refine sEv ?_; refine SL.ldC tabOk ?_ (hv := (pq_f hp1).trans (by rw [hf])); refine sEv ?_; refine SL.ldC tabOk ?_ (hv := (pq_f hp1).trans (by rw [hf])); refine SL.v (ValO.len tabOk (by rfl)) ?_; refine SL.v (v := .int .i64 ((min n1 4096 : Nat) : Int)) (ValO.min .i64 _ _ rfl rfl _ (by split <;> omega)) ?_; refine SL.v (ValO.cutF (z := min n1 4096) tabOk rfl rfl (by first | rfl | (simp [bnd, evL]; done) | (simp [bnd, evL]; omega)) (by omega)) ?_; refine sEv ?_; refine SL.stP tabOk ?_ (v := .slice q1 (min n1 4096) c1) (hsz := by rw [pq_size hp1]; decide) (hA := pq_pf hp1 _); refine nlx ?_) | (refine rgn 3 ?_; refine sEv ?_; refine SL.ldC tabOk ?_ (hv := (pq_s hp2).trans (by rw [hs])); refine sEv ?_; refine SL.ldC tabOk ?_ (hv := (pq_s hp2).trans (by rw [hs])); refine SL.v (ValO.len tabOk (by rfl)) ?_; refine SL.v (v := .int .i64 ((min n2 4096 : Nat) : Int)) (ValO.min .i64 _ _ rfl rfl _ (by split <;> omega)) ?_; refine SL.v (ValO.cutF (z := min n2 4096) tabOk rfl rfl (by first | rfl | (simp [bnd, evL]; done) | (simp [bnd, evL]; omega)) (by omega)) ?_; refine sEv ?_; refine SL.stP tabOk ?_ (v := .slice q2 (min n2 4096) c2) (hsz := by rw [pq_size hp2]; decide) (hA := pq_ps hp2 _); refine nlx ?_) | (refine rgn 4 ?_; refine SL.ldR tabOk ?_ (hn := pq_size hp3); refine SL.stA tabOk (pq_cells hp3) ?_ (hn := pq_size hp3) (hsz := pq_size p00_ok); refine nlx ?_) | (refine zsq ?_; intro _ _) | (with_reducible refine zkN ?_) | (refine useK (by assumption) ?_) | (with_reducible first | refine zsB ?_ | refine zkX ?_ | refine zkR ?_ | refine zbN ?_ | refine zbR ?_ | refine zbE ?_ | refine zbX ?_ | refine zsS ?_ | refine zsR ?_ | refine zsX ?_) | (refine cdT ?_) | (refine cdF ?_))
  exact doneK.mk rfl (ResO.cell tabOk rfl rfl rfl (RdA.own g0) (pq_size hp3)) rfl
end Sp
end
section
open Go Go.RowKit
namespace Sp
open F M
set_option maxRecDepth 100000 in
theorem su_built1 (k : Int) (q : Option Addr) (n c : Nat) {a u s : List Int} (ha : a.length = 32) (hu : u.length = 32) (hs : s.length = 32) : Try.prog.built 29 [(0, .int .i64 k), (1, .bool true), (2, .agg (ints .u8 a)), (3, .agg (ints .u8 u)), (4, .slice q n c), (5, .agg (ints .u8 s))] = some (suRow ⟨k, true, a, u, .slice q n c, s⟩) := by
  obtain ⟨a0, a1, a2, a3, a4, a5, a6, a7, a8, a9, a10, a11, a12, a13, a14, a15, a16, a17, a18, a19, a20, a21, a22, a23, a24, a25, a26, a27, a28, a29, a30, a31, rfl⟩ := list32 ha
  obtain ⟨b0, b1, b2, b3, b4, b5, b6, b7, b8, b9, b10, b11, b12, b13, b14, b15, b16, b17, b18, b19, b20, b21, b22, b23, b24, b25, b26, b27, b28, b29, b30, b31, rfl⟩ := list32 hu
  obtain ⟨c0, c1, c2, c3, c4, c5, c6, c7, c8, c9, c10, c11, c12, c13, c14, c15, c16, c17, c18, c19, c20, c21, c22, c23, c24, c25, c26, c27, c28, c29, c30, c31, rfl⟩ := list32 hs
  unfold suRow
  kernel_rfl
set_option maxRecDepth 100000 in
theorem su_built2 (k : Int) (q : Option Addr) (n c : Nat) {a s : List Int} (ha : a.length = 32) (hs : s.length = 32) : Try.prog.built 29 [(0, .int .i64 k), (2, .agg (ints .u8 a)), (4, .slice q n c), (5, .agg (ints .u8 s))] = some (suRow ⟨k, false, a, List.replicate 32 0, .slice q n c, s⟩) := by
  obtain ⟨a0, a1, a2, a3, a4, a5, a6, a7, a8, a9, a10, a11, a12, a13, a14, a15, a16, a17, a18, a19, a20, a21, a22, a23, a24, a25, a26, a27, a28, a29, a30, a31, rfl⟩ := list32 ha
  obtain ⟨b0, b1, b2, b3, b4, b5, b6, b7, b8, b9, b10, b11, b12, b13, b14, b15, b16, b17, b18, b19, b20, b21, b22, b23, b24, b25, b26, b27, b28, b29, b30, b31, rfl⟩ := list32 hs
  unfold suRow
  kernel_rfl
def suA (p : PR) : SU := ⟨p.kind, true, p.A, pubL p.B, p.pv, p.psk⟩
def suB (p : PR) : SU := ⟨p.kind, false, p.B, List.replicate 32 0, p.pv, p.psk⟩
theorem suA_ok {p : PR} (hp : p.Ok) : (suA p).Ok := ⟨hp.A, pubL_length _, hp.psk⟩
theorem suB_ok {p : PR} (hp : p.Ok) : (suB p).Ok := ⟨hp.B, rfl, hp.psk⟩
theorem setups_any (p : PR) (hp : p.Ok) (bB : Bytes32 p.B) (q : Option Addr) (n c : Nat) (hpv : p.pv = .slice q n c) (w : World) : Calls Try.prog 8 #[.agg (prRow p)] w (fun e w' => e = .returned (.tuple #[.agg (suRow (suA p)), .agg (suRow (suB p))]) ∧ Below w.heap.size w w') := by
  have ha : (⟨p.kind, true, p.A, pubL p.B, .slice q n c, p.psk⟩ : SU).Ok := ⟨hp.A, pubL_length _, hp.psk⟩
  have hb : (⟨p.kind, false, p.B, List.replicate 32 0, .slice q n c, p.psk⟩ : SU).Ok := ⟨hp.B, rfl, hp.psk⟩
  have ea : suA p = ⟨p.kind, true, p.A, pubL p.B, .slice q n c, p.psk⟩ := by unfold suA; rw [hpv]
  have eb : suB p = ⟨p.kind, false, p.B, List.replicate 32 0, .slice q n c, p.psk⟩ := by unfold suB; rw [hpv]
  rw [ea, eb]
  refine pureE Try.func8 Try.ntmps8 Try.results8 ?_
  repeat (first | (refine rgn 0 ?_; refine SL.bx ?_ (T := 26); intro pb; refine SL.al zero_Setup ?_; intro xb; refine SL.al zero_Setup ?_; intro yb; refine nlx ?_) | ((with_reducible show SP _ _ _ (Code.region _ _ true) _ _ _); first | (refine SPa (id := 1) [21, 22] [12, 13, 14, 15, 16, 17, 18, 19, 20] ([(pb, prRow p, 26)]) [0, 1, 2, 3, 4, 5, 6, 7, 8, 9, 10, 11, 12, 13, 14, 15, 16, 17, 18, 19, 20, 21, 22] follows ?_; refine SF.e tabOk ?_; refine SF.ldC tabOk ?_ (hv := (pq_kind hp)); refine SF.e tabOk ?_; refine SF.ldP tabOk ?_ (hn := by rw [pq_size hp]; decide) (hB := pq_A hp); refine SF.e tabOk ?_; refine SF.ldP tabOk ?_ (hn := by rw [pq_size hp]; decide) (hB := pq_B hp); refine SF.v (ValO.call ent_18 _ rfl _ (fun w1 hw1 => pub_h p.B bB w1)) ?_; refine SF.e tabOk ?_; refine SF.ldC tabOk ?_ (hv := (pq_pv hp).trans (by rw [hpv])); refine SF.e tabOk ?_; refine SF.ldP tabOk ?_ (hn := by rw [pq_size hp]; decide) (hB := pq_psk hp); refine SF.v (ValO.build (by first | (dsimp only [List.map, evL, nth]; done) | (dsimp only [List.map, evL, nth]; rfl)) (su_built1 p.kind q n c hp.A (pubL_length _) hp.psk)) ?_; refine SF.valK rfl rfl rfl rfl (fun m hm => ValO.ev tabOk (by rfl)) bpp ?_; refine SF.vK (fun m0 hm0 => ValO.ldCell tabOk pb 0 rfl _ _ rfl rfl _ (RdA.kept hm0 g0) _ ((pq_kind hp))) ?_; refine SF.valK rfl rfl rfl rfl (fun m hm => ValO.ev tabOk (by rfl)) bpp ?_; refine SF.vK (fun m0 hm0 => ValO.ldPart tabOk pb 33 rfl _ _ rfl rfl _ (RdA.kept hm0 g0) (by rw [pq_size hp]; decide) _ (pq_B hp)) ?_; refine SF.valK rfl rfl rfl rfl (fun m hm => ValO.ev tabOk (by rfl)) bpp ?_; refine SF.vK (fun m0 hm0 => ValO.ldCell tabOk pb 65 rfl _ _ rfl rfl _ (RdA.kept hm0 g0) _ ((pq_pv hp).trans (by rw [hpv]))) ?_; refine SF.valK rfl rfl rfl rfl (fun m hm => ValO.ev tabOk (by rfl)) bpp ?_; refine SF.vK (fun m0 hm0 => ValO.ldPart tabOk pb 66 rfl _ _ rfl rfl _ (RdA.kept hm0 g0) (by rw [pq_size hp]; decide) _ (pq_psk hp)) ?_; refine SF.vK (fun m0 hm0 => ValO.build (by first | (dsimp only [List.map, evL, nth]; done) | (dsimp only [List.map, evL, nth]; rfl)) (su_built2 p.kind q n c hp.B hp.psk)) ?_; refine SF.stA tabOk (su_cells rfl) ?_ (hn := su_size ha) (hsz := su_size u00_ok); refine SF.stA tabOk (su_cells rfl) ?_ (hn := su_size hb) (hsz := su_size u00_ok); refine SF.done ?_)) | (refine zsq ?_; intro _ _) | (with_reducible refine zkN ?_) | (refine useK (by assumption) ?_) | (with_reducible first | refine zsB ?_ | refine zkX ?_ | refine zkR ?_ | refine zbN ?_ | refine zbR ?_ | refine zbE ?_ | refine zbX ?_ | refine zsS ?_ | refine zsR ?_ | refine zsX ?_) | (refine cdT ?_) | (refine cdF ?_))
  exact doneK.mk rfl (ResO.cell2 tabOk rfl rfl rfl (RdA.own g1) (su_size ha) rfl rfl rfl (RdA.own g0) (su_size hb)) rfl
end Sp
end
section
open Go Go.RowKit
namespace Sp
open F M
section
variable {P : Program} {ops : Array Oper} {X : Exit → Act → World → Prop} {ys : List Oper}
theorem wpList_app : ∀ (xs : List Oper) (a : Act) (w : World), wpList P ops (Exit.then (wpList P ops X ys) X) xs a w → wpList P ops X (xs ++ ys) a w
  | [], _, _, h => h
  | o :: xs, a, w, h => by
    show wpList P ops X (o :: (xs ++ ys)) a w
    unfold wpList at h ⊢
    split
    · rename_i hw
      rw [if_pos hw] at h
      rcases h with h | ⟨h1, h2⟩
      · refine .inl ?_
        have h2 := Oper.wp_mono (K' := wpList P ops X (xs ++ ys)) (fun a w h => wpList_app xs a w h) h
        unfold Oper.wp at h2 ⊢
        revert h2
        generalize (execOp a.eval o).run P w = r
        intro h2
        cases r with
        | ok nx w' => cases nx <;> exact h2
        | halt x w' => cases x <;> exact h2
      · exact .inr ⟨h1, h2⟩
    · rename_i hw
      rw [if_neg hw] at h
      exact wpList_app xs _ _ h
theorem rawL_chunk {w0 W : World} {mu : List Nat} {bs : Mem} {l : List Value} {xs : List Oper} (hw : OwnM w0 mu W bs) (hx : ∀ K : List Value → Mem → Prop, (∀ l bs, (∀ W', OwnM w0 mu W' bs → wpList P ops X ys ⟨l.toArray, []⟩ W') → K l bs) → SL P ops w0 mu xs (fun e l bs => e = .normal ∧ K l bs) l bs) :
    wpList P ops X (xs ++ ys) ⟨l.toArray, []⟩ W :=
  wpList_app xs _ _ ((hx _ fun _ _ h => h).run W _ hw (by rintro e l' bs' W' ⟨rfl, hR⟩ hw'; exact hR W' hw'))
theorem rawL_bytesC {tab : Tab} (ht : TabOk P tab) {w0 W : World} {mu : List Nat} {bs : Mem} {l : List Value} {t e n by_ sz : Nat} {parts : Array (Nat × Operand)} {cells : Array Value} {d1 : Nat} {dst2 : Option Tmp} {ty ty2 : TypeId} {pos pos2 : String} {af af2 : Array Edge} (hw : OwnM w0 mu W bs)
    (hl : look tab t = some (.sl e 1 by_, sz)) (hle : look tab e = some (.int .u8, 1)) (hz : (P.info? e).map (·.zero) = some (some (.int .u8 0))) (hn : 0 < n) (hs : n ≤ 16777216)
    {vals : List (Nat × Value)} (hv : parts.toList.map (fun p => (p.1, evL l p.2)) = vals)
    (hf : Instr.fill (fun i => some (i * 1, 1)) ((Array.range (n * 1)).map ((Value.cells (.int .u8 0))[· % (Value.cells (.int .u8 0)).size]!)) vals = some cells)
    {l1 l' : Nat → List Value} (hp : ∀ b, putL l (some d1) (.slice (some ⟨b, 0, none⟩) n n) = l1 b) (hx : ∀ b, evL (l1 b) (.tmp d1) = .slice (some ⟨b, 0, none⟩) n n) (hp2 : ∀ b, putL (l1 b) dst2 (.slice (some ⟨b, 0, none⟩) n n) = l' b)
    (h : ∀ w1 b fz, OwnM w0 mu w1 bs → Below W.heap.size W w1 → w1.heap[b]? = some (.cells cells e fz) → b ∉ bs.map (·.1) → W.heap.size ≤ b → wpList P ops X ys ⟨(l' b).toArray, []⟩ w1) :
    wpList P ops X (⟨some d1, .buildSlice t n parts, ty, pos, af, none⟩ :: ⟨dst2, .convert t t (.tmp d1), ty2, pos2, af2, none⟩ :: ys) ⟨l.toArray, []⟩ W := by
  subst hv
  obtain ⟨hu, hsz, _⟩ := td_sl (look_ok ht hl)
  have hue := td_int (look_ok ht hle)
  cases hq : P.info? e with
  | none => simp [hq] at hsz
  | some inf =>
    have hs1 : inf.size = 1 := by simpa [hq] using hsz
    have hz1 : inf.zero = some (.int .u8 0) := by simpa [hq] using hz
    refine wpList_plain rfl fun K hK => ?_
    refine wp_buildSlice t e n parts rfl cells inf _ hu hq hz1 (by rw [hs1]; omega) (by rw [hs1]; omega) ?_ ?_
    · rw [Array.toList_map, ← hf, hs1]
      simp only [evL_eq]
    · refine hK _ _ ?_
      rw [putL_eq, hp]
      refine wpList_plain rfl fun K hK => ?_
      have hc := Go.Lib.run_convert_bytes_const (P := P) W t e cells n n hu hue
      unfold Oper.wp execOp
      simp only [evL_eq, hx, Sem.run_bind, hc, Result.andThen_ok, Sem.run_pure]
      refine hK _ _ ?_
      rw [putL_eq, hp2]
      have hbl : Below W.heap.size W (W.alloc (.cells cells e (cells.size, cells.size + 1))) := (Below.refl _ W).alloc (Nat.le_refl _) _
      refine h _ _ _ (hw.grow hbl) hbl (heap_alloc_new _ _) (fun hm => ?_) (Nat.le_refl _)
      obtain ⟨p, hp', he⟩ := List.mem_map.1 hm
      have := hw.lt hp'
      omega
end
end Sp
end
section
open Go Go.RowKit
namespace Sp
open F M
def usP (x y z : Nat) : PR := ⟨1, (List.replicate 32 1), (List.replicate 32 2), .slice (some ⟨x, 0, none⟩) 1 1, (List.replicate 32 0), (List.replicate 32 3), (List.replicate 32 4), .slice (some ⟨y, 0, none⟩) 5 5, .slice (some ⟨z, 0, none⟩) 4 4⟩
theorem usP_ok (x y z : Nat) : (usP x y z).Ok := ⟨rfl, rfl, rfl, rfl, rfl, fun v hv => by rcases hv with rfl | rfl | rfl <;> rfl⟩
set_option maxRecDepth 100000 in
theorem us_built (x y z : Nat) : Try.prog.built 26 [(0, .int .i64 1), (1, .agg (ints .u8 (List.replicate 32 1))), (2, .agg (ints .u8 (List.replicate 32 2))), (3, .slice (some ⟨x, 0, none⟩) 1 1), (5, .agg (ints .u8 (List.replicate 32 3))), (6, .agg (ints .u8 (List.replicate 32 4))), (7, .slice (some ⟨y, 0, none⟩) 5 5), (8, .slice (some ⟨z, 0, none⟩) 4 4)] = some (prRow (usP x y z)) := by unfold prRow; kernel_rfl
def usPro : List Int := [112]
def usOne : List Int := [104, 101, 108, 108, 111]
def usTwo : List Int := [119, 101, 108, 108]
def UsPost (w : World) (e : Ending) (w' : World) : Prop := ∃ x y z, e = .returned (.agg (prRow (usP x y z))) ∧ Below w.heap.size w w' ∧ Sl w' (some ⟨x, 0, none⟩) 1 1 usPro ∧ Sl w' (some ⟨y, 0, none⟩) 5 5 usOne ∧ Sl w' (some ⟨z, 0, none⟩) 4 4 usTwo
theorem us_c0 : Instr.fill (fun i => some (i * 1, 1)) ((Array.range (1 * 1)).map ((Value.cells (.int .u8 0))[· % (Value.cells (.int .u8 0)).size]!)) [(0, .int .u8 112)] = some (ints .u8 (usPro)) := by unfold usPro; kernel_rfl
theorem us_c1 : Instr.fill (fun i => some (i * 1, 1)) ((Array.range (5 * 1)).map ((Value.cells (.int .u8 0))[· % (Value.cells (.int .u8 0)).size]!)) [(0, .int .u8 104), (1, .int .u8 101), (2, .int .u8 108), (3, .int .u8 108), (4, .int .u8 111)] = some (ints .u8 (usOne)) := by unfold usOne; kernel_rfl
theorem us_c2 : Instr.fill (fun i => some (i * 1, 1)) ((Array.range (4 * 1)).map ((Value.cells (.int .u8 0))[· % (Value.cells (.int .u8 0)).size]!)) [(0, .int .u8 119), (1, .int .u8 101), (2, .int .u8 108), (3, .int .u8 108)] = some (ints .u8 (usTwo)) := by unfold usTwo; kernel_rfl
theorem usual_any (w : World) : Calls Try.prog 16 #[] w (UsPost w) := by
  refine calls_of_wp Try.func16 rfl ?_
  rw [show (#[] : Array Value) ++ Array.replicate _ undef = ([undef, undef, undef, undef, undef, undef, undef, undef, undef, undef, undef, undef] : List Value).toArray from (by simp only [Try.ntmps16, List.size_toArray, List.length_cons, List.length_nil, Nat.reduceAdd, Nat.reduceSub, Array.replicate_succ, Array.replicate_zero, List.push_toArray, List.append_toArray, List.nil_append, List.cons_append])]
  refine raw_k (OwnM.start w) (fun K hK => ?_)
  repeat (first | (refine rgn 0 ?_; refine SL.al zero_Pair ?_; intro tb; refine nlx ?_) | (refine zsq ?_; intro _ _) | (with_reducible refine zkN ?_) | (refine useK (by assumption) ?_) | (with_reducible first | refine zsB ?_ | refine zkX ?_ | refine zkR ?_ | refine zbN ?_ | refine zbR ?_ | refine zbE ?_ | refine zbX ?_ | refine zsS ?_ | refine zsR ?_ | refine zsX ?_) | (refine cdT ?_) | (refine cdF ?_))
  refine ⟨rfl, hK _ _ (fun W0 hw0 => ?_)⟩
  clear hK K
  refine wp_seq (wp_region_lit ?_)
  refine rawL_chunk (xs := [_, _]) hw0 (fun K hK => ?_)
  refine SL.v (ValO.call ent_17 _ rfl _ (fun w1 hw1 => all_any 1 w1)) ?_
  refine SL.v (ValO.call ent_17 _ rfl _ (fun w1 hw1 => all_any 2 w1)) ?_
  refine SL.nil ?_
  refine ⟨rfl, hK _ _ (fun W1 hW1 => ?_)⟩
  clear hK K
  refine rawL_bytesC tabOk hW1 rfl rfl zero_u8 (by decide) (by decide) rfl us_c0 (fun _ => bpp) (fun _ => rfl) (fun _ => bpp) (fun v1 x fz1 hv1 bl1 r1 nb1 ge1 => ?_)
  refine rawL_chunk (xs := [_, _]) (OwnM.start1 v1 (hv1.block (List.mem_cons_self ..))) (fun K hK => ?_)
  refine SL.v (ValO.call ent_17 _ rfl _ (fun w1 hw1 => all_any 3 w1)) ?_
  refine SL.v (ValO.call ent_17 _ rfl _ (fun w1 hw1 => all_any 4 w1)) ?_
  refine SL.nil ?_
  refine ⟨rfl, hK _ _ (fun W2 hW2 => ?_)⟩
  clear hK K
  refine rawL_bytesC tabOk hW2 rfl rfl zero_u8 (by decide) (by decide) rfl us_c1 (fun _ => bpp) (fun _ => rfl) (fun _ => bpp) (fun v2 y fz2 hv2 bl2 r2 nb2 ge2 => ?_)
  refine rawL_bytesC tabOk (OwnM.start1 v2 (hv2.block (List.mem_cons_self ..))) rfl rfl zero_u8 (by decide) (by decide) rfl us_c2 (fun _ => bpp) (fun _ => rfl) (fun _ => bpp) (fun v3 z fz3 hv3 bl3 r3 nb3 ge3 => ?_)
  refine raw_rest (id := 1) (Q := doneK Try.prog v3 [tb] #[.cell 0 26] (fun v' bs' => v' = .agg (prRow (usP x y z)))) (OwnM.start1 v3 (hv3.block (List.mem_cons_self ..))) ?_ ?_
  · refine SL.v (ValO.build (by first | (dsimp only [List.map, evL, nth]; done) | (dsimp only [List.map, evL, nth]; rfl)) (us_built x y z)) ?_
    refine SL.stA tabOk (pq_cells (usP_ok x y z)) ?_ (hn := pq_size (usP_ok x y z)) (hsz := pq_size p00_ok)
    refine SL.nil ?_
    refine thenK_normal ?_
    repeat (first | (refine zsq ?_; intro _ _) | (with_reducible refine zkN ?_) | (refine useK (by assumption) ?_) | (with_reducible first | refine zsB ?_ | refine zkX ?_ | refine zkR ?_ | refine zbN ?_ | refine zbR ?_ | refine zbE ?_ | refine zbX ?_ | refine zsS ?_ | refine zsR ?_ | refine zsX ?_) | (refine cdT ?_) | (refine cdF ?_))
    exact doneK.mk rfl (ResO.cell tabOk rfl rfl rfl (RdA.own g0) (pq_size (usP_ok x y z))) rfl
  · refine after_done Try.results16 (fun v bs W hv hW => ⟨x, y, z, by rw [hv], ?_, ?_, ?_, ?_⟩)
    · exact (OwnM.comp (OwnM.comp (OwnM.comp hv1 hv2) hv3) hW).below
    · have h1 : v2.heap[x]? = some (.cells (ints .u8 usPro) 5 fz1) := by rw [hv2.rest x (Array.getElem?_eq_some_iff.1 r1).1 (by simpa using nb1)]; exact r1
      have h2 : v3.heap[x]? = some (.cells (ints .u8 usPro) 5 fz1) := by rw [hv3.rest x (Array.getElem?_eq_some_iff.1 h1).1 (by simpa using nb1)]; exact h1
      have h3 : W.heap[x]? = some (.cells (ints .u8 usPro) 5 fz1) := by rw [hW.rest x (Array.getElem?_eq_some_iff.1 h2).1 (by simpa using nb1)]; exact h2
      exact Sl.mk' (c := 1) h3 (Lies.whole usPro) (by decide)
    · have h2 : v3.heap[y]? = some (.cells (ints .u8 usOne) 5 fz2) := by rw [hv3.rest y (Array.getElem?_eq_some_iff.1 r2).1 (by simpa using nb2)]; exact r2
      have h3 : W.heap[y]? = some (.cells (ints .u8 usOne) 5 fz2) := by rw [hW.rest y (Array.getElem?_eq_some_iff.1 h2).1 (by simpa using nb2)]; exact h2
      exact Sl.mk' (c := 5) h3 (Lies.whole usOne) (by decide)
    · have h3 : W.heap[z]? = some (.cells (ints .u8 usTwo) 5 fz3) := by rw [hW.rest z (Array.getElem?_eq_some_iff.1 r3).1 (by simpa using nb3)]; exact r3
      exact Sl.mk' (c := 4) h3 (Lies.whole usTwo) (by decide)
end Sp
end
section
open Go Go.RowKit
namespace Sp
open F M
structure PK (p : PR) : Prop where
  ok : p.Ok
  A : Bytes32 p.A
  B : Bytes32 p.B
  oa : Bytes32 p.oa
  ob : Bytes32 p.ob
  k : p.kind = 1 ∨ p.kind = 2
def TA0 (p : PR) (r : Nat) : HT := {HT.new p.kind true p.A p.psk with rp := .pointer (some ⟨r, 0, none⟩)}
def TA1 (p : PR) (r : Nat) : HT := {TA0 p r with once := p.oa, done := 1}
def TB0 (p : PR) : HT := HT.new p.kind false p.B p.psk
def TB1 (p : PR) (r : Nat) : HT := {TB0 p with their := pubL p.oa, rp := .pointer (some ⟨r, 0, none⟩), done := 1}
def TB2 (p : PR) (r : Nat) : HT := {TB1 p r with once := p.ob, done := 2}
def TA2 (p : PR) (r : Nat) : HT := {TA1 p r with their := pubL p.ob, done := 2}
@[irreducible] def M0 (p : PR) (P : List Int) : Mx := Mx.nw p.kind P (pubL p.B)
@[irreducible] def M1 (p : PR) (P F : List Int) : Mx := ((M0 p P).f3 {TA0 p 0 with once := p.oa} (pubL p.B)).enc F
@[irreducible] def X1 (p : PR) (P F : List Int) : List Int := fstX (M0 p P) {TA0 p 0 with once := p.oa} (pubL p.B) F
@[irreducible] def M2 (p : PR) (P F S : List Int) : Mx := ((M1 p P F).s3 {TB1 p 0 with once := p.ob} (pubL p.ob) p.ob (pubL p.oa) p.ob (pubL p.A)).enc S
@[irreducible] def X2 (p : PR) (P F S : List Int) : List Int := sndX (M1 p P F) {TB1 p 0 with once := p.ob} (pubL p.A) S
section
variable {p : PR} {P F S : List Int}
theorem M0_ok : (M0 p P).Ok := by unfold M0; exact Mx.nw_ok _ _ _
theorem M1_ok : (M1 p P F).Ok := by unfold M1; exact (M0_ok.f3 _ _).enc _
theorem M2_ok : (M2 p P F S).Ok := by unfold M2; exact (M1_ok.s3 _ _ _ _ _ _).enc _
theorem X1_len : (X1 p P F).length = F.length + 96 := by unfold X1; exact fstX_len _ _ _ _
theorem X2_len : (X2 p P F S).length = S.length + 48 := by unfold X2; exact sndX_len _ _ _ _
theorem X1_byts (h : Byts F) : Byts (X1 p P F) := by unfold X1; exact fstX_byts h
theorem X2_byts (h : Byts S) : Byts (X2 p P F S) := by unfold X2; exact sndX_byts h
theorem PK.n0 (h : PK p) : p.kind ≠ 0 := by rcases h.k with h | h <;> rw [h] <;> decide
theorem PK.psk (h : PK p) : p.psk.length = 32 := h.ok.psk
theorem TA0_ok (h : PK p) (r : Nat) : (TA0 p r).Ok := (new_ok p.kind true h.A.1 h.psk).rp_ rfl
theorem TB0_ok (h : PK p) : (TB0 p).Ok := new_ok p.kind false h.B.1 h.psk
theorem TA1_ok (h : PK p) (r : Nat) : (TA1 p r).Ok := ((TA0_ok h r).once_ h.oa.1).done_ 1
theorem TB1_ok (h : PK p) (r : Nat) : (TB1 p r).Ok := (((TB0_ok h).their_ (pubL_length _)).rp_ rfl).done_ 1
theorem TB2_ok (h : PK p) (r : Nat) : (TB2 p r).Ok := ((TB1_ok h r).once_ h.ob.1).done_ 2
theorem TA2_ok (h : PK p) (r : Nat) : (TA2 p r).Ok := ((TA1_ok h r).their_ (pubL_length _)).done_ 2
theorem f3_rp (m : Mx) (t : HT) (v : Value) (U : List Int) : m.f3 {t with rp := v} U = m.f3 t U := by unfold Mx.f3 Mx.f2 Mx.f1; rfl
theorem fstX_rp (m : Mx) (t : HT) (v : Value) (U B : List Int) : fstX m {t with rp := v} U B = fstX m t U B := by unfold fstX Mx.f3 Mx.f2 Mx.f1; rfl
theorem s3_rp (m : Mx) (t : HT) (v : Value) (a b c d e : List Int) : m.s3 {t with rp := v} a b c d e = m.s3 t a b c d e := by unfold Mx.s3 Mx.s2; rfl
theorem sndX_rp (m : Mx) (t : HT) (v : Value) (U B : List Int) : sndX m {t with rp := v} U B = sndX m t U B := by unfold sndX Mx.s3 Mx.s2; rfl
theorem cNA (h : PK p) (q : Option Addr) (n c : Nat) (hpv : p.pv = .slice q n c) (w : World) (hS : Sl w q n c P) (hn : n ≤ 140737488351232) : Calls Try.prog 9 #[.agg (suRow (suA p))] w (fun e w' => ∃ hb rb, e = .returned (.tuple #[.pointer (some ⟨hb, 0, none⟩), .int .i64 0]) ∧ OwnM w [] w' [(hb, gRow (M0 p P) (TA0 p rb), 58), (rb, ints .u8 (pubL p.B), 23)]) := by
  have e : M0 p P = Mx.nw p.kind P (pubL p.B) := by unfold M0; rfl
  rw [e]
  exact hnewA_ok (suA p) (suA_ok h.ok) h.A q n c P hpv w hS hn h.k rfl
theorem cNB (h : PK p) (q : Option Addr) (n c : Nat) (hpv : p.pv = .slice q n c) (w : World) (hS : Sl w q n c P) (hn : n ≤ 140737488351232) : Calls Try.prog 9 #[.agg (suRow (suB p))] w (fun e w' => ∃ hb rb, e = .returned (.tuple #[.pointer (some ⟨hb, 0, none⟩), .int .i64 0]) ∧ OwnM w [] w' [(hb, gRow (M0 p P) (TB0 p), 58), (rb, ints .u8 (pubL p.B), 23)]) := by
  have e : M0 p P = Mx.nw p.kind P (pubL p.B) := by unfold M0; rfl
  rw [e]
  exact hnewB_ok (suB p) (suB_ok h.ok) h.B q n c P hpv w hS hn h.k rfl
theorem cWA (h : PK p) (q : Option Addr) (n c b r : Nat) (w : World) (hb : w.heap[b]? = some (.cells (gRow (M0 p P) (TA0 p r)) 58 (0, 0))) {RT : TypeId} {fz : Nat × Nat} (hrb : w.heap[r]? = some (.cells (ints .u8 (pubL p.B)) RT fz)) (hne : r ∉ [b]) (bF : Byts F) (hn : n ≤ 4096) (hS : Sl w q n c F) (hA : ApartB b q n) : Calls Try.prog 10 #[.pointer (some ⟨b, 0, none⟩), .agg (ints .u8 p.oa), .slice q n c] w (StPost w b 58 (gRow (M1 p P F) (TA1 p r)) (X1 p P F) 0) := by
  have k := hWA_ok q n c F p.oa (pubL p.B) r b (M0 p P) (TA0 p r) M0_ok (TA0_ok h r) w hb h.n0 rfl rfl h.A h.oa (b32_pubL _) rfl hrb hne bF hn hS hA (shN_ok h.oa h.B) (shN_ok h.A h.B)
  have e1 : M1 p P F = ((M0 p P).f3 {TA0 p r with once := p.oa} (pubL p.B)).enc F := by unfold M1; rw [← f3_rp (M0 p P) {TA0 p 0 with once := p.oa} (.pointer (some ⟨r, 0, none⟩))]; rfl
  have e2 : X1 p P F = fstX (M0 p P) {TA0 p r with once := p.oa} (pubL p.B) F := by unfold X1; rw [← fstX_rp (M0 p P) {TA0 p 0 with once := p.oa} (.pointer (some ⟨r, 0, none⟩))]; rfl
  rw [e1, e2]
  exact k
theorem cRB (h : PK p) (q : Option Addr) (n c b : Nat) (w : World) (hb : w.heap[b]? = some (.cells (gRow (M0 p P) (TB0 p)) 58 (0, 0))) (bF : Byts F) (hF : F.length ≤ 4096) (hS : Sl w q n c (X1 p P F)) (hA : ApartB b q n) : Calls Try.prog 13 #[.pointer (some ⟨b, 0, none⟩), .slice q n c] w (RdPost w b 58 (fun rb => gRow (M1 p P F) (TB1 p rb)) (pubL p.A) F 0) := by
  have hl := hS.len
  rw [X1_len] at hl
  obtain ⟨f1, f2, f3, f4, f5, f6, f7, f8, f9, f10⟩ := first_back (m := M0 p P) M0_ok (t := {TA0 p 0 with once := p.oa}) (s := TB0 p) rfl h.A h.oa h.B (B := F) (M := X1 p P F) hF bF (by unfold X1; rfl)
  have k := hRB_ok q n c (X1 p P F) b (M0 p P) (TB0 p) M0_ok (TB0_ok h) w hb h.n0 rfl rfl h.B (X1_byts bF) (by omega) (by omega) hS hA f2 f4 f6 f8
  have e1 : M1 p P F = ((M0 p P).f3 {TA0 p 0 with once := p.oa} (pubL p.B)).enc F := by unfold M1; rfl
  have e2 : ((M0 p P).r4 (TB0 p) (X1 p P F)).dec ((X1 p P F).drop 80) = M1 p P F := f10.trans e1.symm
  rw [e2, f9, f5, f1] at k
  exact k
theorem cWB (h : PK p) (q : Option Addr) (n c b r : Nat) (w : World) (hb : w.heap[b]? = some (.cells (gRow (M1 p P F) (TB1 p r)) 58 (0, 0))) {RT : TypeId} {fz : Nat × Nat} (hrb : w.heap[r]? = some (.cells (ints .u8 (pubL p.A)) RT fz)) (hne : r ∉ [b]) (bS : Byts S) (hn : n ≤ 4096) (hS : Sl w q n c S) (hA : ApartB b q n) : Calls Try.prog 10 #[.pointer (some ⟨b, 0, none⟩), .agg (ints .u8 p.ob), .slice q n c] w (StPost w b 58 (gRow (M2 p P F S) (TB2 p r)) (X2 p P F S) 0) := by
  have k := hWB_ok q n c S p.ob (pubL p.A) r b (M1 p P F) (TB1 p r) M1_ok (TB1_ok h r) w hb h.n0 rfl rfl (b32_pubL _) h.ob (b32_pubL _) rfl hrb hne bS hn hS hA (bothE_ok h.ob h.oa h.ob h.A)
  have e1 : M2 p P F S = ((M1 p P F).s3 {TB1 p r with once := p.ob} (pubL p.ob) p.ob (pubL p.oa) p.ob (pubL p.A)).enc S := by unfold M2; rw [← s3_rp (M1 p P F) {TB1 p 0 with once := p.ob} (.pointer (some ⟨r, 0, none⟩))]; rfl
  have e2 : X2 p P F S = sndX (M1 p P F) {TB1 p r with once := p.ob} (pubL p.A) S := by unfold X2; rw [← sndX_rp (M1 p P F) {TB1 p 0 with once := p.ob} (.pointer (some ⟨r, 0, none⟩))]; rfl
  rw [e1, e2]
  exact k
theorem cRA (h : PK p) (q : Option Addr) (n c b r : Nat) (w : World) (hb : w.heap[b]? = some (.cells (gRow (M1 p P F) (TA1 p r)) 58 (0, 0))) (bS : Byts S) (hF : S.length ≤ 4096) (hS : Sl w q n c (X2 p P F S)) (hA : ApartB b q n) : Calls Try.prog 13 #[.pointer (some ⟨b, 0, none⟩), .slice q n c] w (StPost w b 58 (gRow (M2 p P F S) (TA2 p r)) S 0) := by
  have hl := hS.len
  rw [X2_len] at hl
  obtain ⟨f1, f2, f3, f4, f5, f6, f7⟩ := second_back (m := M1 p P F) M1_ok (t := TA1 p r) (s := {TB1 p 0 with once := p.ob}) rfl rfl h.A h.oa h.ob rfl (B := S) (M := X2 p P F S) hF bS (by unfold X2; rfl)
  have k := hRA_ok q n c (X2 p P F S) b (M1 p P F) (TA1 p r) M1_ok (TA1_ok h r) w hb h.n0 rfl rfl h.A h.oa (X2_byts bS) (by omega) (by omega) hS hA f3 f5
  have e1 : M2 p P F S = ((M1 p P F).s3 {TB1 p 0 with once := p.ob} (pubL p.ob) p.ob (pubL p.oa) p.ob (pubL p.A)).enc S := by unfold M2; rfl
  have e2 := f7.trans e1.symm
  rw [e2, f6, f1] at k
  exact k
theorem cW_B0 (h : PK p) (q : Option Addr) (n c b : Nat) (O : List Int) (m : Mx) (hm : m.Ok) (w : World) (hb : w.heap[b]? = some (.cells (gRow m (TB0 p)) 58 (0, 0))) : Calls Try.prog 10 #[.pointer (some ⟨b, 0, none⟩), .agg (ints .u8 O), .slice q n c] w (fun e w' => e = .returned (.tuple #[.slice none 0 0, .int .i64 100]) ∧ OwnM w [b] w' [(b, gRow m (TB0 p), 58)]) := by
  exact hwrite_turn q n c O b m (TB0 p) hm (TB0_ok h) 58 w hb h.n0 (show ¬ ((false == ((0 : Int) == 0)) = true ∧ decide ((0 : Int) < 2) = true) by decide)
theorem cS_B1 (h : PK p) (b r : Nat) (m : Mx) (hm : m.Ok) (w : World) (hb : w.heap[b]? = some (.cells (gRow m (TB1 p r)) 58 (0, 0))) : Calls Try.prog 12 #[.pointer (some ⟨b, 0, none⟩)] w (fun e w' => e = .returned (.tuple #[.pointer none, .pointer none, .int .i64 100]) ∧ Below w.heap.size w w') := by
  exact hsplit_turn b m (TB1 p r) hm (TB1_ok h r) 58 w hb h.n0 (show (1 : Int) < 2 by decide)
end
end Sp
end
section
open Go Go.RowKit
namespace Sp
open F M
theorem sbM {l1 l2 : Mem} (h : l1.Sublist l2 := by (try simp only [List.append_assoc, List.cons_append, List.nil_append]); repeat (first | exact List.Sublist.refl _ | exact List.sublist_append_left _ _ | refine List.Sublist.cons _ ?_ | refine List.Sublist.trans ?_ (List.sublist_append_right _ _))) : l1.Sublist l2 := h
theorem sbH {l1 l2 : Mem} (h : l1.Sublist l2 := by (try simp only [List.append_assoc, List.cons_append, List.nil_append]); repeat (first | exact List.Sublist.cons_cons _ sbM | refine List.Sublist.cons _ ?_)) : l1.Sublist l2 := h
section
variable {P : Program} {tab : Tab} {w0 : World} {mu : List Nat} {bs : Mem} {l : List Value} {ops : Array Oper} {rest : List Oper} {Q : ExitP} {dst : Option Tmp} {ty : TypeId} {pos : String} {af : Array Edge} {gd : Option (Nat × Bool)}
theorem SL.castF {l' : List Value} (hl : l = l') (h : SL P ops w0 mu rest Q l' bs) : SL P ops w0 mu rest Q l bs := hl ▸ h
theorem ValO.eqA {L L' : List Int} {k : IntKind} (ht : TabOk P tab) {t t' : TypeId} {x y : Operand} {n e sz : Nat} (hl : look tab t = some (.arr n e 1, sz)) {k' : IntKind} {sz' : Nat} (hle : look tab e = some (.int k', sz')) (hx : evL l x = .agg (ints k L)) (hy : evL l y = .agg (ints k L'))
    (hg : P.eqGuardType P.depth t = false) (hL : L.length = n) (hM : L'.length = n) (e : L = L') : ValO P w0 mu bs l ⟨dst, .binOp .eql t x y t', ty, pos, af, gd⟩ (.bool true) := by
  have h := ValO.eqlI (mu := mu) (dst := dst) (t' := t') (ty := ty) (pos := pos) (af := af) (gd := gd) (w0 := w0) (bs := bs) ht hl hle hx hy hg hL hM
  rwa [decide_eq_true e] at h
theorem SL.cl2N {f : FuncId} {args : List Operand} {ats : Array TypeId} (hent : ∀ (A : Array Value) (w : World), (callFunc f A).run P w = .ok (.enter f A) w) {vals : List Value} (hv : args.map (evL l) = vals) {V : Nat → Nat → Value} {X : Nat → Nat → Mem} {l' : Nat → Nat → List Value} {bs' : Nat → Nat → Mem}
    (hc : ∀ w, OwnM w0 mu w bs → Calls P f vals.toArray w fun e w' => ∃ a b, e = .returned (V a b) ∧ OwnM w [] w' (X a b)) (h : ∀ a b, SL P ops w0 mu rest Q (l' a b) (bs' a b))
    (hbs : ∀ a b, bs ++ X a b = bs' a b := by intro _ _; first | (simp only [List.cons_append, List.nil_append, List.append_assoc]; done) | (simp only [List.cons_append, List.nil_append, List.append_assoc]; rfl))
    (hp : ∀ a b, putL l dst (V a b) = l' a b := by intro _ _; first | (dsimp only [putL, setNth]; done) | (dsimp only [putL, setNth]; rfl)) :
    SL P ops w0 mu (⟨dst, .call { callee := .value (.func f), args := args.toArray, argTypes := ats }, ty, pos, af, none⟩ :: rest) Q l bs := by
  refine SL.callG hent hv (R := fun v' bs2 => ∃ a b, v' = V a b ∧ bs2 = bs' a b) (fun w hw => (hc w hw).mono fun e w' hx => ?_) (by rintro v' bs2 ⟨a, b, rfl, rfl⟩; rw [hp]; exact h a b)
  obtain ⟨a, b, rfl, hw'⟩ := hx
  exact ⟨_, _, rfl, ⟨a, b, rfl, rfl⟩, by rw [← hbs]; exact OwnM.freshL hw hw'⟩
theorem SL.clRd {f : FuncId} {args : List Operand} {ats : Array TypeId} (hent : ∀ (A : Array Value) (w : World), (callFunc f A).run P w = .ok (.enter f A) w) {vals : List Value} (hv : args.map (evL l) = vals)
    {i b : Nat} {A : Array Value} {T : TypeId} (hi : bs[i]? = some (b, A, T)) {R : Nat → Array Value} {U X : List Int} {m : Nat} {n : Int} {l' : Option Addr → Nat → List Value} {bs' : Nat → Mem → Mem}
    (hc : ∀ w, OwnM w0 mu w bs → Calls P f vals.toArray w (RdPost w b T R U X n))
    (h : ∀ rb q c abs, AO q m c X abs → SL P ops w0 mu rest Q (l' q c) (bs' rb abs)) (hm : X.length = m := by rfl)
    (hbs : ∀ rb abs, (rb, ints .u8 U, 23) :: (bs.set i (b, R rb, T) ++ abs) = bs' rb abs := by intro _ _; first | (simp only [List.set, List.cons_append, List.nil_append, List.append_assoc]; done) | (simp only [List.set, List.cons_append, List.nil_append, List.append_assoc]; rfl))
    (hp : ∀ q c, putL l dst (.tuple #[.slice q m c, .int .i64 n]) = l' q c := by intro _ _; first | (dsimp only [putL, setNth]; done) | (dsimp only [putL, setNth]; rfl)) :
    SL P ops w0 mu (⟨dst, .call { callee := .value (.func f), args := args.toArray, argTypes := ats }, ty, pos, af, none⟩ :: rest) Q l bs := by
  subst hm
  refine SL.callG hent hv (R := fun v' bs2 => ∃ rb q c abs, AO q X.length c X abs ∧ v' = .tuple #[.slice q X.length c, .int .i64 n] ∧ bs2 = bs' rb abs) (fun w hw => (hc w hw).mono fun e w' hx => ?_) (by rintro v' bs2 ⟨rb, q, c, abs, ha, rfl, rfl⟩; rw [hp]; exact h rb q c abs ha)
  obtain ⟨rb, q, c, abs, rfl, ha, hw'⟩ := hx
  refine ⟨_, _, rfl, ⟨rb, q, c, abs, ha, rfl, rfl⟩, ?_⟩
  rw [← hbs]
  exact (OwnM.call1A hw hi hw').perm List.perm_middle
theorem ApartB.aoT {W : World} (hw : OwnM w0 mu W bs) {q : Option Addr} {n c b : Nat} {X : List Int} {abs : Mem} (ha : AO q n c X abs) {A : Array Value} {T : TypeId} (hs : ((b, A, T) :: abs).Sublist bs) : ApartB b q n := by
  refine ApartB.ao ha ?_
  have := hw.apart.sublist (hs.map (·.1))
  rw [List.map_cons, List.nodup_cons] at this
  exact this.1
end
end Sp
end
section
open Go Go.RowKit
namespace Sp
open F M
theorem us_b32 {x : Int} (hx : 0 ≤ x ∧ x < 256) : Bytes32 (List.replicate 32 x) := b32_of (List.length_replicate ..) (byts_mem (fun y hy => by rw [List.eq_of_mem_replicate hy]; exact hx))
theorem us_pk (x y z : Nat) : PK (usP x y z) := ⟨usP_ok x y z, us_b32 (by decide), us_b32 (by decide), us_b32 (by decide), us_b32 (by decide), .inl rfl⟩
theorem us_one : ((strOfNums usOne).toList == ({ data := #[104, 101, 108, 108, 111] } : ByteArray).toList) = true := by decide +kernel
theorem us_two : ((strOfNums usTwo).toList == ({ data := #[119, 101, 108, 108] } : ByteArray).toList) = true := by decide +kernel
theorem us_bo : Byts usOne := byts_mem (by decide)
theorem us_bt : Byts usTwo := byts_mem (by decide)
theorem awake_any (w : World) : Calls Try.prog 14 #[] w fun e w' => e = .returned (.bool true) ∧ Below w.heap.size w w' := by
  refine calls_of_wp Try.func14 rfl ?_
  rw [show (#[] : Array Value) ++ Array.replicate _ undef = ([undef, undef, undef, undef, undef, undef, undef, undef, undef, undef, undef, undef, undef, undef, undef, undef, undef, undef, undef, undef, undef, undef, undef, undef, undef, undef, undef, undef, undef, undef, undef, undef, undef, undef, undef, undef, undef, undef, undef, undef, undef, undef, undef, undef, undef, undef, undef, undef, undef, undef, undef, undef, undef, undef, undef, undef, undef, undef, undef, undef, undef, undef, undef, undef, undef, undef, undef, undef, undef, undef, undef, undef, undef, undef, undef, undef, undef, undef, undef, undef, undef, undef, undef, undef, undef, undef, undef, undef, undef, undef, undef, undef, undef, undef, undef, undef, undef, undef, undef, undef, undef, undef, undef, undef, undef, undef, undef, undef, undef, undef, undef, undef, undef, undef, undef, undef, undef, undef, undef, undef, undef, undef, undef, undef, undef, undef, undef, undef, undef, undef, undef, undef, undef, undef, undef, undef, undef, undef] : List Value).toArray from (by simp only [Try.ntmps14, List.size_toArray, List.length_cons, List.length_nil, Nat.reduceAdd, Nat.reduceSub, Array.replicate_succ, Array.replicate_zero, List.push_toArray, List.append_toArray, List.nil_append, List.cons_append])]
  refine raw_k (OwnM.start w) (fun K hK => ?_)
  repeat (first | (refine rgn 0 ?_; refine sEv ?_; refine nlx ?_) | (refine zsq ?_; intro _ _) | (with_reducible refine zkN ?_) | (refine useK (by assumption) ?_) | (with_reducible first | refine zsB ?_ | refine zkX ?_ | refine zkR ?_ | refine zbN ?_ | refine zbR ?_ | refine zbE ?_ | refine zbX ?_ | refine zsS ?_ | refine zsR ?_ | refine zsX ?_) | (refine cdT ?_) | (refine cdF ?_))
  refine ⟨rfl, hK _ _ (fun W0 hw0 => ?_)⟩
  clear hK K
  refine raw_call (α := Nat × Nat × Nat) ent_16 rfl (V := fun a => .agg (prRow (usP a.1 a.2.1 a.2.2))) (Φ := fun a w' => Below W0.heap.size W0 w' ∧ Sl w' (some ⟨a.1, 0, none⟩) 1 1 usPro ∧ Sl w' (some ⟨a.2.1, 0, none⟩) 5 5 usOne ∧ Sl w' (some ⟨a.2.2, 0, none⟩) 4 4 usTwo) ((usual_any W0).mono (by rintro e w' ⟨x, y, z, he, h1, h2, h3, h4⟩; exact ⟨(x, y, z), he, h1, h2, h3, h4⟩)) ?_
  rintro w1 ⟨x, y, z⟩ ⟨hb1, S0, S1, S2⟩
  have h := us_pk x y z
  refine ⟨doneK Try.prog w1 [] #[.tmp 0] (fun v' _ => v' = .bool true), ?_, ?_⟩
  · refine SL.castF (l' := [.bool false, undef, undef, undef, undef, undef, undef, undef, undef, undef, undef, undef, undef, undef, undef, undef, undef, undef, undef, .agg (prRow (usP x y z)), undef, undef, undef, undef, undef, undef, undef, undef, undef, undef, undef, undef, undef, undef, undef, undef, undef, undef, undef, undef, undef, undef, undef, undef, undef, undef, undef, undef, undef, undef, undef, undef, undef, undef, undef, undef, undef, undef, undef, undef, undef, undef, undef, undef, undef, undef, undef, undef, undef, undef, undef, undef, undef, undef, undef, undef, undef, undef, undef, undef, undef, undef, undef, undef, undef, undef, undef, undef, undef, undef, undef, undef, undef, undef, undef, undef, undef, undef, undef, undef, undef, undef, undef, undef, undef, undef, undef, undef, undef, undef, undef, undef, undef, undef, undef, undef, undef, undef, undef, undef, undef, undef, undef, undef, undef, undef, undef, undef, undef, undef, undef, undef, undef, undef, undef, undef, undef, undef]) bpp ?_
    refine SL.al zero_Pair ?_; intro pb
    refine SL.stA tabOk (pq_cells h.ok) ?_ (hn := pq_size h.ok) (hsz := pq_size p00_ok)
    refine SL.nil ?_
    refine thenK_normal ?_
    repeat (first | (refine rgn 2 ?_; refine SL.ldR tabOk ?_ (hn := pq_size h.ok); refine SL.v (ValO.call ent_8 _ rfl _ (fun w1 hw1 => setups_any _ h.ok h.B _ _ _ rfl w1)) ?_; (iterate 3 refine sEv ?_); refine SL.al zero_Setup ?_; intro xb; refine SL.al zero_Setup ?_; intro yb; refine SL.stA tabOk (su_cells rfl) ?_ (hn := su_size (suA_ok h.ok)) (hsz := su_size u00_ok); refine SL.stA tabOk (su_cells rfl) ?_ (hn := su_size (suB_ok h.ok)) (hsz := su_size u00_ok); refine nlx ?_) | (refine rgn 3 ?_; refine SL.ldR tabOk ?_ (hn := su_size (suA_ok h.ok)); refine SL.cl2N ent_9 rfl (fun w1 hw1 => cNA h _ _ _ rfl w1 (S0.old hw1.below) (by decide)) (fun ha ra => ?_); (iterate 5 refine sEv ?_); refine nlx ?_) | (refine rgn 4 ?_; refine SL.ldR tabOk ?_ (hn := su_size (suB_ok h.ok)); refine SL.cl2N ent_9 rfl (fun w1 hw1 => cNB h _ _ _ rfl w1 (S0.old hw1.below) (by decide)) (fun hb rb => ?_); (iterate 5 refine sEv ?_); refine nlx ?_) | (refine rgn 5 ?_; refine sEv ?_; (first | (refine SL.c true tabOk ?_) | (refine SL.c false tabOk ?_) | (refine sEv ?_)); refine sEv ?_; (first | (refine SL.gT ?_; refine sEv ?_) | refine SL.gF ?_); (first | (refine SL.gT ?_; (first | (refine SL.c true tabOk ?_) | (refine SL.c false tabOk ?_) | (refine sEv ?_))) | refine SL.gF ?_); refine sEv ?_; refine nlx ?_) | (refine zsq ?_; intro _ _) | (with_reducible refine zkN ?_) | (refine useK (by assumption) ?_) | (with_reducible first | refine zsB ?_ | refine zkX ?_ | refine zkR ?_ | refine zbN ?_ | refine zbR ?_ | refine zbE ?_ | refine zbX ?_ | refine zsS ?_ | refine zsR ?_ | refine zsX ?_) | (refine cdT ?_) | (refine cdF ?_))
    repeat (first | (refine rgn 7 ?_; refine sEv ?_; refine sEv ?_; refine SL.ldP tabOk ?_ (hn := by rw [pq_size h.ok]; decide) (hB := pq_oa h.ok); refine sEv ?_; refine SL.ldC tabOk ?_ (hv := (pq_f h.ok)); refine SL.clS (i := 3) ent_10 rfl rfl (X := X1 (usP x y z) usPro usOne) (n := 0) (m := 101) (hm := by rw [X1_len]; rfl) (fun w1 hw1 => cWA h _ _ _ ha ra w1 (hw1.block (List.mem_of_getElem? (i := 3) rfl)) (hw1.block (List.mem_of_getElem? (i := 4) rfl)) (by simpa using hw1.ne (i := 4) (j := 3) rfl rfl (by decide)) us_bo (by decide) (S1.old hw1.below) (ApartB.old S1 hw1 (List.mem_of_getElem? (i := 3) rfl))) (fun q1 c1 abs1 O1 => ?_); (iterate 5 refine sEv ?_); refine nlx ?_) | (refine rgn 8 ?_; refine sEv ?_; refine sEv ?_; refine SL.ldP tabOk ?_ (hn := by rw [pq_size h.ok]; decide) (hB := pq_ob h.ok); refine SL.cl2 hb (i := 5) ent_10 rfl (fun w1 hw1 hb1 => cW_B0 h none 0 0 hb _ _ M0_ok w1 hb1) ?_; (iterate 5 refine sEv ?_); refine nlx ?_) | (refine rgn 9 ?_; refine sEv ?_; refine sEv ?_; refine SL.clRd (i := 5) ent_13 rfl rfl (X := usOne) (m := 5) (hm := rfl) (fun w1 hw1 => cRB h _ _ _ hb w1 (hw1.block (List.mem_of_getElem? (i := 5) rfl)) us_bo (by decide) (O1.sl hw1 sbM) (ApartB.aoT (b := hb) hw1 O1 sbH)) (fun rb2 q2 c2 abs2 O2 => ?_); (iterate 5 refine sEv ?_); refine nlx ?_) | (refine rgn 10 ?_; refine sEv ?_; refine SL.v (ValO.call ent_12 _ rfl _ (fun w1 hw1 => cS_B1 h hb rb2 _ M1_ok w1 (hw1.block (List.mem_of_getElem? (i := 6) rfl)))) ?_; (iterate 7 refine sEv ?_); refine nlx ?_) | (refine rgn 11 ?_; refine sEv ?_; refine sEv ?_; refine SL.ldP tabOk ?_ (hn := by rw [pq_size h.ok]; decide) (hB := pq_ob h.ok); refine sEv ?_; refine SL.ldC tabOk ?_ (hv := (pq_s h.ok)); refine SL.clS (i := 6) ent_10 rfl rfl (X := X2 (usP x y z) usPro usOne usTwo) (n := 0) (m := 52) (hm := by rw [X2_len]; rfl) (fun w1 hw1 => cWB h _ _ _ hb rb2 w1 (hw1.block (List.mem_of_getElem? (i := 6) rfl)) (hw1.block (List.mem_of_getElem? (i := 0) rfl)) (by simpa using hw1.ne (i := 0) (j := 6) rfl rfl (by decide)) us_bt (by decide) (S2.old hw1.below) (ApartB.old S2 hw1 (List.mem_of_getElem? (i := 6) rfl))) (fun q3 c3 abs3 O3 => ?_); (iterate 5 refine sEv ?_); refine nlx ?_) | (refine rgn 12 ?_; refine sEv ?_; refine sEv ?_; refine SL.clS (i := 4) ent_13 rfl rfl (X := usTwo) (n := 0) (m := 4) (hm := rfl) (fun w1 hw1 => cRA h _ _ _ ha ra w1 (hw1.block (List.mem_of_getElem? (i := 4) rfl)) us_bt (by decide) (O3.sl hw1 sbM) (ApartB.aoT (b := ha) hw1 O3 sbH)) (fun q4 c4 abs4 O4 => ?_); (iterate 5 refine sEv ?_); refine nlx ?_) | (refine zsq ?_; intro _ _) | (with_reducible refine zkN ?_) | (refine useK (by assumption) ?_) | (with_reducible first | refine zsB ?_ | refine zkX ?_ | refine zkR ?_ | refine zbN ?_ | refine zbR ?_ | refine zbE ?_ | refine zbX ?_ | refine zsS ?_ | refine zsR ?_ | refine zsX ?_) | (refine cdT ?_) | (refine cdF ?_))
    repeat (first | (refine rgn 13 ?_; refine sEv ?_; (first | (refine SL.c true tabOk ?_) | (refine SL.c false tabOk ?_) | (refine sEv ?_)); refine sEv ?_; (first | (refine SL.gT ?_; refine sEv ?_) | refine SL.gF ?_); (first | (refine SL.gT ?_; (first | (refine SL.c true tabOk ?_) | (refine SL.c false tabOk ?_) | (refine sEv ?_))) | refine SL.gF ?_); refine sEv ?_; refine sEv ?_; (first | (refine SL.gT ?_; refine sEv ?_) | refine SL.gF ?_); (first | (refine SL.gT ?_; refine SL.v (ValO.len tabOk (by rfl)) ?_) | refine SL.gF ?_); (first | (refine SL.gT ?_; (first | (refine SL.c true tabOk ?_) | (refine SL.c false tabOk ?_) | (refine sEv ?_))) | refine SL.gF ?_); refine sEv ?_; refine sEv ?_; (first | (refine SL.gT ?_; refine sEv ?_) | refine SL.gF ?_); (first | (refine SL.gT ?_; (first | (refine SL.c true tabOk ?_) | (refine SL.c false tabOk ?_) | (refine sEv ?_))) | refine SL.gF ?_); refine sEv ?_; refine sEv ?_; (first | (refine SL.gT ?_; refine sEv ?_) | refine SL.gF ?_); (first | (refine SL.gT ?_; (first | (refine SL.c true tabOk ?_) | (refine SL.c false tabOk ?_) | (refine sEv ?_))) | refine SL.gF ?_); refine sEv ?_; refine sEv ?_; (first | (refine SL.gT ?_; refine sEv ?_) | refine SL.gF ?_); (first | (refine SL.gT ?_; (first | (refine SL.c true tabOk ?_) | (refine SL.c false tabOk ?_) | (refine sEv ?_))) | refine SL.gF ?_); refine sEv ?_; refine sEv ?_; (first | (refine SL.gT ?_; refine sEv ?_) | refine SL.gF ?_); (first | (refine SL.gT ?_; (first | (refine SL.c true tabOk ?_) | (refine SL.c false tabOk ?_) | (refine sEv ?_))) | refine SL.gF ?_); refine sEv ?_; refine sEv ?_; (first | (refine SL.gT ?_; refine sEv ?_) | refine SL.gF ?_); (first | (refine SL.gT ?_; refine SL.v (ValO.len tabOk (by rfl)) ?_) | refine SL.gF ?_); (first | (refine SL.gT ?_; (first | (refine SL.c true tabOk ?_) | (refine SL.c false tabOk ?_) | (refine sEv ?_))) | refine SL.gF ?_); refine sEv ?_; refine sEv ?_; (first | (refine SL.gT ?_; refine sEv ?_) | refine SL.gF ?_); (first | (refine SL.gT ?_; refine SL.v (ValO.len tabOk (by rfl)) ?_) | refine SL.gF ?_); (first | (refine SL.gT ?_; (first | (refine SL.c true tabOk ?_) | (refine SL.c false tabOk ?_) | (refine sEv ?_))) | refine SL.gF ?_); refine sEv ?_; refine sEv ?_; (first | (refine SL.gT ?_; refine sEv ?_) | refine SL.gF ?_); (first | (refine SL.gT ?_; refine SL.v (ValO.bytesStr tabOk (fun w1 hw1 => (O2.sl hw1 sbM)) (by decide) rfl rfl rfl rfl) ?_) | refine SL.gF ?_); (first | (refine SL.gT ?_; refine SL.v (ValO.eqlStr rfl rfl us_one) ?_) | refine SL.gF ?_); refine sEv ?_; refine sEv ?_; (first | (refine SL.gT ?_; refine sEv ?_) | refine SL.gF ?_); (first | (refine SL.gT ?_; refine SL.v (ValO.bytesStr tabOk (fun w1 hw1 => (O4.sl hw1 sbM)) (by decide) rfl rfl rfl rfl) ?_) | refine SL.gF ?_); (first | (refine SL.gT ?_; refine SL.v (ValO.eqlStr rfl rfl us_two) ?_) | refine SL.gF ?_); refine sEv ?_; refine sEv ?_; (first | (refine SL.gT ?_; refine sEv ?_) | refine SL.gF ?_); (first | (refine SL.gT ?_; refine SL.v (ValO.call ent_11 _ rfl _ (fun w1 hw1 => hdigest_any ha _ (TA2 (usP x y z) ra) M2_ok (TA2_ok h ra) 58 w1 (hw1.block (List.mem_of_getElem? (i := 4) rfl)) h.n0)) ?_) | refine SL.gF ?_); (first | (refine SL.gT ?_; refine sEv ?_) | refine SL.gF ?_); (first | (refine SL.gT ?_; refine SL.v (ValO.call ent_11 _ rfl _ (fun w1 hw1 => hdigest_any hb _ (TB2 (usP x y z) rb2) M2_ok (TB2_ok h rb2) 58 w1 (hw1.block (List.mem_of_getElem? (i := 6) rfl)) h.n0)) ?_) | refine SL.gF ?_); (first | (refine SL.gT ?_; refine SL.v (ValO.eqA tabOk rfl rfl rfl rfl (by kernel_rfl) M2_ok.d M2_ok.d rfl) ?_) | refine SL.gF ?_); refine sEv ?_; refine sEv ?_; refine nlx ?_) | (refine zsq ?_; intro _ _) | (with_reducible refine zkN ?_) | (refine useK (by assumption) ?_) | (with_reducible first | refine zsB ?_ | refine zkX ?_ | refine zkR ?_ | refine zbN ?_ | refine zbR ?_ | refine zbE ?_ | refine zbX ?_ | refine zsS ?_ | refine zsR ?_ | refine zsX ?_) | (refine cdT ?_) | (refine cdF ?_))
    exact doneK.mk rfl (ResO.tmp rfl) rfl
  · refine after_done Try.results14 (fun v bs W hv hW => ⟨by rw [hv], ?_⟩)
    exact (OwnM.comp (bs1 := []) ((hw0.grow hb1).sub (List.nil_sublist _)) hW).below
end Sp
end
end Go.Proofs.Ytdjecenggngdjaa
