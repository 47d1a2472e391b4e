/-
  Joined texts: MxA, MxB, MxC, MxD, MxE, MxF, MxG, HnA, HnB, HnC. No conditions.
-/
import Derived.Test.YtdjecenggngdjaaGae
import Derived.Test.YtdjecenggngdjaaGaj
import Derived.Test.YtdjecenggngdjaaGar
import Derived.Test.YtdjecenggngdjaaGav
namespace Go.Proofs.Ytdjecenggngdjaa
set_option linter.unusedSimpArgs false
set_option linter.unusedVariables false
set_option maxHeartbeats 16000000
set_option maxRecDepth 20000
section
open Go Go.RowKit
namespace Sp
theorem seg_ex {X Y Z : Array Value} {a n : Nat} (hX : X.size = a) (hY : Y.size = n) : (X ++ (Y ++ Z)).extract a (a + n) = Y := by
  subst hX hY
  apply Array.ext'
  simp
theorem seg_at {X Z : Array Value} {v : Value} {a : Nat} (hX : X.size = a) : (X ++ (#[v] ++ Z))[a]? = some v := by
  subst hX
  rw [Array.getElem?_append_right (Nat.le_refl _), Nat.sub_self, Array.getElem?_append_left (by simp)]
  rfl
theorem seg_put {X Y Z : Array Value} {L : List Value} {a : Nat} (hX : X.size = a) (hL : L.length = Y.size) : putAt (X ++ (Y ++ Z)) a L = X ++ (L.toArray ++ Z) := by
  subst hX
  refine Array.ext_getElem? fun j => ?_
  rw [putAt_get _ _ _ _ (by simp; omega)]
  by_cases h1 : j < X.size
  · rw [if_neg (by omega), Array.getElem?_append_left h1, Array.getElem?_append_left h1]
  · rw [Array.getElem?_append_right (xs := X) (ys := L.toArray ++ Z) (by omega)]
    by_cases h2 : j < X.size + L.length
    · rw [if_pos ⟨by omega, h2⟩, Array.getElem?_append_left (xs := L.toArray) (by simp; omega), List.getElem?_toArray]
    · rw [if_neg (by omega), Array.getElem?_append_right (xs := X) (by omega), Array.getElem?_append_right (xs := Y) (by omega), Array.getElem?_append_right (xs := L.toArray) (by simp; omega), ← hL]; rfl
@[irreducible] def mRow (D C K : List Int) (n : Int) (q : Bool) (R : Array Value) : Array Value := ints .u8 D ++ (ints .u8 C ++ (ints .u8 K ++ (#[.int .i64 n] ++ (#[.bool q] ++ R))))
variable {D C K : List Int} {n : Int} {q : Bool} {R : Array Value}
theorem mr_size (hD : D.length = 32) (hC : C.length = 32) (hK : K.length = 32) : (mRow D C K n q R).size = 98 + R.size := by unfold mRow; simp [ints_size, hD, hC, hK]; omega
theorem mr_c (hD : D.length = 32) (hC : C.length = 32) : (mRow D C K n q R).extract 32 (32 + 32) = ints .u8 C := by
  unfold mRow
  exact seg_ex (by simp [ints_size, hD]) (by simp [ints_size, hC])
theorem mr_k (hD : D.length = 32) (hC : C.length = 32) (hK : K.length = 32) : (mRow D C K n q R).extract 64 (64 + 32) = ints .u8 K := by
  unfold mRow
  rw [← Array.append_assoc]
  exact seg_ex (by simp [ints_size, hD, hC]) (by simp [ints_size, hK])
theorem mr_n (hD : D.length = 32) (hC : C.length = 32) (hK : K.length = 32) : (mRow D C K n q R)[96]? = some (.int .i64 n) := by
  unfold mRow
  rw [← Array.append_assoc, ← Array.append_assoc]
  exact seg_at (by simp [ints_size, hD, hC, hK])
theorem mr_q (hD : D.length = 32) (hC : C.length = 32) (hK : K.length = 32) : (mRow D C K n q R)[97]? = some (.bool q) := by
  unfold mRow
  rw [← Array.append_assoc, ← Array.append_assoc, ← Array.append_assoc]
  exact seg_at (by simp [ints_size, hD, hC, hK])
theorem asc {X Y : Array Value} (Z : Array Value) : X ++ (Y ++ Z) = (X ++ Y) ++ Z := (Array.append_assoc ..).symm
theorem mr_pd {D' : List Int} (hD : D.length = 32) (h' : D'.length = 32) : putAt (mRow D C K n q R) 0 (D'.map (Value.int .u8)) = mRow D' C K n q R := by
  unfold mRow
  have h := seg_put (X := #[]) (Y := ints .u8 D) (Z := ints .u8 C ++ (ints .u8 K ++ (#[.int .i64 n] ++ (#[.bool q] ++ R)))) (L := D'.map (Value.int .u8)) rfl (by simp [ints_size, hD, h'])
  rw [Array.empty_append, Array.empty_append] at h
  exact h
theorem mr_pc {C' : List Int} (hD : D.length = 32) (hC : C.length = 32) (h' : C'.length = 32) : putAt (mRow D C K n q R) 32 (C'.map (Value.int .u8)) = mRow D C' K n q R := by
  unfold mRow
  exact seg_put (by simp [ints_size, hD]) (by simp [ints_size, hC, h'])
theorem mr_pk {K' : List Int} (hD : D.length = 32) (hC : C.length = 32) (hK : K.length = 32) (h' : K'.length = 32) : putAt (mRow D C K n q R) 64 (K'.map (Value.int .u8)) = mRow D C K' n q R := by
  unfold mRow
  rw [asc (X := ints .u8 D), asc (X := ints .u8 D)]
  exact seg_put (by simp [ints_size, hD, hC]) (by simp [ints_size, hK, h'])
theorem mr_pn (hD : D.length = 32) (hC : C.length = 32) (hK : K.length = 32) (n' : Int) : putAt (mRow D C K n q R) 96 [.int .i64 n'] = mRow D C K n' q R := by
  unfold mRow
  rw [asc (X := ints .u8 D), asc (X := ints .u8 D), asc (X := ints .u8 D ++ ints .u8 C), asc (X := ints .u8 D ++ ints .u8 C)]
  exact seg_put (by simp [ints_size, hD, hC, hK]) rfl
theorem mr_pq (hD : D.length = 32) (hC : C.length = 32) (hK : K.length = 32) (q' : Bool) : putAt (mRow D C K n q R) 97 [.bool q'] = mRow D C K n q' R := by
  unfold mRow
  rw [asc (X := ints .u8 D), asc (X := ints .u8 D), asc (X := ints .u8 D ++ ints .u8 C), asc (X := ints .u8 D ++ ints .u8 C), asc (X := ints .u8 D ++ ints .u8 C ++ ints .u8 K), asc (X := ints .u8 D ++ ints .u8 C ++ ints .u8 K)]
  exact seg_put (by simp [ints_size, hD, hC, hK]) rfl
end Sp
end
section
open Go Go.RowKit
namespace Sp
open F M
theorem mixKey_any (b : Nat) (D C K : List Int) (nx : Int) (kd : Bool) (R : Array Value) (T : TypeId) (q : Option Addr) (n c : Nat) (B : List Int) (w : World) (hD : D.length = 32) (hC : C.length = 32) (hK : K.length = 32) (hmax : n ≤ 1000000000) (hb : w.heap[b]? = some (.cells (mRow D C K nx kd R) T (0, 0)))
    (hB : ∀ w1, OwnM w [b] w1 [(b, mRow D C K nx kd R, T)] → Sl w1 q n c B) :
    Calls Try.prog 55 #[.pointer (some ⟨b, 0, none⟩), .slice q n c] w fun e w' => e = .returned (.tuple #[]) ∧ OwnM w [b] w' [(b, mRow D (exT (bHm C B) 1) (exT (bHm C B) 2) 0 true R, T)] := by
  refine mutE Try.func55 Try.ntmps55 Try.results55 hb ?_
  repeat (first | (refine rgn 0 ?_; (iterate 3 refine sEv ?_); refine SL.nc ?_; refine sEv ?_; refine SL.ldP tabOk ?_ (hn := by rw [mr_size hD hC hK]; omega) (hB := mr_c hD hC); refine sEv ?_; refine SL.v (ValO.call ent_29 _ rfl _ (fun w1 hw1 => (two_any C B q n c hC w1 (hB w1 hw1) hmax).mono (fun _ _ hx => ⟨hx.1, hx.2.below⟩))) ?_; (iterate 3 refine sEv ?_); refine SL.nc ?_; refine sEv ?_; refine SL.stQ tabOk ?_ (B := ints .u8 (exT (bHm C B) 1)) (hn := by simp [Value.cells, ints, exT_len]) (hsz := by rw [mr_size hD hC hK]; omega) (hA := mr_pc hD hC (exT_len _ _)); refine SL.nc ?_; refine sEv ?_; refine SL.stQ tabOk ?_ (B := ints .u8 (exT (bHm C B) 2)) (hn := by simp [Value.cells, ints, exT_len]) (hsz := by rw [mr_size hD (exT_len _ _) hK]; omega) (hA := mr_pk hD (exT_len _ _) hK (exT_len _ _)); refine nlx ?_) | (refine rgn 1 ?_; refine sEv ?_; refine sEv ?_; refine SL.nc ?_; refine sEv ?_; refine SL.stP tabOk ?_ (hsz := by rw [mr_size hD (exT_len _ _) (exT_len _ _)]; omega) (hA := mr_pn hD (exT_len _ _) (exT_len _ _) 0); refine SL.nc ?_; refine sEv ?_; refine SL.stP tabOk ?_ (hsz := by rw [mr_size hD (exT_len _ _) (exT_len _ _)]; omega) (hA := mr_pq hD (exT_len _ _) (exT_len _ _) true); refine nlx ?_) | (refine zsq ?_; intro _ _) | (with_reducible refine zkN ?_) | (refine useK (by assumption) ?_) | (with_reducible first | refine zsB ?_ | refine zkX ?_ | refine zkR ?_ | refine zbN ?_ | refine zbR ?_ | refine zbE ?_ | refine zbX ?_ | refine zsS ?_ | refine zsR ?_ | refine zsX ?_) | (refine cdT ?_) | (refine cdF ?_))
  exact doneK.mk rfl ResO.nil ⟨rfl, List.Sublist.refl _⟩
end Sp
end
section
open Go Go.RowKit
namespace Sp
open F M
theorem ent_concat (A : Array Value) (w : World) : (callFunc 35 A).run Try.prog w = .ok (.enter 35 A) w := run_callFn_enter Try.func35 (by kernel_rfl) rfl A w
theorem cpre2 (a b : Value) (D B : List Int) (j : Nat) : (cpre [(a, D), (b, B)] j).length ≤ D.length + B.length := by
  match j with
  | 0 => simp [cpre]
  | 1 => simp [cpre]
  | j + 2 => simp [cpre]
theorem mx_concat (b : Nat) (D C K : List Int) (nx : Int) (kd : Bool) (R : Array Value) (T : TypeId) (q : Option Addr) (n c : Nat) (B : List Int) (w w1 : World) (rb : Nat) (hD : D.length = 32) (hmax : n ≤ 140737488351232) {U : TypeId} (hw1 : OwnM w [b] w1 [(rb, #[.slice (some ⟨b, 0, none⟩) 32 32, .slice q n c], U), (b, mRow D C K nx kd R, T)]) (hB : Sl w1 q n c B) :
    Calls Try.prog 35 #[.slice (some ⟨rb, 0, none⟩) 2 2] w1 fun e w' => ∃ v abs, e = .returned v ∧ AllO v (D ++ B) abs ∧ OwnM w1 [] w' abs := by
  have h := concat_any [(.slice (some ⟨b, 0, none⟩) 32 32, D), (.slice q n c, B)] rb _ U (0, 0) w1 rfl (hw1.block (List.mem_cons_self ..)) (by
    intro p hp
    rcases List.mem_cons.1 hp with rfl | hp
    · refine ⟨_, _, _, rfl, Sl.of hw1 (.inl ⟨T, List.mem_cons_of_mem _ (List.mem_cons_self ..)⟩) ?_ hD (Nat.le_refl _)⟩
      unfold mRow
      intro j hj
      rw [Nat.zero_add, Array.getElem?_append_left (by simp [ints_size]; omega)]
      exact ints_get hj
    · obtain rfl := List.mem_singleton.1 hp
      exact ⟨_, _, _, rfl, hB⟩) (fun j => Nat.le_trans (cpre2 _ _ D B j) (by rw [hD, hB.len]; omega)) (by simp)
  have e : cpre [(.slice (some ⟨b, 0, none⟩) 32 32, D), (.slice q n c, B)] 2 = D ++ B := by simp [cpre]
  exact h.mono (by rintro x w' ⟨v, abs, rfl, ha, hw'⟩; exact ⟨v, abs, rfl, by rw [← e]; exact ha, hw'⟩)
theorem mix_any (b : Nat) (D C K : List Int) (nx : Int) (kd : Bool) (R : Array Value) (T : TypeId) (q : Option Addr) (n c : Nat) (B : List Int) (w : World) (hD : D.length = 32) (hC : C.length = 32) (hK : K.length = 32) (hlB : B.length = n) (hmax : n ≤ 140737488351232) (hb : w.heap[b]? = some (.cells (mRow D C K nx kd R) T (0, 0)))
    (hB : ∀ w1, OwnM w [b] w1 [(b, mRow D C K nx kd R, T)] → Sl w1 q n c B) :
    Calls Try.prog 22 #[.pointer (some ⟨b, 0, none⟩), .slice q n c] w fun e w' => e = .returned (.tuple #[]) ∧ OwnM w [b] w' [(b, mRow (bDg (D ++ B)) C K nx kd R, T)] := by
  refine mutE Try.func22 Try.ntmps22 Try.results22 hb ?_
  repeat (first | (refine rgn 0 ?_; refine sEv ?_; refine sEv ?_; refine SL.nc ?_; refine sEv ?_; refine SL.ctA tabOk 0 32 ?_; refine sEv ?_; refine SL.build2S tabOk zero_24 (fun rb => ?_); refine SL.callG ent_concat rfl (R := fun v bs' => ∃ abs, AllO v (D ++ B) abs ∧ bs' = [(rb, #[.slice (some ⟨b, 0, none⟩) 32 32, .slice q n c], 24), (b, mRow D C K nx kd R, T)] ++ abs) (fun w1 hw1 => (mx_concat b D C K nx kd R T q n c B w w1 rb hD hmax hw1 (hB w1 (hw1.sub (List.sublist_cons_self _ _)))).mono (by rintro e w' ⟨v, abs, rfl, ha, hw'⟩; exact ⟨v, _, rfl, ⟨abs, ha, rfl⟩, OwnM.freshL hw1 hw'⟩)) ?_; rintro v bs' ⟨abs, ha, rfl⟩; obtain ⟨q3, c3, rfl, hao⟩ := AllO.ao_ ha (n := 32 + n) (by simp [hD, hlB]); dsimp only [putL, setNth]; refine SL.v (ValO.call ent_21 _ rfl _ (fun w2 hw2 => bdg_any q3 (32 + n) c3 (D ++ B) w2 (hao.sl hw2 (List.sublist_append_right _ _)) (by omega))) ?_; refine SL.nc ?_; refine sEv ?_; refine SL.stQ tabOk ?_ (B := ints .u8 (bDg (D ++ B))) (hn := by simp [Value.cells, ints, bDg_length]) (hsz := by rw [mr_size hD hC hK]; omega) (hA := mr_pd hD (bDg_length _)); refine nlx ?_) | (refine zsq ?_; intro _ _) | (with_reducible refine zkN ?_) | (refine useK (by assumption) ?_) | (with_reducible first | refine zsB ?_ | refine zkX ?_ | refine zkR ?_ | refine zbN ?_ | refine zbR ?_ | refine zbE ?_ | refine zbX ?_ | refine zsS ?_ | refine zsR ?_ | refine zsX ?_) | (refine cdT ?_) | (refine cdF ?_))
  exact doneK.mk rfl ResO.nil ⟨rfl, by simp⟩
end Sp
end
section
open Go Go.RowKit
namespace Sp
open F M
theorem mixShared_any (b : Nat) (D C K : List Int) (nx : Int) (kd : Bool) (R : Array Value) (T : TypeId) (q : Option Addr) (n c : Nat) (B : List Int) (w : World) (hD : D.length = 32) (hC : C.length = 32) (hK : K.length = 32) (hmax : n ≤ 1000000000) (hb : w.heap[b]? = some (.cells (mRow D C K nx kd R) T (0, 0)))
    (hB : ∀ w1, OwnM w [b] w1 [(b, mRow D C K nx kd R, T)] → Sl w1 q n c B) :
    Calls Try.prog 56 #[.pointer (some ⟨b, 0, none⟩), .slice q n c] w fun e w' => e = .returned (.tuple #[]) ∧ OwnM w [b] w' [(b, mRow (bDg (D ++ (exT (bHm C B) 2))) (exT (bHm C B) 1) (exT (bHm C B) 3) 0 true R, T)] := by
  refine mutE Try.func56 Try.ntmps56 Try.results56 hb ?_
  repeat (first | (refine rgn 0 ?_; refine SL.al zero_23 ?_; intro tb; refine nlx ?_) | (refine rgn 1 ?_; (iterate 3 refine sEv ?_); refine SL.nc ?_; refine sEv ?_; refine SL.ldP tabOk ?_ (hn := by rw [mr_size hD hC hK]; omega) (hB := mr_c hD hC); refine sEv ?_; refine SL.v (ValO.call ent_73 _ rfl _ (fun w1 hw1 => (three_any C B q n c hC w1 (hB w1 (hw1.sub (List.sublist_cons_self _ _))) hmax).mono (fun _ _ hx => ⟨hx.1, hx.2.below⟩))) ?_; (iterate 4 refine sEv ?_); refine SL.nc ?_; refine sEv ?_; refine SL.stQ tabOk ?_ (B := ints .u8 (exT (bHm C B) 1)) (hn := by simp [Value.cells, ints, exT_len]) (hsz := by rw [mr_size hD hC hK]; omega) (hA := mr_pc hD hC (exT_len _ _)); refine SL.stR tabOk ?_ (k := .u8) (L := (exT (bHm C B) 2)) (hn := by rw [ints_size, exT_len]) (hsz := by simp [ints_size]); refine SL.nc ?_; refine sEv ?_; refine SL.stQ tabOk ?_ (B := ints .u8 (exT (bHm C B) 3)) (hn := by simp [Value.cells, ints, exT_len]) (hsz := by rw [mr_size hD (exT_len _ _) hK]; omega) (hA := mr_pk hD (exT_len _ _) hK (exT_len _ _)); refine nlx ?_) | (refine rgn 2 ?_; refine sEv ?_; refine SL.ctA tabOk 0 32 ?_; refine SL.call1 (b := b) (i := 1) ent_22 rfl (by exact gbk _) (fun w1 hw1 => mix_any b D (exT (bHm C B) 1) (exT (bHm C B) 3) nx kd R T (some ⟨tb, 0, none⟩) 32 32 (exT (bHm C B) 2) w1 hD (exT_len _ _) (exT_len _ _) (exT_len _ _) (by decide) (hw1.block (List.mem_cons_of_mem _ (List.mem_cons_self ..))) (fun w2 hw2 => Sl.of (hw1.call1 (i := 1) rfl hw2) (RdA.own g0) (Lies.whole (exT (bHm C B) 2)) (exT_len _ _) (Nat.le_refl _))) rfl rfl ?_; refine nlx ?_) | (refine rgn 3 ?_; refine sEv ?_; refine sEv ?_; refine SL.nc ?_; refine sEv ?_; refine SL.stP tabOk ?_ (hsz := by rw [mr_size (bDg_length _) (exT_len _ _) (exT_len _ _)]; omega) (hA := mr_pn (bDg_length _) (exT_len _ _) (exT_len _ _) 0); refine SL.nc ?_; refine sEv ?_; refine SL.stP tabOk ?_ (hsz := by rw [mr_size (bDg_length _) (exT_len _ _) (exT_len _ _)]; omega) (hA := mr_pq (bDg_length _) (exT_len _ _) (exT_len _ _) true); refine nlx ?_) | (refine zsq ?_; intro _ _) | (with_reducible refine zkN ?_) | (refine useK (by assumption) ?_) | (with_reducible first | refine zsB ?_ | refine zkX ?_ | refine zkR ?_ | refine zbN ?_ | refine zbR ?_ | refine zbE ?_ | refine zbX ?_ | refine zsS ?_ | refine zsR ?_ | refine zsX ?_) | (refine cdT ?_) | (refine cdF ?_))
  exact doneK.mk rfl ResO.nil ⟨rfl, by simp⟩
end Sp
end
section
open Go Go.RowKit
namespace Sp
open F M
theorem state_any (b : Nat) (D C K : List Int) (nx : Int) (kd : Bool) (R : Array Value) (T : TypeId) (w : World) (hD : D.length = 32) (hC : C.length = 32) (hK : K.length = 32) (h0 : 0 ≤ nx) (h1 : nx ≤ 100) (hb : w.heap[b]? = some (.cells (mRow D C K nx kd R) T (0, 0))) : Calls Try.prog 58 #[.pointer (some ⟨b, 0, none⟩)] w (fun e w' => ∃ nb, e = .returned (.pointer (some ⟨nb, 0, none⟩)) ∧ OwnM w [] w' [(nb, stRow true K nx, 78)]) := by
  refine newE Try.func58 Try.ntmps58 Try.results58 ?_
  repeat (first | (refine rgn 0 ?_; refine sEv ?_; refine nlx ?_) | (refine rgn 1 ?_; refine sEv ?_; refine SL.nc ?_; refine sEv ?_; refine SL.ldP tabOk ?_ (hn := by rw [mr_size hD hC hK]; omega) (hB := mr_k hD hC hK); refine SL.clN ent_30 rfl (fun w1 hw1 => new_any K hK w1) (fun nb => ?_); refine sEv ?_; refine nlx ?_) | (refine rgn 2 ?_; refine sEv ?_; refine sEv ?_; refine SL.nc ?_; refine sEv ?_; refine SL.ldC tabOk ?_ (hv := mr_n hD hC hK); refine SL.call1 (b := nb) (i := 0) ent_74 rfl (by exact gbk _) (fun w1 hw1 => by have h := skip_any K hK 0 nx nb w1 (hw1.block (List.mem_cons_self ..)); rw [pE_in h0 (by omega), pN_in h0 (by omega)] at h; exact h) rfl rfl ?_; refine nlx ?_) | (refine rgn 3 ?_; refine sEv ?_; refine sEv ?_; refine nlx ?_) | (refine zsq ?_; intro _ _) | (with_reducible refine zkN ?_) | (refine useK (by assumption) ?_) | (with_reducible first | refine zsB ?_ | refine zkX ?_ | refine zkR ?_ | refine zbN ?_ | refine zbR ?_ | refine zbE ?_ | refine zbX ?_ | refine zsS ?_ | refine zsR ?_ | refine zsX ?_) | (refine cdT ?_) | (refine cdF ?_))
  exact doneK.mk rfl (ResO.tmp rfl) ⟨_, rfl, (by first | exact sub1 | exact subc sub1)⟩
theorem ApartB.oldM {w W : World} {bs : Mem} {b nb n c : Nat} {q : Option Addr} {B : List Int} (hS : Sl w q n c B) (hw : OwnM w [b] W bs) {i j : Nat} {A A' : Array Value} {T T' : TypeId} (hi : bs[i]? = some (nb, A, T)) (hj : bs[j]? = some (b, A', T')) (hij : i ≠ j) : ApartB nb q n := fun h0 sb off hq => by
  obtain ⟨sb', off', A, T, fz, e, hb, hA⟩ := hS.at_ h0
  subst hq
  obtain rfl : sb = sb' := by injection e with e; injection e
  have lt := (Array.getElem?_eq_some_iff.1 hb).1
  rcases (hw.here _ (List.mem_of_getElem? hi)).1 with h | h
  · intro hq; subst hq; exact absurd lt (Nat.not_lt.2 h)
  · exact absurd (List.mem_singleton.1 h) (hw.ne hi hj hij)
theorem cseal_any (K D B : List Int) (hK : K.length = 32) (hD : D.length = 32) (nx : Int) (h0 : 0 ≤ nx) (h1 : nx ≤ 100) (nb : Nat) (w : World) (p q : Option Addr) (c d n : Nat) (bD : Byts D) (bB : Byts B) (hSA : Sl w p 32 c D) (hSB : Sl w q n d B) (hb : w.heap[nb]? = some (.cells (stRow true K nx) 78 (0, 0))) (hp : ApartB nb p 32) (hq : ApartB nb q n) (hn : n ≤ 4096) : Calls Try.prog 59 #[.pointer (some ⟨nb, 0, none⟩), .slice p 32 c, .slice q n d] w (StPost w nb 78 (stRow true K (nx + 1)) (sealV K (nonV nx) D B) 0) := by
  obtain rfl := hSB.len
  have h := seal_st K hK nx h0 nb w p q c d D B bD bB (by rw [hD]; exact hSA) hSB (by omega) (by omega) hb (by rw [hD]; exact hp) hq
  rw [hD] at h
  rw [kX_in (by omega), kE_in (by omega)] at h
  rw [sE_ok (by omega) hn, sX_ok (by omega) hn, kN_0] at h
  exact h
theorem copen_any (K D B : List Int) (hK : K.length = 32) (hD : D.length = 32) (nx : Int) (h0 : 0 ≤ nx) (h1 : nx ≤ 100) (nb : Nat) (w : World) (p q : Option Addr) (c d n : Nat) (bD : Byts D) (bB : Byts B) (hSA : Sl w p 32 c D) (hSB : Sl w q n d B) (hb : w.heap[nb]? = some (.cells (stRow true K nx) 78 (0, 0))) (hp : ApartB nb p 32) (hq : ApartB nb q n) (hn : n ≤ 140737488355328) : Calls Try.prog 63 #[.pointer (some ⟨nb, 0, none⟩), .slice p 32 c, .slice q n d] w (StPost w nb 78 (stRow true K (kN nx (oE K (nonV nx) D B))) (oX K (nonV nx) D B) (oE K (nonV nx) D B)) := by
  obtain rfl := hSB.len
  have h := open_st K hK nx h0 nb w p q c d D B bD bB (by rw [hD]; exact hSA) hSB (by omega) (by omega) hb (by rw [hD]; exact hp) hq
  rw [hD] at h
  rw [kX_in (by omega), kE_in (by omega)] at h
  exact h
end Sp
end
section
open Go Go.RowKit
namespace Sp
open F M
theorem ent_clone (A : Array Value) (w : World) : (callFunc 57 A).run Try.prog w = .ok (.enter 57 A) w := run_callFn_enter Try.func57 (by kernel_rfl) rfl A w
theorem mr_lies {D C K : List Int} {nx : Int} {kd : Bool} {R : Array Value} (hD : D.length = 32) : Lies (mRow D C K nx kd R) 0 D := by
  unfold mRow
  intro j hj
  rw [Nat.zero_add, Array.getElem?_append_left (by simp [ints_size]; omega)]
  exact ints_get hj
theorem mseal_any (b : Nat) (D C K : List Int) (nx : Int) (R : Array Value) (T : TypeId) (q : Option Addr) (n c : Nat) (B : List Int) (w : World) (hD : D.length = 32) (hC : C.length = 32) (hK : K.length = 32) (bD : Byts D) (bB : Byts B) (h0 : 0 ≤ nx) (h1 : nx ≤ 100) (hlB : B.length = n) (hn : n ≤ 4096) (hb : w.heap[b]? = some (.cells (mRow D C K nx true R) T (0, 0))) (hB : ∀ w1, OwnM w [b] w1 [(b, mRow D C K nx true R, T)] → Sl w1 q n c B) : Calls Try.prog 39 #[.pointer (some ⟨b, 0, none⟩), .slice q n c] w (StPost w b T (mRow (bDg (D ++ sealV K (nonV nx) D B)) C K (nx + 1) true R) (sealV K (nonV nx) D B) 0) := by
  have hwr : some (Value.int .i64 (IntKind.i64.wrap (nx + 1))) = some (Value.int .i64 (nx + 1)) := by rw [IntWalk.i64_in _ (by omega)]
  refine (callE (mu := [b]) Try.func39 Try.ntmps39 Try.results39 (OwnM.start1 w hb) (fun v bs => ∃ q c abs, v = .tuple #[.slice q (sealV K (nonV nx) D B).length c, .int .i64 (0)] ∧ AO q (sealV K (nonV nx) D B).length c (sealV K (nonV nx) D B) abs ∧ ((b, mRow (bDg (D ++ sealV K (nonV nx) D B)) C K (nx + 1) true R, T) :: abs).Sublist bs) ?_).mono ?_
  · repeat (first | (refine rgn 0 ?_; refine sEv ?_; refine sEv ?_; refine nlx ?_) | (refine rgn 1 ?_; refine sEv ?_; refine SL.clA (V := fun q c => .slice q n c) ent_clone rfl (n := n) (X := B) (fun w1 hw1 => clone_any B q n c w1 (hB w1 hw1) (by omega)) (fun q1 c1 abs1 O1 => ?_); refine sEv ?_; refine nlx ?_) | (refine rgn 2 ?_; refine sEv ?_; refine SL.nc ?_; refine sEv ?_; refine SL.ldC tabOk ?_ (hv := mr_q hD hC hK); refine nlx ?_) | (refine rgn 3 ?_; refine sEv ?_; refine nlx ?_) | (refine rgn 5 ?_; refine sEv ?_; refine sEv ?_; refine nlx ?_) | (refine rgn 7 ?_; refine sEv ?_; refine SL.nc ?_; refine sEv ?_; refine SL.ldC tabOk ?_ (hv := mr_n hD hC hK); refine SL.v (v := .int .i64 (nx + 1)) (ValO.ev tabOk hwr) ?_; refine SL.nc ?_; refine sEv ?_; refine SL.stP tabOk ?_ (hsz := by rw [mr_size hD hC hK]; omega) (hA := mr_pn hD hC hK (nx + 1)); refine nlx ?_) | (refine rgn 8 ?_; refine sEv ?_; refine sEv ?_; refine SL.call1 (b := b) (i := 1) ent_22 rfl (by exact gbk _) (fun w1 hw1 => mix_any b D C K (nx + 1) true R T q2 (n + 16) c2 (sealV K (nonV nx) D B) w1 hD hC hK O2.len (by omega) (hw1.block (List.mem_of_getElem? (show _ = some (b, _, _) from (by exact gbk _)))) (fun w2 hw2 => O2.sl (hw1.call1 (i := 1) (by exact gbk _) hw2) (by (try simp only [List.append_assoc, List.cons_append, List.nil_append]); repeat (first | exact List.sublist_append_left _ _ | exact List.Sublist.refl _ | exact List.sublist_append_right _ _ | refine List.Sublist.cons _ ?_)))) rfl rfl ?_; refine nlx ?_) | (refine rgn 9 ?_; (iterate 3 refine sEv ?_); refine nlx ?_) | ((with_reducible show SP _ _ _ (Code.region _ _ true) _ _ _); first | (refine SPa (id := 4) [1, 7] [3, 4, 5] ([]) [0, 2, 3, 4, 5, 6, 1, 7, 8, 9, 10, 11, 12] follows ?_; refine fPv ?_; refine fPv ?_; refine SF.valK rfl rfl rfl rfl (fun m hm => ValO.nilc rfl) bpp ?_; refine SF.valK rfl rfl rfl rfl (fun m hm => ValO.ev tabOk (by rfl)) bpp ?_; refine SF.valK rfl rfl rfl rfl (fun m hm => ValO.cutA tabOk (a := 0) (z := _) rfl rfl (by first | rfl | (simp [bnd, evL]; done) | (simp [bnd, evL]; omega)) (by first | rfl | (simp [bnd, evL]; done) | (simp [bnd, evL]; omega)) (by first | omega | (simp; done) | (simp; omega)) (by first | omega | (simp; done) | (simp; omega)) _ _ _ (by first | exact cutm_ne (by omega) (by (try simp only [Nat.zero_add, Nat.add_zero, Nat.zero_mul, Nat.mul_one, Nat.one_mul, Nat.reduceMul, Nat.reduceAdd]); rfl) | exact cutm_eq (by omega)) (by (try simp only [Nat.sub_zero, Nat.reduceSub]); rfl) (by (try simp only [Nat.sub_zero, Nat.reduceSub]); rfl)) bpp ?_; refine fPv ?_; refine SF.clN ent_58 rfl (fun w1 hw1 => state_any b D C K nx true R T w1 hD hC hK h0 h1 (hw1.block (List.mem_cons_self ..))) (fun nb => ?_); refine SF.clS (i := 0) ent_59 rfl rfl (X := sealV K (nonV nx) D B) (n := 0) (m := n + 16) (hm := by rw [sealV_length]; omega) (fun w1 hw1 => cseal_any K D B hK hD nx h0 h1 nb w1 _ _ 32 c n bD bB (Sl.of hw1 (.inl ⟨T, List.mem_cons_of_mem _ (List.mem_cons_self ..)⟩) (mr_lies hD) hD (Nat.le_refl _)) (hB w1 (hw1.sub (List.singleton_sublist.2 (List.mem_of_getElem? (show _ = some (b, _, _) from (by exact gbk _)))))) (hw1.block (List.mem_cons_self ..)) (ApartB.own hw1 (i := 1) (j := 0) rfl rfl (by decide)) (ApartB.oldM (hB w (OwnM.start1 w hb)) hw1 (i := 0) (j := 1) rfl rfl (by decide)) hn) (fun q2 c2 abs2 O2 => ?_); (iterate 5 refine fPv ?_); refine SF.done ?_)) | (refine zsq ?_; intro _ _) | (with_reducible refine zkN ?_) | (refine useK (by assumption) ?_) | (with_reducible first | refine zsB ?_ | refine zkX ?_ | refine zkR ?_ | refine zbN ?_ | refine zbR ?_ | refine zbE ?_ | refine zbX ?_ | refine zsS ?_ | refine zsR ?_ | refine zsX ?_) | (refine cdT ?_) | (refine cdF ?_))
    have hm : n + 16 = (sealV K (nonV nx) D B).length := by rw [sealV_length]; omega
    rw [hm] at O2 ⊢
    exact doneK.mk rfl (ResO.tmp2 rfl rfl) ⟨q2, c2, abs2, rfl, O2, by first | exact List.Sublist.cons _ (List.Sublist.cons_cons _ (List.sublist_append_right _ _)) | (simp only [List.append_assoc]; exact List.Sublist.cons _ (List.Sublist.cons_cons _ (List.sublist_append_right _ _)))⟩
  · rintro e w' ⟨v, bs, rfl, ⟨q', c', abs, rfl, ha, hs⟩, hw'⟩
    exact ⟨_, _, _, rfl, ha, hw'.sub hs⟩
@[irreducible] def opRow (D C K : List Int) (nx : Int) (R : Array Value) (B : List Int) : Array Value := if oE K (nonV nx) D B = 0 then mRow (bDg (D ++ B)) C K (nx + 1) true R else mRow D C K nx true R
theorem opRow_ok {D C K : List Int} {nx : Int} {R : Array Value} {B : List Int} (h : oE K (nonV nx) D B = 0) : opRow D C K nx R B = mRow (bDg (D ++ B)) C K (nx + 1) true R := by unfold opRow; rw [if_pos h]
theorem opRow_no {D C K : List Int} {nx : Int} {R : Array Value} {B : List Int} (h : oE K (nonV nx) D B ≠ 0) : opRow D C K nx R B = mRow D C K nx true R := by unfold opRow; rw [if_neg h]
theorem oX_no {K N A X : List Int} (h : oE K N A X ≠ 0) : oX K N A X = [] := by unfold oX; rw [if_neg h]
theorem mopen_any (b : Nat) (D C K : List Int) (nx : Int) (R : Array Value) (T : TypeId) (q : Option Addr) (n c : Nat) (B : List Int) (w : World) (hD : D.length = 32) (hC : C.length = 32) (hK : K.length = 32) (bD : Byts D) (bB : Byts B) (h0 : 0 ≤ nx) (h1 : nx ≤ 100) (hlB : B.length = n) (hn : n ≤ 5000) (hb : w.heap[b]? = some (.cells (mRow D C K nx true R) T (0, 0))) (hS : Sl w q n c B) (hA : ApartB b q n) : Calls Try.prog 42 #[.pointer (some ⟨b, 0, none⟩), .slice q n c] w (StPost w b T (opRow D C K nx R B) (oX K (nonV nx) D B) (oE K (nonV nx) D B)) := by
  have hwr : some (Value.int .i64 (IntKind.i64.wrap (nx + 1))) = some (Value.int .i64 (nx + 1)) := by rw [IntWalk.i64_in _ (by omega)]
  have hB : ∀ {X : Array Value} w1, OwnM w [b] w1 [(b, X, T)] → Sl w1 q n c B := fun w1 hw => hS.oldM hw hA
  refine (callE (mu := [b]) Try.func42 Try.ntmps42 Try.results42 (OwnM.start1 w hb) (fun v bs => ∃ q c abs, v = .tuple #[.slice q (oX K (nonV nx) D B).length c, .int .i64 (oE K (nonV nx) D B)] ∧ AO q (oX K (nonV nx) D B).length c (oX K (nonV nx) D B) abs ∧ ((b, opRow D C K nx R B, T) :: abs).Sublist bs) ?_).mono ?_
  · by_cases hE : oE K (nonV nx) D B = 0
    · rw [opRow_ok hE]
      repeat (first | (refine rgn 0 ?_; refine sEv ?_; refine sEv ?_; refine nlx ?_) | (refine rgn 1 ?_; refine sEv ?_; refine SL.clA (V := fun q c => .slice q n c) ent_clone rfl (n := n) (X := B) (fun w1 hw1 => clone_any B q n c w1 (hB w1 hw1) (by omega)) (fun q1 c1 abs1 O1 => ?_); refine sEv ?_; refine nlx ?_) | (refine rgn 2 ?_; refine sEv ?_; refine SL.nc ?_; refine sEv ?_; refine SL.ldC tabOk ?_ (hv := mr_q hD hC hK); refine nlx ?_) | (refine rgn 3 ?_; refine sEv ?_; refine nlx ?_) | (refine rgn 5 ?_; refine sEv ?_; refine sEv ?_; refine nlx ?_) | (refine rgn 7 ?_; refine sEv ?_; refine SL.nc ?_; refine sEv ?_; refine SL.ldC tabOk ?_ (hv := mr_n hD hC hK); refine SL.v (v := .int .i64 (nx + 1)) (ValO.ev tabOk hwr) ?_; refine SL.nc ?_; refine sEv ?_; refine SL.stP tabOk ?_ (hsz := by rw [mr_size hD hC hK]; omega) (hA := mr_pn hD hC hK (nx + 1)); refine nlx ?_) | (refine rgn 8 ?_; refine sEv ?_; refine sEv ?_; refine SL.call1 (b := b) (i := 1) ent_22 rfl (by exact gbk _) (fun w1 hw1 => mix_any b D C K (nx + 1) true R T q n c B w1 hD hC hK hlB (by omega) (hw1.block (List.mem_of_getElem? (show _ = some (b, _, _) from (by exact gbk _)))) (fun w2 hw2 => hB w2 (OwnM.sub (hw1.call1 (i := 1) (by exact gbk _) hw2) (List.singleton_sublist.2 (List.mem_of_getElem? (show _ = some (b, _, _) from (by exact gbk _))))))) rfl rfl ?_; refine nlx ?_) | (refine rgn 9 ?_; (iterate 3 refine sEv ?_); refine nlx ?_) | ((with_reducible show SP _ _ _ (Code.region _ _ true) _ _ _); first | (refine SPa (id := 4) [1, 7] [3, 4, 5] ([]) [0, 2, 3, 4, 5, 6, 1, 7, 8, 9, 10, 11, 12] follows ?_; refine fPv ?_; refine fPv ?_; refine SF.valK rfl rfl rfl rfl (fun m hm => ValO.nilc rfl) bpp ?_; refine SF.valK rfl rfl rfl rfl (fun m hm => ValO.ev tabOk (by rfl)) bpp ?_; refine SF.valK rfl rfl rfl rfl (fun m hm => ValO.cutA tabOk (a := 0) (z := _) rfl rfl (by first | rfl | (simp [bnd, evL]; done) | (simp [bnd, evL]; omega)) (by first | rfl | (simp [bnd, evL]; done) | (simp [bnd, evL]; omega)) (by first | omega | (simp; done) | (simp; omega)) (by first | omega | (simp; done) | (simp; omega)) _ _ _ (by first | exact cutm_ne (by omega) (by (try simp only [Nat.zero_add, Nat.add_zero, Nat.zero_mul, Nat.mul_one, Nat.one_mul, Nat.reduceMul, Nat.reduceAdd]); rfl) | exact cutm_eq (by omega)) (by (try simp only [Nat.sub_zero, Nat.reduceSub]); rfl) (by (try simp only [Nat.sub_zero, Nat.reduceSub]); rfl)) bpp ?_; refine fPv ?_; refine SF.clN ent_58 rfl (fun w1 hw1 => state_any b D C K nx true R T w1 hD hC hK h0 h1 (hw1.block (List.mem_cons_self ..))) (fun nb => ?_); refine SF.clS (i := 0) ent_63 rfl rfl (X := oX K (nonV nx) D B) (n := oE K (nonV nx) D B) (m := (oX K (nonV nx) D B).length) (hm := rfl) (fun w1 hw1 => copen_any K D B hK hD nx h0 h1 nb w1 _ _ 32 c n bD bB (Sl.of hw1 (.inl ⟨T, List.mem_cons_of_mem _ (List.mem_cons_self ..)⟩) (mr_lies hD) hD (Nat.le_refl _)) (hB w1 (hw1.sub (List.singleton_sublist.2 (List.mem_of_getElem? (show _ = some (b, _, _) from (by exact gbk _)))))) (hw1.block (List.mem_cons_self ..)) (ApartB.own hw1 (i := 1) (j := 0) rfl rfl (by decide)) (ApartB.oldM (hB w (OwnM.start1 w hb)) hw1 (i := 0) (j := 1) rfl rfl (by decide)) (by omega)) (fun q2 c2 abs2 O2 => ?_); (iterate 5 refine fPv ?_); refine SF.done ?_)) | (refine zsq ?_; intro _ _) | (with_reducible refine zkN ?_) | (refine useK (by assumption) ?_) | (with_reducible first | refine zsB ?_ | refine zkX ?_ | refine zkR ?_ | refine zbN ?_ | refine zbR ?_ | refine zbE ?_ | refine zbX ?_ | refine zsS ?_ | refine zsR ?_ | refine zsX ?_) | (refine cdT ?_) | (refine cdF ?_))
      rw [hE]
      exact doneK.mk rfl (ResO.tmp2 rfl rfl) ⟨q2, c2, abs2, rfl, O2, by first | exact List.Sublist.cons _ (List.Sublist.cons_cons _ (List.sublist_append_right _ _)) | (simp only [List.append_assoc]; exact List.Sublist.cons _ (List.Sublist.cons_cons _ (List.sublist_append_right _ _)))⟩
    · rw [opRow_no hE, oX_no hE]
      repeat (first | (refine rgn 0 ?_; refine sEv ?_; refine sEv ?_; refine nlx ?_) | (refine rgn 1 ?_; refine sEv ?_; refine SL.clA (V := fun q c => .slice q n c) ent_clone rfl (n := n) (X := B) (fun w1 hw1 => clone_any B q n c w1 (hB w1 hw1) (by omega)) (fun q1 c1 abs1 O1 => ?_); refine sEv ?_; refine nlx ?_) | (refine rgn 2 ?_; refine sEv ?_; refine SL.nc ?_; refine sEv ?_; refine SL.ldC tabOk ?_ (hv := mr_q hD hC hK); refine nlx ?_) | (refine rgn 3 ?_; refine sEv ?_; refine nlx ?_) | (refine rgn 5 ?_; refine sEv ?_; refine sEv ?_; refine nlx ?_) | (refine rgn 6 ?_; (iterate 3 refine sEv ?_); refine nlx ?_) | ((with_reducible show SP _ _ _ (Code.region _ _ true) _ _ _); first | (refine SPa (id := 4) [1, 7] [3, 4, 5] ([]) [0, 2, 3, 4, 5, 6, 1, 7, 8, 9, 10, 11, 12] follows ?_; refine fPv ?_; refine fPv ?_; refine SF.valK rfl rfl rfl rfl (fun m hm => ValO.nilc rfl) bpp ?_; refine SF.valK rfl rfl rfl rfl (fun m hm => ValO.ev tabOk (by rfl)) bpp ?_; refine SF.valK rfl rfl rfl rfl (fun m hm => ValO.cutA tabOk (a := 0) (z := _) rfl rfl (by first | rfl | (simp [bnd, evL]; done) | (simp [bnd, evL]; omega)) (by first | rfl | (simp [bnd, evL]; done) | (simp [bnd, evL]; omega)) (by first | omega | (simp; done) | (simp; omega)) (by first | omega | (simp; done) | (simp; omega)) _ _ _ (by first | exact cutm_ne (by omega) (by (try simp only [Nat.zero_add, Nat.add_zero, Nat.zero_mul, Nat.mul_one, Nat.one_mul, Nat.reduceMul, Nat.reduceAdd]); rfl) | exact cutm_eq (by omega)) (by (try simp only [Nat.sub_zero, Nat.reduceSub]); rfl) (by (try simp only [Nat.sub_zero, Nat.reduceSub]); rfl)) bpp ?_; refine fPv ?_; refine SF.clN ent_58 rfl (fun w1 hw1 => state_any b D C K nx true R T w1 hD hC hK h0 h1 (hw1.block (List.mem_cons_self ..))) (fun nb => ?_); refine SF.clS (i := 0) ent_63 rfl rfl (X := oX K (nonV nx) D B) (n := oE K (nonV nx) D B) (m := (oX K (nonV nx) D B).length) (hm := rfl) (fun w1 hw1 => copen_any K D B hK hD nx h0 h1 nb w1 _ _ 32 c n bD bB (Sl.of hw1 (.inl ⟨T, List.mem_cons_of_mem _ (List.mem_cons_self ..)⟩) (mr_lies hD) hD (Nat.le_refl _)) (hB w1 (hw1.sub (List.singleton_sublist.2 (List.mem_of_getElem? (show _ = some (b, _, _) from (by exact gbk _)))))) (hw1.block (List.mem_cons_self ..)) (ApartB.own hw1 (i := 1) (j := 0) rfl rfl (by decide)) (ApartB.oldM (hB w (OwnM.start1 w hb)) hw1 (i := 0) (j := 1) rfl rfl (by decide)) (by omega)) (fun q2 c2 abs2 O2 => ?_); (iterate 5 refine fPv ?_); refine SF.done ?_)) | (refine zsq ?_; intro _ _) | (with_reducible refine zkN ?_) | (refine useK (by assumption) ?_) | (with_reducible first | refine zsB ?_ | refine zkX ?_ | refine zkR ?_ | refine zbN ?_ | refine zbR ?_ | refine zbE ?_ | refine zbX ?_ | refine zsS ?_ | refine zsR ?_ | refine zsX ?_) | (refine cdT ?_) | (refine cdF ?_))
      exact doneK.mk rfl (ResO.tmp2 rfl rfl) ⟨none, 0, [], rfl, AO.nil, List.Sublist.cons _ (List.Sublist.cons_cons _ (List.nil_sublist _))⟩
  · rintro e w' ⟨v, bs, rfl, ⟨q', c', abs, rfl, ha, hs⟩, hw'⟩
    exact ⟨_, _, _, rfl, ha, hw'.sub hs⟩
end Sp
end
section
open Go Go.RowKit
namespace Sp
open F M
@[irreducible] def shRow (D C K : List Int) (nx : Int) (kd : Bool) (R : Array Value) (a u : List Int) : Array Value := if Low.shN a u = 0 then mRow D (exT (bHm C (Low.shX a u)) 1) (exT (bHm C (Low.shX a u)) 2) 0 true R else mRow D C K nx kd R
theorem shRow_ok {D C K : List Int} {nx : Int} {kd : Bool} {R : Array Value} {a u : List Int} (h : Low.shN a u = 0) : shRow D C K nx kd R a u = mRow D (exT (bHm C (Low.shX a u)) 1) (exT (bHm C (Low.shX a u)) 2) 0 true R := by unfold shRow; rw [if_pos h]
theorem shRow_no {D C K : List Int} {nx : Int} {kd : Bool} {R : Array Value} {a u : List Int} (h : Low.shN a u ≠ 0) : shRow D C K nx kd R a u = mRow D C K nx kd R := by unfold shRow; rw [if_neg h]
theorem mshare_any (b : Nat) (D C K : List Int) (nx : Int) (kd : Bool) (R : Array Value) (T : TypeId) (a u : List Int) (la : a.length = 32) (hub : Bytes32 u) (hkb : Byt (clampL a)) (w : World) (hD : D.length = 32) (hC : C.length = 32) (hK : K.length = 32) (hb : w.heap[b]? = some (.cells (mRow D C K nx kd R) T (0, 0))) : Calls Try.prog 40 #[.pointer (some ⟨b, 0, none⟩), .agg (ints .u8 a), .agg (ints .u8 u)] w (fun e w' => e = .returned (.int .i64 (Low.shN a u)) ∧ OwnM w [b] w' [(b, shRow D C K nx kd R a u, T)]) := by
  have lu : u.length = 32 := hub.1
  have lS : (Low.shX a u).length = 32 := Low.shX_length _ _
  by_cases hE : (Low.shN a u) = 0
  · rw [shRow_ok hE]
    refine mutE Try.func40 Try.ntmps40 Try.results40 hb ?_
    repeat (first | (refine rgn 0 ?_; refine SL.bx ?_; intro ab; refine SL.bx ?_; intro ub; refine sEv ?_; refine nlx ?_) | (refine rgn 1 ?_; refine SL.ldR tabOk ?_; refine SL.ldR tabOk ?_; refine SL.v (ValO.call ent_60 _ rfl _ (fun w1 hw1 => Low.share_any a u la hub hkb w1)) ?_; (iterate 3 refine sEv ?_); refine SL.al zero_23 ?_; intro sb; refine SL.stR tabOk ?_; refine sEv ?_; refine nlx ?_) | (refine rgn 2 ?_; refine sEv ?_; refine sEv ?_; refine nlx ?_) | (refine rgn 3 ?_; refine sEv ?_; refine SL.ctA tabOk 0 32 ?_; refine SL.call1 (b := b) (i := 3) ent_55 rfl (by exact gbk _) (fun w1 hw1 => mixKey_any b D C K nx kd R T (some ⟨sb, 0, none⟩) 32 32 (Low.shX a u) w1 hD hC hK (by decide) (hw1.block (List.mem_of_getElem? (show _ = some (b, _, _) from (by exact gbk _)))) (fun w2 hw2 => Sl.of (hw1.call1 (i := 3) (by exact gbk _) hw2) (RdA.own g0) (Lies.whole (Low.shX a u)) lS (Nat.le_refl _))) rfl rfl ?_; refine nlx ?_) | (refine rgn 4 ?_; refine sEv ?_; refine sEv ?_; refine nlx ?_) | (refine zsq ?_; intro _ _) | (with_reducible refine zkN ?_) | (refine useK (by assumption) ?_) | (with_reducible first | refine zsB ?_ | refine zkX ?_ | refine zkR ?_ | refine zbN ?_ | refine zbR ?_ | refine zbE ?_ | refine zbX ?_ | refine zsS ?_ | refine zsR ?_ | refine zsX ?_) | (refine cdT ?_) | (refine cdF ?_))
    exact doneK.mk rfl (ResO.tmp rfl) ⟨rfl, by simp⟩
  · rw [shRow_no hE]
    refine mutE Try.func40 Try.ntmps40 Try.results40 hb ?_
    repeat (first | (refine rgn 0 ?_; refine SL.bx ?_; intro ab; refine SL.bx ?_; intro ub; refine sEv ?_; refine nlx ?_) | (refine rgn 1 ?_; refine SL.ldR tabOk ?_; refine SL.ldR tabOk ?_; refine SL.v (ValO.call ent_60 _ rfl _ (fun w1 hw1 => Low.share_any a u la hub hkb w1)) ?_; (iterate 3 refine sEv ?_); refine SL.al zero_23 ?_; intro sb; refine SL.stR tabOk ?_; refine sEv ?_; refine nlx ?_) | (refine rgn 2 ?_; refine sEv ?_; refine sEv ?_; refine nlx ?_) | (refine rgn 4 ?_; refine sEv ?_; refine sEv ?_; refine nlx ?_) | (refine zsq ?_; intro _ _) | (with_reducible refine zkN ?_) | (refine useK (by assumption) ?_) | (with_reducible first | refine zsB ?_ | refine zkX ?_ | refine zkR ?_ | refine zbN ?_ | refine zbR ?_ | refine zbE ?_ | refine zbX ?_ | refine zsS ?_ | refine zsR ?_ | refine zsX ?_) | (refine cdT ?_) | (refine cdF ?_))
    exact doneK.mk rfl (ResO.tmp rfl) ⟨rfl, by simp⟩
end Sp
end
section
open Go Go.RowKit
namespace Sp
open F M
structure Mx where
  D : List Int
  C : List Int
  K : List Int
  n : Int
  q : Bool
structure Mx.Ok (m : Mx) : Prop where
  d : m.D.length = 32
  c : m.C.length = 32
  k : m.K.length = 32
  b : Byts m.D
structure HT where
  kind : Int
  bg : Bool
  own : List Int
  psk : List Int
  once : List Int
  rp : Value
  their : List Int
  done : Int
structure HT.Ok (t : HT) : Prop where
  own : t.own.length = 32
  psk : t.psk.length = 32
  once : t.once.length = 32
  their : t.their.length = 32
  rp : t.rp.oneCell' = true
def cat : List (Array Value) → Array Value
  | [] => #[]
  | a :: l => a ++ cat l
theorem cat_app (L M : List (Array Value)) : cat (L ++ M) = cat L ++ cat M := by
  induction L with
  | nil => simp [cat]
  | cons a l ih => simp [cat, ih]
theorem cat_ex {L M : List (Array Value)} {Y : Array Value} {a n : Nat} (hX : (cat L).size = a) (hY : Y.size = n) : (cat (L ++ Y :: M)).extract a (a + n) = Y := by rw [cat_app]; exact seg_ex hX hY
theorem cat_at {L M : List (Array Value)} {v : Value} {a : Nat} (hX : (cat L).size = a) : (cat (L ++ #[v] :: M))[a]? = some v := by rw [cat_app]; exact seg_at hX
theorem cat_put {L M : List (Array Value)} {Y : Array Value} {B : List Value} {a : Nat} (hX : (cat L).size = a) (hL : B.length = Y.size) : putAt (cat (L ++ Y :: M)) a B = cat (L ++ B.toArray :: M) := by rw [cat_app, cat_app]; exact seg_put hX hL
theorem cat_lies {L M : List (Array Value)} {B : List Int} {a : Nat} (hX : (cat L).size = a) : Lies (cat (L ++ ints .u8 B :: M)) a B := by
  rw [cat_app]
  subst hX
  intro j hj
  rw [Array.getElem?_append_right (by omega), Nat.add_sub_cancel_left]
  show (ints .u8 B ++ cat M)[j]? = _
  rw [Array.getElem?_append_left (by simp [ints_size]; omega)]
  exact ints_get hj
@[irreducible] def HT.row (t : HT) : Array Value := cat [#[.int .i64 t.kind], #[.bool t.bg], ints .u8 t.own, ints .u8 t.psk, ints .u8 t.once, #[t.rp], ints .u8 t.their, #[.int .i64 t.done]]
@[irreducible] def gRow (m : Mx) (t : HT) : Array Value := cat [ints .u8 m.D, ints .u8 m.C, ints .u8 m.K, #[.int .i64 m.n], #[.bool m.q], #[.int .i64 t.kind], #[.bool t.bg], ints .u8 t.own, ints .u8 t.psk, ints .u8 t.once, #[t.rp], ints .u8 t.their, #[.int .i64 t.done]]
theorem gr_mx (m : Mx) (t : HT) : gRow m t = mRow m.D m.C m.K m.n m.q t.row := by unfold gRow mRow HT.row; rfl
section
variable {m : Mx} {t : HT}
theorem gr_size (hm : m.Ok) (ht : t.Ok) : (gRow m t).size = 230 := by unfold gRow; simp [cat, ints_size, hm.d, hm.c, hm.k, ht.own, ht.psk, ht.once, ht.their]
theorem gr_d (hm : m.Ok) (ht : t.Ok) : (gRow m t).extract 0 (0 + 32) = ints .u8 m.D := by unfold gRow; exact cat_ex (L := []) rfl (by simp [cat, ints_size, hm.d, hm.c, hm.k, ht.own, ht.psk, ht.once, ht.their])
theorem gr_pd (hm : m.Ok) (ht : t.Ok) {B : List Int} (hB : B.length = 32) : putAt (gRow m t) 0 (B.map (Value.int .u8)) = gRow {m with D := B} t := by unfold gRow; exact cat_put (L := []) rfl (by simp [ints_size, hB, hm.d, hm.c, ht.once, ht.their])
theorem gr_pc (hm : m.Ok) (ht : t.Ok) {B : List Int} (hB : B.length = 32) : putAt (gRow m t) 32 (B.map (Value.int .u8)) = gRow {m with C := B} t := by unfold gRow; exact cat_put (L := [ints .u8 m.D]) (by simp [cat, ints_size, hm.d, hm.c, hm.k, ht.own, ht.psk, ht.once, ht.their]) (by simp [ints_size, hB, hm.d, hm.c, ht.once, ht.their])
theorem gr_kind (hm : m.Ok) (ht : t.Ok) : (gRow m t)[98]? = some (.int .i64 t.kind) := by unfold gRow; exact cat_at (L := [ints .u8 m.D, ints .u8 m.C, ints .u8 m.K, #[.int .i64 m.n], #[.bool m.q]]) (by simp [cat, ints_size, hm.d, hm.c, hm.k, ht.own, ht.psk, ht.once, ht.their])
theorem gr_bg (hm : m.Ok) (ht : t.Ok) : (gRow m t)[99]? = some (.bool t.bg) := by unfold gRow; exact cat_at (L := [ints .u8 m.D, ints .u8 m.C, ints .u8 m.K, #[.int .i64 m.n], #[.bool m.q], #[.int .i64 t.kind]]) (by simp [cat, ints_size, hm.d, hm.c, hm.k, ht.own, ht.psk, ht.once, ht.their])
theorem gr_own (hm : m.Ok) (ht : t.Ok) : (gRow m t).extract 100 (100 + 32) = ints .u8 t.own := by unfold gRow; exact cat_ex (L := [ints .u8 m.D, ints .u8 m.C, ints .u8 m.K, #[.int .i64 m.n], #[.bool m.q], #[.int .i64 t.kind], #[.bool t.bg]]) (by simp [cat, ints_size, hm.d, hm.c, hm.k, ht.own, ht.psk, ht.once, ht.their]) (by simp [cat, ints_size, hm.d, hm.c, hm.k, ht.own, ht.psk, ht.once, ht.their])
theorem gr_lpsk (hm : m.Ok) (ht : t.Ok) : Lies (gRow m t) 132 t.psk := by unfold gRow; exact cat_lies (L := [ints .u8 m.D, ints .u8 m.C, ints .u8 m.K, #[.int .i64 m.n], #[.bool m.q], #[.int .i64 t.kind], #[.bool t.bg], ints .u8 t.own]) (by simp [cat, ints_size, hm.d, hm.c, hm.k, ht.own, ht.psk, ht.once, ht.their])
theorem gr_once (hm : m.Ok) (ht : t.Ok) : (gRow m t).extract 164 (164 + 32) = ints .u8 t.once := by unfold gRow; exact cat_ex (L := [ints .u8 m.D, ints .u8 m.C, ints .u8 m.K, #[.int .i64 m.n], #[.bool m.q], #[.int .i64 t.kind], #[.bool t.bg], ints .u8 t.own, ints .u8 t.psk]) (by simp [cat, ints_size, hm.d, hm.c, hm.k, ht.own, ht.psk, ht.once, ht.their]) (by simp [cat, ints_size, hm.d, hm.c, hm.k, ht.own, ht.psk, ht.once, ht.their])
theorem gr_ponce (hm : m.Ok) (ht : t.Ok) {B : List Int} (hB : B.length = 32) : putAt (gRow m t) 164 (B.map (Value.int .u8)) = gRow m {t with once := B} := by unfold gRow; exact cat_put (L := [ints .u8 m.D, ints .u8 m.C, ints .u8 m.K, #[.int .i64 m.n], #[.bool m.q], #[.int .i64 t.kind], #[.bool t.bg], ints .u8 t.own, ints .u8 t.psk]) (by simp [cat, ints_size, hm.d, hm.c, hm.k, ht.own, ht.psk, ht.once, ht.their]) (by simp [ints_size, hB, hm.d, hm.c, ht.once, ht.their])
theorem gr_rp (hm : m.Ok) (ht : t.Ok) : (gRow m t)[196]? = some (t.rp) := by unfold gRow; exact cat_at (L := [ints .u8 m.D, ints .u8 m.C, ints .u8 m.K, #[.int .i64 m.n], #[.bool m.q], #[.int .i64 t.kind], #[.bool t.bg], ints .u8 t.own, ints .u8 t.psk, ints .u8 t.once]) (by simp [cat, ints_size, hm.d, hm.c, hm.k, ht.own, ht.psk, ht.once, ht.their])
theorem gr_prp (hm : m.Ok) (ht : t.Ok) (v : Value) : putAt (gRow m t) 196 [v] = gRow m {t with rp := v} := by unfold gRow; exact cat_put (L := [ints .u8 m.D, ints .u8 m.C, ints .u8 m.K, #[.int .i64 m.n], #[.bool m.q], #[.int .i64 t.kind], #[.bool t.bg], ints .u8 t.own, ints .u8 t.psk, ints .u8 t.once]) (by simp [cat, ints_size, hm.d, hm.c, hm.k, ht.own, ht.psk, ht.once, ht.their]) rfl
theorem gr_their (hm : m.Ok) (ht : t.Ok) : (gRow m t).extract 197 (197 + 32) = ints .u8 t.their := by unfold gRow; exact cat_ex (L := [ints .u8 m.D, ints .u8 m.C, ints .u8 m.K, #[.int .i64 m.n], #[.bool m.q], #[.int .i64 t.kind], #[.bool t.bg], ints .u8 t.own, ints .u8 t.psk, ints .u8 t.once, #[t.rp]]) (by simp [cat, ints_size, hm.d, hm.c, hm.k, ht.own, ht.psk, ht.once, ht.their]) (by simp [cat, ints_size, hm.d, hm.c, hm.k, ht.own, ht.psk, ht.once, ht.their])
theorem gr_ptheir (hm : m.Ok) (ht : t.Ok) {B : List Int} (hB : B.length = 32) : putAt (gRow m t) 197 (B.map (Value.int .u8)) = gRow m {t with their := B} := by unfold gRow; exact cat_put (L := [ints .u8 m.D, ints .u8 m.C, ints .u8 m.K, #[.int .i64 m.n], #[.bool m.q], #[.int .i64 t.kind], #[.bool t.bg], ints .u8 t.own, ints .u8 t.psk, ints .u8 t.once, #[t.rp]]) (by simp [cat, ints_size, hm.d, hm.c, hm.k, ht.own, ht.psk, ht.once, ht.their]) (by simp [ints_size, hB, hm.d, hm.c, ht.once, ht.their])
theorem gr_done (hm : m.Ok) (ht : t.Ok) : (gRow m t)[229]? = some (.int .i64 t.done) := by unfold gRow; exact cat_at (L := [ints .u8 m.D, ints .u8 m.C, ints .u8 m.K, #[.int .i64 m.n], #[.bool m.q], #[.int .i64 t.kind], #[.bool t.bg], ints .u8 t.own, ints .u8 t.psk, ints .u8 t.once, #[t.rp], ints .u8 t.their]) (by simp [cat, ints_size, hm.d, hm.c, hm.k, ht.own, ht.psk, ht.once, ht.their])
theorem gr_pdone (hm : m.Ok) (ht : t.Ok) (v : Int) : putAt (gRow m t) 229 [.int .i64 v] = gRow m {t with done := v} := by unfold gRow; exact cat_put (L := [ints .u8 m.D, ints .u8 m.C, ints .u8 m.K, #[.int .i64 m.n], #[.bool m.q], #[.int .i64 t.kind], #[.bool t.bg], ints .u8 t.own, ints .u8 t.psk, ints .u8 t.once, #[t.rp], ints .u8 t.their]) (by simp [cat, ints_size, hm.d, hm.c, hm.k, ht.own, ht.psk, ht.once, ht.their]) rfl
theorem gr_cells (ht : t.Ok) : ∀ u ∈ (gRow m t).toList, u.oneCell' = true := by
  unfold gRow
  intro u hu
  simp only [cat, Array.toList_append, List.mem_append] at hu
  rcases hu with h | h | h | h | h | h | h | h | h | h | h | h | h | h
  all_goals first | exact ints_mem u h | (simp at h; done) | (simp at h; subst h; first | rfl | exact ht.rp)
theorem HT.Ok.once_ (ht : t.Ok) {B : List Int} (hB : B.length = 32) : ({t with once := B} : HT).Ok := ⟨ht.own, ht.psk, hB, ht.their, ht.rp⟩
theorem HT.Ok.their_ (ht : t.Ok) {B : List Int} (hB : B.length = 32) : ({t with their := B} : HT).Ok := ⟨ht.own, ht.psk, ht.once, hB, ht.rp⟩
theorem HT.Ok.rp_ (ht : t.Ok) {v : Value} (hv : v.oneCell' = true) : ({t with rp := v} : HT).Ok := ⟨ht.own, ht.psk, ht.once, ht.their, hv⟩
theorem HT.Ok.done_ (ht : t.Ok) (n : Int) : ({t with done := n} : HT).Ok := ⟨ht.own, ht.psk, ht.once, ht.their, ht.rp⟩
end
@[irreducible] def Mx.mix (m : Mx) (B : List Int) : Mx := { m with D := bDg (m.D ++ B) }
@[irreducible] def Mx.key (m : Mx) (B : List Int) : Mx := { m with C := exT (bHm m.C B) 1, K := exT (bHm m.C B) 2, n := 0, q := true }
@[irreducible] def Mx.shr (m : Mx) (B : List Int) : Mx := { D := bDg (m.D ++ exT (bHm m.C B) 2), C := exT (bHm m.C B) 1, K := exT (bHm m.C B) 3, n := 0, q := true }
@[irreducible] def Mx.sX (m : Mx) (B : List Int) : List Int := sealV m.K (nonV m.n) m.D B
@[irreducible] def Mx.enc (m : Mx) (B : List Int) : Mx := { m with D := bDg (m.D ++ m.sX B), n := m.n + 1 }
@[irreducible] def Mx.oE (m : Mx) (B : List Int) : Int := Sp.oE m.K (nonV m.n) m.D B
@[irreducible] def Mx.oX (m : Mx) (B : List Int) : List Int := Sp.oX m.K (nonV m.n) m.D B
@[irreducible] def Mx.dec (m : Mx) (B : List Int) : Mx := if m.oE B = 0 then { m with D := bDg (m.D ++ B), n := m.n + 1 } else m
@[irreducible] def Mx.share (m : Mx) (a u : List Int) : Mx := if Low.shN a u = 0 then m.key (Low.shX a u) else m
section
variable {m : Mx}
theorem byts_bdI (H : List Int) : ∀ i, Byts (bdI H i)
  | 0 => by rw [bdI_0]; exact byts_mem (fun x hx => by rw [List.eq_of_mem_replicate hx]; decide)
  | i + 1 => by rw [bdI_s]; exact ptN_byts (byts_bdI H i) _ _ _
theorem byts_bDg (B : List Int) : Byts (bDg B) := by unfold bDg; exact byts_bdI _ _
theorem Mx.Ok.mix (h : m.Ok) (B : List Int) : (m.mix B).Ok := by unfold Mx.mix; exact ⟨bDg_length _, h.c, h.k, byts_bDg _⟩
theorem Mx.Ok.key (h : m.Ok) (B : List Int) : (m.key B).Ok := by unfold Mx.key; exact ⟨h.d, exT_len _ _, exT_len _ _, h.b⟩
theorem Mx.Ok.shr (h : m.Ok) (B : List Int) : (m.shr B).Ok := by unfold Mx.shr; exact ⟨bDg_length _, exT_len _ _, exT_len _ _, byts_bDg _⟩
theorem Mx.Ok.enc (h : m.Ok) (B : List Int) : (m.enc B).Ok := by unfold Mx.enc; exact ⟨bDg_length _, h.c, h.k, byts_bDg _⟩
theorem Mx.Ok.dec (h : m.Ok) (B : List Int) : (m.dec B).Ok := by
  unfold Mx.dec
  split
  · exact ⟨bDg_length _, h.c, h.k, byts_bDg _⟩
  · exact h
theorem Mx.Ok.share (h : m.Ok) (a u : List Int) : (m.share a u).Ok := by
  unfold Mx.share
  split
  · exact h.key _
  · exact h
end
theorem hmix_any (b : Nat) (m : Mx) (t : HT) (hm : m.Ok) (T : TypeId) (q : Option Addr) (n c : Nat) (B : List Int) (w : World) (hlB : B.length = n) (hn : n ≤ 140737488351232) (hb : w.heap[b]? = some (.cells (gRow m t) T (0, 0))) (hB : ∀ w1, OwnM w [b] w1 [(b, gRow m t, T)] → Sl w1 q n c B) : Calls Try.prog 22 #[.pointer (some ⟨b, 0, none⟩), .slice q n c] w fun e w' => e = .returned (.tuple #[]) ∧ OwnM w [b] w' [(b, gRow (m.mix B) t, T)] := by
  rw [gr_mx] at hb hB
  rw [gr_mx]
  unfold Mx.mix
  exact mix_any b m.D m.C m.K m.n m.q t.row T q n c B w hm.d hm.c hm.k hlB hn hb hB
theorem hmixKey_any (b : Nat) (m : Mx) (t : HT) (hm : m.Ok) (T : TypeId) (q : Option Addr) (n c : Nat) (B : List Int) (w : World) (hlB : B.length = n) (hn : n ≤ 1000000000) (hb : w.heap[b]? = some (.cells (gRow m t) T (0, 0))) (hB : ∀ w1, OwnM w [b] w1 [(b, gRow m t, T)] → Sl w1 q n c B) : Calls Try.prog 55 #[.pointer (some ⟨b, 0, none⟩), .slice q n c] w fun e w' => e = .returned (.tuple #[]) ∧ OwnM w [b] w' [(b, gRow (m.key B) t, T)] := by
  rw [gr_mx] at hb hB
  rw [gr_mx]
  unfold Mx.key
  exact mixKey_any b m.D m.C m.K m.n m.q t.row T q n c B w hm.d hm.c hm.k hn hb hB
theorem hmixShared_any (b : Nat) (m : Mx) (t : HT) (hm : m.Ok) (T : TypeId) (q : Option Addr) (n c : Nat) (B : List Int) (w : World) (hlB : B.length = n) (hn : n ≤ 1000000000) (hb : w.heap[b]? = some (.cells (gRow m t) T (0, 0))) (hB : ∀ w1, OwnM w [b] w1 [(b, gRow m t, T)] → Sl w1 q n c B) : Calls Try.prog 56 #[.pointer (some ⟨b, 0, none⟩), .slice q n c] w fun e w' => e = .returned (.tuple #[]) ∧ OwnM w [b] w' [(b, gRow (m.shr B) t, T)] := by
  rw [gr_mx] at hb hB
  rw [gr_mx]
  unfold Mx.shr
  exact mixShared_any b m.D m.C m.K m.n m.q t.row T q n c B w hm.d hm.c hm.k hn hb hB
theorem hseal_any (b : Nat) (m : Mx) (t : HT) (hm : m.Ok) (T : TypeId) (q : Option Addr) (n c : Nat) (B : List Int) (w : World) (hlB : B.length = n) (hn : n ≤ 4096) (hb : w.heap[b]? = some (.cells (gRow m t) T (0, 0))) (hB : ∀ w1, OwnM w [b] w1 [(b, gRow m t, T)] → Sl w1 q n c B) (bB : Byts B) (hk : m.q = true) (h0 : 0 ≤ m.n) (h1 : m.n ≤ 100) : Calls Try.prog 39 #[.pointer (some ⟨b, 0, none⟩), .slice q n c] w (StPost w b T (gRow (m.enc B) t) (m.sX B) 0) := by
  rw [gr_mx] at hb hB
  rw [gr_mx]
  unfold Mx.enc Mx.sX
  have h := mseal_any b m.D m.C m.K m.n t.row T q n c B w hm.d hm.c hm.k hm.b bB h0 h1 hlB hn (by rw [← hk]; exact hb) (by rw [← hk]; exact hB)
  rw [← hk] at h
  exact h
theorem hopen_any (b : Nat) (m : Mx) (t : HT) (hm : m.Ok) (T : TypeId) (q : Option Addr) (n c : Nat) (B : List Int) (w : World) (hlB : B.length = n) (hn : n ≤ 5000) (hb : w.heap[b]? = some (.cells (gRow m t) T (0, 0))) (hS : Sl w q n c B) (hA : ApartB b q n) (bB : Byts B) (hk : m.q = true) (h0 : 0 ≤ m.n) (h1 : m.n ≤ 100) : Calls Try.prog 42 #[.pointer (some ⟨b, 0, none⟩), .slice q n c] w (StPost w b T (gRow (m.dec B) t) (m.oX B) (m.oE B)) := by
  rw [gr_mx] at hb
  rw [gr_mx]
  have h := mopen_any b m.D m.C m.K m.n t.row T q n c B w hm.d hm.c hm.k hm.b bB h0 h1 hlB hn (by rw [← hk]; exact hb) hS hA
  have e : opRow m.D m.C m.K m.n t.row B = mRow (m.dec B).D (m.dec B).C (m.dec B).K (m.dec B).n (m.dec B).q t.row := by
    unfold Mx.dec Mx.oE
    by_cases hE : Sp.oE m.K (nonV m.n) m.D B = 0
    · rw [opRow_ok hE, if_pos hE]; show _ = mRow _ _ _ _ m.q _; rw [hk]
    · rw [opRow_no hE, if_neg hE, hk]
  rw [e] at h
  unfold Mx.oX Mx.oE
  exact h
theorem hshare_any (b : Nat) (m : Mx) (t : HT) (hm : m.Ok) (T : TypeId) (a u : List Int) (la : a.length = 32) (hub : Bytes32 u) (hkb : Byt (clampL a)) (w : World) (hb : w.heap[b]? = some (.cells (gRow m t) T (0, 0))) : Calls Try.prog 40 #[.pointer (some ⟨b, 0, none⟩), .agg (ints .u8 a), .agg (ints .u8 u)] w fun e w' => e = .returned (.int .i64 (Low.shN a u)) ∧ OwnM w [b] w' [(b, gRow (m.share a u) t, T)] := by
  rw [gr_mx] at hb
  rw [gr_mx]
  have h := mshare_any b m.D m.C m.K m.n m.q t.row T a u la hub hkb w hm.d hm.c hm.k hb
  have e : shRow m.D m.C m.K m.n m.q t.row a u = mRow (m.share a u).D (m.share a u).C (m.share a u).K (m.share a u).n (m.share a u).q t.row := by
    unfold Mx.share
    by_cases hE : Low.shN a u = 0
    · rw [shRow_ok hE, if_pos hE]; unfold Mx.key; rfl
    · rw [shRow_no hE, if_neg hE]
  rw [e] at h
  exact h
end Sp
end
section
open Go Go.RowKit
namespace Sp
open F M
theorem hnone_any (b : Nat) (m : Mx) (t : HT) (hm : m.Ok) (ht : t.Ok) (T : TypeId) (w : World) (hb : w.heap[b]? = some (.cells (gRow m t) T (0, 0))) (h0 : t.kind ≠ 0) : Calls Try.prog 23 #[.pointer (some ⟨b, 0, none⟩)] w (fun e w' => e = .returned (.bool false) ∧ Below w.heap.size w w') := by
  refine pureE Try.func23 Try.ntmps23 Try.results23 ?_
  repeat (first | (refine rgn 0 ?_; refine sEv ?_; refine nlx ?_) | (refine rgn 1 ?_; refine sEv ?_; (first | (refine SL.v (ValO.ptrNil tabOk rfl rfl rfl) ?_) | (refine SL.v (ValO.ptrNilT tabOk rfl rfl rfl) ?_)); refine sEv ?_; (first | (refine SL.gT ?_; refine sEv ?_) | refine SL.gF ?_); (first | (refine SL.gT ?_; refine SL.nc ?_) | refine SL.gF ?_); (first | (refine SL.gT ?_; refine sEv ?_) | refine SL.gF ?_); (first | (refine SL.gT ?_; refine SL.ldC tabOk ?_ (hv := gr_kind hm ht)) | refine SL.gF ?_); (first | (refine SL.gT ?_; (first | (refine SL.c true tabOk ?_) | (refine SL.c false tabOk ?_) | (refine sEv ?_))) | refine SL.gF ?_); refine sEv ?_; refine sEv ?_; refine nlx ?_) | (refine zsq ?_; intro _ _) | (with_reducible refine zkN ?_) | (refine useK (by assumption) ?_) | (with_reducible first | refine zsB ?_ | refine zkX ?_ | refine zkR ?_ | refine zbN ?_ | refine zbR ?_ | refine zbE ?_ | refine zbX ?_ | refine zsS ?_ | refine zsR ?_ | refine zsX ?_) | (refine cdT ?_) | (refine cdF ?_))
  exact doneK.mk rfl (ResO.tmp rfl) (by first | rfl | (simp [h0]))
theorem hturn_any (b : Nat) (m : Mx) (t : HT) (hm : m.Ok) (ht : t.Ok) (T : TypeId) (w : World) (hb : w.heap[b]? = some (.cells (gRow m t) T (0, 0))) : Calls Try.prog 24 #[.pointer (some ⟨b, 0, none⟩)] w (fun e w' => e = .returned (.tuple #[.bool (t.bg == (t.done == 0)), .bool (t.done < 2)]) ∧ Below w.heap.size w w') := by
  refine pureE Try.func24 Try.ntmps24 Try.results24 ?_
  repeat (first | (refine rgn 0 ?_; refine sEv ?_; refine sEv ?_; refine nlx ?_) | ((with_reducible show SP _ _ _ (Code.region _ _ true) _ _ _); first | (refine SPa (id := 1) [] [] ([]) [0, 1, 2, 3, 4, 5, 6, 7, 8, 9, 10, 11, 12, 13, 14, 15, 16] follows ?_; refine fPv ?_; refine SF.nc ?_; refine SF.e tabOk ?_; refine SF.ldC tabOk ?_ (hv := gr_bg hm ht); refine fPv ?_; refine SF.nc ?_; refine SF.e tabOk ?_; refine SF.ldC tabOk ?_ (hv := gr_done hm ht); refine SF.e tabOk ?_; refine SF.v (ValO.eqB tabOk rfl rfl rfl rfl) ?_; refine fPv ?_; refine SF.nc ?_; refine SF.e tabOk ?_; refine SF.ldC tabOk ?_ (hv := gr_done hm ht); refine SF.e tabOk ?_; refine fPv ?_; refine fPv ?_; refine SF.done ?_)) | (refine zsq ?_; intro _ _) | (with_reducible refine zkN ?_) | (refine useK (by assumption) ?_) | (with_reducible first | refine zsB ?_ | refine zkX ?_ | refine zkR ?_ | refine zbN ?_ | refine zbR ?_ | refine zbE ?_ | refine zbX ?_ | refine zsS ?_ | refine zsR ?_ | refine zsX ?_) | (refine cdT ?_) | (refine cdF ?_))
  exact doneK.mk rfl (ResO.tmp2 rfl rfl) rfl
end Sp
end
section
open Go Go.RowKit
namespace Sp
open F M
section
variable {P : Program} {tab : Tab} {w0 : World} {mu : List Nat} {bs : Mem} {l l' : List Value} {ops : Array Oper} {Q : ExitP} {dst : Option Tmp} {ty : TypeId} {pos : String} {af : Array Edge}
theorem SL.cl2 {rest : List Oper} {f : FuncId} {args : List Operand} {ats : Array TypeId} (b : Nat) (hent : ∀ (A : Array Value) (w : World), (callFunc f A).run P w = .ok (.enter f A) w) {vals : List Value} (hv : args.map (evL l) = vals) {v : Value} {i : Nat} {A A' : Array Value} {T : TypeId} {bs' : Mem} (hc : ∀ w : World, OwnM w0 mu w bs → w.heap[b]? = some (.cells A T (0, 0)) → Calls P f vals.toArray w fun e w' => e = .returned v ∧ OwnM w [b] w' [(b, A', T)]) (h : SL P ops w0 mu rest Q l' bs') (hi : bs[i]? = some (b, A, T) := by exact gbk _) (hbs : bs.set i (b, A', T) = bs' := by exact stt) (hp : putL l dst v = l' := by exact bpp) : SL P ops w0 mu (⟨dst, .call { callee := .value (.func f), args := args.toArray, argTypes := ats }, ty, pos, af, none⟩ :: rest) Q l bs :=
  SL.call1 hent hv hi (fun w hw => hc w hw (hw.block (List.mem_of_getElem? hi))) hbs hp h
theorem SF.cl2 {E D : List Nat} {keep : Mem} {i0 : Nat} {rest : List (Nat × Oper)} {f : FuncId} {args : List Operand} {ats : Array TypeId} (b : Nat) (hent : ∀ (A : Array Value) (w : World), (callFunc f A).run P w = .ok (.enter f A) w) {vals : List Value} (hv : args.map (evL l) = vals) {v : Value} {i : Nat} {A A' : Array Value} {T : TypeId} {bs' : Mem} (hc : ∀ w : World, OwnM w0 mu w bs → w.heap[b]? = some (.cells A T (0, 0)) → Calls P f vals.toArray w fun e w' => e = .returned v ∧ OwnM w [b] w' [(b, A', T)]) (h : SF P ops w0 mu E D keep rest Q l' bs') (hE : E.contains i0 = true := by rfl) (hi : bs[i]? = some (b, A, T) := by exact gbk _) (hbs : bs.set i (b, A', T) = bs' := by exact stt) (hkp : Kept keep bs' := by first | exact Kept.nil | (simp [Kept]; done)) (hp : putL l dst v = l' := by exact bpp) : SF P ops w0 mu E D keep ((i0, ⟨dst, .call { callee := .value (.func f), args := args.toArray, argTypes := ats }, ty, pos, af, none⟩) :: rest) Q l bs :=
  SF.call1 hE hent hv hi (fun w hw => hc w hw (hw.block (List.mem_of_getElem? hi))) hbs hkp hp h
end
@[irreducible] def Mx.point (m : Mx) (k : Int) (p : List Int) : Mx := if k = 2 then (m.mix p).key p else m.mix p
@[irreducible] def Mx.both (m : Mx) (a u a' u' : List Int) : Mx := if Low.shN a u = 0 then (m.share a u).share a' u' else m.share a u
@[irreducible] def bothE (a u a' u' : List Int) : Int := if Low.shN a u = 0 then Low.shN a' u' else Low.shN a u
@[irreducible] def Mx.shd (m : Mx) (k : Int) (p : List Int) : Mx := if k = 2 then m.shr p else m
theorem Mx.Ok.point {m : Mx} (h : m.Ok) (k : Int) (p : List Int) : (m.point k p).Ok := by
  unfold Mx.point
  split
  · exact (h.mix p).key p
  · exact h.mix p
theorem Mx.Ok.both {m : Mx} (h : m.Ok) (a u a' u' : List Int) : (m.both a u a' u').Ok := by
  unfold Mx.both
  split
  · exact (h.share a u).share a' u'
  · exact h.share a u
theorem Mx.Ok.shd {m : Mx} (h : m.Ok) (k : Int) (p : List Int) : (m.shd k p).Ok := by
  unfold Mx.shd
  split
  · exact h.shr p
  · exact h
theorem hpoint_any (p : List Int) (lp : p.length = 32) (b : Nat) (m : Mx) (t : HT) (hm : m.Ok) (ht : t.Ok) (T : TypeId) (w : World) (hb : w.heap[b]? = some (.cells (gRow m t) T (0, 0))) : Calls Try.prog 36 #[.pointer (some ⟨b, 0, none⟩), .agg (ints .u8 p)] w (fun e w' => e = .returned (.tuple #[]) ∧ OwnM w [b] w' [(b, gRow (m.point t.kind p) t, T)]) := by
  by_cases h2 : t.kind = 2
  · have e : m.point t.kind p = (m.mix p).key p := by unfold Mx.point; rw [if_pos h2]
    rw [e]
    refine mutE Try.func36 Try.ntmps36 Try.results36 hb ?_
    repeat (first | (refine rgn 0 ?_; refine SL.bx ?_; intro pb; refine nlx ?_) | (refine rgn 2 ?_; refine sEv ?_; refine SL.nc ?_; refine sEv ?_; refine SL.ldC tabOk ?_ (hv := gr_kind (hm.mix p) ht); refine sEv ?_; refine nlx ?_) | ((with_reducible show SP _ _ _ (Code.region _ _ true) _ _ _); first | (refine SPa (id := 1) [4] [] ([]) [0, 1, 2, 3, 4] follows ?_; refine fPv ?_; refine SF.nc ?_; refine SF.e tabOk ?_; refine SF.ctA tabOk 0 32 ?_; refine SF.cl2 b (i := 1) ent_22 rfl (fun w1 hw1 hb1 => hmix_any b m t hm T _ 32 32 p w1 lp (by decide) hb1 (fun w2 hw2 => Sl.of (hw1.call1 (i := 1) (by exact gbk _) hw2) (RdA.own g0) (Lies.whole p) lp (Nat.le_refl _))) ?_; refine SF.done ?_) | (refine SPa (id := 3) [4] [] ([]) [0, 1, 2, 3, 4] follows ?_; refine fPv ?_; refine SF.nc ?_; refine SF.e tabOk ?_; refine SF.ctA tabOk 0 32 ?_; refine SF.cl2 b (i := 1) ent_55 rfl (fun w1 hw1 hb1 => hmixKey_any b (m.mix p) t (hm.mix p) T _ 32 32 p w1 lp (by decide) hb1 (fun w2 hw2 => Sl.of (hw1.call1 (i := 1) (by exact gbk _) hw2) (RdA.own g0) (Lies.whole p) lp (Nat.le_refl _))) ?_; refine SF.done ?_)) | (refine zsq ?_; intro _ _) | (with_reducible refine zkN ?_) | (refine useK (by assumption) ?_) | (with_reducible first | refine zsB ?_ | refine zkX ?_ | refine zkR ?_ | refine zbN ?_ | refine zbR ?_ | refine zbE ?_ | refine zbX ?_ | refine zsS ?_ | refine zsR ?_ | refine zsX ?_) | (refine cdT ?_) | (refine cdF ?_))
    exact doneK.mk rfl ResO.nil ⟨rfl, by simp⟩
  · have e : m.point t.kind p = m.mix p := by unfold Mx.point; rw [if_neg h2]
    rw [e]
    refine mutE Try.func36 Try.ntmps36 Try.results36 hb ?_
    repeat (first | (refine rgn 0 ?_; refine SL.bx ?_; intro pb; refine nlx ?_) | (refine rgn 2 ?_; refine sEv ?_; refine SL.nc ?_; refine sEv ?_; refine SL.ldC tabOk ?_ (hv := gr_kind (hm.mix p) ht); refine sEv ?_; refine nlx ?_) | ((with_reducible show SP _ _ _ (Code.region _ _ true) _ _ _); first | (refine SPa (id := 1) [4] [] ([]) [0, 1, 2, 3, 4] follows ?_; refine fPv ?_; refine SF.nc ?_; refine SF.e tabOk ?_; refine SF.ctA tabOk 0 32 ?_; refine SF.cl2 b (i := 1) ent_22 rfl (fun w1 hw1 hb1 => hmix_any b m t hm T _ 32 32 p w1 lp (by decide) hb1 (fun w2 hw2 => Sl.of (hw1.call1 (i := 1) (by exact gbk _) hw2) (RdA.own g0) (Lies.whole p) lp (Nat.le_refl _))) ?_; refine SF.done ?_)) | (refine zsq ?_; intro _ _) | (with_reducible refine zkN ?_) | (refine useK (by assumption) ?_) | (with_reducible first | refine zsB ?_ | refine zkX ?_ | refine zkR ?_ | refine zbN ?_ | refine zbR ?_ | refine zbE ?_ | refine zbX ?_ | refine zsS ?_ | refine zsR ?_ | refine zsX ?_) | (refine cdT ?_) | (refine cdF ?_))
    exact doneK.mk rfl ResO.nil ⟨rfl, by simp⟩
theorem hboth_any (a u a' u' : List Int) (la : a.length = 32) (hu : Bytes32 u) (ka : Byt (clampL a)) (la' : a'.length = 32) (hu' : Bytes32 u') (ka' : Byt (clampL a')) (b : Nat) (m : Mx) (t : HT) (hm : m.Ok) (ht : t.Ok) (T : TypeId) (w : World) (hb : w.heap[b]? = some (.cells (gRow m t) T (0, 0))) : Calls Try.prog 37 #[.pointer (some ⟨b, 0, none⟩), .agg (ints .u8 a), .agg (ints .u8 u), .agg (ints .u8 a'), .agg (ints .u8 u')] w (fun e w' => e = .returned (.int .i64 (bothE a u a' u')) ∧ OwnM w [b] w' [(b, gRow (m.both a u a' u') t, T)]) := by
  have lu := hu.1
  have lu' := hu'.1
  by_cases h2 : Low.shN a u = 0
  · have e : m.both a u a' u' = (m.share a u).share a' u' := by unfold Mx.both; rw [if_pos h2]
    have e2 : bothE a u a' u' = Low.shN a' u' := by unfold bothE; rw [if_pos h2]
    rw [e, e2]
    refine mutE Try.func37 Try.ntmps37 Try.results37 hb ?_
    repeat (first | (refine rgn 0 ?_; refine SL.bx ?_; intro ab; refine SL.bx ?_; intro ub; refine SL.bx ?_; intro cb; refine SL.bx ?_; intro vb; refine sEv ?_; refine nlx ?_) | (refine rgn 2 ?_; refine sEv ?_; refine sEv ?_; refine nlx ?_) | ((with_reducible show SP _ _ _ (Code.region _ _ true) _ _ _); first | (refine SPa (id := 1) [5] [] ([]) [0, 1, 2, 3, 4, 5, 6] follows ?_; refine fPv ?_; refine SF.nc ?_; refine SF.e tabOk ?_; refine SF.ldR tabOk ?_; refine SF.ldR tabOk ?_; refine SF.cl2 b (i := 4) ent_40 rfl (fun w1 hw1 hb1 => hshare_any b m t hm T a u la hu ka w1 hb1) ?_; refine fPv ?_; refine SF.done ?_) | (refine SPa (id := 4) [5] [] ([]) [0, 1, 2, 3, 4, 5, 6] follows ?_; refine fPv ?_; refine SF.nc ?_; refine SF.e tabOk ?_; refine SF.ldR tabOk ?_; refine SF.ldR tabOk ?_; refine SF.cl2 b (i := 4) ent_40 rfl (fun w1 hw1 hb1 => hshare_any b (m.share a u) t (hm.share a u) T a' u' la' hu' ka' w1 hb1) ?_; refine fPv ?_; refine SF.done ?_)) | (refine zsq ?_; intro _ _) | (with_reducible refine zkN ?_) | (refine useK (by assumption) ?_) | (with_reducible first | refine zsB ?_ | refine zkX ?_ | refine zkR ?_ | refine zbN ?_ | refine zbR ?_ | refine zbE ?_ | refine zbX ?_ | refine zsS ?_ | refine zsR ?_ | refine zsX ?_) | (refine cdT ?_) | (refine cdF ?_))
    exact doneK.mk rfl (ResO.tmp rfl) ⟨rfl, by simp⟩
  · have e : m.both a u a' u' = m.share a u := by unfold Mx.both; rw [if_neg h2]
    have e2 : bothE a u a' u' = Low.shN a u := by unfold bothE; rw [if_neg h2]
    rw [e, e2]
    refine mutE Try.func37 Try.ntmps37 Try.results37 hb ?_
    repeat (first | (refine rgn 0 ?_; refine SL.bx ?_; intro ab; refine SL.bx ?_; intro ub; refine SL.bx ?_; intro cb; refine SL.bx ?_; intro vb; refine sEv ?_; refine nlx ?_) | (refine rgn 2 ?_; refine sEv ?_; refine sEv ?_; refine nlx ?_) | (refine rgn 3 ?_; refine sEv ?_; refine sEv ?_; refine nlx ?_) | ((with_reducible show SP _ _ _ (Code.region _ _ true) _ _ _); first | (refine SPa (id := 1) [5] [] ([]) [0, 1, 2, 3, 4, 5, 6] follows ?_; refine fPv ?_; refine SF.nc ?_; refine SF.e tabOk ?_; refine SF.ldR tabOk ?_; refine SF.ldR tabOk ?_; refine SF.cl2 b (i := 4) ent_40 rfl (fun w1 hw1 hb1 => hshare_any b m t hm T a u la hu ka w1 hb1) ?_; refine fPv ?_; refine SF.done ?_)) | (refine zsq ?_; intro _ _) | (with_reducible refine zkN ?_) | (refine useK (by assumption) ?_) | (with_reducible first | refine zsB ?_ | refine zkX ?_ | refine zkR ?_ | refine zbN ?_ | refine zbR ?_ | refine zbE ?_ | refine zbX ?_ | refine zsS ?_ | refine zsR ?_ | refine zsX ?_) | (refine cdT ?_) | (refine cdF ?_))
    exact doneK.mk rfl (ResO.tmp rfl) ⟨rfl, by simp⟩
theorem hshared_any (b : Nat) (m : Mx) (t : HT) (hm : m.Ok) (ht : t.Ok) (T : TypeId) (w : World) (hb : w.heap[b]? = some (.cells (gRow m t) T (0, 0))) : Calls Try.prog 38 #[.pointer (some ⟨b, 0, none⟩)] w (fun e w' => e = .returned (.tuple #[]) ∧ OwnM w [b] w' [(b, gRow (m.shd t.kind t.psk) t, T)]) := by
  by_cases h2 : t.kind = 2
  · have e : m.shd t.kind t.psk = m.shr t.psk := by unfold Mx.shd; rw [if_pos h2]
    rw [e]
    refine mutE Try.func38 Try.ntmps38 Try.results38 hb ?_
    repeat (first | (refine rgn 0 ?_; refine sEv ?_; refine SL.nc ?_; refine sEv ?_; refine SL.ldC tabOk ?_ (hv := gr_kind hm ht); refine sEv ?_; refine nlx ?_) | ((with_reducible show SP _ _ _ (Code.region _ _ true) _ _ _); first | (refine SPa (id := 1) [7] [] ([]) [0, 1, 2, 3, 4, 5, 6, 7] follows ?_; refine fPv ?_; refine SF.nc ?_; refine SF.e tabOk ?_; refine fPv ?_; refine SF.nc ?_; refine SF.e tabOk ?_; refine SF.ctA tabOk 0 32 ?_; refine SF.cl2 b (i := 0) ent_56 rfl (fun w1 hw1 hb1 => hmixShared_any b m t hm T _ 32 32 t.psk w1 ht.psk (by decide) hb1 (fun w2 hw2 => Sl.of hw2 (RdA.own g0) (gr_lpsk hm ht) ht.psk (Nat.le_refl _))) ?_; refine SF.done ?_)) | (refine zsq ?_; intro _ _) | (with_reducible refine zkN ?_) | (refine useK (by assumption) ?_) | (with_reducible first | refine zsB ?_ | refine zkX ?_ | refine zkR ?_ | refine zbN ?_ | refine zbR ?_ | refine zbE ?_ | refine zbX ?_ | refine zsS ?_ | refine zsR ?_ | refine zsX ?_) | (refine cdT ?_) | (refine cdF ?_))
    exact doneK.mk rfl ResO.nil ⟨rfl, by simp⟩
  · have e : m.shd t.kind t.psk = m := by unfold Mx.shd; rw [if_neg h2]
    rw [e]
    refine mutE Try.func38 Try.ntmps38 Try.results38 hb ?_
    repeat (first | (refine rgn 0 ?_; refine sEv ?_; refine SL.nc ?_; refine sEv ?_; refine SL.ldC tabOk ?_ (hv := gr_kind hm ht); refine sEv ?_; refine nlx ?_) | (refine zsq ?_; intro _ _) | (with_reducible refine zkN ?_) | (refine useK (by assumption) ?_) | (with_reducible first | refine zsB ?_ | refine zkX ?_ | refine zkR ?_ | refine zbN ?_ | refine zbR ?_ | refine zbE ?_ | refine zbX ?_ | refine zsS ?_ | refine zsR ?_ | refine zsX ?_) | (refine cdT ?_) | (refine cdF ?_))
    exact doneK.mk rfl ResO.nil ⟨rfl, by simp⟩
end Sp
end
end Go.Proofs.Ytdjecenggngdjaa
