/-
  Joined texts: KdD, KdE, KdF, KdG. No conditions.
-/
import Derived.Test.YtdjecenggngdjaaGae
import Derived.Test.YtdjecenggngdjaaGar
import Derived.Test.YtdjecenggngdjaaGau
namespace Go.Proofs.Ytdjecenggngdjaa
set_option linter.unusedSimpArgs false
set_option linter.unusedVariables false
set_option maxHeartbeats 16000000
set_option maxRecDepth 20000
section
open Go Go.RowKit
namespace Sp
open F M
theorem kd_fill {A : List Int} (hA : A.length = 32) : Instr.fill (fun i => some (i * 32, 32)) ((Array.range (1 * 32)).map ((Value.agg (ints .u8 (List.replicate 32 0))).cells[· % (Value.agg (ints .u8 (List.replicate 32 0))).cells.size]!)) [(0, .agg (ints .u8 A))] = some (ints .u8 A) := by
  obtain ⟨_, _, _, _, _, _, _, _, _, _, _, _, _, _, _, _, _, _, _, _, _, _, _, _, _, _, _, _, _, _, _, _, rfl⟩ := list32 hA
  kernel_rfl
theorem SL.buildE {P : Program} {ops : Array Oper} {rest : List Oper} {dst : Option Tmp} {ty : TypeId} {pos : String} {af : Array Edge} {l : List Value} {w0 : World} {mu : List Nat} {bs : Mem} {Q : ExitP} {tab : Tab} (ht : TabOk P tab) {t e n sz by_ s : Nat} {parts : Array (Nat × Operand)} {cells : Array Value} {zv : Value} {vals : List (Nat × Value)} (hz : (P.info? e).map (·.zero) = some (some zv)) (hpos : 0 < n * s) (hmax : n * s ≤ 2 ^ 24)
    (hf : Instr.fill (fun i => some (i * s, s)) ((Array.range (n * s)).map (zv.cells[· % zv.cells.size]!)) vals = some cells)
    {l' : Nat → List Value} (h : ∀ b, SL P ops w0 mu rest Q (l' b) ((b, cells, e) :: bs)) (hv : parts.toList.map (fun p => (p.1, evL l p.2)) = vals := by first | (dsimp only [List.map, evL, nth]; done) | (dsimp only [List.map, evL, nth]; rfl))
    (hl : Sp.look tab t = some (.sl e s by_, sz) := by rfl)
    (hp : ∀ b, putL l dst (.slice (some ⟨b, 0, none⟩) n n) = l' b := by intro _; first | (dsimp only [putL, setNth]; done) | (dsimp only [putL, setNth]; rfl)) :
    SL P ops w0 mu (⟨dst, .buildSlice t n parts, ty, pos, af, none⟩ :: rest) Q l bs := by
  obtain ⟨hu, hsz, _⟩ := td_sl (look_ok ht hl)
  cases hq : P.info? e with
  | none => simp [hq] at hsz
  | some inf =>
    have hs1 : inf.size = s := by simpa [hq] using hsz
    have hz1 : inf.zero = some zv := by simpa [hq] using hz
    refine SL.buildSlice (vals := vals) hu hq hz1 (by rw [hs1]; omega) (by rw [hs1]; omega) hv ?_ hp h
    rw [hs1]
    exact hf
theorem kd_cells {L : List Int} {j : Nat} (h : j < (L.map (Value.int .u8)).length) : (ints .u8 L)[j]? = (L.map (Value.int .u8))[j]? := by unfold ints; rw [List.getElem?_toArray]
theorem kd_one {L : List Int} : ∀ u ∈ L.map (Value.int .u8), u.oneCell' = true := fun u hu => by obtain ⟨x, _, rfl⟩ := List.mem_map.1 hu; rfl
theorem exO_part (K : List Int) : ∀ N j, j < N → ((exO K N).drop (32 * j)).take 32 = exT K (j + 1)
  | 0, _, h => absurd h (Nat.not_lt_zero _)
  | N + 1, j, h => by
    have hl := exO_len K N
    rw [exO_s]
    by_cases hj : j < N
    · rw [List.drop_append_of_le_length (by omega), List.take_append_of_le_length (by simp; omega)]
      exact exO_part K N j hj
    · obtain rfl : j = N := by omega
      rw [← hl, List.drop_left, List.take_of_length_le (by simp)]
theorem kd_part {K J : List Int} {N j : Nat} (h : j < N) : (ints .u8 (exO K N ++ J)).extract (32 * j) (32 * j + 32) = ints .u8 (exT K (j + 1)) := by
  have hl := exO_len K N
  rw [← exO_part K N j h]
  unfold ints
  apply Array.ext'
  rw [List.extract_toArray, List.extract_eq_take_drop, Nat.add_sub_cancel_left, List.map_take, List.map_drop, List.map_append, List.drop_append_of_le_length (by simp; omega), List.take_append_of_le_length (by simp; omega)]
theorem chain_any (K B : List Int) (N : Nat) (q : Option Addr) (m d : Nat) (hK : K.length = 32) (h1 : 0 < N) (hN : N ≤ 200) (w : World) (hB : Sl w q m d B) (hmax : m ≤ 1000000000) : Calls Try.prog 41 #[.agg (ints .u8 K), .slice q m d, .int .i64 ((N : Nat))] w fun e w' => ∃ lb cap J T, e = .returned (.slice (some ⟨lb, 0, none⟩) N cap) ∧ OwnM w [] w' [(lb, ((exO (bHm K B) N).map (Value.int .u8) ++ J).toArray, T)] := by
  have hn2 : some (Value.int .i64 (IntKind.i64.wrap (((N : Nat) : Int) * 32))) = some (Value.int .i64 ((32 * N : Nat) : Int)) := by rw [IntWalk.i64_in _ (by omega)]; congr 2 <;> omega
  refine (callE (mu := []) Try.func41 Try.ntmps41 Try.results41 (OwnM.start w) (fun v bs => ∃ lb cap J T, v = .slice (some ⟨lb, 0, none⟩) N cap ∧ [(lb, ((exO (bHm K B) N).map (Value.int .u8) ++ J).toArray, T)].Sublist bs) ?_).mono ?_
  · repeat (first | (refine rgn 0 ?_; refine SL.bx ?_; intro fb; refine sEv ?_; refine nlx ?_) | (refine rgn 1 ?_; refine SL.ctA tabOk 0 _ ?_; refine sEv ?_; refine SL.v (ValO.call ent_62 _ rfl _ (fun w1 hw1 => extract_any (some ⟨fb, 0, none⟩) q 32 32 m d K B w1 (Sl.of hw1 (RdA.own g0) (Lies.whole K) hK (Nat.le_refl _)) (by omega) (by decide) (hB.old hw1.below) hmax)) ?_; refine sEv ?_; refine SL.v (v := .int .i64 ((32 * N : Nat) : Int)) (ValO.ev tabOk hn2) ?_; refine SL.callG ent_61 rfl (R := fun v bs' => ∃ ob J T, v = .tuple #[.slice (some ⟨ob, 0, none⟩) (32 * N) (32 * N), .int .i64 0] ∧ bs' = (ob, ints .u8 (exO (bHm K B) N ++ J), T) :: [(fb, ints .u8 K, 23)]) (fun w1 hw1 => (expand_any (bHm K B) N (bHm_length K B) h1 hN w1).mono (by rintro e w' ⟨ob, J, T, rfl, hw'⟩; exact ⟨_, _, rfl, ⟨ob, J, T, rfl, rfl⟩, hw1.fresh hw'⟩)) ?_; rintro v bs' ⟨ob, J, T, rfl, rfl⟩; dsimp only [putL, setNth]; (iterate 5 refine sEv ?_); refine nlx ?_) | (refine rgn 2 ?_; refine sEv ?_; refine nlx ?_) | (refine zsq ?_; intro _ _) | (with_reducible refine zkN ?_) | (refine useK (by assumption) ?_) | (with_reducible first | refine zsB ?_ | refine zkX ?_ | refine zkR ?_ | refine zbN ?_ | refine zbR ?_ | refine zbE ?_ | refine zbX ?_ | refine zsS ?_ | refine zsR ?_ | refine zsX ?_) | (refine cdT ?_) | (refine cdF ?_))
    refine SP.loopN (fun j l bs => ∃ off av abs, l = [nth l 0, nth l 1, nth l 2, nth l 3, nth l 4, nth l 5, nth l 6, .slice (some ⟨ob, off, none⟩) (32 * N - 32 * j) (32 * N - 32 * j), nth l 8, av, nth l 10, nth l 11, nth l 12, nth l 13, nth l 14, nth l 15, nth l 16, nth l 17, nth l 18, nth l 19, nth l 20, nth l 21, nth l 22, nth l 23, nth l 24, nth l 25, nth l 26, nth l 27, nth l 28, nth l 29, nth l 30, nth l 31] ∧ bs = [(ob, ints .u8 (exO (bHm K B) N ++ J), T), (fb, ints .u8 K, 23)] ++ abs ∧ AllC 32 av j ((exO (bHm K B) j).map (Value.int .u8)) abs ∧ (j < N → off = 32 * j)) N ⟨0, _, [], rfl, rfl, by rw [exO_0]; exact AllC.start 32, fun _ => rfl⟩ ?_
    rintro j lfj _ hkj ⟨off, av, abs, hlj, rfl, hS, ho⟩
    refine SP.cast hlj ?_
    clear hlj
    by_cases hltj : j < N
    · obtain rfl := ho hltj
      repeat (first | (refine rgn 3 ?_; refine sEv ?_; refine SL.v (ValO.len tabOk (by rfl)) ?_; refine sEv ?_; refine nlx ?_) | (refine rgn 4 ?_; refine sEv ?_; refine sEv ?_; refine SL.ctS tabOk 0 32 ?_; refine SL.v (ValO.s2a (n := 32) tabOk rfl rfl (Nat.le_refl _)) ?_; refine SL.ldP tabOk ?_ (hn := by rw [ints_size, List.length_append, exO_len]; omega) (hB := kd_part hltj); refine SL.buildE tabOk zero_23 (by decide) (by decide) (kd_fill (A := exT (bHm K B) (j + 1)) (exT_len _ _)) (fun rb => ?_); refine SL.appC (es := 32) (by0 := 32) (k := 1) (M := (exT (bHm K B) (j + 1)).map (Value.int .u8)) (pre := [_, _, _]) tabOk hS (RdA.own g0) (fun i hi => kd_cells hi) (by simp) kd_one (by omega) (by decide) zero_23 rfl (fun av' abs' hS' => ?_); refine sEv ?_; refine nlx ?_) | (refine zsq ?_; intro _ _) | (with_reducible refine zkN ?_) | (refine useK (by assumption) ?_) | (with_reducible first | refine zsB ?_ | refine zkX ?_ | refine zkR ?_ | refine zbN ?_ | refine zbR ?_ | refine zbE ?_ | refine zbX ?_ | refine zsS ?_ | refine zsR ?_ | refine zsX ?_) | (refine cdT ?_) | (refine cdF ?_))
      refine SP.forget [_] (bs := [_, _] ++ abs') ?_
      obtain ⟨o2, hm2, ho2⟩ : ∃ o2, (if 32 * N - 32 * j = 32 then 32 * j else 32 * j + 32 * 1) = o2 ∧ (j + 1 < N → o2 = 32 * (j + 1)) := ⟨_, rfl, fun h => by rw [if_neg (by omega)]; omega⟩
      repeat (first | (refine rgn 5 ?_; refine sEv ?_; refine SL.ctS tabOk 32 (32 * N - 32 * j) (c := 32 * N - 32 * (j + 1)) (d := 32 * N - 32 * (j + 1)) (m := o2) ?_ (hm := hm2) (hc := by omega) (hd := by omega); refine sEv ?_; refine nlx ?_) | (refine zsq ?_; intro _ _) | (with_reducible refine zkN ?_) | (refine useK (by assumption) ?_) | (with_reducible first | refine zsB ?_ | refine zkX ?_ | refine zkR ?_ | refine zbN ?_ | refine zbR ?_ | refine zbE ?_ | refine zbX ?_ | refine zsS ?_ | refine zsR ?_ | refine zsX ?_) | (refine cdT ?_) | (refine cdF ?_))
      exact ⟨hltj, _, _, _, rfl, rfl, by rw [exO_s, List.map_append]; exact hS', ho2⟩
    · obtain rfl : j = N := by omega
      repeat (first | (refine rgn 3 ?_; refine sEv ?_; refine SL.v (ValO.len tabOk (by rfl)) ?_; refine sEv ?_; refine nlx ?_) | (refine rgn 6 ?_; refine sEv ?_; refine sEv ?_; refine nlx ?_) | (refine zsq ?_; intro _ _) | (with_reducible refine zkN ?_) | (refine useK (by assumption) ?_) | (with_reducible first | refine zsB ?_ | refine zkX ?_ | refine zkR ?_ | refine zbN ?_ | refine zbR ?_ | refine zbE ?_ | refine zbX ?_ | refine zsS ?_ | refine zsR ?_ | refine zsX ?_) | (refine cdT ?_) | (refine cdF ?_))
      rcases hS with ⟨h0, _⟩ | ⟨lb, cap, J', T', rfl, rfl, _, _⟩
      · omega
      exact doneK.mk rfl (ResO.tmp rfl) ⟨lb, cap, J', T', rfl, List.sublist_append_right _ _⟩
  · rintro e w' ⟨v, bs, rfl, ⟨lb, cap, J, T, rfl, hs⟩, hw'⟩
    exact ⟨lb, cap, J, T, rfl, hw'.sub hs⟩
theorem kd_cell {K : List Int} {J : List Value} {N j : Nat} (h : j < N) : ((exO K N).map (Value.int .u8) ++ J).toArray.extract (32 * j) (32 * j + 32) = ints .u8 (exT K (j + 1)) := by
  have hl := exO_len K N
  rw [← exO_part K N j h]
  unfold ints
  apply Array.ext'
  rw [List.extract_toArray, List.extract_eq_take_drop, Nat.add_sub_cancel_left, List.map_take, List.map_drop, List.drop_append_of_le_length (by simp; omega), List.take_append_of_le_length (by simp; omega)]
theorem kd_size {K : List Int} {J : List Value} {N m : Nat} (h : m ≤ 32 * N) : m ≤ (((exO K N).map (Value.int .u8)) ++ J).toArray.size := by
  rw [List.size_toArray, List.length_append, List.length_map, exO_len]; omega
theorem ResO.cell3 {P : Program} {w0 : World} {mu : List Nat} {bs : Mem} {l : List Value} {tab : Tab} (ht : TabOk P tab) {p t b n p' t' b' n' p'' t'' b'' n'' : Nat} {td td' td'' : TD} (hp : nth l p = .pointer (some ⟨b, 0, none⟩)) (hl : look tab t = some (td, n)) (hc : td.isAgg = true) {A : Array Value} (hr : RdA w0 mu bs b A) (hn : A.size = n)
    (hp2 : nth l p' = .pointer (some ⟨b', 0, none⟩)) (hl2 : look tab t' = some (td', n')) (hc2 : td'.isAgg = true) {A' : Array Value} (hr2 : RdA w0 mu bs b' A') (hn2 : A'.size = n')
    (hp3 : nth l p'' = .pointer (some ⟨b'', 0, none⟩)) (hl3 : look tab t'' = some (td'', n'')) (hc3 : td''.isAgg = true) {A'' : Array Value} (hr3 : RdA w0 mu bs b'' A'') (hn3 : A''.size = n'') :
    ResO P w0 mu bs #[.cell p t, .cell p' t', .cell p'' t''] l (.tuple #[.agg A, .agg A', .agg A'']) := by
  intro W fn hres hw
  have h := run_res_part ht hl hc hr (off := 0) (by omega) hw
  have h2 := run_res_part ht hl2 hc2 hr2 (off := 0) (by omega) hw
  have h3 := run_res_part ht hl3 hc3 hr3 (off := 0) (by omega) hw
  have hp' : l[p]?.getD undef = .pointer (some ⟨b, 0, none⟩) := by rw [nth_eq]; exact hp
  have hp2' : l[p']?.getD undef = .pointer (some ⟨b', 0, none⟩) := by rw [nth_eq]; exact hp2
  have hp3' : l[p'']?.getD undef = .pointer (some ⟨b'', 0, none⟩) := by rw [nth_eq]; exact hp3
  subst hn hn2 hn3
  simp only [Nat.zero_add, Array.extract_size] at h h2 h3
  simp [results, hres, hp', hp2', hp3', asAddr, h, h2, h3]
theorem two_any (K B : List Int) (q : Option Addr) (m d : Nat) (hK : K.length = 32) (w : World) (hB : Sl w q m d B) (hmax : m ≤ 1000000000) : Calls Try.prog 29 #[.agg (ints .u8 K), .slice q m d] w fun e w' => e = .returned (.tuple #[.agg (ints .u8 (exT (bHm K B) 1)), .agg (ints .u8 (exT (bHm K B) 2))]) ∧ OwnM w [] w' [] := by
  refine (callE (mu := []) Try.func29 Try.ntmps29 Try.results29 (OwnM.start w) (fun v _ => v = .tuple #[.agg (ints .u8 (exT (bHm K B) 1)), .agg (ints .u8 (exT (bHm K B) 2))]) ?_).mono ?_
  · repeat (first | (refine rgn 0 ?_; refine SL.bx ?_; intro _; refine SL.al zero_23 ?_; intro _; refine SL.al zero_23 ?_; intro _; refine nlx ?_) | (refine rgn 1 ?_; refine SL.ldR tabOk ?_; refine sEv ?_; refine SL.callG ent_41 rfl (R := fun v bs' => ∃ lb cap J T, v = .slice (some ⟨lb, 0, none⟩) 2 cap ∧ bs' = [(lb, ((exO (bHm K B) 2).map (Value.int .u8) ++ J).toArray, T)] ++ _) (fun w1 hw1 => (chain_any K B 2 q m d hK (by decide) (by decide) w1 (hB.old hw1.below) hmax).mono (by rintro e w' ⟨lb, cap, J, T, rfl, hw'⟩; exact ⟨_, _, rfl, ⟨lb, cap, J, T, rfl, rfl⟩, hw1.fresh hw'⟩)) ?_; rintro v bs' ⟨lb, cap, J, T, rfl, rfl⟩; dsimp only [putL, setNth]; refine sEv ?_; refine nlx ?_) | ((with_reducible show SP _ _ _ (Code.region _ _ true) _ _ _); first | (refine SPa (id := 2) [6, 7] [4, 5] ([(lb, ((exO (bHm K B) 2).map (Value.int .u8) ++ J).toArray, T)]) [0, 1, 2, 3, 4, 5, 6, 7] follows ?_; refine fPv ?_; refine SF.ixS tabOk ?_; refine SF.ldP tabOk ?_ (hn := kd_size (by decide)) (hB := kd_cell (j := 0) (by decide)); refine fPv ?_; refine SF.vK (fun m hm => ValO.idxS tabOk lb 0 2 cap rfl _ 1 rfl _ _ _ _ rfl (by decide) (by decide) 32 (by decide)) ?_; refine SF.vK (fun m hm => ValO.ldPart tabOk lb 32 rfl _ _ rfl rfl _ (RdA.kept hm g0) (kd_size (by decide)) _ (kd_cell (j := 1) (by decide))) ?_; refine SF.stR tabOk ?_; refine SF.stR tabOk ?_; refine SF.done ?_)) | (refine zsq ?_; intro _ _) | (with_reducible refine zkN ?_) | (refine useK (by assumption) ?_) | (with_reducible first | refine zsB ?_ | refine zkX ?_ | refine zkR ?_ | refine zbN ?_ | refine zbR ?_ | refine zbE ?_ | refine zbX ?_ | refine zsS ?_ | refine zsR ?_ | refine zsX ?_) | (refine cdT ?_) | (refine cdF ?_))
    exact doneK.mk rfl (ResO.cell2 tabOk rfl rfl rfl (RdA.own g2) (by simp [ints_size]) rfl rfl rfl (RdA.own g1) (by simp [ints_size])) rfl
  · rintro e w' ⟨v, bs, rfl, rfl, hw'⟩
    exact ⟨rfl, hw'.sub (List.nil_sublist _)⟩
theorem three_any (K B : List Int) (q : Option Addr) (m d : Nat) (hK : K.length = 32) (w : World) (hB : Sl w q m d B) (hmax : m ≤ 1000000000) : Calls Try.prog 73 #[.agg (ints .u8 K), .slice q m d] w fun e w' => e = .returned (.tuple #[.agg (ints .u8 (exT (bHm K B) 1)), .agg (ints .u8 (exT (bHm K B) 2)), .agg (ints .u8 (exT (bHm K B) 3))]) ∧ OwnM w [] w' [] := by
  refine (callE (mu := []) Try.func73 Try.ntmps73 Try.results73 (OwnM.start w) (fun v _ => v = .tuple #[.agg (ints .u8 (exT (bHm K B) 1)), .agg (ints .u8 (exT (bHm K B) 2)), .agg (ints .u8 (exT (bHm K B) 3))]) ?_).mono ?_
  · repeat (first | (refine rgn 0 ?_; refine SL.bx ?_; intro _; refine SL.al zero_23 ?_; intro _; refine SL.al zero_23 ?_; intro _; refine SL.al zero_23 ?_; intro _; refine nlx ?_) | (refine rgn 1 ?_; refine SL.ldR tabOk ?_; refine sEv ?_; refine SL.callG ent_41 rfl (R := fun v bs' => ∃ lb cap J T, v = .slice (some ⟨lb, 0, none⟩) 3 cap ∧ bs' = [(lb, ((exO (bHm K B) 3).map (Value.int .u8) ++ J).toArray, T)] ++ _) (fun w1 hw1 => (chain_any K B 3 q m d hK (by decide) (by decide) w1 (hB.old hw1.below) hmax).mono (by rintro e w' ⟨lb, cap, J, T, rfl, hw'⟩; exact ⟨_, _, rfl, ⟨lb, cap, J, T, rfl, rfl⟩, hw1.fresh hw'⟩)) ?_; rintro v bs' ⟨lb, cap, J, T, rfl, rfl⟩; dsimp only [putL, setNth]; refine sEv ?_; refine nlx ?_) | ((with_reducible show SP _ _ _ (Code.region _ _ true) _ _ _); first | (refine SPa (id := 2) [9, 10, 11] [4, 5, 7, 8] ([(lb, ((exO (bHm K B) 3).map (Value.int .u8) ++ J).toArray, T)]) [0, 1, 2, 3, 4, 5, 6, 7, 8, 9, 10, 11] follows ?_; refine fPv ?_; refine SF.ixS tabOk ?_; refine SF.ldP tabOk ?_ (hn := kd_size (by decide)) (hB := kd_cell (j := 0) (by decide)); refine fPv ?_; refine SF.vK (fun m hm => ValO.idxS tabOk lb 0 3 cap rfl _ 1 rfl _ _ _ _ rfl (by decide) (by decide) 32 (by decide)) ?_; refine SF.vK (fun m hm => ValO.ldPart tabOk lb 32 rfl _ _ rfl rfl _ (RdA.kept hm g0) (kd_size (by decide)) _ (kd_cell (j := 1) (by decide))) ?_; refine fPv ?_; refine SF.vK (fun m hm => ValO.idxS tabOk lb 0 3 cap rfl _ 2 rfl _ _ _ _ rfl (by decide) (by decide) 64 (by decide)) ?_; refine SF.vK (fun m hm => ValO.ldPart tabOk lb 64 rfl _ _ rfl rfl _ (RdA.kept hm g0) (kd_size (by decide)) _ (kd_cell (j := 2) (by decide))) ?_; refine SF.stR tabOk ?_; refine SF.stR tabOk ?_; refine SF.stR tabOk ?_; refine SF.done ?_)) | (refine zsq ?_; intro _ _) | (with_reducible refine zkN ?_) | (refine useK (by assumption) ?_) | (with_reducible first | refine zsB ?_ | refine zkX ?_ | refine zkR ?_ | refine zbN ?_ | refine zbR ?_ | refine zbE ?_ | refine zbX ?_ | refine zsS ?_ | refine zsR ?_ | refine zsX ?_) | (refine cdT ?_) | (refine cdF ?_))
    exact doneK.mk rfl (ResO.cell3 tabOk rfl rfl rfl (RdA.own g3) (by simp [ints_size]) rfl rfl rfl (RdA.own g2) (by simp [ints_size]) rfl rfl rfl (RdA.own g1) (by simp [ints_size])) rfl
  · rintro e w' ⟨v, bs, rfl, rfl, hw'⟩
    exact ⟨rfl, hw'.sub (List.nil_sublist _)⟩
end Sp
end
section
open Go Go.RowKit
namespace Sp
open F M
section
variable {P : Program} {tab : Tab} {w0 : World} {mu : List Nat} {bs : Mem} {l : List Value} {dst : Option Tmp} {ty : TypeId} {pos : String} {af : Array Edge} {gd : Option (Nat × Bool)}
theorem run_equalIn_sln (w : World) (d t e : Nat) (a : Option Addr) (n c : Nat) (h : P.underlying t = some (.slice e)) : (Op.equalIn (d + 1) t (.slice a n c) (.slice none 0 0)).run P w = .ok a.isNone w := by
  cases a <;> simp [Op.equalIn, run_underlying h]
theorem ValO.slNil (ht : TabOk P tab) {t t' : TypeId} {x y : Operand} {e s by_ sz n c : Nat} {a : Option Addr} (hl : look tab t = some (.sl e s by_, sz)) (hx : evL l x = .slice a n c) (hy : evL l y = .slice none 0 0) :
    ValO P w0 mu bs l ⟨dst, .binOp .eql t x y t', ty, pos, af, gd⟩ (.bool a.isNone) := by
  obtain ⟨hu, _, _⟩ := td_sl (look_ok ht hl)
  refine ⟨M.growAt_pure fun w => ?_⟩
  unfold execOp
  simp only [evL_eq, hx, hy]
  have h1 : (eqGuard .eql t x y (.slice a n c) (.slice none 0 0)).run P w = .ok () w := by simp [eqGuard]
  have h2 : (binOp .eql t (.slice a n c) (.slice none 0 0)).run P w = .ok (.bool a.isNone) w := by
    have h2 := run_equalIn_sln w 9999 t e a n c hu
    simp only [binOp]
    simp [Op.equal, Op.maxDepth, h2]
  rw [Sem.run_bind, Sem.run_bind, h1, Result.andThen_ok, h2]
  rfl
end
theorem AllO.ao_ {v : Value} {X : List Int} {m : Mem} {n : Nat} (h : AllO v X m) (hn : X.length = n) : ∃ q c, v = .slice q n c ∧ AO q n c X m := by
  subst hn
  rcases h with ⟨rfl, rfl, rfl⟩ | ⟨b, cap, J, T, rfl, rfl, hc⟩
  · exact ⟨none, 0, rfl, AO.nil⟩
  · exact ⟨_, cap, rfl, AO.row rfl (by omega)⟩
theorem clone_any (B : List Int) (q : Option Addr) (n c : Nat) (w : World) (hB : Sl w q n c B) (hmax : n ≤ 1000000000) : Calls Try.prog 57 #[.slice q n c] w fun e w' => ∃ q' c' abs, e = .returned (.slice q' n c') ∧ AO q' n c' B abs ∧ OwnM w [] w' abs := by
  cases q with
  | none =>
    obtain rfl : n = 0 := by
      by_cases h0 : n = 0
      · exact h0
      · obtain ⟨b, off, A, T, fz, hq, _⟩ := hB.at_ (by omega)
        cases hq
    obtain rfl : B = [] := List.eq_nil_of_length_eq_zero hB.len
    refine (callE (mu := []) Try.func57 Try.ntmps57 Try.results57 (OwnM.start w) (fun v bs => ∃ q' c', v = .slice q' 0 c' ∧ AO q' 0 c' [] bs) ?_).mono ?_
    · repeat (first | (refine rgn 0 ?_; refine sEv ?_; refine nlx ?_) | (refine rgn 1 ?_; refine sEv ?_; refine SL.v (v := .bool true) (ValO.slNil (a := none) tabOk rfl rfl rfl) ?_; refine nlx ?_) | (refine rgn 2 ?_; refine sEv ?_; refine nlx ?_) | (refine rgn 3 ?_; refine SL.build0 tabOk (fun fb => ?_); refine sEv ?_; refine SL.appS (av := .slice (some ⟨fb, 0, none⟩) 0 0) (X := []) (pre := []) tabOk (.inr ⟨fb, 0, [], 5, rfl, rfl, rfl⟩) (fun w1 hw1 => hB.old hw1.below) hB.len (by simp; omega) (fun av' abs' hS' => ?_) zero_5; refine sEv ?_; refine nlx ?_) | (refine zsq ?_; intro _ _) | (with_reducible refine zkN ?_) | (refine useK (by assumption) ?_) | (with_reducible first | refine zsB ?_ | refine zkX ?_ | refine zkR ?_ | refine zbN ?_ | refine zbR ?_ | refine zbE ?_ | refine zbX ?_ | refine zsS ?_ | refine zsR ?_ | refine zsX ?_) | (refine cdT ?_) | (refine cdF ?_))
      exact doneK.mk rfl (ResO.tmp rfl) ⟨none, 0, rfl, AO.nil⟩
    · rintro e w' ⟨v, bs, rfl, ⟨q', c', rfl, ha⟩, hw'⟩
      exact ⟨q', c', bs, rfl, ha, hw'⟩
  | some a =>
    refine (callE (mu := []) Try.func57 Try.ntmps57 Try.results57 (OwnM.start w) (fun v bs => ∃ q' c', v = .slice q' n c' ∧ AO q' n c' B bs) ?_).mono ?_
    · repeat (first | (refine rgn 0 ?_; refine sEv ?_; refine nlx ?_) | (refine rgn 1 ?_; refine sEv ?_; refine SL.v (v := .bool false) (ValO.slNil (a := (some a)) tabOk rfl rfl rfl) ?_; refine nlx ?_) | (refine rgn 2 ?_; refine sEv ?_; refine nlx ?_) | (refine rgn 3 ?_; refine SL.build0 tabOk (fun fb => ?_); refine sEv ?_; refine SL.appS (av := .slice (some ⟨fb, 0, none⟩) 0 0) (X := []) (pre := []) tabOk (.inr ⟨fb, 0, [], 5, rfl, rfl, rfl⟩) (fun w1 hw1 => hB.old hw1.below) hB.len (by simp; omega) (fun av' abs' hS' => ?_) zero_5; refine sEv ?_; refine nlx ?_) | (refine zsq ?_; intro _ _) | (with_reducible refine zkN ?_) | (refine useK (by assumption) ?_) | (with_reducible first | refine zsB ?_ | refine zkX ?_ | refine zkR ?_ | refine zbN ?_ | refine zbR ?_ | refine zbE ?_ | refine zbX ?_ | refine zsS ?_ | refine zsR ?_ | refine zsX ?_) | (refine cdT ?_) | (refine cdF ?_))
      obtain ⟨q', c', rfl, ha⟩ := AllO.ao_ hS' (n := n) (by simp [hB.len])
      exact doneK.mk rfl (ResO.tmp rfl) ⟨q', c', rfl, ha⟩
    · rintro e w' ⟨v, bs, rfl, ⟨q', c', rfl, ha⟩, hw'⟩
      exact ⟨q', c', bs, rfl, ha, hw'⟩
end Sp
end
section
open Go Go.RowKit
namespace Sp
open F M
section
variable {P : Program} {ops : Array Oper} {rest : List Oper} {dst : Option Tmp} {ty : TypeId} {pos : String} {af : Array Edge} {l : List Value} {w0 : World} {mu : List Nat} {bs : Mem} {Q : ExitP} {tab : Tab}
theorem SL.appZN (ht : TabOk P tab) {s x : Operand} {t tx e sz szn : Nat} {kq kn : IntKind} {m : Nat} (hm0 : 0 < m) (hmax : m ≤ 140737488355328)
    {l' : Nat → Nat → List Value} (h : ∀ nb cap' J', m + J'.length = cap' → SL P ops w0 mu rest Q (l' nb cap') ((nb, ints .u8 (List.replicate m 0 ++ J'), e) :: bs))
    (hz : (P.info? e).map (·.zero) = some (some (.int .u8 0))) (hs : evL l s = .slice none 0 0 := by rfl) (hx : evL l x = .int kq (m : Int) := by rfl) (hln : look tab tx = some (.int kn, szn) := by rfl)
    (hl : look tab t = some (.sl e 1 1, sz) := by rfl)
    (hp : ∀ nb cap', putL l dst (.slice (some ⟨nb, 0, none⟩) m cap') = l' nb cap' := by intro _ _; first | (dsimp only [putL, setNth]; done) | (dsimp only [putL, setNth]; rfl)) :
    SL P ops w0 mu (⟨dst, .call { callee := .builtin .append, args := #[s, x], argTypes := #[t, tx] }, ty, pos, af, none⟩ :: rest) Q l bs := by
  refine SL.eff (R := fun v bs' => ∃ nb cap' J', m + J'.length = cap' ∧ v = .slice (some ⟨nb, 0, none⟩) m cap' ∧ bs' = (nb, ints .u8 (List.replicate m 0 ++ J'), e) :: bs) (fun w hw => ?_) (by rintro v bs' ⟨nb, cap', J', hc, rfl, rfl⟩; rw [hp]; exact h nb cap' J' hc)
  obtain ⟨hu, hsz, hby⟩ := td_sl (look_ok ht hl)
  cases hq : P.info? e with
  | none => simp [hq] at hsz
  | some inf =>
    have hs1 : inf.size = 1 := by simpa [hq] using hsz
    have hb1 : inf.bytes = 1 := by simpa [hq] using hby
    have hz1 : inf.zero = some (.int .u8 0) := by simpa [hq] using hz
    have hun := td_int (look_ok ht hln)
    rw [run_call_append hs hx]
    have hg : 0 < 0 + m := by omega
    have hcap : Builtin.nextslicecap (0 + m) 0 * inf.bytes ≤ 281474976710656 := by
      have := nextslicecap_le hg
      rw [hb1]; omega
    have hold : (Builtin.firstCells inf.size 0 (.slice none 0 0)).run P w.drew = .ok #[] w.drew := by simp [Builtin.firstCells]
    have hge := grownCap_ge w (0 + m) 0 e
    have hrun := Lib.run_append_grow_zeros (P := P) w t tx ty e inf _ kq kn hu hun hq hz1 none 0 0 _ hold m hm0 (by omega) hg (by omega) (by rw [hb1]; omega) hcap
    rw [hrun]
    simp only [Result.andThen_ok]
    rw [Nat.zero_add] at hge ⊢
    refine ⟨_, _, _, rfl, ⟨w.heap.size, _, List.replicate (grownCap w m 0 e - m) 0, by simp; omega, rfl, rfl⟩, ?_⟩
    have := (hw.drew 1).alloc (ints .u8 (List.replicate m 0 ++ List.replicate (grownCap w m 0 e - m) 0)) e
    rw [zeroCells_int, zeroCells_int, Array.empty_append, ← ints_append]
    exact this
end
section
variable {P : Program} {tab : Tab} {w0 : World} {mu : List Nat} {bs : Mem} {l : List Value} {dst : Option Tmp} {ty : TypeId} {pos : String} {af : Array Edge} {gd : Option (Nat × Bool)}
theorem ValO.capS (ht : TabOk P tab) {x : Operand} {t e s by_ sz n c : Nat} {a : Option Addr} (hl : look tab t = some (.sl e s by_, sz)) (hx : evL l x = .slice a n c) :
    ValO P w0 mu bs l ⟨dst, .call { callee := .builtin .cap, args := #[x], argTypes := #[t] }, ty, pos, af, gd⟩ (.int .i64 (c : Int)) := by
  obtain ⟨hu, _, _⟩ := td_sl (look_ok ht hl)
  refine ⟨M.growAt_pure fun w => ?_⟩
  unfold execOp
  simp [resolve, invoke, builtin, Builtin.cap_, evL_eq, hx, run_underlying hu, goInt]
end
theorem grow_nil (n : Nat) (w : World) (hmax : n ≤ 140737488355328) : Calls Try.prog 54 #[.slice none 0 0, .int .i64 ((n : Nat))] w fun e w' => ∃ q c abs, e = .returned (.slice q 0 c) ∧ AllO (.slice q 0 c) [] abs ∧ OwnM w [] w' abs := by
  have hn : some (Value.int .i64 (IntKind.i64.wrap ((n : Int) - IntKind.i64.wrap (((0 : Nat) : Int) - ((0 : Nat) : Int))))) = some (Value.int .i64 (n : Int)) := by
    rw [IntWalk.i64_in (((0 : Nat) : Int) - ((0 : Nat) : Int)) (by omega), IntWalk.i64_in _ (by omega)]; congr 2 <;> omega
  by_cases h0 : n = 0
  ·
    refine (callE (mu := []) Try.func54 Try.ntmps54 Try.results54 (OwnM.start w) (fun v bs => ∃ q c, v = .slice q 0 c ∧ AllO (.slice q 0 c) [] bs) ?_).mono ?_
    · repeat (first | (refine rgn 0 ?_; refine sEv ?_; refine nlx ?_) | (refine rgn 1 ?_; refine sEv ?_; refine sEv ?_; refine nlx ?_) | (refine rgn 3 ?_; refine sEv ?_; refine sEv ?_; refine SL.v (ValO.capS tabOk rfl rfl) ?_; refine sEv ?_; refine SL.v (ValO.len tabOk (by rfl)) ?_; refine sEv ?_; refine SL.v (v := .int .i64 (n : Int)) (ValO.ev tabOk hn) ?_; refine sEv ?_; refine nlx ?_) | (refine rgn 4 ?_; refine sEv ?_; refine sEv ?_; refine nlx ?_) | (refine rgn 6 ?_; refine sEv ?_; refine sEv ?_; refine nlx ?_) | (refine zsq ?_; intro _ _) | (with_reducible refine zkN ?_) | (refine useK (by assumption) ?_) | (with_reducible first | refine zsB ?_ | refine zkX ?_ | refine zkR ?_ | refine zbN ?_ | refine zbR ?_ | refine zbE ?_ | refine zbX ?_ | refine zsS ?_ | refine zsR ?_ | refine zsX ?_) | (refine cdT ?_) | (refine cdF ?_))
      exact doneK.mk rfl (ResO.tmp rfl) ⟨none, 0, rfl, AllO.start⟩
    · rintro e w' ⟨v, bs, rfl, ⟨q, c, rfl, ha⟩, hw'⟩
      exact ⟨q, c, bs, rfl, ha, hw'⟩
  ·
    refine (callE (mu := []) Try.func54 Try.ntmps54 Try.results54 (OwnM.start w) (fun v bs => ∃ q c, v = .slice q 0 c ∧ AllO (.slice q 0 c) [] bs) ?_).mono ?_
    · repeat (first | (refine rgn 0 ?_; refine sEv ?_; refine nlx ?_) | (refine rgn 1 ?_; refine sEv ?_; refine sEv ?_; refine nlx ?_) | (refine rgn 3 ?_; refine sEv ?_; refine sEv ?_; refine SL.v (ValO.capS tabOk rfl rfl) ?_; refine sEv ?_; refine SL.v (ValO.len tabOk (by rfl)) ?_; refine sEv ?_; refine SL.v (v := .int .i64 (n : Int)) (ValO.ev tabOk hn) ?_; refine sEv ?_; refine nlx ?_) | (refine rgn 4 ?_; refine sEv ?_; refine sEv ?_; refine nlx ?_) | (refine rgn 5 ?_; refine sEv ?_; refine sEv ?_; refine SL.v (ValO.capS tabOk rfl rfl) ?_; refine SL.v (ValO.cutN tabOk rfl rfl rfl rfl) ?_; refine sEv ?_; refine SL.appZN tabOk (m := n) (by omega) (by omega) (fun nb cap' J' hc' => ?_) zero_5; refine sEv ?_; refine SL.v (ValO.len tabOk (by rfl)) ?_; refine SL.ctS tabOk 0 0 ?_; refine sEv ?_; refine nlx ?_) | (refine rgn 6 ?_; refine sEv ?_; refine sEv ?_; refine nlx ?_) | (refine zsq ?_; intro _ _) | (with_reducible refine zkN ?_) | (refine useK (by assumption) ?_) | (with_reducible first | refine zsB ?_ | refine zkX ?_ | refine zkR ?_ | refine zbN ?_ | refine zbR ?_ | refine zbE ?_ | refine zbX ?_ | refine zsS ?_ | refine zsR ?_ | refine zsX ?_) | (refine cdT ?_) | (refine cdF ?_))
      exact doneK.mk rfl (ResO.tmp rfl) ⟨_, cap', rfl, .inr ⟨nb, cap', List.replicate n 0 ++ J', _, rfl, rfl, by simp; omega⟩⟩
    · rintro e w' ⟨v, bs, rfl, ⟨q, c, rfl, ha⟩, hw'⟩
      exact ⟨q, c, bs, rfl, ha, hw'⟩
end Sp
end
section
open Go Go.RowKit
namespace Sp
open F M
theorem ent_grow (A : Array Value) (w : World) : (callFunc 54 A).run Try.prog w = .ok (.enter 54 A) w := run_callFn_enter Try.func54 (by kernel_rfl) rfl A w
def cpre (L : List (Value × List Int)) (j : Nat) : List Int := ((L.take j).map (·.2)).flatten
theorem cpre_s {L : List (Value × List Int)} {j : Nat} {p : Value × List Int} (h : L[j]? = some p) : cpre L (j + 1) = cpre L j ++ p.2 := by
  unfold cpre
  rw [List.take_add_one, h]
  simp
theorem cpre_0 (L : List (Value × List Int)) : cpre L 0 = [] := by simp [cpre]
theorem concat_any (L : List (Value × List Int)) (rb : Nat) (A : Array Value) (T : TypeId) (fz : Nat × Nat) (w : World) (hA : A = (L.map (·.1)).toArray) (hb : w.heap[rb]? = some (.cells A T fz)) (hL : ∀ p ∈ L, ∃ q n c, p.1 = .slice q n c ∧ Sl w q n c p.2) (hmax : ∀ j, (cpre L j).length ≤ 140737488355328) (hlen : L.length ≤ 1000) :
    Calls Try.prog 35 #[.slice (some ⟨rb, 0, none⟩) L.length L.length] w fun e w' => ∃ av abs, e = .returned av ∧ AllO av (cpre L L.length) abs ∧ OwnM w [] w' abs := by
  refine (callE (mu := []) Try.func35 Try.ntmps35 Try.results35 (OwnM.start w) (fun v bs => AllO v (cpre L L.length) bs) ?_).mono ?_
  · repeat (first | (refine rgn 0 ?_; refine sEv ?_; refine nlx ?_) | (refine rgn 1 ?_; refine sEv ?_; refine nlx ?_) | (refine rgn 2 ?_; refine sEv ?_; refine SL.v (ValO.len tabOk (by rfl)) ?_; refine sEv ?_; refine nlx ?_) | (refine zsq ?_; intro _ _) | (with_reducible refine zkN ?_) | (refine useK (by assumption) ?_) | (with_reducible first | refine zsB ?_ | refine zkX ?_ | refine zkR ?_ | refine zbN ?_ | refine zbR ?_ | refine zbE ?_ | refine zbX ?_ | refine zsS ?_ | refine zsR ?_ | refine zsX ?_) | (refine cdT ?_) | (refine cdF ?_))
    refine SP.loopN (fun j l bs => l = [.slice (some ⟨rb, 0, none⟩) L.length L.length, nth l 1, .slice none 0 0, .int .i64 ((cpre L j).length : Nat), nth l 4, nth l 5, nth l 6, nth l 7, nth l 8, .slice (some ⟨rb, 0, none⟩) L.length L.length, .int .i64 (L.length : Nat), .int .i64 (j : Nat), nth l 12, nth l 13, nth l 14, nth l 15, nth l 16, nth l 17, nth l 18, nth l 19, nth l 20, nth l 21, nth l 22, nth l 23, nth l 24, nth l 25, nth l 26, nth l 27, nth l 28, nth l 29, nth l 30, nth l 31, nth l 32, nth l 33, nth l 34, nth l 35] ∧ bs = []) L.length ⟨by rw [cpre_0]; rfl, rfl⟩ ?_
    rintro j lfj _ hkj ⟨hlj, rfl⟩
    refine SP.cast hlj ?_
    clear hlj
    by_cases hltj : j < L.length
    · obtain ⟨p, hpj⟩ : ∃ p, L[j]? = some p := ⟨_, List.getElem?_eq_getElem hltj⟩
      obtain ⟨q, n, c, hp1, hp⟩ := hL p (List.mem_of_getElem? hpj)
      have hAj : A[j]? = some (.slice q n c) := by rw [hA, List.getElem?_toArray, List.getElem?_map, hpj, ← hp1]; rfl
      have hm1 := hmax (j + 1)
      have hs1 : (cpre L (j + 1)).length = (cpre L j).length + n := by rw [cpre_s hpj, List.length_append, hp.len]
      have hsum : some (Value.int .i64 (IntKind.i64.wrap (((cpre L j).length : Int) + (n : Int)))) = some (Value.int .i64 (((cpre L (j + 1)).length : Nat) : Int)) := by rw [IntWalk.i64_in _ (by omega), hs1]; rfl
      have hj1 : some (Value.int .i64 (IntKind.i64.wrap ((j : Int) + 1))) = some (Value.int .i64 ((j + 1 : Nat) : Int)) := by rw [IntWalk.i64_in _ (by omega)]; rfl
      repeat (first | (refine rgn 3 ?_; refine sEv ?_; refine nlx ?_) | (refine rgn 4 ?_; refine SL.ixS tabOk ?_; refine SL.ldC tabOk ?_ (hr := RdA.old hb (by simp)) (hv := hAj); refine sEv ?_; refine nlx ?_) | (refine rgn 5 ?_; refine sEv ?_; refine sEv ?_; refine SL.v (ValO.len tabOk (by rfl)) ?_; refine SL.v (v := .int .i64 ((cpre L (j + 1)).length : Nat)) (ValO.ev tabOk hsum) ?_; refine sEv ?_; refine nlx ?_) | (refine rgn 6 ?_; refine sEv ?_; refine sEv ?_; refine nlx ?_) | (refine rgn 8 ?_; refine SL.v (v := .int .i64 ((j + 1 : Nat) : Int)) (ValO.ev tabOk hj1) ?_; refine sEv ?_; refine nlx ?_) | (refine zsq ?_; intro _ _) | (with_reducible refine zkN ?_) | (refine useK (by assumption) ?_) | (with_reducible first | refine zsB ?_ | refine zkX ?_ | refine zkR ?_ | refine zbN ?_ | refine zbR ?_ | refine zbE ?_ | refine zbX ?_ | refine zsS ?_ | refine zsR ?_ | refine zsX ?_) | (refine cdT ?_) | (refine cdF ?_))
      exact ⟨hltj, rfl, rfl⟩
    · obtain rfl : j = L.length := by omega
      repeat (first | (refine rgn 3 ?_; refine sEv ?_; refine nlx ?_) | (refine rgn 9 ?_; refine sEv ?_; refine SL.callG ent_grow rfl (R := fun v bs' => ∃ q c abs, v = .slice q 0 c ∧ AllO (.slice q 0 c) [] abs ∧ bs' = [] ++ abs) (fun w1 hw1 => (grow_nil (cpre L L.length).length w1 (hmax _)).mono (by rintro e w' ⟨q, c, abs, rfl, ha, hw'⟩; exact ⟨_, _, rfl, ⟨q, c, abs, rfl, ha, rfl⟩, OwnM.freshL hw1 hw'⟩)) ?_; rintro v bs' ⟨q0, c0, abs0, rfl, ha0, rfl⟩; dsimp only [putL, setNth]; refine sEv ?_; refine nlx ?_) | (refine rgn 10 ?_; refine sEv ?_; refine SL.v (ValO.len tabOk (by rfl)) ?_; refine sEv ?_; refine nlx ?_) | (refine zsq ?_; intro _ _) | (with_reducible refine zkN ?_) | (refine useK (by assumption) ?_) | (with_reducible first | refine zsB ?_ | refine zkX ?_ | refine zkR ?_ | refine zbN ?_ | refine zbR ?_ | refine zbE ?_ | refine zbX ?_ | refine zsS ?_ | refine zsR ?_ | refine zsX ?_) | (refine cdT ?_) | (refine cdF ?_))
      refine SP.loopN (fun j l bs => ∃ av abs, l = [.slice (some ⟨rb, 0, none⟩) L.length L.length, nth l 1, .slice none 0 0, nth l 3, nth l 4, nth l 5, av, nth l 7, nth l 8, nth l 9, nth l 10, nth l 11, nth l 12, nth l 13, nth l 14, nth l 15, nth l 16, nth l 17, nth l 18, nth l 19, nth l 20, nth l 21, nth l 22, nth l 23, nth l 24, .slice (some ⟨rb, 0, none⟩) L.length L.length, .int .i64 (L.length : Nat), .int .i64 (j : Nat), nth l 28, nth l 29, nth l 30, nth l 31, nth l 32, nth l 33, nth l 34, nth l 35] ∧ bs = [] ++ abs ∧ AllO av (cpre L j) abs) L.length ⟨_, _, rfl, rfl, by rw [cpre_0]; exact ha0⟩ ?_
      rintro j lfj _ hkj ⟨av, abs, hlj, rfl, hS⟩
      refine SP.cast hlj ?_
      clear hlj
      by_cases hltj : j < L.length
      · obtain ⟨p, hpj⟩ : ∃ p, L[j]? = some p := ⟨_, List.getElem?_eq_getElem hltj⟩
        obtain ⟨q, n, c, hp1, hp⟩ := hL p (List.mem_of_getElem? hpj)
        have hAj : A[j]? = some (.slice q n c) := by rw [hA, List.getElem?_toArray, List.getElem?_map, hpj, ← hp1]; rfl
        have hm1 := hmax (j + 1)
        have hs1 : (cpre L (j + 1)).length = (cpre L j).length + n := by rw [cpre_s hpj, List.length_append, hp.len]
        have hj1 : some (Value.int .i64 (IntKind.i64.wrap ((j : Int) + 1))) = some (Value.int .i64 ((j + 1 : Nat) : Int)) := by rw [IntWalk.i64_in _ (by omega)]; rfl
        have hm0 := hmax j
        repeat (first | (refine rgn 11 ?_; refine sEv ?_; refine nlx ?_) | (refine rgn 12 ?_; refine SL.ixS tabOk ?_; refine SL.ldC tabOk ?_ (hr := RdA.old hb (by simp)) (hv := hAj); refine sEv ?_; refine nlx ?_) | (refine rgn 13 ?_; refine sEv ?_; refine sEv ?_; refine SL.appS tabOk (pre := []) hS (fun w1 hw1 => hp.old hw1.below) hp.len (by omega) (fun av' abs' hS' => ?_) zero_5; refine sEv ?_; refine nlx ?_) | (refine rgn 14 ?_; refine SL.v (v := .int .i64 ((j + 1 : Nat) : Int)) (ValO.ev tabOk hj1) ?_; refine sEv ?_; refine nlx ?_) | (refine zsq ?_; intro _ _) | (with_reducible refine zkN ?_) | (refine useK (by assumption) ?_) | (with_reducible first | refine zsB ?_ | refine zkX ?_ | refine zkR ?_ | refine zbN ?_ | refine zbR ?_ | refine zbE ?_ | refine zbX ?_ | refine zsS ?_ | refine zsR ?_ | refine zsX ?_) | (refine cdT ?_) | (refine cdF ?_))
        exact ⟨hltj, _, _, rfl, rfl, by rw [cpre_s hpj]; exact hS'⟩
      · obtain rfl : j = L.length := by omega
        repeat (first | (refine rgn 11 ?_; refine sEv ?_; refine nlx ?_) | (refine rgn 15 ?_; refine sEv ?_; refine sEv ?_; refine nlx ?_) | (refine zsq ?_; intro _ _) | (with_reducible refine zkN ?_) | (refine useK (by assumption) ?_) | (with_reducible first | refine zsB ?_ | refine zkX ?_ | refine zkR ?_ | refine zbN ?_ | refine zbR ?_ | refine zbE ?_ | refine zbX ?_ | refine zsS ?_ | refine zsR ?_ | refine zsX ?_) | (refine cdT ?_) | (refine cdF ?_))
        exact doneK.mk rfl (ResO.tmp rfl) hS
  · rintro e w' ⟨v, bs, rfl, ha, hw'⟩
    exact ⟨v, bs, rfl, ha, hw'⟩
end Sp
end
end Go.Proofs.Ytdjecenggngdjaa
