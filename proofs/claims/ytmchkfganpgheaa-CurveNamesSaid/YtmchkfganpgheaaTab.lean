/-
  The types of this seat's program, as a table; functions are entered by a call.
-/
import Derived.Test.YtmchkfganpgheaaSh
import Derived.Test.YtmchkfganpgheaaRows
namespace Go.Proofs.Ytmchkfganpgheaa
open Go Go.RowKit
namespace Sp
def tab : Tab := [(2, .int .i64, 1),
  (3, .int .i64, 1),
  (4, .bool, 1),
  (5, .int .u8, 1),
  (6, .int .u8, 1),
  (7, .st [(2, 0, 1), (3, 1, 1), (4, 2, 1), (6, 3, 1)], 4),
  (8, .st [(2, 0, 1), (3, 1, 1), (4, 2, 1), (6, 3, 1)], 4),
  (9, .str, 1),
  (10, .str, 1),
  (11, .str, 1),
  (12, .int .u64, 1),
  (13, .st [(9, 0, 1), (12, 1, 1)], 2),
  (14, .st [(9, 0, 1), (12, 1, 1)], 2),
  (15, .ptr 87, 1),
  (16, .ptr 90, 1),
  (17, .ptr 99, 1),
  (18, .st [(17, 0, 1)], 1),
  (19, .st [(17, 0, 1)], 1),
  (21, .int .i32, 1),
  (22, .arr 32 5 1, 32),
  (23, .int .u64, 1),
  (24, .arr 5 23 1, 5),
  (25, .st [(24, 0, 5)], 5),
  (26, .st [(24, 0, 5)], 5),
  (30, .arr 16 3 1, 16),
  (31, .arr 16 3 1, 16),
  (35, .sl 22 32 32, 1),
  (36, .int .u64, 1),
  (38, .int .u32, 1),
  (46, .arr 32 5 1, 32),
  (51, .int .i64, 1),
  (57, .sl 46 32 32, 1),
  (65, .st [(26, 0, 5), (26, 5, 5)], 10),
  (66, .st [(26, 0, 5), (26, 5, 5)], 10),
  (68, .ptr 66, 1),
  (70, .st [(31, 0, 16), (31, 16, 16)], 32),
  (71, .st [(31, 0, 16), (31, 16, 16)], 32),
  (77, .st [(23, 0, 1), (23, 1, 1)], 2),
  (78, .st [(23, 0, 1), (23, 1, 1)], 2),
  (80, .arr 5 78 2, 10),
  (83, .arr 32 3 1, 32),
  (86, .st [(17, 0, 1), (17, 1, 1), (17, 2, 1), (9, 3, 1)], 4),
  (87, .st [(17, 0, 1), (17, 1, 1), (17, 2, 1), (9, 3, 1)], 4),
  (92, .int .u8, 1),
  (93, .int .u8, 1),
  (95, .ptr 5, 1),
  (96, .int .i32, 1),
  (97, .int .i32, 1),
  (98, .st [(12, 0, 1), (12, 1, 1), (38, 2, 1), (92, 3, 1), (5, 4, 1), (5, 5, 1), (93, 6, 1), (94, 7, 1), (95, 8, 1), (96, 9, 1), (97, 10, 1)], 11),
  (99, .st [(12, 0, 1), (12, 1, 1), (38, 2, 1), (92, 3, 1), (5, 4, 1), (5, 5, 1), (93, 6, 1), (94, 7, 1), (95, 8, 1), (96, 9, 1), (97, 10, 1)], 11)]
theorem tabOk : TabOk Try.prog tab := by unfold TabOk; kernel_rfl
theorem follows : Try.prog.follows .mixedOrders = true := by kernel_rfl
theorem zero_2 : (Try.prog.info? 2).map (·.zero) = some (some (.int .i64 0)) := by kernel_rfl
theorem zero_3 : (Try.prog.info? 3).map (·.zero) = some (some (.int .i64 0)) := by kernel_rfl
theorem zero_4 : (Try.prog.info? 4).map (·.zero) = some (some (.bool false)) := by kernel_rfl
theorem zero_5 : (Try.prog.info? 5).map (·.zero) = some (some (.int .u8 0)) := by kernel_rfl
theorem zero_6 : (Try.prog.info? 6).map (·.zero) = some (some (.int .u8 0)) := by kernel_rfl
theorem zero_7 : (Try.prog.info? 7).map (·.zero) = some (some (.agg (#[.int .i64 0, .int .i64 0, .bool false, .int .u8 0]))) := by kernel_rfl
theorem zero_8 : (Try.prog.info? 8).map (·.zero) = some (some (.agg (#[.int .i64 0, .int .i64 0, .bool false, .int .u8 0]))) := by kernel_rfl
theorem zero_12 : (Try.prog.info? 12).map (·.zero) = some (some (.int .u64 0)) := by kernel_rfl
theorem zero_15 : (Try.prog.info? 15).map (·.zero) = some (some (.pointer none)) := by kernel_rfl
theorem zero_16 : (Try.prog.info? 16).map (·.zero) = some (some (.pointer none)) := by kernel_rfl
theorem zero_17 : (Try.prog.info? 17).map (·.zero) = some (some (.pointer none)) := by kernel_rfl
theorem zero_18 : (Try.prog.info? 18).map (·.zero) = some (some (.agg (#[.pointer none]))) := by kernel_rfl
theorem zero_19 : (Try.prog.info? 19).map (·.zero) = some (some (.agg (#[.pointer none]))) := by kernel_rfl
theorem zero_21 : (Try.prog.info? 21).map (·.zero) = some (some (.int .i32 0)) := by kernel_rfl
theorem zero_22 : (Try.prog.info? 22).map (·.zero) = some (some (.agg (ints .u8 (List.replicate 32 0)))) := by kernel_rfl
theorem zero_23 : (Try.prog.info? 23).map (·.zero) = some (some (.int .u64 0)) := by kernel_rfl
theorem zero_24 : (Try.prog.info? 24).map (·.zero) = some (some (.agg (ints .u64 (List.replicate 5 0)))) := by kernel_rfl
theorem zero_25 : (Try.prog.info? 25).map (·.zero) = some (some (.agg (ints .u64 (List.replicate 5 0)))) := by kernel_rfl
theorem zero_26 : (Try.prog.info? 26).map (·.zero) = some (some (.agg (ints .u64 (List.replicate 5 0)))) := by kernel_rfl
theorem zero_30 : (Try.prog.info? 30).map (·.zero) = some (some (.agg (ints .i64 (List.replicate 16 0)))) := by kernel_rfl
theorem zero_31 : (Try.prog.info? 31).map (·.zero) = some (some (.agg (ints .i64 (List.replicate 16 0)))) := by kernel_rfl
theorem zero_35 : (Try.prog.info? 35).map (·.zero) = some (some (.slice none 0 0)) := by kernel_rfl
theorem zero_36 : (Try.prog.info? 36).map (·.zero) = some (some (.int .u64 0)) := by kernel_rfl
theorem zero_38 : (Try.prog.info? 38).map (·.zero) = some (some (.int .u32 0)) := by kernel_rfl
theorem zero_46 : (Try.prog.info? 46).map (·.zero) = some (some (.agg (ints .u8 (List.replicate 32 0)))) := by kernel_rfl
theorem zero_51 : (Try.prog.info? 51).map (·.zero) = some (some (.int .i64 0)) := by kernel_rfl
theorem zero_57 : (Try.prog.info? 57).map (·.zero) = some (some (.slice none 0 0)) := by kernel_rfl
theorem zero_65 : (Try.prog.info? 65).map (·.zero) = some (some (.agg (ints .u64 (List.replicate 10 0)))) := by kernel_rfl
theorem zero_66 : (Try.prog.info? 66).map (·.zero) = some (some (.agg (ints .u64 (List.replicate 10 0)))) := by kernel_rfl
theorem zero_68 : (Try.prog.info? 68).map (·.zero) = some (some (.pointer none)) := by kernel_rfl
theorem zero_70 : (Try.prog.info? 70).map (·.zero) = some (some (.agg (ints .i64 (List.replicate 32 0)))) := by kernel_rfl
theorem zero_71 : (Try.prog.info? 71).map (·.zero) = some (some (.agg (ints .i64 (List.replicate 32 0)))) := by kernel_rfl
theorem zero_77 : (Try.prog.info? 77).map (·.zero) = some (some (.agg (ints .u64 (List.replicate 2 0)))) := by kernel_rfl
theorem zero_78 : (Try.prog.info? 78).map (·.zero) = some (some (.agg (ints .u64 (List.replicate 2 0)))) := by kernel_rfl
theorem zero_80 : (Try.prog.info? 80).map (·.zero) = some (some (.agg (ints .u64 (List.replicate 10 0)))) := by kernel_rfl
theorem zero_83 : (Try.prog.info? 83).map (·.zero) = some (some (.agg (ints .i64 (List.replicate 32 0)))) := by kernel_rfl
theorem zero_92 : (Try.prog.info? 92).map (·.zero) = some (some (.int .u8 0)) := by kernel_rfl
theorem zero_93 : (Try.prog.info? 93).map (·.zero) = some (some (.int .u8 0)) := by kernel_rfl
theorem zero_95 : (Try.prog.info? 95).map (·.zero) = some (some (.pointer none)) := by kernel_rfl
theorem zero_96 : (Try.prog.info? 96).map (·.zero) = some (some (.int .i32 0)) := by kernel_rfl
theorem zero_97 : (Try.prog.info? 97).map (·.zero) = some (some (.int .i32 0)) := by kernel_rfl
theorem zero_98 : (Try.prog.info? 98).map (·.zero) = some (some (.agg (#[.int .u64 0, .int .u64 0, .int .u32 0, .int .u8 0, .int .u8 0, .int .u8 0, .int .u8 0, .nilFunc, .pointer none, .int .i32 0, .int .i32 0]))) := by kernel_rfl
theorem zero_99 : (Try.prog.info? 99).map (·.zero) = some (some (.agg (#[.int .u64 0, .int .u64 0, .int .u32 0, .int .u8 0, .int .u8 0, .int .u8 0, .int .u8 0, .nilFunc, .pointer none, .int .i32 0, .int .i32 0]))) := by kernel_rfl
theorem ent_3 (A : Array Value) (w : World) : (callFunc 3 A).run Try.prog w = .ok (.enter 3 A) w := run_callFn_enter Try.func3 (by kernel_rfl) rfl A w
theorem ent_4 (A : Array Value) (w : World) : (callFunc 4 A).run Try.prog w = .ok (.enter 4 A) w := run_callFn_enter Try.func4 (by kernel_rfl) rfl A w
theorem ent_5 (A : Array Value) (w : World) : (callFunc 5 A).run Try.prog w = .ok (.enter 5 A) w := run_callFn_enter Try.func5 (by kernel_rfl) rfl A w
theorem ent_6 (A : Array Value) (w : World) : (callFunc 6 A).run Try.prog w = .ok (.enter 6 A) w := run_callFn_enter Try.func6 (by kernel_rfl) rfl A w
theorem ent_7 (A : Array Value) (w : World) : (callFunc 7 A).run Try.prog w = .ok (.enter 7 A) w := run_callFn_enter Try.func7 (by kernel_rfl) rfl A w
theorem ent_8 (A : Array Value) (w : World) : (callFunc 8 A).run Try.prog w = .ok (.enter 8 A) w := run_callFn_enter Try.func8 (by kernel_rfl) rfl A w
theorem ent_9 (A : Array Value) (w : World) : (callFunc 9 A).run Try.prog w = .ok (.enter 9 A) w := run_callFn_enter Try.func9 (by kernel_rfl) rfl A w
theorem ent_10 (A : Array Value) (w : World) : (callFunc 10 A).run Try.prog w = .ok (.enter 10 A) w := run_callFn_enter Try.func10 (by kernel_rfl) rfl A w
theorem ent_11 (A : Array Value) (w : World) : (callFunc 11 A).run Try.prog w = .ok (.enter 11 A) w := run_callFn_enter Try.func11 (by kernel_rfl) rfl A w
theorem ent_12 (A : Array Value) (w : World) : (callFunc 12 A).run Try.prog w = .ok (.enter 12 A) w := run_callFn_enter Try.func12 (by kernel_rfl) rfl A w
theorem ent_13 (A : Array Value) (w : World) : (callFunc 13 A).run Try.prog w = .ok (.enter 13 A) w := run_callFn_enter Try.func13 (by kernel_rfl) rfl A w
theorem ent_14 (A : Array Value) (w : World) : (callFunc 14 A).run Try.prog w = .ok (.enter 14 A) w := run_callFn_enter Try.func14 (by kernel_rfl) rfl A w
theorem ent_15 (A : Array Value) (w : World) : (callFunc 15 A).run Try.prog w = .ok (.enter 15 A) w := run_callFn_enter Try.func15 (by kernel_rfl) rfl A w
theorem ent_16 (A : Array Value) (w : World) : (callFunc 16 A).run Try.prog w = .ok (.enter 16 A) w := run_callFn_enter Try.func16 (by kernel_rfl) rfl A w
theorem ent_17 (A : Array Value) (w : World) : (callFunc 17 A).run Try.prog w = .ok (.enter 17 A) w := run_callFn_enter Try.func17 (by kernel_rfl) rfl A w
theorem ent_18 (A : Array Value) (w : World) : (callFunc 18 A).run Try.prog w = .ok (.enter 18 A) w := run_callFn_enter Try.func18 (by kernel_rfl) rfl A w
theorem ent_19 (A : Array Value) (w : World) : (callFunc 19 A).run Try.prog w = .ok (.enter 19 A) w := run_callFn_enter Try.func19 (by kernel_rfl) rfl A w
theorem ent_20 (A : Array Value) (w : World) : (callFunc 20 A).run Try.prog w = .ok (.enter 20 A) w := run_callFn_enter Try.func20 (by kernel_rfl) rfl A w
theorem ent_21 (A : Array Value) (w : World) : (callFunc 21 A).run Try.prog w = .ok (.enter 21 A) w := run_callFn_enter Try.func21 (by kernel_rfl) rfl A w
theorem ent_22 (A : Array Value) (w : World) : (callFunc 22 A).run Try.prog w = .ok (.enter 22 A) w := run_callFn_enter Try.func22 (by kernel_rfl) rfl A w
theorem ent_23 (A : Array Value) (w : World) : (callFunc 23 A).run Try.prog w = .ok (.enter 23 A) w := run_callFn_enter Try.func23 (by kernel_rfl) rfl A w
theorem ent_24 (A : Array Value) (w : World) : (callFunc 24 A).run Try.prog w = .ok (.enter 24 A) w := run_callFn_enter Try.func24 (by kernel_rfl) rfl A w
theorem ent_25 (A : Array Value) (w : World) : (callFunc 25 A).run Try.prog w = .ok (.enter 25 A) w := run_callFn_enter Try.func25 (by kernel_rfl) rfl A w
theorem ent_26 (A : Array Value) (w : World) : (callFunc 26 A).run Try.prog w = .ok (.enter 26 A) w := run_callFn_enter Try.func26 (by kernel_rfl) rfl A w
theorem ent_27 (A : Array Value) (w : World) : (callFunc 27 A).run Try.prog w = .ok (.enter 27 A) w := run_callFn_enter Try.func27 (by kernel_rfl) rfl A w
theorem ent_28 (A : Array Value) (w : World) : (callFunc 28 A).run Try.prog w = .ok (.enter 28 A) w := run_callFn_enter Try.func28 (by kernel_rfl) rfl A w
theorem ent_29 (A : Array Value) (w : World) : (callFunc 29 A).run Try.prog w = .ok (.enter 29 A) w := run_callFn_enter Try.func29 (by kernel_rfl) rfl A w
theorem ent_30 (A : Array Value) (w : World) : (callFunc 30 A).run Try.prog w = .ok (.enter 30 A) w := run_callFn_enter Try.func30 (by kernel_rfl) rfl A w
theorem ent_31 (A : Array Value) (w : World) : (callFunc 31 A).run Try.prog w = .ok (.enter 31 A) w := run_callFn_enter Try.func31 (by kernel_rfl) rfl A w
theorem ent_32 (A : Array Value) (w : World) : (callFunc 32 A).run Try.prog w = .ok (.enter 32 A) w := run_callFn_enter Try.func32 (by kernel_rfl) rfl A w
theorem ent_33 (A : Array Value) (w : World) : (callFunc 33 A).run Try.prog w = .ok (.enter 33 A) w := run_callFn_enter Try.func33 (by kernel_rfl) rfl A w
theorem ent_34 (A : Array Value) (w : World) : (callFunc 34 A).run Try.prog w = .ok (.enter 34 A) w := run_callFn_enter Try.func34 (by kernel_rfl) rfl A w
theorem ent_35 (A : Array Value) (w : World) : (callFunc 35 A).run Try.prog w = .ok (.enter 35 A) w := run_callFn_enter Try.func35 (by kernel_rfl) rfl A w
theorem ent_36 (A : Array Value) (w : World) : (callFunc 36 A).run Try.prog w = .ok (.enter 36 A) w := run_callFn_enter Try.func36 (by kernel_rfl) rfl A w
theorem ent_37 (A : Array Value) (w : World) : (callFunc 37 A).run Try.prog w = .ok (.enter 37 A) w := run_callFn_enter Try.func37 (by kernel_rfl) rfl A w
theorem ent_38 (A : Array Value) (w : World) : (callFunc 38 A).run Try.prog w = .ok (.enter 38 A) w := run_callFn_enter Try.func38 (by kernel_rfl) rfl A w
theorem ent_39 (A : Array Value) (w : World) : (callFunc 39 A).run Try.prog w = .ok (.enter 39 A) w := run_callFn_enter Try.func39 (by kernel_rfl) rfl A w
theorem ent_40 (A : Array Value) (w : World) : (callFunc 40 A).run Try.prog w = .ok (.enter 40 A) w := run_callFn_enter Try.func40 (by kernel_rfl) rfl A w
theorem ent_41 (A : Array Value) (w : World) : (callFunc 41 A).run Try.prog w = .ok (.enter 41 A) w := run_callFn_enter Try.func41 (by kernel_rfl) rfl A w
theorem ent_42 (A : Array Value) (w : World) : (callFunc 42 A).run Try.prog w = .ok (.enter 42 A) w := run_callFn_enter Try.func42 (by kernel_rfl) rfl A w
theorem ent_43 (A : Array Value) (w : World) : (callFunc 43 A).run Try.prog w = .ok (.enter 43 A) w := run_callFn_enter Try.func43 (by kernel_rfl) rfl A w
theorem ent_44 (A : Array Value) (w : World) : (callFunc 44 A).run Try.prog w = .ok (.enter 44 A) w := run_callFn_enter Try.func44 (by kernel_rfl) rfl A w
theorem ent_45 (A : Array Value) (w : World) : (callFunc 45 A).run Try.prog w = .ok (.enter 45 A) w := run_callFn_enter Try.func45 (by kernel_rfl) rfl A w
theorem ent_46 (A : Array Value) (w : World) : (callFunc 46 A).run Try.prog w = .ok (.enter 46 A) w := run_callFn_enter Try.func46 (by kernel_rfl) rfl A w
theorem ent_47 (A : Array Value) (w : World) : (callFunc 47 A).run Try.prog w = .ok (.enter 47 A) w := run_callFn_enter Try.func47 (by kernel_rfl) rfl A w
theorem ent_48 (A : Array Value) (w : World) : (callFunc 48 A).run Try.prog w = .ok (.enter 48 A) w := run_callFn_enter Try.func48 (by kernel_rfl) rfl A w
theorem ent_49 (A : Array Value) (w : World) : (callFunc 49 A).run Try.prog w = .ok (.enter 49 A) w := run_callFn_enter Try.func49 (by kernel_rfl) rfl A w
theorem ent_50 (A : Array Value) (w : World) : (callFunc 50 A).run Try.prog w = .ok (.enter 50 A) w := run_callFn_enter Try.func50 (by kernel_rfl) rfl A w
theorem ent_51 (A : Array Value) (w : World) : (callFunc 51 A).run Try.prog w = .ok (.enter 51 A) w := run_callFn_enter Try.func51 (by kernel_rfl) rfl A w
theorem ent_52 (A : Array Value) (w : World) : (callFunc 52 A).run Try.prog w = .ok (.enter 52 A) w := run_callFn_enter Try.func52 (by kernel_rfl) rfl A w
theorem ent_53 (A : Array Value) (w : World) : (callFunc 53 A).run Try.prog w = .ok (.enter 53 A) w := run_callFn_enter Try.func53 (by kernel_rfl) rfl A w
theorem ent_54 (A : Array Value) (w : World) : (callFunc 54 A).run Try.prog w = .ok (.enter 54 A) w := run_callFn_enter Try.func54 (by kernel_rfl) rfl A w
theorem ent_55 (A : Array Value) (w : World) : (callFunc 55 A).run Try.prog w = .ok (.enter 55 A) w := run_callFn_enter Try.func55 (by kernel_rfl) rfl A w
theorem ent_56 (A : Array Value) (w : World) : (callFunc 56 A).run Try.prog w = .ok (.enter 56 A) w := run_callFn_enter Try.func56 (by kernel_rfl) rfl A w
theorem ent_57 (A : Array Value) (w : World) : (callFunc 57 A).run Try.prog w = .ok (.enter 57 A) w := run_callFn_enter Try.func57 (by kernel_rfl) rfl A w
theorem ent_58 (A : Array Value) (w : World) : (callFunc 58 A).run Try.prog w = .ok (.enter 58 A) w := run_callFn_enter Try.func58 (by kernel_rfl) rfl A w
theorem ent_59 (A : Array Value) (w : World) : (callFunc 59 A).run Try.prog w = .ok (.enter 59 A) w := run_callFn_enter Try.func59 (by kernel_rfl) rfl A w
theorem ent_60 (A : Array Value) (w : World) : (callFunc 60 A).run Try.prog w = .ok (.enter 60 A) w := run_callFn_enter Try.func60 (by kernel_rfl) rfl A w
theorem ent_62 (A : Array Value) (w : World) : (callFunc 62 A).run Try.prog w = .ok (.enter 62 A) w := run_callFn_enter Try.func62 (by kernel_rfl) rfl A w
theorem ent_63 (A : Array Value) (w : World) : (callFunc 63 A).run Try.prog w = .ok (.enter 63 A) w := run_callFn_enter Try.func63 (by kernel_rfl) rfl A w
end Sp
end Go.Proofs.Ytmchkfganpgheaa
