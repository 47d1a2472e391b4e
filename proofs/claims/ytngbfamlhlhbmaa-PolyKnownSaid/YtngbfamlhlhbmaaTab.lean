/-
  The types of this seat's program, as a table; functions are entered by a call.
-/
import Derived.Test.YtngbfamlhlhbmaaSh
import Derived.Test.YtngbfamlhlhbmaaRows
namespace Go.Proofs.Ytngbfamlhlhbmaa
open Go Go.RowKit
namespace Sp
def tab : Tab := [(2, .int .i64, 1),
  (3, .int .i64, 1),
  (4, .bool, 1),
  (5, .int .u8, 1),
  (6, .int .u8, 1),
  (7, .st [(2, 0, 1), (3, 1, 1), (4, 2, 1), (6, 3, 1)], 4),
  (8, .st [(2, 0, 1), (3, 1, 1), (4, 2, 1), (6, 3, 1)], 4),
  (9, .str, 1),
  (10, .str, 1),
  (11, .str, 1),
  (12, .int .u64, 1),
  (13, .st [(9, 0, 1), (12, 1, 1)], 2),
  (14, .st [(9, 0, 1), (12, 1, 1)], 2),
  (15, .ptr 64, 1),
  (16, .ptr 67, 1),
  (17, .ptr 77, 1),
  (18, .st [(17, 0, 1)], 1),
  (19, .st [(17, 0, 1)], 1),
  (21, .int .i32, 1),
  (22, .arr 32 5 1, 32),
  (23, .arr 32 5 1, 32),
  (24, .sl 5 1 1, 1),
  (26, .arr 16 5 1, 16),
  (31, .sl 24 1 24, 1),
  (32, .ptr 48, 1),
  (44, .int .u64, 1),
  (45, .arr 2 44 1, 2),
  (46, .arr 3 44 1, 3),
  (47, .st [(4, 0, 1), (45, 1, 2), (45, 3, 2), (46, 5, 3), (26, 8, 16), (3, 24, 1)], 25),
  (48, .st [(4, 0, 1), (45, 1, 2), (45, 3, 2), (46, 5, 3), (26, 8, 16), (3, 24, 1)], 25),
  (49, .arr 17 3 1, 17),
  (57, .arr 17 5 1, 17),
  (59, .arr 4 44 1, 4),
  (61, .int .u64, 1),
  (63, .st [(17, 0, 1), (17, 1, 1), (17, 2, 1), (9, 3, 1)], 4),
  (64, .st [(17, 0, 1), (17, 1, 1), (17, 2, 1), (9, 3, 1)], 4),
  (69, .int .u32, 1),
  (70, .int .u8, 1),
  (71, .int .u8, 1),
  (73, .ptr 5, 1),
  (74, .int .i32, 1),
  (75, .int .i32, 1),
  (76, .st [(12, 0, 1), (12, 1, 1), (69, 2, 1), (70, 3, 1), (5, 4, 1), (5, 5, 1), (71, 6, 1), (72, 7, 1), (73, 8, 1), (74, 9, 1), (75, 10, 1)], 11),
  (77, .st [(12, 0, 1), (12, 1, 1), (69, 2, 1), (70, 3, 1), (5, 4, 1), (5, 5, 1), (71, 6, 1), (72, 7, 1), (73, 8, 1), (74, 9, 1), (75, 10, 1)], 11)]
theorem tabOk : TabOk Try.prog tab := by unfold TabOk; kernel_rfl
theorem follows : Try.prog.follows .mixedOrders = true := by kernel_rfl
theorem zero_2 : (Try.prog.info? 2).map (·.zero) = some (some (.int .i64 0)) := by kernel_rfl
theorem zero_3 : (Try.prog.info? 3).map (·.zero) = some (some (.int .i64 0)) := by kernel_rfl
theorem zero_4 : (Try.prog.info? 4).map (·.zero) = some (some (.bool false)) := by kernel_rfl
theorem zero_5 : (Try.prog.info? 5).map (·.zero) = some (some (.int .u8 0)) := by kernel_rfl
theorem zero_6 : (Try.prog.info? 6).map (·.zero) = some (some (.int .u8 0)) := by kernel_rfl
theorem zero_7 : (Try.prog.info? 7).map (·.zero) = some (some (.agg (#[.int .i64 0, .int .i64 0, .bool false, .int .u8 0]))) := by kernel_rfl
theorem zero_8 : (Try.prog.info? 8).map (·.zero) = some (some (.agg (#[.int .i64 0, .int .i64 0, .bool false, .int .u8 0]))) := by kernel_rfl
theorem zero_12 : (Try.prog.info? 12).map (·.zero) = some (some (.int .u64 0)) := by kernel_rfl
theorem zero_15 : (Try.prog.info? 15).map (·.zero) = some (some (.pointer none)) := by kernel_rfl
theorem zero_16 : (Try.prog.info? 16).map (·.zero) = some (some (.pointer none)) := by kernel_rfl
theorem zero_17 : (Try.prog.info? 17).map (·.zero) = some (some (.pointer none)) := by kernel_rfl
theorem zero_18 : (Try.prog.info? 18).map (·.zero) = some (some (.agg (#[.pointer none]))) := by kernel_rfl
theorem zero_19 : (Try.prog.info? 19).map (·.zero) = some (some (.agg (#[.pointer none]))) := by kernel_rfl
theorem zero_21 : (Try.prog.info? 21).map (·.zero) = some (some (.int .i32 0)) := by kernel_rfl
theorem zero_22 : (Try.prog.info? 22).map (·.zero) = some (some (.agg (ints .u8 (List.replicate 32 0)))) := by kernel_rfl
theorem zero_23 : (Try.prog.info? 23).map (·.zero) = some (some (.agg (ints .u8 (List.replicate 32 0)))) := by kernel_rfl
theorem zero_24 : (Try.prog.info? 24).map (·.zero) = some (some (.slice none 0 0)) := by kernel_rfl
theorem zero_26 : (Try.prog.info? 26).map (·.zero) = some (some (.agg (ints .u8 (List.replicate 16 0)))) := by kernel_rfl
theorem zero_31 : (Try.prog.info? 31).map (·.zero) = some (some (.slice none 0 0)) := by kernel_rfl
theorem zero_32 : (Try.prog.info? 32).map (·.zero) = some (some (.pointer none)) := by kernel_rfl
theorem zero_44 : (Try.prog.info? 44).map (·.zero) = some (some (.int .u64 0)) := by kernel_rfl
theorem zero_45 : (Try.prog.info? 45).map (·.zero) = some (some (.agg (ints .u64 (List.replicate 2 0)))) := by kernel_rfl
theorem zero_46 : (Try.prog.info? 46).map (·.zero) = some (some (.agg (ints .u64 (List.replicate 3 0)))) := by kernel_rfl
theorem zero_47 : (Try.prog.info? 47).map (·.zero) = some (some (.agg (#[.bool false, .int .u64 0, .int .u64 0, .int .u64 0, .int .u64 0, .int .u64 0, .int .u64 0, .int .u64 0, .int .u8 0, .int .u8 0, .int .u8 0, .int .u8 0, .int .u8 0, .int .u8 0, .int .u8 0, .int .u8 0, .int .u8 0, .int .u8 0, .int .u8 0, .int .u8 0, .int .u8 0, .int .u8 0, .int .u8 0, .int .u8 0, .int .i64 0]))) := by kernel_rfl
theorem zero_48 : (Try.prog.info? 48).map (·.zero) = some (some (.agg (#[.bool false, .int .u64 0, .int .u64 0, .int .u64 0, .int .u64 0, .int .u64 0, .int .u64 0, .int .u64 0, .int .u8 0, .int .u8 0, .int .u8 0, .int .u8 0, .int .u8 0, .int .u8 0, .int .u8 0, .int .u8 0, .int .u8 0, .int .u8 0, .int .u8 0, .int .u8 0, .int .u8 0, .int .u8 0, .int .u8 0, .int .u8 0, .int .i64 0]))) := by kernel_rfl
theorem zero_49 : (Try.prog.info? 49).map (·.zero) = some (some (.agg (ints .i64 (List.replicate 17 0)))) := by kernel_rfl
theorem zero_57 : (Try.prog.info? 57).map (·.zero) = some (some (.agg (ints .u8 (List.replicate 17 0)))) := by kernel_rfl
theorem zero_59 : (Try.prog.info? 59).map (·.zero) = some (some (.agg (ints .u64 (List.replicate 4 0)))) := by kernel_rfl
theorem zero_61 : (Try.prog.info? 61).map (·.zero) = some (some (.int .u64 0)) := by kernel_rfl
theorem zero_69 : (Try.prog.info? 69).map (·.zero) = some (some (.int .u32 0)) := by kernel_rfl
theorem zero_70 : (Try.prog.info? 70).map (·.zero) = some (some (.int .u8 0)) := by kernel_rfl
theorem zero_71 : (Try.prog.info? 71).map (·.zero) = some (some (.int .u8 0)) := by kernel_rfl
theorem zero_73 : (Try.prog.info? 73).map (·.zero) = some (some (.pointer none)) := by kernel_rfl
theorem zero_74 : (Try.prog.info? 74).map (·.zero) = some (some (.int .i32 0)) := by kernel_rfl
theorem zero_75 : (Try.prog.info? 75).map (·.zero) = some (some (.int .i32 0)) := by kernel_rfl
theorem zero_76 : (Try.prog.info? 76).map (·.zero) = some (some (.agg (#[.int .u64 0, .int .u64 0, .int .u32 0, .int .u8 0, .int .u8 0, .int .u8 0, .int .u8 0, .nilFunc, .pointer none, .int .i32 0, .int .i32 0]))) := by kernel_rfl
theorem zero_77 : (Try.prog.info? 77).map (·.zero) = some (some (.agg (#[.int .u64 0, .int .u64 0, .int .u32 0, .int .u8 0, .int .u8 0, .int .u8 0, .int .u8 0, .nilFunc, .pointer none, .int .i32 0, .int .i32 0]))) := by kernel_rfl
theorem ent_3 (A : Array Value) (w : World) : (callFunc 3 A).run Try.prog w = .ok (.enter 3 A) w := run_callFn_enter Try.func3 (by kernel_rfl) rfl A w
theorem ent_4 (A : Array Value) (w : World) : (callFunc 4 A).run Try.prog w = .ok (.enter 4 A) w := run_callFn_enter Try.func4 (by kernel_rfl) rfl A w
theorem ent_5 (A : Array Value) (w : World) : (callFunc 5 A).run Try.prog w = .ok (.enter 5 A) w := run_callFn_enter Try.func5 (by kernel_rfl) rfl A w
theorem ent_6 (A : Array Value) (w : World) : (callFunc 6 A).run Try.prog w = .ok (.enter 6 A) w := run_callFn_enter Try.func6 (by kernel_rfl) rfl A w
theorem ent_7 (A : Array Value) (w : World) : (callFunc 7 A).run Try.prog w = .ok (.enter 7 A) w := run_callFn_enter Try.func7 (by kernel_rfl) rfl A w
theorem ent_8 (A : Array Value) (w : World) : (callFunc 8 A).run Try.prog w = .ok (.enter 8 A) w := run_callFn_enter Try.func8 (by kernel_rfl) rfl A w
theorem ent_9 (A : Array Value) (w : World) : (callFunc 9 A).run Try.prog w = .ok (.enter 9 A) w := run_callFn_enter Try.func9 (by kernel_rfl) rfl A w
theorem ent_10 (A : Array Value) (w : World) : (callFunc 10 A).run Try.prog w = .ok (.enter 10 A) w := run_callFn_enter Try.func10 (by kernel_rfl) rfl A w
theorem ent_11 (A : Array Value) (w : World) : (callFunc 11 A).run Try.prog w = .ok (.enter 11 A) w := run_callFn_enter Try.func11 (by kernel_rfl) rfl A w
theorem ent_12 (A : Array Value) (w : World) : (callFunc 12 A).run Try.prog w = .ok (.enter 12 A) w := run_callFn_enter Try.func12 (by kernel_rfl) rfl A w
theorem ent_13 (A : Array Value) (w : World) : (callFunc 13 A).run Try.prog w = .ok (.enter 13 A) w := run_callFn_enter Try.func13 (by kernel_rfl) rfl A w
theorem ent_14 (A : Array Value) (w : World) : (callFunc 14 A).run Try.prog w = .ok (.enter 14 A) w := run_callFn_enter Try.func14 (by kernel_rfl) rfl A w
theorem ent_15 (A : Array Value) (w : World) : (callFunc 15 A).run Try.prog w = .ok (.enter 15 A) w := run_callFn_enter Try.func15 (by kernel_rfl) rfl A w
theorem ent_16 (A : Array Value) (w : World) : (callFunc 16 A).run Try.prog w = .ok (.enter 16 A) w := run_callFn_enter Try.func16 (by kernel_rfl) rfl A w
theorem ent_17 (A : Array Value) (w : World) : (callFunc 17 A).run Try.prog w = .ok (.enter 17 A) w := run_callFn_enter Try.func17 (by kernel_rfl) rfl A w
theorem ent_18 (A : Array Value) (w : World) : (callFunc 18 A).run Try.prog w = .ok (.enter 18 A) w := run_callFn_enter Try.func18 (by kernel_rfl) rfl A w
theorem ent_19 (A : Array Value) (w : World) : (callFunc 19 A).run Try.prog w = .ok (.enter 19 A) w := run_callFn_enter Try.func19 (by kernel_rfl) rfl A w
theorem ent_20 (A : Array Value) (w : World) : (callFunc 20 A).run Try.prog w = .ok (.enter 20 A) w := run_callFn_enter Try.func20 (by kernel_rfl) rfl A w
theorem ent_21 (A : Array Value) (w : World) : (callFunc 21 A).run Try.prog w = .ok (.enter 21 A) w := run_callFn_enter Try.func21 (by kernel_rfl) rfl A w
theorem ent_22 (A : Array Value) (w : World) : (callFunc 22 A).run Try.prog w = .ok (.enter 22 A) w := run_callFn_enter Try.func22 (by kernel_rfl) rfl A w
theorem ent_23 (A : Array Value) (w : World) : (callFunc 23 A).run Try.prog w = .ok (.enter 23 A) w := run_callFn_enter Try.func23 (by kernel_rfl) rfl A w
theorem ent_24 (A : Array Value) (w : World) : (callFunc 24 A).run Try.prog w = .ok (.enter 24 A) w := run_callFn_enter Try.func24 (by kernel_rfl) rfl A w
theorem ent_25 (A : Array Value) (w : World) : (callFunc 25 A).run Try.prog w = .ok (.enter 25 A) w := run_callFn_enter Try.func25 (by kernel_rfl) rfl A w
theorem ent_26 (A : Array Value) (w : World) : (callFunc 26 A).run Try.prog w = .ok (.enter 26 A) w := run_callFn_enter Try.func26 (by kernel_rfl) rfl A w
theorem ent_27 (A : Array Value) (w : World) : (callFunc 27 A).run Try.prog w = .ok (.enter 27 A) w := run_callFn_enter Try.func27 (by kernel_rfl) rfl A w
theorem ent_28 (A : Array Value) (w : World) : (callFunc 28 A).run Try.prog w = .ok (.enter 28 A) w := run_callFn_enter Try.func28 (by kernel_rfl) rfl A w
theorem ent_29 (A : Array Value) (w : World) : (callFunc 29 A).run Try.prog w = .ok (.enter 29 A) w := run_callFn_enter Try.func29 (by kernel_rfl) rfl A w
theorem ent_30 (A : Array Value) (w : World) : (callFunc 30 A).run Try.prog w = .ok (.enter 30 A) w := run_callFn_enter Try.func30 (by kernel_rfl) rfl A w
theorem ent_31 (A : Array Value) (w : World) : (callFunc 31 A).run Try.prog w = .ok (.enter 31 A) w := run_callFn_enter Try.func31 (by kernel_rfl) rfl A w
theorem ent_33 (A : Array Value) (w : World) : (callFunc 33 A).run Try.prog w = .ok (.enter 33 A) w := run_callFn_enter Try.func33 (by kernel_rfl) rfl A w
theorem ent_34 (A : Array Value) (w : World) : (callFunc 34 A).run Try.prog w = .ok (.enter 34 A) w := run_callFn_enter Try.func34 (by kernel_rfl) rfl A w
theorem ent_35 (A : Array Value) (w : World) : (callFunc 35 A).run Try.prog w = .ok (.enter 35 A) w := run_callFn_enter Try.func35 (by kernel_rfl) rfl A w
end Sp
end Go.Proofs.Ytngbfamlhlhbmaa
