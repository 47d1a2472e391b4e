/-
  The types of this seat's program, as a table; functions are entered by a call.
-/
import Derived.Test.YthbmlpiplfbehaaSh
import Derived.Test.YthbmlpiplfbehaaRows
namespace Go.Proofs.Ythbmlpiplfbehaa
open Go Go.RowKit
namespace Sp
def tab : Tab := [(2, .int .i64, 1),
  (3, .int .i64, 1),
  (4, .bool, 1),
  (5, .int .u8, 1),
  (6, .int .u8, 1),
  (7, .st [(2, 0, 1), (3, 1, 1), (4, 2, 1), (6, 3, 1)], 4),
  (8, .st [(2, 0, 1), (3, 1, 1), (4, 2, 1), (6, 3, 1)], 4),
  (9, .str, 1),
  (10, .str, 1),
  (11, .str, 1),
  (12, .int .u64, 1),
  (13, .st [(9, 0, 1), (12, 1, 1)], 2),
  (14, .st [(9, 0, 1), (12, 1, 1)], 2),
  (15, .ptr 116, 1),
  (16, .ptr 119, 1),
  (17, .ptr 127, 1),
  (18, .st [(17, 0, 1)], 1),
  (19, .st [(17, 0, 1)], 1),
  (21, .int .i32, 1),
  (22, .arr 32 5 1, 32),
  (23, .arr 32 5 1, 32),
  (24, .sl 5 1 1, 1),
  (25, .ptr 62, 1),
  (27, .ptr 65, 1),
  (29, .int .i64, 1),
  (36, .sl 24 1 24, 1),
  (39, .sl 3 1 8, 1),
  (44, .arr 12 5 1, 12),
  (52, .sl 57 4 64, 1),
  (53, .st [(25, 0, 1), (27, 1, 1)], 2),
  (54, .st [(25, 0, 1), (27, 1, 1)], 2),
  (55, .arr 2 54 2, 4),
  (56, .st [(3, 0, 1), (3, 1, 1), (24, 2, 1), (24, 3, 1)], 4),
  (57, .st [(3, 0, 1), (3, 1, 1), (24, 2, 1), (24, 3, 1)], 4),
  (61, .st [(4, 0, 1), (23, 1, 32), (3, 33, 1)], 34),
  (62, .st [(4, 0, 1), (23, 1, 32), (3, 33, 1)], 34),
  (64, .st [(4, 0, 1), (23, 1, 32), (3, 33, 1)], 34),
  (65, .st [(4, 0, 1), (23, 1, 32), (3, 33, 1)], 34),
  (69, .int .u64, 1),
  (71, .int .u32, 1),
  (72, .arr 16 5 1, 16),
  (74, .ptr 54, 1),
  (76, .int .u64, 1),
  (77, .arr 64 5 1, 64),
  (79, .ptr 95, 1),
  (86, .arr 16 71 1, 16),
  (89, .ptr 71, 1),
  (92, .arr 2 76 1, 2),
  (93, .arr 3 76 1, 3),
  (94, .st [(4, 0, 1), (92, 1, 2), (92, 3, 2), (93, 5, 3), (72, 8, 16), (3, 24, 1)], 25),
  (95, .st [(4, 0, 1), (92, 1, 2), (92, 3, 2), (93, 5, 3), (72, 8, 16), (3, 24, 1)], 25),
  (100, .arr 4 3 1, 4),
  (101, .arr 8 100 4, 32),
  (103, .arr 4 71 1, 4),
  (105, .arr 17 3 1, 17),
  (110, .arr 17 5 1, 17),
  (112, .arr 4 76 1, 4),
  (115, .st [(17, 0, 1), (17, 1, 1), (17, 2, 1), (9, 3, 1)], 4),
  (116, .st [(17, 0, 1), (17, 1, 1), (17, 2, 1), (9, 3, 1)], 4),
  (120, .int .u8, 1),
  (121, .int .u8, 1),
  (123, .ptr 5, 1),
  (124, .int .i32, 1),
  (125, .int .i32, 1),
  (126, .st [(12, 0, 1), (12, 1, 1), (71, 2, 1), (120, 3, 1), (5, 4, 1), (5, 5, 1), (121, 6, 1), (122, 7, 1), (123, 8, 1), (124, 9, 1), (125, 10, 1)], 11),
  (127, .st [(12, 0, 1), (12, 1, 1), (71, 2, 1), (120, 3, 1), (5, 4, 1), (5, 5, 1), (121, 6, 1), (122, 7, 1), (123, 8, 1), (124, 9, 1), (125, 10, 1)], 11)]
theorem tabOk : TabOk Try.prog tab := by unfold TabOk; kernel_rfl
theorem follows : Try.prog.follows .mixedOrders = true := by kernel_rfl
theorem zero_23 : (Try.prog.info? 23).map (·.zero) = some (some (.agg (ints .u8 (List.replicate 32 0)))) := by kernel_rfl
theorem zero_44 : (Try.prog.info? 44).map (·.zero) = some (some (.agg (ints .u8 (List.replicate 12 0)))) := by kernel_rfl
theorem zero_55 : (Try.prog.info? 55).map (·.zero) = some (some (.agg (#[.pointer none, .pointer none, .pointer none, .pointer none]))) := by kernel_rfl
theorem zero_57 : (Try.prog.info? 57).map (·.zero) = some (some (.agg (#[.int .i64 0, .int .i64 0, .slice none 0 0, .slice none 0 0]))) := by kernel_rfl
theorem zero_72 : (Try.prog.info? 72).map (·.zero) = some (some (.agg (ints .u8 (List.replicate 16 0)))) := by kernel_rfl
theorem zero_77 : (Try.prog.info? 77).map (·.zero) = some (some (.agg (ints .u8 (List.replicate 64 0)))) := by kernel_rfl
theorem zero_86 : (Try.prog.info? 86).map (·.zero) = some (some (.agg (ints .u32 (List.replicate 16 0)))) := by kernel_rfl
theorem zero_92 : (Try.prog.info? 92).map (·.zero) = some (some (.agg (ints .u64 (List.replicate 2 0)))) := by kernel_rfl
theorem zero_95 : (Try.prog.info? 95).map (·.zero) = some (some (.agg (#[.bool false, .int .u64 0, .int .u64 0, .int .u64 0, .int .u64 0, .int .u64 0, .int .u64 0, .int .u64 0, .int .u8 0, .int .u8 0, .int .u8 0, .int .u8 0, .int .u8 0, .int .u8 0, .int .u8 0, .int .u8 0, .int .u8 0, .int .u8 0, .int .u8 0, .int .u8 0, .int .u8 0, .int .u8 0, .int .u8 0, .int .u8 0, .int .i64 0]))) := by kernel_rfl
theorem zero_100 : (Try.prog.info? 100).map (·.zero) = some (some (.agg (ints .i64 (List.replicate 4 0)))) := by kernel_rfl
theorem zero_101 : (Try.prog.info? 101).map (·.zero) = some (some (.agg (ints .i64 (List.replicate 32 0)))) := by kernel_rfl
theorem zero_103 : (Try.prog.info? 103).map (·.zero) = some (some (.agg (ints .u32 (List.replicate 4 0)))) := by kernel_rfl
theorem zero_105 : (Try.prog.info? 105).map (·.zero) = some (some (.agg (ints .i64 (List.replicate 17 0)))) := by kernel_rfl
theorem zero_110 : (Try.prog.info? 110).map (·.zero) = some (some (.agg (ints .u8 (List.replicate 17 0)))) := by kernel_rfl
theorem zero_112 : (Try.prog.info? 112).map (·.zero) = some (some (.agg (ints .u64 (List.replicate 4 0)))) := by kernel_rfl
theorem ent_6 (A : Array Value) (w : World) : (callFunc 6 A).run Try.prog w = .ok (.enter 6 A) w := run_callFn_enter Try.func6 (by kernel_rfl) rfl A w
theorem ent_7 (A : Array Value) (w : World) : (callFunc 7 A).run Try.prog w = .ok (.enter 7 A) w := run_callFn_enter Try.func7 (by kernel_rfl) rfl A w
theorem ent_8 (A : Array Value) (w : World) : (callFunc 8 A).run Try.prog w = .ok (.enter 8 A) w := run_callFn_enter Try.func8 (by kernel_rfl) rfl A w
theorem ent_10 (A : Array Value) (w : World) : (callFunc 10 A).run Try.prog w = .ok (.enter 10 A) w := run_callFn_enter Try.func10 (by kernel_rfl) rfl A w
theorem ent_12 (A : Array Value) (w : World) : (callFunc 12 A).run Try.prog w = .ok (.enter 12 A) w := run_callFn_enter Try.func12 (by kernel_rfl) rfl A w
theorem ent_13 (A : Array Value) (w : World) : (callFunc 13 A).run Try.prog w = .ok (.enter 13 A) w := run_callFn_enter Try.func13 (by kernel_rfl) rfl A w
theorem ent_14 (A : Array Value) (w : World) : (callFunc 14 A).run Try.prog w = .ok (.enter 14 A) w := run_callFn_enter Try.func14 (by kernel_rfl) rfl A w
theorem ent_15 (A : Array Value) (w : World) : (callFunc 15 A).run Try.prog w = .ok (.enter 15 A) w := run_callFn_enter Try.func15 (by kernel_rfl) rfl A w
theorem ent_16 (A : Array Value) (w : World) : (callFunc 16 A).run Try.prog w = .ok (.enter 16 A) w := run_callFn_enter Try.func16 (by kernel_rfl) rfl A w
theorem ent_17 (A : Array Value) (w : World) : (callFunc 17 A).run Try.prog w = .ok (.enter 17 A) w := run_callFn_enter Try.func17 (by kernel_rfl) rfl A w
theorem ent_18 (A : Array Value) (w : World) : (callFunc 18 A).run Try.prog w = .ok (.enter 18 A) w := run_callFn_enter Try.func18 (by kernel_rfl) rfl A w
theorem ent_19 (A : Array Value) (w : World) : (callFunc 19 A).run Try.prog w = .ok (.enter 19 A) w := run_callFn_enter Try.func19 (by kernel_rfl) rfl A w
theorem ent_20 (A : Array Value) (w : World) : (callFunc 20 A).run Try.prog w = .ok (.enter 20 A) w := run_callFn_enter Try.func20 (by kernel_rfl) rfl A w
theorem ent_21 (A : Array Value) (w : World) : (callFunc 21 A).run Try.prog w = .ok (.enter 21 A) w := run_callFn_enter Try.func21 (by kernel_rfl) rfl A w
theorem ent_22 (A : Array Value) (w : World) : (callFunc 22 A).run Try.prog w = .ok (.enter 22 A) w := run_callFn_enter Try.func22 (by kernel_rfl) rfl A w
theorem ent_23 (A : Array Value) (w : World) : (callFunc 23 A).run Try.prog w = .ok (.enter 23 A) w := run_callFn_enter Try.func23 (by kernel_rfl) rfl A w
theorem ent_24 (A : Array Value) (w : World) : (callFunc 24 A).run Try.prog w = .ok (.enter 24 A) w := run_callFn_enter Try.func24 (by kernel_rfl) rfl A w
theorem ent_25 (A : Array Value) (w : World) : (callFunc 25 A).run Try.prog w = .ok (.enter 25 A) w := run_callFn_enter Try.func25 (by kernel_rfl) rfl A w
theorem ent_26 (A : Array Value) (w : World) : (callFunc 26 A).run Try.prog w = .ok (.enter 26 A) w := run_callFn_enter Try.func26 (by kernel_rfl) rfl A w
theorem ent_27 (A : Array Value) (w : World) : (callFunc 27 A).run Try.prog w = .ok (.enter 27 A) w := run_callFn_enter Try.func27 (by kernel_rfl) rfl A w
theorem ent_28 (A : Array Value) (w : World) : (callFunc 28 A).run Try.prog w = .ok (.enter 28 A) w := run_callFn_enter Try.func28 (by kernel_rfl) rfl A w
theorem ent_29 (A : Array Value) (w : World) : (callFunc 29 A).run Try.prog w = .ok (.enter 29 A) w := run_callFn_enter Try.func29 (by kernel_rfl) rfl A w
theorem ent_30 (A : Array Value) (w : World) : (callFunc 30 A).run Try.prog w = .ok (.enter 30 A) w := run_callFn_enter Try.func30 (by kernel_rfl) rfl A w
theorem ent_31 (A : Array Value) (w : World) : (callFunc 31 A).run Try.prog w = .ok (.enter 31 A) w := run_callFn_enter Try.func31 (by kernel_rfl) rfl A w
theorem ent_32 (A : Array Value) (w : World) : (callFunc 32 A).run Try.prog w = .ok (.enter 32 A) w := run_callFn_enter Try.func32 (by kernel_rfl) rfl A w
theorem ent_33 (A : Array Value) (w : World) : (callFunc 33 A).run Try.prog w = .ok (.enter 33 A) w := run_callFn_enter Try.func33 (by kernel_rfl) rfl A w
theorem ent_34 (A : Array Value) (w : World) : (callFunc 34 A).run Try.prog w = .ok (.enter 34 A) w := run_callFn_enter Try.func34 (by kernel_rfl) rfl A w
theorem ent_35 (A : Array Value) (w : World) : (callFunc 35 A).run Try.prog w = .ok (.enter 35 A) w := run_callFn_enter Try.func35 (by kernel_rfl) rfl A w
theorem ent_36 (A : Array Value) (w : World) : (callFunc 36 A).run Try.prog w = .ok (.enter 36 A) w := run_callFn_enter Try.func36 (by kernel_rfl) rfl A w
theorem ent_37 (A : Array Value) (w : World) : (callFunc 37 A).run Try.prog w = .ok (.enter 37 A) w := run_callFn_enter Try.func37 (by kernel_rfl) rfl A w
theorem ent_38 (A : Array Value) (w : World) : (callFunc 38 A).run Try.prog w = .ok (.enter 38 A) w := run_callFn_enter Try.func38 (by kernel_rfl) rfl A w
theorem ent_39 (A : Array Value) (w : World) : (callFunc 39 A).run Try.prog w = .ok (.enter 39 A) w := run_callFn_enter Try.func39 (by kernel_rfl) rfl A w
theorem ent_40 (A : Array Value) (w : World) : (callFunc 40 A).run Try.prog w = .ok (.enter 40 A) w := run_callFn_enter Try.func40 (by kernel_rfl) rfl A w
theorem ent_41 (A : Array Value) (w : World) : (callFunc 41 A).run Try.prog w = .ok (.enter 41 A) w := run_callFn_enter Try.func41 (by kernel_rfl) rfl A w
theorem ent_42 (A : Array Value) (w : World) : (callFunc 42 A).run Try.prog w = .ok (.enter 42 A) w := run_callFn_enter Try.func42 (by kernel_rfl) rfl A w
theorem ent_43 (A : Array Value) (w : World) : (callFunc 43 A).run Try.prog w = .ok (.enter 43 A) w := run_callFn_enter Try.func43 (by kernel_rfl) rfl A w
theorem ent_44 (A : Array Value) (w : World) : (callFunc 44 A).run Try.prog w = .ok (.enter 44 A) w := run_callFn_enter Try.func44 (by kernel_rfl) rfl A w
theorem ent_45 (A : Array Value) (w : World) : (callFunc 45 A).run Try.prog w = .ok (.enter 45 A) w := run_callFn_enter Try.func45 (by kernel_rfl) rfl A w
theorem ent_46 (A : Array Value) (w : World) : (callFunc 46 A).run Try.prog w = .ok (.enter 46 A) w := run_callFn_enter Try.func46 (by kernel_rfl) rfl A w
theorem ent_47 (A : Array Value) (w : World) : (callFunc 47 A).run Try.prog w = .ok (.enter 47 A) w := run_callFn_enter Try.func47 (by kernel_rfl) rfl A w
theorem ent_48 (A : Array Value) (w : World) : (callFunc 48 A).run Try.prog w = .ok (.enter 48 A) w := run_callFn_enter Try.func48 (by kernel_rfl) rfl A w
theorem ent_49 (A : Array Value) (w : World) : (callFunc 49 A).run Try.prog w = .ok (.enter 49 A) w := run_callFn_enter Try.func49 (by kernel_rfl) rfl A w
theorem ent_50 (A : Array Value) (w : World) : (callFunc 50 A).run Try.prog w = .ok (.enter 50 A) w := run_callFn_enter Try.func50 (by kernel_rfl) rfl A w
theorem ent_51 (A : Array Value) (w : World) : (callFunc 51 A).run Try.prog w = .ok (.enter 51 A) w := run_callFn_enter Try.func51 (by kernel_rfl) rfl A w
theorem ent_52 (A : Array Value) (w : World) : (callFunc 52 A).run Try.prog w = .ok (.enter 52 A) w := run_callFn_enter Try.func52 (by kernel_rfl) rfl A w
theorem ent_53 (A : Array Value) (w : World) : (callFunc 53 A).run Try.prog w = .ok (.enter 53 A) w := run_callFn_enter Try.func53 (by kernel_rfl) rfl A w
theorem ent_54 (A : Array Value) (w : World) : (callFunc 54 A).run Try.prog w = .ok (.enter 54 A) w := run_callFn_enter Try.func54 (by kernel_rfl) rfl A w
theorem ent_55 (A : Array Value) (w : World) : (callFunc 55 A).run Try.prog w = .ok (.enter 55 A) w := run_callFn_enter Try.func55 (by kernel_rfl) rfl A w
theorem ent_56 (A : Array Value) (w : World) : (callFunc 56 A).run Try.prog w = .ok (.enter 56 A) w := run_callFn_enter Try.func56 (by kernel_rfl) rfl A w
theorem ent_57 (A : Array Value) (w : World) : (callFunc 57 A).run Try.prog w = .ok (.enter 57 A) w := run_callFn_enter Try.func57 (by kernel_rfl) rfl A w
theorem ent_58 (A : Array Value) (w : World) : (callFunc 58 A).run Try.prog w = .ok (.enter 58 A) w := run_callFn_enter Try.func58 (by kernel_rfl) rfl A w
theorem ent_59 (A : Array Value) (w : World) : (callFunc 59 A).run Try.prog w = .ok (.enter 59 A) w := run_callFn_enter Try.func59 (by kernel_rfl) rfl A w
theorem ent_60 (A : Array Value) (w : World) : (callFunc 60 A).run Try.prog w = .ok (.enter 60 A) w := run_callFn_enter Try.func60 (by kernel_rfl) rfl A w
theorem ent_62 (A : Array Value) (w : World) : (callFunc 62 A).run Try.prog w = .ok (.enter 62 A) w := run_callFn_enter Try.func62 (by kernel_rfl) rfl A w
theorem ent_63 (A : Array Value) (w : World) : (callFunc 63 A).run Try.prog w = .ok (.enter 63 A) w := run_callFn_enter Try.func63 (by kernel_rfl) rfl A w
theorem ent_64 (A : Array Value) (w : World) : (callFunc 64 A).run Try.prog w = .ok (.enter 64 A) w := run_callFn_enter Try.func64 (by kernel_rfl) rfl A w
theorem ent_65 (A : Array Value) (w : World) : (callFunc 65 A).run Try.prog w = .ok (.enter 65 A) w := run_callFn_enter Try.func65 (by kernel_rfl) rfl A w
theorem ent_66 (A : Array Value) (w : World) : (callFunc 66 A).run Try.prog w = .ok (.enter 66 A) w := run_callFn_enter Try.func66 (by kernel_rfl) rfl A w
theorem ent_67 (A : Array Value) (w : World) : (callFunc 67 A).run Try.prog w = .ok (.enter 67 A) w := run_callFn_enter Try.func67 (by kernel_rfl) rfl A w
theorem ent_68 (A : Array Value) (w : World) : (callFunc 68 A).run Try.prog w = .ok (.enter 68 A) w := run_callFn_enter Try.func68 (by kernel_rfl) rfl A w
theorem ent_69 (A : Array Value) (w : World) : (callFunc 69 A).run Try.prog w = .ok (.enter 69 A) w := run_callFn_enter Try.func69 (by kernel_rfl) rfl A w
theorem ent_70 (A : Array Value) (w : World) : (callFunc 70 A).run Try.prog w = .ok (.enter 70 A) w := run_callFn_enter Try.func70 (by kernel_rfl) rfl A w
theorem ent_71 (A : Array Value) (w : World) : (callFunc 71 A).run Try.prog w = .ok (.enter 71 A) w := run_callFn_enter Try.func71 (by kernel_rfl) rfl A w
theorem ent_72 (A : Array Value) (w : World) : (callFunc 72 A).run Try.prog w = .ok (.enter 72 A) w := run_callFn_enter Try.func72 (by kernel_rfl) rfl A w
theorem ent_73 (A : Array Value) (w : World) : (callFunc 73 A).run Try.prog w = .ok (.enter 73 A) w := run_callFn_enter Try.func73 (by kernel_rfl) rfl A w
end Sp
end Go.Proofs.Ythbmlpiplfbehaa
