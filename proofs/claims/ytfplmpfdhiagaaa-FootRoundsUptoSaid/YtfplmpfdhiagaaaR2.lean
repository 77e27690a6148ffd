import Derived.Test.YtfplmpfdhiagaaaR1
import Derived.Test.YtfplmpfdhiagaaaRows
import Derived.Lib.Bytealg
import Derived.Shelf.Small.Bits
import Derived.Shelf.Small.Strs
import Derived.Shelf.Strconv.Itoa0
import Derived.Shelf.Strings.Search1
import Derived.Shelf.Sort.Plain
import Derived.Shelf.Slices.Equal
import Derived.Shelf.Slices.In.SortNone
import Derived.Shelf.Slices.Empties2
import Derived.Test.YtfplmpfdhiagaaaProg
import Derived.Sort.OwnSorted
import Derived.Sort.KeysCollected
import Derived.Lib.AppendZerosOnto
import Derived.Laws.StructEq
import Derived.Room.Entries
/- Parts: Tab FSpec FSpec2 FSpec3 FSpec4 FLaw1 CSpec CRead FSpec5 FSpec6 FSpec7 Shelf FW1 FW2 FW3 Eng13 FW4 FW5 FW6 FW7 FW8 FW9 Eng14 FW10 FW11 FW12 Eng15 FW13 FW14 FW15 FW16 FLaw2 Eng16 Eng17 Eng20 Eng21 FW34 FW35 FW36 FSpec8 FW37 FW38 FW17 CW1 CW6 CW7 CW8 CW8n. -/
/- The table of this translation: types and functions, each entry a closed fact. Written by program. -/
namespace Go.Proofs.Ytfplmpfdhiagaaa
open Go.Proofs.Eng
set_option linter.unusedSimpArgs false
set_option maxRecDepth 10000
def tUnd : List (Nat × TypeDesc) := [(1, .func #[] #[] false), (2, .int .i64), (3, .int .i64), (4, .bool), (5, .int .u8), (6, .int .u8), (9, .string), (10, .string), (11, .string), (12, .int .u64), (15, .pointer 145), (16, .pointer 148), (17, .pointer 156), (21, .int .i32), (22, .func #[23] #[3] false), (23, .int .i64), (24, .func #[] #[4] false), (25, .slice 5), (26, .slice 9), (29, .func #[28] #[4] false), (30, .func #[28] #[28] false), (32, .func #[25, 28] #[25, 23] false), (34, .func #[25, 28] #[25, 3] false), (36, .func #[25] #[28, 3, 23] false), (38, .func #[25] #[28, 3, 3] false), (39, .func #[28, 28] #[4] false), (40, .func #[25, 28, 25] #[4] false), (42, .func #[28] #[28, 23] false), (43, .func #[28, 25] #[4] false), (44, .func #[9] #[4] false), (45, .int .u64), (46, .func #[9] #[45] false), (47, .func #[9, 3] #[3] false), (48, .func #[9, 3] #[4] false), (50, .func #[28] #[28, 3] false), (51, .slice 57), (52, .func #[28] #[51] false), (53, .func #[51, 51] #[4] false), (54, .func #[28] #[3] false), (55, .func #[28] #[] false), (58, .func #[28, 28] #[28, 23] false), (59, .func #[28, 28, 28] #[4] false), (60, .func #[28, 28] #[28, 3] false), (61, .slice 28), (62, .func #[61] #[4] false), (63, .slice 3), (64, .func #[61] #[63] false), (65, .func #[61] #[61] false), (66, .slice 63), (67, .func #[61] #[66] false), (68, .slice 69), (69, .slice 4), (70, .func #[63, 63] #[4] false), (71, .func #[61] #[3] false), (72, .map 9 5), (73, .map 9 5), (74, .func #[28] #[73] false), (75, .func #[25, 45] #[25] false), (76, .func #[5] #[26] false), (77, .func #[25, 9] #[25] false), (78, .func #[26, 9] #[4] false), (79, .pointer 107), (80, .func #[25] #[79] false), (81, .func #[3] #[3] false), (82, .func #[3] #[9] false), (83, .func #[23] #[] false), (84, .func #[] #[5] false), (86, .func #[] #[23, 3] false), (87, .func #[] #[3] false), (88, .pointer 91), (89, .func #[25] #[88] false), (92, .func #[26, 26] #[4] false), (93, .slice 26), (94, .func #[9, 5] #[3] false), (95, .func #[26, 26] #[26] false), (96, .func #[26] #[26] false), (97, .func #[93] #[26] true), (98, .func #[61, 3] #[63] false), (99, .func #[63, 100] #[4] false), (100, .func #[3] #[4] false), (101, .func #[61] #[68] false), (102, .map 3 3), (103, .func #[25] #[25] false), (104, .int .u64), (105, .func #[26] #[] false), (108, .func #[79, 87] #[3] false), (109, .func #[3, 23] #[3] false), (110, .func #[79, 113] #[9] false), (113, .func #[] #[9] false), (114, .func #[79, 84] #[5] false), (116, .func #[25] #[45, 3, 3] false), (117, .func #[3] #[] false), (118, .func #[26, 3] #[26] false), (119, .func #[63, 100] #[3] false), (120, .func #[26, 3, 3, 3] #[] false), (121, .func #[104] #[3] false), (123, .func #[] #[45] false), (124, .func #[26, 3, 3] #[] false), (125, .int .i64), (127, .func #[26, 3, 3] #[3, 125] false), (128, .func #[26, 3, 3] #[4] false), (129, .func #[9, 9] #[4] false), (130, .func #[26, 3, 3, 3] #[3] false), (132, .func #[26, 3, 3, 3] #[3, 4] false), (133, .func #[134] #[3] false), (134, .int .u32), (135, .func #[45] #[3] false), (136, .int .u64), (137, .func #[3] #[104] false), (138, .func #[26, 3, 139] #[3] false), (139, .pointer 3), (140, .func #[26, 3, 3, 3, 139] #[3] false), (141, .pointer 136), (143, .func #[26, 3, 3, 139] #[3, 3] false), (146, .array 0 16), (149, .int .u8), (150, .int .u8), (151, .func #[157, 157] #[4] false), (152, .pointer 5), (153, .int .i32), (154, .int .i32), (157, .unsafePointer)]
def tInf : List (Nat × (Nat × Nat × Value)) := [(0, (1, 0, .tuple #[])), (1, (1, 8, .nilFunc)), (2, (1, 8, .int .i64 0)), (3, (1, 8, .int .i64 0)), (4, (1, 1, .bool false)), (5, (1, 1, .int .u8 0)), (6, (1, 1, .int .u8 0)), (7, (4, 24, .agg #[.int .i64 0, .int .i64 0, .bool false, .int .u8 0])), (8, (4, 24, .agg #[.int .i64 0, .int .i64 0, .bool false, .int .u8 0])), (9, (1, 16, .string ⟨#[]⟩)), (10, (1, 16, .string ⟨#[]⟩)), (11, (1, 16, .string ⟨#[]⟩)), (12, (1, 8, .int .u64 0)), (13, (2, 24, .agg #[.string ⟨#[]⟩, .int .u64 0])), (14, (2, 24, .agg #[.string ⟨#[]⟩, .int .u64 0])), (15, (1, 8, .pointer none)), (16, (1, 8, .pointer none)), (17, (1, 8, .pointer none)), (18, (1, 8, .agg #[.pointer none])), (19, (1, 8, .agg #[.pointer none])), (20, (1, 16, .nilIface)), (21, (1, 4, .int .i32 0)), (22, (1, 8, .nilFunc)), (23, (1, 8, .int .i64 0)), (24, (1, 8, .nilFunc)), (25, (1, 24, .slice none 0 0)), (26, (1, 24, .slice none 0 0)), (27, (2, 48, .agg #[.slice none 0 0, .slice none 0 0])), (28, (2, 48, .agg #[.slice none 0 0, .slice none 0 0])), (29, (1, 8, .nilFunc)), (30, (1, 8, .nilFunc)), (31, (1, 0, .tuple #[.slice none 0 0, .int .i64 0])), (32, (1, 8, .nilFunc)), (33, (1, 0, .tuple #[.slice none 0 0, .int .i64 0])), (34, (1, 8, .nilFunc)), (35, (1, 0, .tuple #[.agg #[.slice none 0 0, .slice none 0 0], .int .i64 0, .int .i64 0])), (36, (1, 8, .nilFunc)), (37, (1, 0, .tuple #[.agg #[.slice none 0 0, .slice none 0 0], .int .i64 0, .int .i64 0])), (38, (1, 8, .nilFunc)), (39, (1, 8, .nilFunc)), (40, (1, 8, .nilFunc)), (41, (1, 0, .tuple #[.agg #[.slice none 0 0, .slice none 0 0], .int .i64 0])), (42, (1, 8, .nilFunc)), (43, (1, 8, .nilFunc)), (44, (1, 8, .nilFunc)), (45, (1, 8, .int .u64 0)), (46, (1, 8, .nilFunc)), (47, (1, 8, .nilFunc)), (48, (1, 8, .nilFunc)), (49, (1, 0, .tuple #[.agg #[.slice none 0 0, .slice none 0 0], .int .i64 0])), (50, (1, 8, .nilFunc)), (51, (1, 24, .slice none 0 0)), (52, (1, 8, .nilFunc)), (53, (1, 8, .nilFunc)), (54, (1, 8, .nilFunc)), (55, (1, 8, .nilFunc)), (56, (2, 24, .agg #[.string ⟨#[]⟩, .bool false])), (57, (2, 24, .agg #[.string ⟨#[]⟩, .bool false])), (58, (1, 8, .nilFunc)), (59, (1, 8, .nilFunc)), (60, (1, 8, .nilFunc)), (61, (1, 24, .slice none 0 0)), (62, (1, 8, .nilFunc)), (63, (1, 24, .slice none 0 0)), (64, (1, 8, .nilFunc)), (65, (1, 8, .nilFunc)), (66, (1, 24, .slice none 0 0)), (67, (1, 8, .nilFunc)), (68, (1, 24, .slice none 0 0)), (69, (1, 24, .slice none 0 0)), (70, (1, 8, .nilFunc)), (71, (1, 8, .nilFunc)), (72, (1, 8, .map none)), (73, (1, 8, .map none)), (74, (1, 8, .nilFunc)), (75, (1, 8, .nilFunc)), (76, (1, 8, .nilFunc)), (77, (1, 8, .nilFunc)), (78, (1, 8, .nilFunc)), (79, (1, 8, .pointer none)), (80, (1, 8, .nilFunc)), (81, (1, 8, .nilFunc)), (82, (1, 8, .nilFunc)), (83, (1, 8, .nilFunc)), (84, (1, 8, .nilFunc)), (85, (1, 0, .tuple #[.int .i64 0, .int .i64 0])), (86, (1, 8, .nilFunc)), (87, (1, 8, .nilFunc)), (88, (1, 8, .pointer none)), (89, (1, 8, .nilFunc)), (90, (5, 56, .agg #[.slice none 0 0, .int .i64 0, .int .i64 0, .int .i64 0, .int .i64 0])), (91, (5, 56, .agg #[.slice none 0 0, .int .i64 0, .int .i64 0, .int .i64 0, .int .i64 0])), (92, (1, 8, .nilFunc)), (93, (1, 24, .slice none 0 0)), (94, (1, 8, .nilFunc)), (95, (1, 8, .nilFunc)), (96, (1, 8, .nilFunc)), (97, (1, 8, .nilFunc)), (98, (1, 8, .nilFunc)), (99, (1, 8, .nilFunc)), (100, (1, 8, .nilFunc)), (101, (1, 8, .nilFunc)), (102, (1, 8, .map none)), (103, (1, 8, .nilFunc)), (104, (1, 8, .int .u64 0)), (105, (1, 8, .nilFunc)), (106, (5, 56, .agg #[.slice none 0 0, .int .i64 0, .int .i64 0, .int .i64 0, .int .i64 0])), (107, (5, 56, .agg #[.slice none 0 0, .int .i64 0, .int .i64 0, .int .i64 0, .int .i64 0])), (108, (1, 8, .nilFunc)), (109, (1, 8, .nilFunc)), (110, (1, 8, .nilFunc)), (111, (1, 8, .agg #[.int .i64 0])), (112, (1, 8, .agg #[.int .i64 0])), (113, (1, 8, .nilFunc)), (114, (1, 8, .nilFunc)), (115, (1, 0, .tuple #[.int .u64 0, .int .i64 0, .int .i64 0])), (116, (1, 8, .nilFunc)), (117, (1, 8, .nilFunc)), (118, (1, 8, .nilFunc)), (119, (1, 8, .nilFunc)), (120, (1, 8, .nilFunc)), (121, (1, 8, .nilFunc)), (122, (1, 0, .tuple #[.agg #[.int .i64 0], .bool false])), (123, (1, 8, .nilFunc)), (124, (1, 8, .nilFunc)), (125, (1, 8, .int .i64 0)), (126, (1, 0, .tuple #[.int .i64 0, .int .i64 0])), (127, (1, 8, .nilFunc)), (128, (1, 8, .nilFunc)), (129, (1, 8, .nilFunc)), (130, (1, 8, .nilFunc)), (131, (1, 0, .tuple #[.int .i64 0, .bool false])), (132, (1, 8, .nilFunc)), (133, (1, 8, .nilFunc)), (134, (1, 4, .int .u32 0)), (135, (1, 8, .nilFunc)), (136, (1, 8, .int .u64 0)), (137, (1, 8, .nilFunc)), (138, (1, 8, .nilFunc)), (139, (1, 8, .pointer none)), (140, (1, 8, .nilFunc)), (141, (1, 8, .pointer none)), (142, (1, 0, .tuple #[.int .i64 0, .int .i64 0])), (143, (1, 8, .nilFunc)), (144, (4, 40, .agg #[.pointer none, .pointer none, .pointer none, .string ⟨#[]⟩])), (145, (4, 40, .agg #[.pointer none, .pointer none, .pointer none, .string ⟨#[]⟩])), (146, (0, 0, .agg #[])), (147, (0, 0, .agg #[])), (148, (0, 0, .agg #[])), (149, (1, 1, .int .u8 0)), (150, (1, 1, .int .u8 0)), (151, (1, 8, .nilFunc)), (152, (1, 8, .pointer none)), (153, (1, 4, .int .i32 0)), (154, (1, 4, .int .i32 0)), (155, (11, 48, .agg #[.int .u64 0, .int .u64 0, .int .u32 0, .int .u8 0, .int .u8 0, .int .u8 0, .int .u8 0, .nilFunc, .pointer none, .int .i32 0, .int .i32 0])), (156, (11, 48, .agg #[.int .u64 0, .int .u64 0, .int .u32 0, .int .u8 0, .int .u8 0, .int .u8 0, .int .u8 0, .nilFunc, .pointer none, .int .i32 0, .int .i32 0])), (157, (1, 8, .pointer none))]
def tFld : List (Nat × (List (Nat × TypeId))) := [(7, [(0, 2), (1, 3), (2, 4), (3, 6)]), (8, [(0, 2), (1, 3), (2, 4), (3, 6)]), (13, [(0, 9), (1, 12)]), (14, [(0, 9), (1, 12)]), (18, [(0, 17)]), (19, [(0, 17)]), (27, [(0, 26), (1, 26)]), (28, [(0, 26), (1, 26)]), (56, [(0, 9), (1, 4)]), (57, [(0, 9), (1, 4)]), (90, [(0, 25), (1, 3), (2, 3), (3, 3), (4, 3)]), (91, [(0, 25), (1, 3), (2, 3), (3, 3), (4, 3)]), (106, [(0, 25), (1, 3), (2, 3), (3, 23), (4, 3)]), (107, [(0, 25), (1, 3), (2, 3), (3, 23), (4, 3)]), (111, [(0, 23)]), (112, [(0, 23)]), (144, [(0, 17), (1, 17), (2, 17), (3, 9)]), (145, [(0, 17), (1, 17), (2, 17), (3, 9)]), (147, [(0, 146)]), (148, [(0, 146)]), (155, [(0, 12), (1, 12), (2, 134), (3, 149), (4, 5), (5, 5), (6, 150), (7, 151), (8, 152), (9, 153), (10, 154)]), (156, [(0, 12), (1, 12), (2, 134), (3, 149), (4, 5), (5, 5), (6, 150), (7, 151), (8, 152), (9, 153), (10, 154)])]
def tFn : List (Nat × Bool) := [(2, true), (3, true), (4, true), (5, true), (6, true), (7, true), (8, true), (9, true), (10, true), (11, true), (12, true), (13, true), (14, true), (15, true), (16, true), (17, true), (18, true), (19, true), (20, true), (21, true), (22, true), (23, true), (24, true), (25, true), (26, true), (27, true), (28, true), (29, true), (30, true), (31, true), (32, true), (33, true), (34, true), (35, true), (36, true), (37, true), (38, true), (39, true), (40, true), (41, true), (42, true), (43, true), (44, true), (45, true), (46, true), (47, true), (48, true), (49, true), (50, true), (51, true), (52, true), (53, true), (54, true), (55, true), (56, true), (57, true), (58, true), (59, true), (60, true), (61, true), (62, true), (63, true), (64, true), (65, true), (66, true), (67, true), (68, true), (69, true), (70, true), (71, true), (72, true), (73, true), (74, true), (75, true), (76, true), (77, true), (78, true), (79, true), (80, true), (81, true), (82, true), (83, true), (84, true), (85, true), (86, true), (87, true), (88, true), (89, true), (90, true), (91, true), (92, true), (93, true), (94, true), (95, true), (96, true), (97, true), (98, true), (99, true), (100, true), (101, true), (102, true), (103, true), (104, true), (105, true), (107, true), (108, true), (109, true), (110, true), (111, true), (112, true), (113, true), (114, true), (115, true), (116, true), (117, true), (118, true), (119, true), (120, true), (121, true), (122, true), (123, true), (124, true)]
theorem tUnd_ok : ∀ p ∈ tUnd, Try.prog.underlying p.1 = some p.2 := by
  simp only [tUnd, tInf, tFld, tFn, List.forall_mem_cons, List.not_mem_nil, false_imp_iff, implies_true, and_true]
  refine ⟨?_, ?_, ?_, ?_, ?_, ?_, ?_, ?_, ?_, ?_, ?_, ?_, ?_, ?_, ?_, ?_, ?_, ?_, ?_, ?_, ?_, ?_, ?_, ?_, ?_, ?_, ?_, ?_, ?_, ?_, ?_, ?_, ?_, ?_, ?_, ?_, ?_, ?_, ?_, ?_, ?_, ?_, ?_, ?_, ?_, ?_, ?_, ?_, ?_, ?_, ?_, ?_, ?_, ?_, ?_, ?_, ?_, ?_, ?_, ?_, ?_, ?_, ?_, ?_, ?_, ?_, ?_, ?_, ?_, ?_, ?_, ?_, ?_, ?_, ?_, ?_, ?_, ?_, ?_, ?_, ?_, ?_, ?_, ?_, ?_, ?_, ?_, ?_, ?_, ?_, ?_, ?_, ?_, ?_, ?_, ?_, ?_, ?_, ?_, ?_, ?_, ?_, ?_, ?_, ?_, ?_, ?_, ?_, ?_, ?_, ?_, ?_, ?_, ?_, ?_, ?_, ?_, ?_, ?_, ?_, ?_, ?_⟩
  · exact Try.underlying1
  · exact Try.underlying2
  · exact Try.underlying3
  · exact Try.underlying4
  · exact Try.underlying5
  · exact Try.underlying6
  · exact Try.underlying9
  · exact Try.underlying10
  · exact Try.underlying11
  · exact Try.underlying12
  · exact Try.underlying15
  · exact Try.underlying16
  · exact Try.underlying17
  · exact Try.underlying21
  · exact Try.underlying22
  · exact Try.underlying23
  · exact Try.underlying24
  · exact Try.underlying25
  · exact Try.underlying26
  · exact Try.underlying29
  · exact Try.underlying30
  · exact Try.underlying32
  · exact Try.underlying34
  · exact Try.underlying36
  · exact Try.underlying38
  · exact Try.underlying39
  · exact Try.underlying40
  · exact Try.underlying42
  · exact Try.underlying43
  · exact Try.underlying44
  · exact Try.underlying45
  · exact Try.underlying46
  · exact Try.underlying47
  · exact Try.underlying48
  · exact Try.underlying50
  · exact Try.underlying51
  · exact Try.underlying52
  · exact Try.underlying53
  · exact Try.underlying54
  · exact Try.underlying55
  · exact Try.underlying58
  · exact Try.underlying59
  · exact Try.underlying60
  · exact Try.underlying61
  · exact Try.underlying62
  · exact Try.underlying63
  · exact Try.underlying64
  · exact Try.underlying65
  · exact Try.underlying66
  · exact Try.underlying67
  · exact Try.underlying68
  · exact Try.underlying69
  · exact Try.underlying70
  · exact Try.underlying71
  · exact Try.underlying72
  · exact Try.underlying73
  · exact Try.underlying74
  · exact Try.underlying75
  · exact Try.underlying76
  · exact Try.underlying77
  · exact Try.underlying78
  · exact Try.underlying79
  · exact Try.underlying80
  · exact Try.underlying81
  · exact Try.underlying82
  · exact Try.underlying83
  · exact Try.underlying84
  · exact Try.underlying86
  · exact Try.underlying87
  · exact Try.underlying88
  · exact Try.underlying89
  · exact Try.underlying92
  · exact Try.underlying93
  · exact Try.underlying94
  · exact Try.underlying95
  · exact Try.underlying96
  · exact Try.underlying97
  · exact Try.underlying98
  · exact Try.underlying99
  · exact Try.underlying100
  · exact Try.underlying101
  · exact Try.underlying102
  · exact Try.underlying103
  · exact Try.underlying104
  · exact Try.underlying105
  · exact Try.underlying108
  · exact Try.underlying109
  · exact Try.underlying110
  · exact Try.underlying113
  · exact Try.underlying114
  · exact Try.underlying116
  · exact Try.underlying117
  · exact Try.underlying118
  · exact Try.underlying119
  · exact Try.underlying120
  · exact Try.underlying121
  · exact Try.underlying123
  · exact Try.underlying124
  · exact Try.underlying125
  · exact Try.underlying127
  · exact Try.underlying128
  · exact Try.underlying129
  · exact Try.underlying130
  · exact Try.underlying132
  · exact Try.underlying133
  · exact Try.underlying134
  · exact Try.underlying135
  · exact Try.underlying136
  · exact Try.underlying137
  · exact Try.underlying138
  · exact Try.underlying139
  · exact Try.underlying140
  · exact Try.underlying141
  · exact Try.underlying143
  · exact Try.underlying146
  · exact Try.underlying149
  · exact Try.underlying150
  · exact Try.underlying151
  · exact Try.underlying152
  · exact Try.underlying153
  · exact Try.underlying154
  · exact Try.underlying157
theorem inf0 : (Try.prog.info? 0).map (fun i => (i.size, i.bytes, i.zero)) = some (1, 0, some (.tuple #[])) := by kernel_rfl
theorem inf1 : (Try.prog.info? 1).map (fun i => (i.size, i.bytes, i.zero)) = some (1, 8, some (.nilFunc)) := by kernel_rfl
theorem inf2 : (Try.prog.info? 2).map (fun i => (i.size, i.bytes, i.zero)) = some (1, 8, some (.int .i64 0)) := by kernel_rfl
theorem inf3 : (Try.prog.info? 3).map (fun i => (i.size, i.bytes, i.zero)) = some (1, 8, some (.int .i64 0)) := by kernel_rfl
theorem inf4 : (Try.prog.info? 4).map (fun i => (i.size, i.bytes, i.zero)) = some (1, 1, some (.bool false)) := by kernel_rfl
theorem inf5 : (Try.prog.info? 5).map (fun i => (i.size, i.bytes, i.zero)) = some (1, 1, some (.int .u8 0)) := by kernel_rfl
theorem inf6 : (Try.prog.info? 6).map (fun i => (i.size, i.bytes, i.zero)) = some (1, 1, some (.int .u8 0)) := by kernel_rfl
theorem inf7 : (Try.prog.info? 7).map (fun i => (i.size, i.bytes, i.zero)) = some (4, 24, some (.agg #[.int .i64 0, .int .i64 0, .bool false, .int .u8 0])) := by kernel_rfl
theorem inf8 : (Try.prog.info? 8).map (fun i => (i.size, i.bytes, i.zero)) = some (4, 24, some (.agg #[.int .i64 0, .int .i64 0, .bool false, .int .u8 0])) := by kernel_rfl
theorem inf9 : (Try.prog.info? 9).map (fun i => (i.size, i.bytes, i.zero)) = some (1, 16, some (.string ⟨#[]⟩)) := by kernel_rfl
theorem inf10 : (Try.prog.info? 10).map (fun i => (i.size, i.bytes, i.zero)) = some (1, 16, some (.string ⟨#[]⟩)) := by kernel_rfl
theorem inf11 : (Try.prog.info? 11).map (fun i => (i.size, i.bytes, i.zero)) = some (1, 16, some (.string ⟨#[]⟩)) := by kernel_rfl
theorem inf12 : (Try.prog.info? 12).map (fun i => (i.size, i.bytes, i.zero)) = some (1, 8, some (.int .u64 0)) := by kernel_rfl
theorem inf13 : (Try.prog.info? 13).map (fun i => (i.size, i.bytes, i.zero)) = some (2, 24, some (.agg #[.string ⟨#[]⟩, .int .u64 0])) := by kernel_rfl
theorem inf14 : (Try.prog.info? 14).map (fun i => (i.size, i.bytes, i.zero)) = some (2, 24, some (.agg #[.string ⟨#[]⟩, .int .u64 0])) := by kernel_rfl
theorem inf15 : (Try.prog.info? 15).map (fun i => (i.size, i.bytes, i.zero)) = some (1, 8, some (.pointer none)) := by kernel_rfl
theorem inf16 : (Try.prog.info? 16).map (fun i => (i.size, i.bytes, i.zero)) = some (1, 8, some (.pointer none)) := by kernel_rfl
theorem inf17 : (Try.prog.info? 17).map (fun i => (i.size, i.bytes, i.zero)) = some (1, 8, some (.pointer none)) := by kernel_rfl
theorem inf18 : (Try.prog.info? 18).map (fun i => (i.size, i.bytes, i.zero)) = some (1, 8, some (.agg #[.pointer none])) := by kernel_rfl
theorem inf19 : (Try.prog.info? 19).map (fun i => (i.size, i.bytes, i.zero)) = some (1, 8, some (.agg #[.pointer none])) := by kernel_rfl
theorem inf20 : (Try.prog.info? 20).map (fun i => (i.size, i.bytes, i.zero)) = some (1, 16, some (.nilIface)) := by kernel_rfl
theorem inf21 : (Try.prog.info? 21).map (fun i => (i.size, i.bytes, i.zero)) = some (1, 4, some (.int .i32 0)) := by kernel_rfl
theorem inf22 : (Try.prog.info? 22).map (fun i => (i.size, i.bytes, i.zero)) = some (1, 8, some (.nilFunc)) := by kernel_rfl
theorem inf23 : (Try.prog.info? 23).map (fun i => (i.size, i.bytes, i.zero)) = some (1, 8, some (.int .i64 0)) := by kernel_rfl
theorem inf24 : (Try.prog.info? 24).map (fun i => (i.size, i.bytes, i.zero)) = some (1, 8, some (.nilFunc)) := by kernel_rfl
theorem inf25 : (Try.prog.info? 25).map (fun i => (i.size, i.bytes, i.zero)) = some (1, 24, some (.slice none 0 0)) := by kernel_rfl
theorem inf26 : (Try.prog.info? 26).map (fun i => (i.size, i.bytes, i.zero)) = some (1, 24, some (.slice none 0 0)) := by kernel_rfl
theorem inf27 : (Try.prog.info? 27).map (fun i => (i.size, i.bytes, i.zero)) = some (2, 48, some (.agg #[.slice none 0 0, .slice none 0 0])) := by kernel_rfl
theorem inf28 : (Try.prog.info? 28).map (fun i => (i.size, i.bytes, i.zero)) = some (2, 48, some (.agg #[.slice none 0 0, .slice none 0 0])) := by kernel_rfl
theorem inf29 : (Try.prog.info? 29).map (fun i => (i.size, i.bytes, i.zero)) = some (1, 8, some (.nilFunc)) := by kernel_rfl
theorem inf30 : (Try.prog.info? 30).map (fun i => (i.size, i.bytes, i.zero)) = some (1, 8, some (.nilFunc)) := by kernel_rfl
theorem inf31 : (Try.prog.info? 31).map (fun i => (i.size, i.bytes, i.zero)) = some (1, 0, some (.tuple #[.slice none 0 0, .int .i64 0])) := by kernel_rfl
theorem inf32 : (Try.prog.info? 32).map (fun i => (i.size, i.bytes, i.zero)) = some (1, 8, some (.nilFunc)) := by kernel_rfl
theorem inf33 : (Try.prog.info? 33).map (fun i => (i.size, i.bytes, i.zero)) = some (1, 0, some (.tuple #[.slice none 0 0, .int .i64 0])) := by kernel_rfl
theorem inf34 : (Try.prog.info? 34).map (fun i => (i.size, i.bytes, i.zero)) = some (1, 8, some (.nilFunc)) := by kernel_rfl
theorem inf35 : (Try.prog.info? 35).map (fun i => (i.size, i.bytes, i.zero)) = some (1, 0, some (.tuple #[.agg #[.slice none 0 0, .slice none 0 0], .int .i64 0, .int .i64 0])) := by kernel_rfl
theorem inf36 : (Try.prog.info? 36).map (fun i => (i.size, i.bytes, i.zero)) = some (1, 8, some (.nilFunc)) := by kernel_rfl
theorem inf37 : (Try.prog.info? 37).map (fun i => (i.size, i.bytes, i.zero)) = some (1, 0, some (.tuple #[.agg #[.slice none 0 0, .slice none 0 0], .int .i64 0, .int .i64 0])) := by kernel_rfl
theorem inf38 : (Try.prog.info? 38).map (fun i => (i.size, i.bytes, i.zero)) = some (1, 8, some (.nilFunc)) := by kernel_rfl
theorem inf39 : (Try.prog.info? 39).map (fun i => (i.size, i.bytes, i.zero)) = some (1, 8, some (.nilFunc)) := by kernel_rfl
theorem inf40 : (Try.prog.info? 40).map (fun i => (i.size, i.bytes, i.zero)) = some (1, 8, some (.nilFunc)) := by kernel_rfl
theorem inf41 : (Try.prog.info? 41).map (fun i => (i.size, i.bytes, i.zero)) = some (1, 0, some (.tuple #[.agg #[.slice none 0 0, .slice none 0 0], .int .i64 0])) := by kernel_rfl
theorem inf42 : (Try.prog.info? 42).map (fun i => (i.size, i.bytes, i.zero)) = some (1, 8, some (.nilFunc)) := by kernel_rfl
theorem inf43 : (Try.prog.info? 43).map (fun i => (i.size, i.bytes, i.zero)) = some (1, 8, some (.nilFunc)) := by kernel_rfl
theorem inf44 : (Try.prog.info? 44).map (fun i => (i.size, i.bytes, i.zero)) = some (1, 8, some (.nilFunc)) := by kernel_rfl
theorem inf45 : (Try.prog.info? 45).map (fun i => (i.size, i.bytes, i.zero)) = some (1, 8, some (.int .u64 0)) := by kernel_rfl
theorem inf46 : (Try.prog.info? 46).map (fun i => (i.size, i.bytes, i.zero)) = some (1, 8, some (.nilFunc)) := by kernel_rfl
theorem inf47 : (Try.prog.info? 47).map (fun i => (i.size, i.bytes, i.zero)) = some (1, 8, some (.nilFunc)) := by kernel_rfl
theorem inf48 : (Try.prog.info? 48).map (fun i => (i.size, i.bytes, i.zero)) = some (1, 8, some (.nilFunc)) := by kernel_rfl
theorem inf49 : (Try.prog.info? 49).map (fun i => (i.size, i.bytes, i.zero)) = some (1, 0, some (.tuple #[.agg #[.slice none 0 0, .slice none 0 0], .int .i64 0])) := by kernel_rfl
theorem inf50 : (Try.prog.info? 50).map (fun i => (i.size, i.bytes, i.zero)) = some (1, 8, some (.nilFunc)) := by kernel_rfl
theorem inf51 : (Try.prog.info? 51).map (fun i => (i.size, i.bytes, i.zero)) = some (1, 24, some (.slice none 0 0)) := by kernel_rfl
theorem inf52 : (Try.prog.info? 52).map (fun i => (i.size, i.bytes, i.zero)) = some (1, 8, some (.nilFunc)) := by kernel_rfl
theorem inf53 : (Try.prog.info? 53).map (fun i => (i.size, i.bytes, i.zero)) = some (1, 8, some (.nilFunc)) := by kernel_rfl
theorem inf54 : (Try.prog.info? 54).map (fun i => (i.size, i.bytes, i.zero)) = some (1, 8, some (.nilFunc)) := by kernel_rfl
theorem inf55 : (Try.prog.info? 55).map (fun i => (i.size, i.bytes, i.zero)) = some (1, 8, some (.nilFunc)) := by kernel_rfl
theorem inf56 : (Try.prog.info? 56).map (fun i => (i.size, i.bytes, i.zero)) = some (2, 24, some (.agg #[.string ⟨#[]⟩, .bool false])) := by kernel_rfl
theorem inf57 : (Try.prog.info? 57).map (fun i => (i.size, i.bytes, i.zero)) = some (2, 24, some (.agg #[.string ⟨#[]⟩, .bool false])) := by kernel_rfl
theorem inf58 : (Try.prog.info? 58).map (fun i => (i.size, i.bytes, i.zero)) = some (1, 8, some (.nilFunc)) := by kernel_rfl
theorem inf59 : (Try.prog.info? 59).map (fun i => (i.size, i.bytes, i.zero)) = some (1, 8, some (.nilFunc)) := by kernel_rfl
theorem inf60 : (Try.prog.info? 60).map (fun i => (i.size, i.bytes, i.zero)) = some (1, 8, some (.nilFunc)) := by kernel_rfl
theorem inf61 : (Try.prog.info? 61).map (fun i => (i.size, i.bytes, i.zero)) = some (1, 24, some (.slice none 0 0)) := by kernel_rfl
theorem inf62 : (Try.prog.info? 62).map (fun i => (i.size, i.bytes, i.zero)) = some (1, 8, some (.nilFunc)) := by kernel_rfl
theorem inf63 : (Try.prog.info? 63).map (fun i => (i.size, i.bytes, i.zero)) = some (1, 24, some (.slice none 0 0)) := by kernel_rfl
theorem inf64 : (Try.prog.info? 64).map (fun i => (i.size, i.bytes, i.zero)) = some (1, 8, some (.nilFunc)) := by kernel_rfl
theorem inf65 : (Try.prog.info? 65).map (fun i => (i.size, i.bytes, i.zero)) = some (1, 8, some (.nilFunc)) := by kernel_rfl
theorem inf66 : (Try.prog.info? 66).map (fun i => (i.size, i.bytes, i.zero)) = some (1, 24, some (.slice none 0 0)) := by kernel_rfl
theorem inf67 : (Try.prog.info? 67).map (fun i => (i.size, i.bytes, i.zero)) = some (1, 8, some (.nilFunc)) := by kernel_rfl
theorem inf68 : (Try.prog.info? 68).map (fun i => (i.size, i.bytes, i.zero)) = some (1, 24, some (.slice none 0 0)) := by kernel_rfl
theorem inf69 : (Try.prog.info? 69).map (fun i => (i.size, i.bytes, i.zero)) = some (1, 24, some (.slice none 0 0)) := by kernel_rfl
theorem inf70 : (Try.prog.info? 70).map (fun i => (i.size, i.bytes, i.zero)) = some (1, 8, some (.nilFunc)) := by kernel_rfl
theorem inf71 : (Try.prog.info? 71).map (fun i => (i.size, i.bytes, i.zero)) = some (1, 8, some (.nilFunc)) := by kernel_rfl
theorem inf72 : (Try.prog.info? 72).map (fun i => (i.size, i.bytes, i.zero)) = some (1, 8, some (.map none)) := by kernel_rfl
theorem inf73 : (Try.prog.info? 73).map (fun i => (i.size, i.bytes, i.zero)) = some (1, 8, some (.map none)) := by kernel_rfl
theorem inf74 : (Try.prog.info? 74).map (fun i => (i.size, i.bytes, i.zero)) = some (1, 8, some (.nilFunc)) := by kernel_rfl
theorem inf75 : (Try.prog.info? 75).map (fun i => (i.size, i.bytes, i.zero)) = some (1, 8, some (.nilFunc)) := by kernel_rfl
theorem inf76 : (Try.prog.info? 76).map (fun i => (i.size, i.bytes, i.zero)) = some (1, 8, some (.nilFunc)) := by kernel_rfl
theorem inf77 : (Try.prog.info? 77).map (fun i => (i.size, i.bytes, i.zero)) = some (1, 8, some (.nilFunc)) := by kernel_rfl
theorem inf78 : (Try.prog.info? 78).map (fun i => (i.size, i.bytes, i.zero)) = some (1, 8, some (.nilFunc)) := by kernel_rfl
theorem inf79 : (Try.prog.info? 79).map (fun i => (i.size, i.bytes, i.zero)) = some (1, 8, some (.pointer none)) := by kernel_rfl
theorem inf80 : (Try.prog.info? 80).map (fun i => (i.size, i.bytes, i.zero)) = some (1, 8, some (.nilFunc)) := by kernel_rfl
theorem inf81 : (Try.prog.info? 81).map (fun i => (i.size, i.bytes, i.zero)) = some (1, 8, some (.nilFunc)) := by kernel_rfl
theorem inf82 : (Try.prog.info? 82).map (fun i => (i.size, i.bytes, i.zero)) = some (1, 8, some (.nilFunc)) := by kernel_rfl
theorem inf83 : (Try.prog.info? 83).map (fun i => (i.size, i.bytes, i.zero)) = some (1, 8, some (.nilFunc)) := by kernel_rfl
theorem inf84 : (Try.prog.info? 84).map (fun i => (i.size, i.bytes, i.zero)) = some (1, 8, some (.nilFunc)) := by kernel_rfl
theorem inf85 : (Try.prog.info? 85).map (fun i => (i.size, i.bytes, i.zero)) = some (1, 0, some (.tuple #[.int .i64 0, .int .i64 0])) := by kernel_rfl
theorem inf86 : (Try.prog.info? 86).map (fun i => (i.size, i.bytes, i.zero)) = some (1, 8, some (.nilFunc)) := by kernel_rfl
theorem inf87 : (Try.prog.info? 87).map (fun i => (i.size, i.bytes, i.zero)) = some (1, 8, some (.nilFunc)) := by kernel_rfl
theorem inf88 : (Try.prog.info? 88).map (fun i => (i.size, i.bytes, i.zero)) = some (1, 8, some (.pointer none)) := by kernel_rfl
theorem inf89 : (Try.prog.info? 89).map (fun i => (i.size, i.bytes, i.zero)) = some (1, 8, some (.nilFunc)) := by kernel_rfl
theorem inf90 : (Try.prog.info? 90).map (fun i => (i.size, i.bytes, i.zero)) = some (5, 56, some (.agg #[.slice none 0 0, .int .i64 0, .int .i64 0, .int .i64 0, .int .i64 0])) := by kernel_rfl
theorem inf91 : (Try.prog.info? 91).map (fun i => (i.size, i.bytes, i.zero)) = some (5, 56, some (.agg #[.slice none 0 0, .int .i64 0, .int .i64 0, .int .i64 0, .int .i64 0])) := by kernel_rfl
theorem inf92 : (Try.prog.info? 92).map (fun i => (i.size, i.bytes, i.zero)) = some (1, 8, some (.nilFunc)) := by kernel_rfl
theorem inf93 : (Try.prog.info? 93).map (fun i => (i.size, i.bytes, i.zero)) = some (1, 24, some (.slice none 0 0)) := by kernel_rfl
theorem inf94 : (Try.prog.info? 94).map (fun i => (i.size, i.bytes, i.zero)) = some (1, 8, some (.nilFunc)) := by kernel_rfl
theorem inf95 : (Try.prog.info? 95).map (fun i => (i.size, i.bytes, i.zero)) = some (1, 8, some (.nilFunc)) := by kernel_rfl
theorem inf96 : (Try.prog.info? 96).map (fun i => (i.size, i.bytes, i.zero)) = some (1, 8, some (.nilFunc)) := by kernel_rfl
theorem inf97 : (Try.prog.info? 97).map (fun i => (i.size, i.bytes, i.zero)) = some (1, 8, some (.nilFunc)) := by kernel_rfl
theorem inf98 : (Try.prog.info? 98).map (fun i => (i.size, i.bytes, i.zero)) = some (1, 8, some (.nilFunc)) := by kernel_rfl
theorem inf99 : (Try.prog.info? 99).map (fun i => (i.size, i.bytes, i.zero)) = some (1, 8, some (.nilFunc)) := by kernel_rfl
theorem inf100 : (Try.prog.info? 100).map (fun i => (i.size, i.bytes, i.zero)) = some (1, 8, some (.nilFunc)) := by kernel_rfl
theorem inf101 : (Try.prog.info? 101).map (fun i => (i.size, i.bytes, i.zero)) = some (1, 8, some (.nilFunc)) := by kernel_rfl
theorem inf102 : (Try.prog.info? 102).map (fun i => (i.size, i.bytes, i.zero)) = some (1, 8, some (.map none)) := by kernel_rfl
theorem inf103 : (Try.prog.info? 103).map (fun i => (i.size, i.bytes, i.zero)) = some (1, 8, some (.nilFunc)) := by kernel_rfl
theorem inf104 : (Try.prog.info? 104).map (fun i => (i.size, i.bytes, i.zero)) = some (1, 8, some (.int .u64 0)) := by kernel_rfl
theorem inf105 : (Try.prog.info? 105).map (fun i => (i.size, i.bytes, i.zero)) = some (1, 8, some (.nilFunc)) := by kernel_rfl
theorem inf106 : (Try.prog.info? 106).map (fun i => (i.size, i.bytes, i.zero)) = some (5, 56, some (.agg #[.slice none 0 0, .int .i64 0, .int .i64 0, .int .i64 0, .int .i64 0])) := by kernel_rfl
theorem inf107 : (Try.prog.info? 107).map (fun i => (i.size, i.bytes, i.zero)) = some (5, 56, some (.agg #[.slice none 0 0, .int .i64 0, .int .i64 0, .int .i64 0, .int .i64 0])) := by kernel_rfl
theorem inf108 : (Try.prog.info? 108).map (fun i => (i.size, i.bytes, i.zero)) = some (1, 8, some (.nilFunc)) := by kernel_rfl
theorem inf109 : (Try.prog.info? 109).map (fun i => (i.size, i.bytes, i.zero)) = some (1, 8, some (.nilFunc)) := by kernel_rfl
theorem inf110 : (Try.prog.info? 110).map (fun i => (i.size, i.bytes, i.zero)) = some (1, 8, some (.nilFunc)) := by kernel_rfl
theorem inf111 : (Try.prog.info? 111).map (fun i => (i.size, i.bytes, i.zero)) = some (1, 8, some (.agg #[.int .i64 0])) := by kernel_rfl
theorem inf112 : (Try.prog.info? 112).map (fun i => (i.size, i.bytes, i.zero)) = some (1, 8, some (.agg #[.int .i64 0])) := by kernel_rfl
theorem inf113 : (Try.prog.info? 113).map (fun i => (i.size, i.bytes, i.zero)) = some (1, 8, some (.nilFunc)) := by kernel_rfl
theorem inf114 : (Try.prog.info? 114).map (fun i => (i.size, i.bytes, i.zero)) = some (1, 8, some (.nilFunc)) := by kernel_rfl
theorem inf115 : (Try.prog.info? 115).map (fun i => (i.size, i.bytes, i.zero)) = some (1, 0, some (.tuple #[.int .u64 0, .int .i64 0, .int .i64 0])) := by kernel_rfl
theorem inf116 : (Try.prog.info? 116).map (fun i => (i.size, i.bytes, i.zero)) = some (1, 8, some (.nilFunc)) := by kernel_rfl
theorem inf117 : (Try.prog.info? 117).map (fun i => (i.size, i.bytes, i.zero)) = some (1, 8, some (.nilFunc)) := by kernel_rfl
theorem inf118 : (Try.prog.info? 118).map (fun i => (i.size, i.bytes, i.zero)) = some (1, 8, some (.nilFunc)) := by kernel_rfl
theorem inf119 : (Try.prog.info? 119).map (fun i => (i.size, i.bytes, i.zero)) = some (1, 8, some (.nilFunc)) := by kernel_rfl
theorem inf120 : (Try.prog.info? 120).map (fun i => (i.size, i.bytes, i.zero)) = some (1, 8, some (.nilFunc)) := by kernel_rfl
theorem inf121 : (Try.prog.info? 121).map (fun i => (i.size, i.bytes, i.zero)) = some (1, 8, some (.nilFunc)) := by kernel_rfl
theorem inf122 : (Try.prog.info? 122).map (fun i => (i.size, i.bytes, i.zero)) = some (1, 0, some (.tuple #[.agg #[.int .i64 0], .bool false])) := by kernel_rfl
theorem inf123 : (Try.prog.info? 123).map (fun i => (i.size, i.bytes, i.zero)) = some (1, 8, some (.nilFunc)) := by kernel_rfl
theorem inf124 : (Try.prog.info? 124).map (fun i => (i.size, i.bytes, i.zero)) = some (1, 8, some (.nilFunc)) := by kernel_rfl
theorem inf125 : (Try.prog.info? 125).map (fun i => (i.size, i.bytes, i.zero)) = some (1, 8, some (.int .i64 0)) := by kernel_rfl
theorem inf126 : (Try.prog.info? 126).map (fun i => (i.size, i.bytes, i.zero)) = some (1, 0, some (.tuple #[.int .i64 0, .int .i64 0])) := by kernel_rfl
theorem inf127 : (Try.prog.info? 127).map (fun i => (i.size, i.bytes, i.zero)) = some (1, 8, some (.nilFunc)) := by kernel_rfl
theorem inf128 : (Try.prog.info? 128).map (fun i => (i.size, i.bytes, i.zero)) = some (1, 8, some (.nilFunc)) := by kernel_rfl
theorem inf129 : (Try.prog.info? 129).map (fun i => (i.size, i.bytes, i.zero)) = some (1, 8, some (.nilFunc)) := by kernel_rfl
theorem inf130 : (Try.prog.info? 130).map (fun i => (i.size, i.bytes, i.zero)) = some (1, 8, some (.nilFunc)) := by kernel_rfl
theorem inf131 : (Try.prog.info? 131).map (fun i => (i.size, i.bytes, i.zero)) = some (1, 0, some (.tuple #[.int .i64 0, .bool false])) := by kernel_rfl
theorem inf132 : (Try.prog.info? 132).map (fun i => (i.size, i.bytes, i.zero)) = some (1, 8, some (.nilFunc)) := by kernel_rfl
theorem inf133 : (Try.prog.info? 133).map (fun i => (i.size, i.bytes, i.zero)) = some (1, 8, some (.nilFunc)) := by kernel_rfl
theorem inf134 : (Try.prog.info? 134).map (fun i => (i.size, i.bytes, i.zero)) = some (1, 4, some (.int .u32 0)) := by kernel_rfl
theorem inf135 : (Try.prog.info? 135).map (fun i => (i.size, i.bytes, i.zero)) = some (1, 8, some (.nilFunc)) := by kernel_rfl
theorem inf136 : (Try.prog.info? 136).map (fun i => (i.size, i.bytes, i.zero)) = some (1, 8, some (.int .u64 0)) := by kernel_rfl
theorem inf137 : (Try.prog.info? 137).map (fun i => (i.size, i.bytes, i.zero)) = some (1, 8, some (.nilFunc)) := by kernel_rfl
theorem inf138 : (Try.prog.info? 138).map (fun i => (i.size, i.bytes, i.zero)) = some (1, 8, some (.nilFunc)) := by kernel_rfl
theorem inf139 : (Try.prog.info? 139).map (fun i => (i.size, i.bytes, i.zero)) = some (1, 8, some (.pointer none)) := by kernel_rfl
theorem inf140 : (Try.prog.info? 140).map (fun i => (i.size, i.bytes, i.zero)) = some (1, 8, some (.nilFunc)) := by kernel_rfl
theorem inf141 : (Try.prog.info? 141).map (fun i => (i.size, i.bytes, i.zero)) = some (1, 8, some (.pointer none)) := by kernel_rfl
theorem inf142 : (Try.prog.info? 142).map (fun i => (i.size, i.bytes, i.zero)) = some (1, 0, some (.tuple #[.int .i64 0, .int .i64 0])) := by kernel_rfl
theorem inf143 : (Try.prog.info? 143).map (fun i => (i.size, i.bytes, i.zero)) = some (1, 8, some (.nilFunc)) := by kernel_rfl
theorem inf144 : (Try.prog.info? 144).map (fun i => (i.size, i.bytes, i.zero)) = some (4, 40, some (.agg #[.pointer none, .pointer none, .pointer none, .string ⟨#[]⟩])) := by kernel_rfl
theorem inf145 : (Try.prog.info? 145).map (fun i => (i.size, i.bytes, i.zero)) = some (4, 40, some (.agg #[.pointer none, .pointer none, .pointer none, .string ⟨#[]⟩])) := by kernel_rfl
theorem inf146 : (Try.prog.info? 146).map (fun i => (i.size, i.bytes, i.zero)) = some (0, 0, some (.agg #[])) := by kernel_rfl
theorem inf147 : (Try.prog.info? 147).map (fun i => (i.size, i.bytes, i.zero)) = some (0, 0, some (.agg #[])) := by kernel_rfl
theorem inf148 : (Try.prog.info? 148).map (fun i => (i.size, i.bytes, i.zero)) = some (0, 0, some (.agg #[])) := by kernel_rfl
theorem inf149 : (Try.prog.info? 149).map (fun i => (i.size, i.bytes, i.zero)) = some (1, 1, some (.int .u8 0)) := by kernel_rfl
theorem inf150 : (Try.prog.info? 150).map (fun i => (i.size, i.bytes, i.zero)) = some (1, 1, some (.int .u8 0)) := by kernel_rfl
theorem inf151 : (Try.prog.info? 151).map (fun i => (i.size, i.bytes, i.zero)) = some (1, 8, some (.nilFunc)) := by kernel_rfl
theorem inf152 : (Try.prog.info? 152).map (fun i => (i.size, i.bytes, i.zero)) = some (1, 8, some (.pointer none)) := by kernel_rfl
theorem inf153 : (Try.prog.info? 153).map (fun i => (i.size, i.bytes, i.zero)) = some (1, 4, some (.int .i32 0)) := by kernel_rfl
theorem inf154 : (Try.prog.info? 154).map (fun i => (i.size, i.bytes, i.zero)) = some (1, 4, some (.int .i32 0)) := by kernel_rfl
theorem inf155 : (Try.prog.info? 155).map (fun i => (i.size, i.bytes, i.zero)) = some (11, 48, some (.agg #[.int .u64 0, .int .u64 0, .int .u32 0, .int .u8 0, .int .u8 0, .int .u8 0, .int .u8 0, .nilFunc, .pointer none, .int .i32 0, .int .i32 0])) := by kernel_rfl
theorem inf156 : (Try.prog.info? 156).map (fun i => (i.size, i.bytes, i.zero)) = some (11, 48, some (.agg #[.int .u64 0, .int .u64 0, .int .u32 0, .int .u8 0, .int .u8 0, .int .u8 0, .int .u8 0, .nilFunc, .pointer none, .int .i32 0, .int .i32 0])) := by kernel_rfl
theorem inf157 : (Try.prog.info? 157).map (fun i => (i.size, i.bytes, i.zero)) = some (1, 8, some (.pointer none)) := by kernel_rfl
theorem tInf_ok : ∀ p ∈ tInf, ∃ i, Try.prog.info? p.1 = some i ∧ i.size = p.2.1 ∧ i.bytes = p.2.2.1 ∧ i.zero = some p.2.2.2 := by
  simp only [tUnd, tInf, tFld, tFn, List.forall_mem_cons, List.not_mem_nil, false_imp_iff, implies_true, and_true]
  refine ⟨?_, ?_, ?_, ?_, ?_, ?_, ?_, ?_, ?_, ?_, ?_, ?_, ?_, ?_, ?_, ?_, ?_, ?_, ?_, ?_, ?_, ?_, ?_, ?_, ?_, ?_, ?_, ?_, ?_, ?_, ?_, ?_, ?_, ?_, ?_, ?_, ?_, ?_, ?_, ?_, ?_, ?_, ?_, ?_, ?_, ?_, ?_, ?_, ?_, ?_, ?_, ?_, ?_, ?_, ?_, ?_, ?_, ?_, ?_, ?_, ?_, ?_, ?_, ?_, ?_, ?_, ?_, ?_, ?_, ?_, ?_, ?_, ?_, ?_, ?_, ?_, ?_, ?_, ?_, ?_, ?_, ?_, ?_, ?_, ?_, ?_, ?_, ?_, ?_, ?_, ?_, ?_, ?_, ?_, ?_, ?_, ?_, ?_, ?_, ?_, ?_, ?_, ?_, ?_, ?_, ?_, ?_, ?_, ?_, ?_, ?_, ?_, ?_, ?_, ?_, ?_, ?_, ?_, ?_, ?_, ?_, ?_, ?_, ?_, ?_, ?_, ?_, ?_, ?_, ?_, ?_, ?_, ?_, ?_, ?_, ?_, ?_, ?_, ?_, ?_, ?_, ?_, ?_, ?_, ?_, ?_, ?_, ?_, ?_, ?_, ?_, ?_, ?_, ?_, ?_, ?_, ?_, ?_⟩
  · exact inf_of inf0
  · exact inf_of inf1
  · exact inf_of inf2
  · exact inf_of inf3
  · exact inf_of inf4
  · exact inf_of inf5
  · exact inf_of inf6
  · exact inf_of inf7
  · exact inf_of inf8
  · exact inf_of inf9
  · exact inf_of inf10
  · exact inf_of inf11
  · exact inf_of inf12
  · exact inf_of inf13
  · exact inf_of inf14
  · exact inf_of inf15
  · exact inf_of inf16
  · exact inf_of inf17
  · exact inf_of inf18
  · exact inf_of inf19
  · exact inf_of inf20
  · exact inf_of inf21
  · exact inf_of inf22
  · exact inf_of inf23
  · exact inf_of inf24
  · exact inf_of inf25
  · exact inf_of inf26
  · exact inf_of inf27
  · exact inf_of inf28
  · exact inf_of inf29
  · exact inf_of inf30
  · exact inf_of inf31
  · exact inf_of inf32
  · exact inf_of inf33
  · exact inf_of inf34
  · exact inf_of inf35
  · exact inf_of inf36
  · exact inf_of inf37
  · exact inf_of inf38
  · exact inf_of inf39
  · exact inf_of inf40
  · exact inf_of inf41
  · exact inf_of inf42
  · exact inf_of inf43
  · exact inf_of inf44
  · exact inf_of inf45
  · exact inf_of inf46
  · exact inf_of inf47
  · exact inf_of inf48
  · exact inf_of inf49
  · exact inf_of inf50
  · exact inf_of inf51
  · exact inf_of inf52
  · exact inf_of inf53
  · exact inf_of inf54
  · exact inf_of inf55
  · exact inf_of inf56
  · exact inf_of inf57
  · exact inf_of inf58
  · exact inf_of inf59
  · exact inf_of inf60
  · exact inf_of inf61
  · exact inf_of inf62
  · exact inf_of inf63
  · exact inf_of inf64
  · exact inf_of inf65
  · exact inf_of inf66
  · exact inf_of inf67
  · exact inf_of inf68
  · exact inf_of inf69
  · exact inf_of inf70
  · exact inf_of inf71
  · exact inf_of inf72
  · exact inf_of inf73
  · exact inf_of inf74
  · exact inf_of inf75
  · exact inf_of inf76
  · exact inf_of inf77
  · exact inf_of inf78
  · exact inf_of inf79
  · exact inf_of inf80
  · exact inf_of inf81
  · exact inf_of inf82
  · exact inf_of inf83
  · exact inf_of inf84
  · exact inf_of inf85
  · exact inf_of inf86
  · exact inf_of inf87
  · exact inf_of inf88
  · exact inf_of inf89
  · exact inf_of inf90
  · exact inf_of inf91
  · exact inf_of inf92
  · exact inf_of inf93
  · exact inf_of inf94
  · exact inf_of inf95
  · exact inf_of inf96
  · exact inf_of inf97
  · exact inf_of inf98
  · exact inf_of inf99
  · exact inf_of inf100
  · exact inf_of inf101
  · exact inf_of inf102
  · exact inf_of inf103
  · exact inf_of inf104
  · exact inf_of inf105
  · exact inf_of inf106
  · exact inf_of inf107
  · exact inf_of inf108
  · exact inf_of inf109
  · exact inf_of inf110
  · exact inf_of inf111
  · exact inf_of inf112
  · exact inf_of inf113
  · exact inf_of inf114
  · exact inf_of inf115
  · exact inf_of inf116
  · exact inf_of inf117
  · exact inf_of inf118
  · exact inf_of inf119
  · exact inf_of inf120
  · exact inf_of inf121
  · exact inf_of inf122
  · exact inf_of inf123
  · exact inf_of inf124
  · exact inf_of inf125
  · exact inf_of inf126
  · exact inf_of inf127
  · exact inf_of inf128
  · exact inf_of inf129
  · exact inf_of inf130
  · exact inf_of inf131
  · exact inf_of inf132
  · exact inf_of inf133
  · exact inf_of inf134
  · exact inf_of inf135
  · exact inf_of inf136
  · exact inf_of inf137
  · exact inf_of inf138
  · exact inf_of inf139
  · exact inf_of inf140
  · exact inf_of inf141
  · exact inf_of inf142
  · exact inf_of inf143
  · exact inf_of inf144
  · exact inf_of inf145
  · exact inf_of inf146
  · exact inf_of inf147
  · exact inf_of inf148
  · exact inf_of inf149
  · exact inf_of inf150
  · exact inf_of inf151
  · exact inf_of inf152
  · exact inf_of inf153
  · exact inf_of inf154
  · exact inf_of inf155
  · exact inf_of inf156
  · exact inf_of inf157
theorem fld7 : (Try.prog.underlying 7).bind (fun d => match d with | .struct fs => some (fs.toList.map (fun f => (f.offset, f.type))) | _ => none) = some [(0, 2), (1, 3), (2, 4), (3, 6)] := by kernel_rfl
theorem fld8 : (Try.prog.underlying 8).bind (fun d => match d with | .struct fs => some (fs.toList.map (fun f => (f.offset, f.type))) | _ => none) = some [(0, 2), (1, 3), (2, 4), (3, 6)] := by kernel_rfl
theorem fld13 : (Try.prog.underlying 13).bind (fun d => match d with | .struct fs => some (fs.toList.map (fun f => (f.offset, f.type))) | _ => none) = some [(0, 9), (1, 12)] := by kernel_rfl
theorem fld14 : (Try.prog.underlying 14).bind (fun d => match d with | .struct fs => some (fs.toList.map (fun f => (f.offset, f.type))) | _ => none) = some [(0, 9), (1, 12)] := by kernel_rfl
theorem fld18 : (Try.prog.underlying 18).bind (fun d => match d with | .struct fs => some (fs.toList.map (fun f => (f.offset, f.type))) | _ => none) = some [(0, 17)] := by kernel_rfl
theorem fld19 : (Try.prog.underlying 19).bind (fun d => match d with | .struct fs => some (fs.toList.map (fun f => (f.offset, f.type))) | _ => none) = some [(0, 17)] := by kernel_rfl
theorem fld27 : (Try.prog.underlying 27).bind (fun d => match d with | .struct fs => some (fs.toList.map (fun f => (f.offset, f.type))) | _ => none) = some [(0, 26), (1, 26)] := by kernel_rfl
theorem fld28 : (Try.prog.underlying 28).bind (fun d => match d with | .struct fs => some (fs.toList.map (fun f => (f.offset, f.type))) | _ => none) = some [(0, 26), (1, 26)] := by kernel_rfl
theorem fld56 : (Try.prog.underlying 56).bind (fun d => match d with | .struct fs => some (fs.toList.map (fun f => (f.offset, f.type))) | _ => none) = some [(0, 9), (1, 4)] := by kernel_rfl
theorem fld57 : (Try.prog.underlying 57).bind (fun d => match d with | .struct fs => some (fs.toList.map (fun f => (f.offset, f.type))) | _ => none) = some [(0, 9), (1, 4)] := by kernel_rfl
theorem fld90 : (Try.prog.underlying 90).bind (fun d => match d with | .struct fs => some (fs.toList.map (fun f => (f.offset, f.type))) | _ => none) = some [(0, 25), (1, 3), (2, 3), (3, 3), (4, 3)] := by kernel_rfl
theorem fld91 : (Try.prog.underlying 91).bind (fun d => match d with | .struct fs => some (fs.toList.map (fun f => (f.offset, f.type))) | _ => none) = some [(0, 25), (1, 3), (2, 3), (3, 3), (4, 3)] := by kernel_rfl
theorem fld106 : (Try.prog.underlying 106).bind (fun d => match d with | .struct fs => some (fs.toList.map (fun f => (f.offset, f.type))) | _ => none) = some [(0, 25), (1, 3), (2, 3), (3, 23), (4, 3)] := by kernel_rfl
theorem fld107 : (Try.prog.underlying 107).bind (fun d => match d with | .struct fs => some (fs.toList.map (fun f => (f.offset, f.type))) | _ => none) = some [(0, 25), (1, 3), (2, 3), (3, 23), (4, 3)] := by kernel_rfl
theorem fld111 : (Try.prog.underlying 111).bind (fun d => match d with | .struct fs => some (fs.toList.map (fun f => (f.offset, f.type))) | _ => none) = some [(0, 23)] := by kernel_rfl
theorem fld112 : (Try.prog.underlying 112).bind (fun d => match d with | .struct fs => some (fs.toList.map (fun f => (f.offset, f.type))) | _ => none) = some [(0, 23)] := by kernel_rfl
theorem fld144 : (Try.prog.underlying 144).bind (fun d => match d with | .struct fs => some (fs.toList.map (fun f => (f.offset, f.type))) | _ => none) = some [(0, 17), (1, 17), (2, 17), (3, 9)] := by kernel_rfl
theorem fld145 : (Try.prog.underlying 145).bind (fun d => match d with | .struct fs => some (fs.toList.map (fun f => (f.offset, f.type))) | _ => none) = some [(0, 17), (1, 17), (2, 17), (3, 9)] := by kernel_rfl
theorem fld147 : (Try.prog.underlying 147).bind (fun d => match d with | .struct fs => some (fs.toList.map (fun f => (f.offset, f.type))) | _ => none) = some [(0, 146)] := by kernel_rfl
theorem fld148 : (Try.prog.underlying 148).bind (fun d => match d with | .struct fs => some (fs.toList.map (fun f => (f.offset, f.type))) | _ => none) = some [(0, 146)] := by kernel_rfl
theorem fld155 : (Try.prog.underlying 155).bind (fun d => match d with | .struct fs => some (fs.toList.map (fun f => (f.offset, f.type))) | _ => none) = some [(0, 12), (1, 12), (2, 134), (3, 149), (4, 5), (5, 5), (6, 150), (7, 151), (8, 152), (9, 153), (10, 154)] := by kernel_rfl
theorem fld156 : (Try.prog.underlying 156).bind (fun d => match d with | .struct fs => some (fs.toList.map (fun f => (f.offset, f.type))) | _ => none) = some [(0, 12), (1, 12), (2, 134), (3, 149), (4, 5), (5, 5), (6, 150), (7, 151), (8, 152), (9, 153), (10, 154)] := by kernel_rfl
theorem tFld_ok : ∀ p ∈ tFld, ∃ fs, Try.prog.underlying p.1 = some (.struct fs) ∧ fs.toList.map (fun f => (f.offset, f.type)) = p.2 := by
  simp only [tUnd, tInf, tFld, tFn, List.forall_mem_cons, List.not_mem_nil, false_imp_iff, implies_true, and_true]
  refine ⟨?_, ?_, ?_, ?_, ?_, ?_, ?_, ?_, ?_, ?_, ?_, ?_, ?_, ?_, ?_, ?_, ?_, ?_, ?_, ?_, ?_, ?_⟩
  · exact fld_of fld7
  · exact fld_of fld8
  · exact fld_of fld13
  · exact fld_of fld14
  · exact fld_of fld18
  · exact fld_of fld19
  · exact fld_of fld27
  · exact fld_of fld28
  · exact fld_of fld56
  · exact fld_of fld57
  · exact fld_of fld90
  · exact fld_of fld91
  · exact fld_of fld106
  · exact fld_of fld107
  · exact fld_of fld111
  · exact fld_of fld112
  · exact fld_of fld144
  · exact fld_of fld145
  · exact fld_of fld147
  · exact fld_of fld148
  · exact fld_of fld155
  · exact fld_of fld156
theorem tFn_ok : ∀ p ∈ tFn, ∀ args w, (callFunc p.1 args).run Try.prog w = .ok (.enter p.1 args) w := by
  simp only [tUnd, tInf, tFld, tFn, List.forall_mem_cons, List.not_mem_nil, false_imp_iff, implies_true, and_true]
  refine ⟨?_, ?_, ?_, ?_, ?_, ?_, ?_, ?_, ?_, ?_, ?_, ?_, ?_, ?_, ?_, ?_, ?_, ?_, ?_, ?_, ?_, ?_, ?_, ?_, ?_, ?_, ?_, ?_, ?_, ?_, ?_, ?_, ?_, ?_, ?_, ?_, ?_, ?_, ?_, ?_, ?_, ?_, ?_, ?_, ?_, ?_, ?_, ?_, ?_, ?_, ?_, ?_, ?_, ?_, ?_, ?_, ?_, ?_, ?_, ?_, ?_, ?_, ?_, ?_, ?_, ?_, ?_, ?_, ?_, ?_, ?_, ?_, ?_, ?_, ?_, ?_, ?_, ?_, ?_, ?_, ?_, ?_, ?_, ?_, ?_, ?_, ?_, ?_, ?_, ?_, ?_, ?_, ?_, ?_, ?_, ?_, ?_, ?_, ?_, ?_, ?_, ?_, ?_, ?_, ?_, ?_, ?_, ?_, ?_, ?_, ?_, ?_, ?_, ?_, ?_, ?_, ?_, ?_, ?_, ?_, ?_, ?_⟩
  · exact run_enter Try.func2 (by kernel_rfl) rfl
  · exact run_enter Try.func3 (by kernel_rfl) rfl
  · exact run_enter Try.func4 (by kernel_rfl) rfl
  · exact run_enter Try.func5 (by kernel_rfl) rfl
  · exact run_enter Try.func6 (by kernel_rfl) rfl
  · exact run_enter Try.func7 (by kernel_rfl) rfl
  · exact run_enter Try.func8 (by kernel_rfl) rfl
  · exact run_enter Try.func9 (by kernel_rfl) rfl
  · exact run_enter Try.func10 (by kernel_rfl) rfl
  · exact run_enter Try.func11 (by kernel_rfl) rfl
  · exact run_enter Try.func12 (by kernel_rfl) rfl
  · exact run_enter Try.func13 (by kernel_rfl) rfl
  · exact run_enter Try.func14 (by kernel_rfl) rfl
  · exact run_enter Try.func15 (by kernel_rfl) rfl
  · exact run_enter Try.func16 (by kernel_rfl) rfl
  · exact run_enter Try.func17 (by kernel_rfl) rfl
  · exact run_enter Try.func18 (by kernel_rfl) rfl
  · exact run_enter Try.func19 (by kernel_rfl) rfl
  · exact run_enter Try.func20 (by kernel_rfl) rfl
  · exact run_enter Try.func21 (by kernel_rfl) rfl
  · exact run_enter Try.func22 (by kernel_rfl) rfl
  · exact run_enter Try.func23 (by kernel_rfl) rfl
  · exact run_enter Try.func24 (by kernel_rfl) rfl
  · exact run_enter Try.func25 (by kernel_rfl) rfl
  · exact run_enter Try.func26 (by kernel_rfl) rfl
  · exact run_enter Try.func27 (by kernel_rfl) rfl
  · exact run_enter Try.func28 (by kernel_rfl) rfl
  · exact run_enter Try.func29 (by kernel_rfl) rfl
  · exact run_enter Try.func30 (by kernel_rfl) rfl
  · exact run_enter Try.func31 (by kernel_rfl) rfl
  · exact run_enter Try.func32 (by kernel_rfl) rfl
  · exact run_enter Try.func33 (by kernel_rfl) rfl
  · exact run_enter Try.func34 (by kernel_rfl) rfl
  · exact run_enter Try.func35 (by kernel_rfl) rfl
  · exact run_enter Try.func36 (by kernel_rfl) rfl
  · exact run_enter Try.func37 (by kernel_rfl) rfl
  · exact run_enter Try.func38 (by kernel_rfl) rfl
  · exact run_enter Try.func39 (by kernel_rfl) rfl
  · exact run_enter Try.func40 (by kernel_rfl) rfl
  · exact run_enter Try.func41 (by kernel_rfl) rfl
  · exact run_enter Try.func42 (by kernel_rfl) rfl
  · exact run_enter Try.func43 (by kernel_rfl) rfl
  · exact run_enter Try.func44 (by kernel_rfl) rfl
  · exact run_enter Try.func45 (by kernel_rfl) rfl
  · exact run_enter Try.func46 (by kernel_rfl) rfl
  · exact run_enter Try.func47 (by kernel_rfl) rfl
  · exact run_enter Try.func48 (by kernel_rfl) rfl
  · exact run_enter Try.func49 (by kernel_rfl) rfl
  · exact run_enter Try.func50 (by kernel_rfl) rfl
  · exact run_enter Try.func51 (by kernel_rfl) rfl
  · exact run_enter Try.func52 (by kernel_rfl) rfl
  · exact run_enter Try.func53 (by kernel_rfl) rfl
  · exact run_enter Try.func54 (by kernel_rfl) rfl
  · exact run_enter Try.func55 (by kernel_rfl) rfl
  · exact run_enter Try.func56 (by kernel_rfl) rfl
  · exact run_enter Try.func57 (by kernel_rfl) rfl
  · exact run_enter Try.func58 (by kernel_rfl) rfl
  · exact run_enter Try.func59 (by kernel_rfl) rfl
  · exact run_enter Try.func60 (by kernel_rfl) rfl
  · exact run_enter Try.func61 (by kernel_rfl) rfl
  · exact run_enter Try.func62 (by kernel_rfl) rfl
  · exact run_enter Try.func63 (by kernel_rfl) rfl
  · exact run_enter Try.func64 (by kernel_rfl) rfl
  · exact run_enter Try.func65 (by kernel_rfl) rfl
  · exact run_enter Try.func66 (by kernel_rfl) rfl
  · exact run_enter Try.func67 (by kernel_rfl) rfl
  · exact run_enter Try.func68 (by kernel_rfl) rfl
  · exact run_enter Try.func69 (by kernel_rfl) rfl
  · exact run_enter Try.func70 (by kernel_rfl) rfl
  · exact run_enter Try.func71 (by kernel_rfl) rfl
  · exact run_enter Try.func72 (by kernel_rfl) rfl
  · exact run_enter Try.func73 (by kernel_rfl) rfl
  · exact run_enter Try.func74 (by kernel_rfl) rfl
  · exact run_enter Try.func75 (by kernel_rfl) rfl
  · exact run_enter Try.func76 (by kernel_rfl) rfl
  · exact run_enter Try.func77 (by kernel_rfl) rfl
  · exact run_enter Try.func78 (by kernel_rfl) rfl
  · exact run_enter Try.func79 (by kernel_rfl) rfl
  · exact run_enter Try.func80 (by kernel_rfl) rfl
  · exact run_enter Try.func81 (by kernel_rfl) rfl
  · exact run_enter Try.func82 (by kernel_rfl) rfl
  · exact run_enter Try.func83 (by kernel_rfl) rfl
  · exact run_enter Try.func84 (by kernel_rfl) rfl
  · exact run_enter Try.func85 (by kernel_rfl) rfl
  · exact run_enter Try.func86 (by kernel_rfl) rfl
  · exact run_enter Try.func87 (by kernel_rfl) rfl
  · exact run_enter Try.func88 (by kernel_rfl) rfl
  · exact run_enter Try.func89 (by kernel_rfl) rfl
  · exact run_enter Try.func90 (by kernel_rfl) rfl
  · exact run_enter Try.func91 (by kernel_rfl) rfl
  · exact run_enter Try.func92 (by kernel_rfl) rfl
  · exact run_enter Try.func93 (by kernel_rfl) rfl
  · exact run_enter Try.func94 (by kernel_rfl) rfl
  · exact run_enter Try.func95 (by kernel_rfl) rfl
  · exact run_enter Try.func96 (by kernel_rfl) rfl
  · exact run_enter Try.func97 (by kernel_rfl) rfl
  · exact run_enter Try.func98 (by kernel_rfl) rfl
  · exact run_enter Try.func99 (by kernel_rfl) rfl
  · exact run_enter Try.func100 (by kernel_rfl) rfl
  · exact run_enter Try.func101 (by kernel_rfl) rfl
  · exact run_enter Try.func102 (by kernel_rfl) rfl
  · exact run_enter Try.func103 (by kernel_rfl) rfl
  · exact run_enter Try.func104 (by kernel_rfl) rfl
  · exact run_enter Try.func105 (by kernel_rfl) rfl
  · exact run_enter Try.func107 (by kernel_rfl) rfl
  · exact run_enter Try.func108 (by kernel_rfl) rfl
  · exact run_enter Try.func109 (by kernel_rfl) rfl
  · exact run_enter Try.func110 (by kernel_rfl) rfl
  · exact run_enter Try.func111 (by kernel_rfl) rfl
  · exact run_enter Try.func112 (by kernel_rfl) rfl
  · exact run_enter Try.func113 (by kernel_rfl) rfl
  · exact run_enter Try.func114 (by kernel_rfl) rfl
  · exact run_enter Try.func115 (by kernel_rfl) rfl
  · exact run_enter Try.func116 (by kernel_rfl) rfl
  · exact run_enter Try.func117 (by kernel_rfl) rfl
  · exact run_enter Try.func118 (by kernel_rfl) rfl
  · exact run_enter Try.func119 (by kernel_rfl) rfl
  · exact run_enter Try.func120 (by kernel_rfl) rfl
  · exact run_enter Try.func121 (by kernel_rfl) rfl
  · exact run_enter Try.func122 (by kernel_rfl) rfl
  · exact run_enter Try.func123 (by kernel_rfl) rfl
  · exact run_enter Try.func124 (by kernel_rfl) rfl
theorem ifc20 : (match Try.prog.underlying 20 with | some (.interface _) => true | _ => false) = true := by kernel_rfl
def tIfc : List (Nat × Bool) := [(20, true)]
theorem tIfc_ok : ∀ p ∈ tIfc, ∃ ms, Try.prog.underlying p.1 = some (.interface ms) := by
  simp only [tUnd, tInf, tFld, tFn, tIfc, List.forall_mem_cons, List.not_mem_nil, false_imp_iff, implies_true, and_true]
  · exact ifc_of ifc20
theorem follows_mixed : Try.prog.follows .mixedOrders = true := by kernel_rfl
def TE : Env Try.prog where
  und := look2 tUnd
  und_ok := look2_ok (Q := fun t d => Try.prog.underlying t = some d) tUnd tUnd_ok
  inf := look2 tInf
  inf_ok := fun t s b z h => look2_ok (Q := fun t (x : Nat × Nat × Value) => ∃ i, Try.prog.info? t = some i ∧ i.size = x.1 ∧ i.bytes = x.2.1 ∧ i.zero = some x.2.2) tInf tInf_ok t (s, b, z) h
  fld := look2 tFld
  fld_ok := look2_ok (Q := fun t l => ∃ fs, Try.prog.underlying t = some (.struct fs) ∧ fs.toList.map (fun f => (f.offset, f.type)) = l) tFld tFld_ok
  fn := fun g => (look2 tFn g).isSome
  fn_ok := fun g h => by
    obtain ⟨b, hb⟩ := Option.isSome_iff_exists.1 h
    exact look2_ok (Q := fun g _ => ∀ args w, (callFunc g args).run Try.prog w = .ok (.enter g args) w) tFn tFn_ok g b hb
  mixed := follows_mixed
  ifc := fun t => (look2 tIfc t).isSome
  ifc_ok := fun t h => by
    obtain ⟨b, hb⟩ := Option.isSome_iff_exists.1 h
    exact look2_ok (Q := fun t _ => ∃ ms, Try.prog.underlying t = some (.interface ms)) tIfc tIfc_ok t b hb
end Go.Proofs.Ytfplmpfdhiagaaa

/- Keys, in plain words. -/
namespace Go.Proofs.Foot
open Go.Proofs.Eng
set_option linter.unusedSimpArgs false
set_option linter.unusedVariables false
/-- A text. -/
abbrev Tx := List UInt8
/-- The bytes of keys. -/
def okc (c : Nat) : Bool := decide ((97 ≤ c ∧ c ≤ 122) ∨ (48 ≤ c ∧ c ≤ 57) ∨ c = 47 ∨ c = 58 ∨ c = 46 ∨ c = 95 ∨ c = 45)
def kbytes : List UInt8 := [97, 98, 99, 100, 101, 102, 103, 104, 105, 106, 107, 108, 109, 110, 111, 112, 113, 114, 115, 116, 117, 118, 119, 120, 121, 122, 48, 49, 50, 51, 52, 53, 54, 55, 56, 57, 47, 58, 46, 95, 45]
set_option maxRecDepth 20000 in
theorem ix_key : ∀ c : Fin 256, (0 ≤ Lib.indexByte kbytes (UInt8.ofNat c.val)) ↔ okc c.val = true := by decide
theorem ix_key' {c : Nat} (h : c < 256) : (0 ≤ Lib.indexByte kbytes ((c : Int).toNat.toUInt8)) ↔ okc c = true := ix_key ⟨c, h⟩
def validT (l : Tx) : Bool := l.all (fun c => okc c.toNat) && decide (1 ≤ l.length ∧ l.length ≤ 32)
def okUpto (l : Tx) (i : Nat) : Prop := ∀ j, j < i → okc (gb l j) = true
theorem valid_no {l : Tx} {i : Nat} (hi : i < l.length) (h : okc (gb l i) = false) : validT l = false := by
  have : l.all (fun c => okc c.toNat) = false := by
    rw [List.all_eq_false]
    refine ⟨l[i], List.getElem_mem hi, ?_⟩
    have e : gb l i = (l[i]).toNat := by simp [gb, List.getD_eq_getElem?_getD, List.getElem?_eq_getElem hi]
    rw [← e, h]
    simp
  simp [validT, this]
theorem valid_end {l : Tx} (h : okUpto l l.length) : validT l = decide (1 ≤ l.length ∧ l.length ≤ 32) := by
  have : l.all (fun c => okc c.toNat) = true := by
    rw [List.all_eq_true]
    intro x hx
    obtain ⟨i, hi, rfl⟩ := List.mem_iff_getElem.1 hx
    have := h i hi
    simpa [gb, List.getD_eq_getElem?_getD, List.getElem?_eq_getElem hi] using this
  simp only [validT, this, Bool.true_and]
def hstep (h c : Nat) : Nat := (h ^^^ c) * 1099511628211 % 2 ^ 64
def hashU (l : Tx) : Nat → Nat
  | 0 => 14695981039346656037
  | i + 1 => hstep (hashU l i) (gb l i)
def hashT (l : Tx) : Nat := hashU l l.length
theorem hashU_lt (l : Tx) (i : Nat) : hashU l i < 2 ^ 64 := by
  cases i with
  | zero => show 14695981039346656037 < 2 ^ 64; decide
  | succ i => exact Nat.mod_lt _ (by decide)
end Go.Proofs.Foot

/- What a footprint's texts are and how each is used; in plain words. -/
namespace Go.Proofs.Foot
open Go.Proofs.Eng
set_option linter.unusedSimpArgs false
set_option linter.unusedVariables false
abbrev tK : Tx → Value := fun l => Value.string (ofL l)
abbrev uV : Nat → Value := fun u => Value.int .u8 (u : Int)
abbrev TM := List (Tx × Nat)
def addM (b : Nat) (m : TM) (t : Tx) : TM := mput m t ((mget m t).getD 0 ||| b)
def addL (b : Nat) (m : TM) (l : List Tx) : TM := l.foldl (addM b) m
def ofM (r w : List Tx) : TM := addL 2 (addL 1 [] r) w
theorem mget_mput (m : TM) (k t : Tx) (v : Nat) : mget (mput m k v) t = if k = t then some v else mget m t := by
  induction m with
  | nil => simp [mput, mget]
  | cons p m ih =>
    by_cases h : p.1 = k
    · simp only [mput, if_pos h, mget]
      by_cases e : k = t
      · simp [e]
      · simp [e, h]
    · simp only [mput, if_neg h, mget]
      by_cases e : p.1 = t
      · have : ¬ k = t := fun q => h (e.trans q.symm)
        simp [e, this]
      · simp [e, ih]
theorem mput_keys (m : TM) (k : Tx) (v : Nat) : (mput m k v).map (·.1) = if k ∈ m.map (·.1) then m.map (·.1) else m.map (·.1) ++ [k] := by
  induction m with
  | nil => simp [mput]
  | cons p m ih =>
    by_cases h : p.1 = k
    · simp [mput, h]
    · simp only [mput, if_neg h, List.map_cons, ih, List.mem_cons]
      have : ¬ k = p.1 := fun q => h q.symm
      simp only [this, false_or]
      split <;> simp
theorem mput_nodup {m : TM} (k : Tx) (v : Nat) (h : (m.map (·.1)).Nodup) : ((mput m k v).map (·.1)).Nodup := by
  rw [mput_keys]
  split
  · exact h
  · rename_i hk
    rw [List.nodup_append]
    refine ⟨h, by simp, fun a ha b hb => ?_⟩
    simp only [List.mem_singleton] at hb
    rintro rfl
    exact hk (hb ▸ ha)
/-- The bits of one text. -/
def bitsM (m : TM) (t : Tx) : Nat := (mget m t).getD 0
theorem bits_addM (b : Nat) (m : TM) (k t : Tx) : bitsM (addM b m k) t = if k = t then bitsM m t ||| b else bitsM m t := by
  unfold bitsM addM
  rw [mget_mput]
  split
  · rename_i e; subst e; rfl
  · rfl
theorem bits_addL (b : Nat) : ∀ (l : List Tx) (m : TM) (t : Tx), bitsM (addL b m l) t = if t ∈ l then bitsM m t ||| b else bitsM m t
  | [], m, t => by simp [addL]
  | k :: l, m, t => by
    show bitsM (addL b (addM b m k) l) t = _
    rw [bits_addL b l, bits_addM]
    by_cases h : t ∈ l
    · by_cases e : k = t
      · simp [h, e, Nat.or_assoc]
      · simp [h, e]
    · by_cases e : k = t
      · subst e; simp [h]
      · have e' : ¬ t = k := fun q => e q.symm
        simp [h, e, e']
theorem bits_of (r w : List Tx) (t : Tx) : bitsM (ofM r w) t = (if t ∈ r then 1 else 0) + (if t ∈ w then 2 else 0) := by
  unfold ofM
  rw [bits_addL, bits_addL]
  have : bitsM [] t = 0 := rfl
  rw [this]
  by_cases h : t ∈ r <;> by_cases g : t ∈ w <;> simp [h, g]
theorem addM_lt {b : Nat} {m : TM} (k : Tx) (hb : b < 4) (h : ∀ t, bitsM m t < 4) : ∀ t, bitsM (addM b m k) t < 4 := fun t => by
  rw [bits_addM]
  split
  · exact Nat.or_lt_two_pow (n := 2) (h t) hb
  · exact h t
theorem addL_lt {b : Nat} (hb : b < 4) : ∀ (l : List Tx) (m : TM), (∀ t, bitsM m t < 4) → ∀ t, bitsM (addL b m l) t < 4
  | [], m, h => h
  | k :: l, m, h => addL_lt hb l (addM b m k) (addM_lt k hb h)
theorem addL_nodup (b : Nat) : ∀ (l : List Tx) (m : TM), (m.map (·.1)).Nodup → ((addL b m l).map (·.1)).Nodup
  | [], m, h => h
  | k :: l, m, h => addL_nodup b l (addM b m k) (mput_nodup _ _ h)
theorem of_nodup (r w : List Tx) : ((ofM r w).map (·.1)).Nodup := addL_nodup 2 _ _ (addL_nodup 1 _ _ (by simp))
/-- What lies in the map is looked up. -/
theorem mget_mem {m : TM} {p : Tx × Nat} (hn : (m.map (·.1)).Nodup) (h : p ∈ m) : mget m p.1 = some p.2 := by
  induction m with
  | nil => simp at h
  | cons q m ih =>
    simp only [List.map_cons, List.nodup_cons] at hn
    rcases List.mem_cons.1 h with e | h
    · simp [mget, ← e]
    · have : ¬ q.1 = p.1 := fun e => hn.1 (e ▸ List.mem_map_of_mem h)
      simp [mget, this, ih hn.2 h]
theorem mem_mget {m : TM} {t : Tx} {v : Nat} (h : mget m t = some v) : (t, v) ∈ m := by
  induction m with
  | nil => simp [mget] at h
  | cons q m ih =>
    by_cases e : q.1 = t
    · simp only [mget, if_pos e, Option.some.injEq] at h
      simp [← e, ← h]
    · simp only [mget, if_neg e] at h
      exact List.mem_cons_of_mem _ (ih h)
theorem addL_take (b : Nat) (m : TM) (l : List Tx) (i : Nat) (hi : i < l.length) : addL b m (l.take (i + 1)) = addM b (addL b m (l.take i)) (l.getD i []) := by
  unfold addL
  rw [List.take_succ_eq_append_getElem hi, List.foldl_append]
  simp [List.getD_eq_getElem?_getD, List.getElem?_eq_getElem hi]
theorem addL_one (r : List Tx) (i : Nat) (t : Tx) : bitsM (addL 1 [] (r.take i)) t < 4 := addL_lt (by decide) _ _ (fun t => by simp [bitsM, mget]) t
theorem addL_two (r k : List Tx) (i : Nat) (t : Tx) : bitsM (addL 2 (addL 1 [] r) (k.take i)) t < 4 := addL_lt (by decide) _ _ (fun t => addL_lt (by decide) _ _ (fun t => by simp [bitsM, mget]) t) t
/-- The texts that are used so, rising. -/
def le2 (x y : Tx) : Bool := decide (x ≤ y)
def used (m : TM) (u : Nat) : List Tx := (m.filter fun p => p.2 &&& u != 0).map (·.1)
def keysM (m : TM) (u : Nat) : List Tx := (used m u).mergeSort le2
end Go.Proofs.Foot

/- The normal form of a footprint. -/
namespace Go.Proofs.Foot
open Go.Proofs.Eng
set_option linter.unusedSimpArgs false
set_option linter.unusedVariables false
theorem of_lt4 (r k : List Tx) : ∀ p ∈ ofM r k, p.2 < 4 := fun p hp => by
  have h1 := mget_mem (of_nodup r k) hp
  have h2 := bits_of r k p.1
  unfold bitsM at h2
  rw [h1] at h2
  simp only [Option.getD_some] at h2
  rw [h2]
  split <;> split <;> omega
def normF (r k : List Tx) : (List Tx × List Tx) × Int :=
  if r.all validT && k.all validT then (if 64 < (ofM r k).length then (([], []), 6) else ((keysM (ofM r k) 1, keysM (ofM r k) 2), 0)) else (([], []), 30)
/-- No text is longer than an int can tell. -/
def Short (l : List Tx) : Prop := ∀ i, i < l.length → (l.getD i []).length ≤ 9223372036854775807
theorem all_upto {l : List Tx} (h : ∀ j, j < l.length → validT (l.getD j []) = true) : l.all validT = true := by
  rw [List.all_eq_true]
  intro x hx
  obtain ⟨i, hi, rfl⟩ := List.mem_iff_getElem.1 hx
  have := h i hi
  simpa [List.getD_eq_getElem?_getD, List.getElem?_eq_getElem hi] using this
theorem all_not {l : List Tx} {i : Nat} (hi : i < l.length) (h : validT (l.getD i []) = false) : l.all validT = false := by
  rw [List.all_eq_false]
  refine ⟨l[i], List.getElem_mem hi, ?_⟩
  rw [List.getD_eq_getElem?_getD, List.getElem?_eq_getElem hi] at h
  simpa using h
end Go.Proofs.Foot

/- The unlike texts of a list, rising. -/
namespace Go.Proofs.Foot
open Go.Proofs.Eng
set_option linter.unusedSimpArgs false
set_option linter.unusedVariables false
def insT (x : Tx) : List Tx → List Tx
  | [] => [x]
  | y :: t => if y < x then y :: insT x t else if y = x then y :: t else x :: y :: t
def setT (l : List Tx) : List Tx := l.foldl (fun a x => insT x a) []
end Go.Proofs.Foot

/- The two ways to the unlike texts of a list, rising, come to the same. -/
namespace Go.Proofs.Foot
open Go.Proofs.Eng
set_option linter.unusedSimpArgs false
set_option linter.unusedVariables false
theorem tx_irrefl (a : Tx) : ¬ a < a := List.lt_irrefl a
theorem tx_trans {a b c : Tx} (h : a < b) (g : b < c) : a < c := List.lt_trans h g
theorem tx_tri {a b : Tx} (h : ¬ a < b) (e : ¬ a = b) : b < a := by
  have h1 : b ≤ a := h
  rcases (le_iff_lt_or b a).1 h1 with g | g
  · exact g
  · exact absurd g.symm e
abbrev Rises (l : List Tx) : Prop := l.Pairwise (· < ·)
theorem ins_mem (x t : Tx) : ∀ l : List Tx, t ∈ insT x l ↔ t = x ∨ t ∈ l
  | [] => by simp [insT]
  | y :: l => by
    simp only [insT]
    split
    · simp only [List.mem_cons, ins_mem x t l]
      constructor <;> (rintro (h | h | h) <;> simp [h])
    · split
      · rename_i e
        subst e
        simp
      · simp
theorem ins_rises (x : Tx) : ∀ {l : List Tx}, Rises l → Rises (insT x l)
  | [], _ => by simp [insT]
  | y :: l, h => by
    have h := List.pairwise_cons.1 h
    simp only [insT]
    split
    · rename_i hy
      refine List.pairwise_cons.2 ⟨fun z hz => ?_, ins_rises x h.2⟩
      rcases (ins_mem x z l).1 hz with rfl | hz
      · exact hy
      · exact h.1 z hz
    · split
      · exact List.pairwise_cons.2 h
      · rename_i h1 h2
        have hx : x < y := tx_tri h1 h2
        refine List.pairwise_cons.2 ⟨fun z hz => ?_, List.pairwise_cons.2 h⟩
        rcases List.mem_cons.1 hz with rfl | hz
        · exact hx
        · exact tx_trans hx (h.1 z hz)
theorem fold_mem (t : Tx) : ∀ (l a : List Tx), t ∈ l.foldl (fun a x => insT x a) a ↔ t ∈ l ∨ t ∈ a
  | [], a => by simp
  | x :: l, a => by
    rw [List.foldl_cons, fold_mem t l, ins_mem]
    simp only [List.mem_cons]
    exact ⟨fun h => by rcases h with h | h | h <;> simp [h], fun h => by rcases h with (h | h) | h <;> simp [h]⟩
theorem fold_rises : ∀ (l a : List Tx), Rises a → Rises (l.foldl (fun a x => insT x a) a)
  | [], a, h => h
  | x :: l, a, h => fold_rises l _ (ins_rises x h)
theorem set_mem (t : Tx) (l : List Tx) : t ∈ setT l ↔ t ∈ l := by simp [setT, fold_mem]
theorem set_rises (l : List Tx) : Rises (setT l) := fold_rises l [] List.Pairwise.nil
theorem rises_eq : ∀ {a b : List Tx}, Rises a → Rises b → (∀ t, t ∈ a ↔ t ∈ b) → a = b
  | [], [], _, _, _ => rfl
  | [], y :: b, _, _, h => by have := (h y).2 (by simp); simp at this
  | x :: a, [], _, _, h => by have := (h x).1 (by simp); simp at this
  | x :: a, y :: b, ha, hb, h => by
    have ha' := List.pairwise_cons.1 ha
    have hb' := List.pairwise_cons.1 hb
    have hxy : x = y := by
      apply Classical.byContradiction
      intro e
      have h1 : x ∈ b := by
        rcases List.mem_cons.1 ((h x).1 (by simp)) with q | q
        · exact absurd q e
        · exact q
      have h2 : y ∈ a := by
        rcases List.mem_cons.1 ((h y).2 (by simp)) with q | q
        · exact absurd q.symm e
        · exact q
      exact tx_irrefl x (tx_trans (ha'.1 y h2) (hb'.1 x h1))
    subst hxy
    rw [rises_eq ha'.2 hb'.2 (fun t => ?_)]
    constructor
    · intro ht
      rcases List.mem_cons.1 ((h t).1 (List.mem_cons_of_mem _ ht)) with q | q
      · subst q; exact absurd (ha'.1 t ht) (tx_irrefl t)
      · exact q
    · intro ht
      rcases List.mem_cons.1 ((h t).2 (List.mem_cons_of_mem _ ht)) with q | q
      · subst q; exact absurd (hb'.1 t ht) (tx_irrefl t)
      · exact q
theorem used_nodup {m : TM} (u : Nat) (h : (m.map (·.1)).Nodup) : (used m u).Nodup := by
  unfold used
  exact h.sublist (List.Sublist.map _ List.filter_sublist)
theorem used_mem {m : TM} (u : Nat) (h : (m.map (·.1)).Nodup) (t : Tx) : t ∈ used m u ↔ bitsM m t &&& u ≠ 0 := by
  unfold used bitsM
  simp only [List.mem_map, List.mem_filter, bne_iff_ne, ne_eq]
  constructor
  · rintro ⟨p, ⟨hp, hq⟩, rfl⟩
    rw [mget_mem h hp]
    exact hq
  · intro hq
    cases e : mget m t with
    | none => rw [e] at hq; simp at hq
    | some v =>
      rw [e] at hq
      exact ⟨(t, v), ⟨mem_mget e, by simpa using hq⟩, rfl⟩
theorem sort_rises {l : List Tx} (h : l.Nodup) : Rises (l.mergeSort le2) := by
  have h1 := List.pairwise_mergeSort (le := le2) (fun a b c => by simp only [le2, decide_eq_true_eq]; exact fun x y => List.le_trans x y) (fun a b => by simp only [le2, Bool.or_eq_true, decide_eq_true_eq]; exact List.le_total a b) l
  have h2 : (l.mergeSort le2).Nodup := (List.mergeSort_perm l le2).nodup_iff.2 h
  refine (h1.and h2).imp fun {a b} hab => ?_
  obtain ⟨q1, q2⟩ := hab
  simp only [le2, decide_eq_true_eq] at q1
  rcases (le_iff_lt_or a b).1 q1 with g | g
  · exact g
  · exact absurd g q2
theorem keys_rises {m : TM} (u : Nat) (h : (m.map (·.1)).Nodup) : Rises (keysM m u) := sort_rises (used_nodup u h)
theorem keys_mem {m : TM} (u : Nat) (h : (m.map (·.1)).Nodup) (t : Tx) : t ∈ keysM m u ↔ bitsM m t &&& u ≠ 0 := by
  unfold keysM
  rw [List.mem_mergeSort, used_mem u h]
theorem keys1 (r k : List Tx) : keysM (ofM r k) 1 = setT r :=
  rises_eq (keys_rises 1 (of_nodup r k)) (set_rises r) fun t => by
    rw [keys_mem 1 (of_nodup r k), set_mem, bits_of]
    by_cases h : t ∈ r <;> by_cases g : t ∈ k <;> simp [h, g]
theorem keys2 (r k : List Tx) : keysM (ofM r k) 2 = setT k :=
  rises_eq (keys_rises 2 (of_nodup r k)) (set_rises k) fun t => by
    rw [keys_mem 2 (of_nodup r k), set_mem, bits_of]
    by_cases h : t ∈ r <;> by_cases g : t ∈ k <;> simp [h, g]
theorem keys3 (r k : List Tx) : keysM (ofM r k) 3 = setT (r ++ k) :=
  rises_eq (keys_rises 3 (of_nodup r k)) (set_rises _) fun t => by
    rw [keys_mem 3 (of_nodup r k), set_mem, bits_of, List.mem_append]
    by_cases h : t ∈ r <;> by_cases g : t ∈ k <;> simp [h, g]
theorem of_keys_mem (r k : List Tx) (t : Tx) : t ∈ (ofM r k).map (·.1) ↔ t ∈ r ∨ t ∈ k := by
  have hb := bits_of r k t
  unfold bitsM at hb
  constructor
  · intro h
    obtain ⟨p, hp, rfl⟩ := List.mem_map.1 h
    have h3 : ¬ p.2 = 0 → p.1 ∈ r ∨ p.1 ∈ k := fun h0 => by
      rw [mget_mem (of_nodup r k) hp] at hb
      simp only [Option.getD_some] at hb
      by_cases h : p.1 ∈ r
      · exact .inl h
      · by_cases g : p.1 ∈ k
        · exact .inr g
        · simp [h, g] at hb; exact absurd hb h0
    apply Classical.byContradiction
    intro hn
    have hr : ¬ p.1 ∈ r := fun q => hn (.inl q)
    have hk : ¬ p.1 ∈ k := fun q => hn (.inr q)
    -- a text that neither uses never came into the map
    have key : ∀ (b : Nat) (l : List Tx) (m : TM), p.1 ∈ (addL b m l).map (·.1) → p.1 ∈ l ∨ p.1 ∈ m.map (·.1) := by
      intro b l
      induction l with
      | nil => intro m h; exact .inr h
      | cons x l ih =>
        intro m h
        rcases ih (addM b m x) h with q | q
        · exact .inl (List.mem_cons_of_mem _ q)
        · unfold addM at q
          rw [mput_keys] at q
          split at q
          · exact .inr q
          · rcases List.mem_append.1 q with q | q
            · exact .inr q
            · simp only [List.mem_singleton] at q
              exact .inl (by simp [q])
    rcases key 2 k _ h with q | q
    · exact hk q
    · rcases key 1 r _ q with q | q
      · exact hr q
      · simp at q
  · intro h
    have hne : ¬ (mget (ofM r k) t) = none := fun e => by
      rw [e] at hb
      simp only [Option.getD_none] at hb
      rcases h with h | h
      · by_cases g : t ∈ k <;> simp [h, g] at hb
      · by_cases g : t ∈ r <;> simp [h, g] at hb
    cases e : mget (ofM r k) t with
    | none => exact absurd e hne
    | some v => exact List.mem_map.2 ⟨_, mem_mget e, rfl⟩
theorem of_len (r k : List Tx) : (ofM r k).length = (setT (r ++ k)).length := by
  have h1 : ((ofM r k).map (·.1)).mergeSort le2 = setT (r ++ k) := rises_eq (sort_rises (of_nodup r k)) (set_rises _) fun t => by
    rw [List.mem_mergeSort, of_keys_mem, set_mem, List.mem_append]
  rw [← h1, List.length_mergeSort, List.length_map]
theorem norm_eq (r k : List Tx) : normF r k = if r.all validT && k.all validT then (if 64 < (setT (r ++ k)).length then (([], []), 6) else ((setT r, setT k), 0)) else (([], []), 30) := by
  unfold normF
  rw [of_len, keys1, keys2]
theorem set_of_rises {l : List Tx} (h : Rises l) : setT l = l := rises_eq (set_rises l) h (fun t => set_mem t l)
theorem set_set (l : List Tx) : setT (setT l) = setT l := set_of_rises (set_rises l)
end Go.Proofs.Foot

/- Plain facts on numbers' bytes: no program in sight. -/
namespace Go.Proofs.Codec
open Go.Proofs.Eng
/-- The bytes of a number. -/
def encU (n : Nat) : List UInt8 := if n < 128 then [UInt8.ofNat n] else UInt8.ofNat (n % 128 + 128) :: encU (n / 128)
termination_by n
decreasing_by omega
theorem encU_lt {n : Nat} (h : n < 128) : encU n = [UInt8.ofNat n] := by rw [encU, if_pos h]
theorem encU_ge {n : Nat} (h : ¬ n < 128) : encU n = UInt8.ofNat (n % 128 + 128) :: encU (n / 128) := by rw [encU, if_neg h]
theorem encU_len (k : Nat) : ∀ n, n < 2 ^ (7 * k + 7) → (encU n).length ≤ k + 1 := by
  induction k with
  | zero => intro n h; rw [encU_lt (by simpa using h)]; simp
  | succ k ih =>
    intro n h
    by_cases h1 : n < 128
    · rw [encU_lt h1]; simp
    · rw [encU_ge h1, List.length_cons]
      have := ih (n / 128) (by
        rw [Nat.div_lt_iff_lt_mul (by decide)]
        have : 2 ^ (7 * (k + 1) + 7) = 2 ^ (7 * k + 7) * 128 := by rw [show 7 * (k + 1) + 7 = (7 * k + 7) + 7 from by omega, Nat.pow_add]
        omega)
      omega
theorem encU_len64 {n : Nat} (h : n < 2 ^ 64) : (encU n).length ≤ 10 := encU_len 9 n (Nat.lt_of_lt_of_le h (by decide))
theorem encU_pos (n : Nat) : 0 < (encU n).length := by rw [encU]; split <;> simp
theorem or128 : ∀ b, b < 256 → b ||| 128 = b % 128 + 128 := by decide +kernel
theorem ofNat_u8 {n : Nat} (h : n < 256) : ((UInt8.ofNat n).toNat : Int) = (n : Int) := by
  rw [UInt8.toNat_ofNat']; omega
theorem bv_snoc (l : List UInt8) (n : Nat) (h : n < 256) : bv l ++ [.int .u8 (n : Int)] = bv (l ++ [UInt8.ofNat n]) := by
  rw [bv_append]; simp only [bv, List.map_cons, List.map_nil, ofNat_u8 h]
/-- An int as a number. -/
def zig (i : Int) : Nat := if 0 ≤ i then 2 * i.toNat else 2 * (-(i + 1)).toNat + 1
/-- A number of four bytes. -/
def four (n : Nat) : List UInt8 := [UInt8.ofNat (n % 256), UInt8.ofNat (n / 2 ^ 8 % 256), UInt8.ofNat (n / 2 ^ 16 % 256), UInt8.ofNat (n / 2 ^ 24 % 256)]
def le4 (l : List UInt8) : Nat := ((gb l 0 ||| gb l 1 * 2 ^ 8 % 2 ^ 32) ||| gb l 2 * 2 ^ 16 % 2 ^ 32) ||| gb l 3 * 2 ^ 24 % 2 ^ 32
/-- The sum. -/
def crcStep (c : Nat) : Nat := if c % 2 = 1 then (c / 2) ^^^ 3988292384 else c / 2
def crc8 : Nat → Nat → Nat
  | 0, c => c
  | j + 1, c => crc8 j (crcStep c)
def crcAll : List UInt8 → Nat → Nat
  | [], c => c
  | b :: l, c => crcAll l (crc8 8 (c ^^^ b.toNat))
def crc (l : List UInt8) : Nat := 4294967295 ^^^ crcAll l 4294967295
end Go.Proofs.Codec

/- What a reading answers: plain functions on bytes. -/
namespace Go.Proofs.Codec
open Go.Proofs.Eng
/-- A number from the front: how many bytes are left to it, the place, what has been read. -/
def numF : Nat → Nat → Nat → List UInt8 → Except Int (Nat × Nat)
  | 0, _, _, _ => .error 11
  | f + 1, i, n, l => match l with
    | [] => .error 3
    | c :: t =>
      if i = 9 ∧ 1 < c.toNat then .error 11 else
      if c.toNat < 128 then (if 0 < i ∧ c.toNat = 0 then .error 10 else .ok (n + c.toNat % 128 * 2 ^ (7 * i), i + 1))
      else numF f (i + 1) (n + c.toNat % 128 * 2 ^ (7 * i)) t
def num0 (l : List UInt8) : Except Int (Nat × Nat) := numF 10 0 0 l
theorem numF_ok : ∀ (f i n : Nat) (l : List UInt8) (r k : Nat), f + i = 10 → n < 2 ^ (7 * i) → numF f i n l = .ok (r, k) → r < 2 ^ 64 ∧ i < k ∧ k ≤ i + l.length
  | 0, _, _, _, _, _, _, _, h => by simp [numF] at h
  | f + 1, i, n, [], _, _, _, _, h => by simp [numF] at h
  | f + 1, i, n, c :: t, r, k, hi, hn, h => by
    have hc := UInt8.toNat_lt c
    have hp : 2 ^ (7 * (i + 1)) = 2 ^ (7 * i) * 128 := by rw [show 7 * (i + 1) = 7 * i + 7 from by omega, Nat.pow_add]
    have hm : n + c.toNat % 128 * 2 ^ (7 * i) < 2 ^ (7 * (i + 1)) := by
      rw [hp]
      have : c.toNat % 128 * 2 ^ (7 * i) ≤ 127 * 2 ^ (7 * i) := Nat.mul_le_mul_right _ (by omega)
      omega
    simp only [numF] at h
    by_cases h9 : i = 9 ∧ 1 < c.toNat
    · rw [if_pos h9] at h; cases h
    · rw [if_neg h9] at h
      by_cases h1 : c.toNat < 128
      · rw [if_pos h1] at h
        by_cases h0 : 0 < i ∧ c.toNat = 0
        · rw [if_pos h0] at h; cases h
        · rw [if_neg h0] at h
          cases h
          refine ⟨?_, by omega, by simp⟩
          by_cases hi9 : i = 9
          · subst hi9
            have : c.toNat % 128 ≤ 1 := by omega
            have : c.toNat % 128 * 2 ^ (7 * 9) ≤ 1 * 2 ^ (7 * 9) := Nat.mul_le_mul_right _ this
            omega
          · have : 2 ^ (7 * (i + 1)) ≤ 2 ^ 63 := Nat.pow_le_pow_right (by decide) (by omega)
            omega
      · rw [if_neg h1] at h
        have := numF_ok f (i + 1) _ t r k (by omega) hm h
        simp only [List.length_cons]
        omega
theorem num0_ok {l : List UInt8} {r k : Nat} (h : num0 l = .ok (r, k)) : r < 2 ^ 64 ∧ 0 < k ∧ k ≤ l.length := by
  have := numF_ok 10 0 0 l r k rfl (by decide) h
  omega
/-- An int of a number. -/
def zag (n : Nat) : Int := if n % 2 = 0 then (n / 2 : Nat) else -((n / 2 : Nat) : Int) - 1
/-! The takings: of what stands behind the place: the value and how many bytes, or the error. -/
def tByte (l : List UInt8) : Except Int (Nat × Nat) := match l with
  | [] => .error 3
  | c :: _ => .ok (c.toNat, 1)
def tInt (l : List UInt8) : Except Int (Int × Nat) := match num0 l with
  | .ok (n, k) => .ok (zag n, k)
  | .error e => .error e
def tLim (most : Int) (e : Int) (l : List UInt8) : Except Int (Nat × Nat) := match num0 l with
  | .ok (n, k) => if most < 0 ∨ most < (n : Int) then .error e else .ok (n, k)
  | .error e => .error e
def tText (most : Int) (l : List UInt8) : Except Int (List UInt8 × Nat) := match tLim most 1 l with
  | .ok (n, k) => if l.length < k + n then .error 3 else .ok ((l.drop k).take n, k + n)
  | .error e => .error e
/-- A reader's state. -/
structure RS where
  b : List UInt8
  pos : Nat
  last : Nat
  err : Int
  spot : Nat
def RS.take {α : Type} (s : RS) (zero : α) (t : List UInt8 → Except Int (α × Nat)) : α × RS :=
  if s.err = 0 then match t (s.b.drop s.pos) with
    | .ok (v, k) => (v, { s with pos := s.pos + k, last := s.pos })
    | .error e => (zero, { s with err := e, spot := s.pos })
  else (zero, s)
def RS.fail (s : RS) (e : Int) : RS := if s.err = 0 ∧ e ≠ 0 then { s with err := e, spot := s.last } else s
def RS.fin (s : RS) : RS := if s.err = 0 ∧ s.pos < s.b.length then { s with err := 4, spot := s.pos } else s
def RS.rest (s : RS) : Nat := if s.err = 0 then s.b.length - s.pos else 0
end Go.Proofs.Codec

/- A footprint's bytes. -/
namespace Go.Proofs.Foot
open Go.Proofs.Eng Go.Proofs.Codec
set_option linter.unusedSimpArgs false
set_option linter.unusedVariables false
def entryB (m : TM) (t : Tx) : List UInt8 := (encU t.length ++ t) ++ [UInt8.ofNat (bitsM m t)]
def bodyB (m : TM) (l : List Tx) : List UInt8 := (l.map (entryB m)).flatten
def putB (m : TM) : List UInt8 := encU (keysM m 3).length ++ bodyB m (keysM m 3)
theorem bodyB_take (m : TM) (l : List Tx) (i : Nat) (hi : i < l.length) : bodyB m (l.take (i + 1)) = bodyB m (l.take i) ++ entryB m (l.getD i []) := by
  unfold bodyB
  rw [List.take_succ_eq_append_getElem hi, List.map_append, List.flatten_append]
  simp [List.getD_eq_getElem?_getD, List.getElem?_eq_getElem hi]
theorem of_len3 (r k : List Tx) : (ofM r k).length = (keysM (ofM r k) 3).length := by rw [of_len, keys3]
end Go.Proofs.Foot

/- Which footprint stands at the front of bytes. -/
namespace Go.Proofs.Foot
open Go.Proofs.Eng Go.Proofs.Codec
set_option linter.unusedSimpArgs false
set_option linter.unusedVariables false
structure GS where
  s : RS
  last : Tx
  rd : List Tx
  wr : List Tx
def gText (g : GS) : Tx × RS := g.s.take ([] : List UInt8) (tText 32)
def gKey (g : GS) : RS := if validT (gText g).1 = true then (gText g).2 else (gText g).2.fail 30
def gRise (g : GS) : RS := if (gText g).1 ≤ g.last then (gKey g).fail 31 else gKey g
def gUse (g : GS) : Nat × RS := (gRise g).take (0 : Nat) tByte
def gEnd (g : GS) : RS := if (gUse g).1 < 1 ∨ 3 < (gUse g).1 then (gUse g).2.fail 31 else (gUse g).2
def gStep (g : GS) : GS := ⟨gEnd g, (gText g).1, if (gUse g).1 &&& 1 = 0 then g.rd else g.rd ++ [(gText g).1], if (gUse g).1 &&& 2 = 0 then g.wr else g.wr ++ [(gText g).1]⟩
def gIter : Nat → GS → GS
  | 0, g => g
  | n + 1, g => gStep (gIter n g)
def gInit (b : List UInt8) : Nat × RS := (RS.mk b 0 0 0 0).take (0 : Nat) (tLim 64 6)
def gAll (b : List UInt8) : GS := gIter (gInit b).1 ⟨(gInit b).2, [], [], []⟩
def getF (b : List UInt8) : ((List Tx × List Tx) × Nat) × Int :=
  if (gAll b).s.err = 0 then ((((gAll b).rd, (gAll b).wr), b.length - (gAll b).s.rest), 0) else ((([], []), 0), (gAll b).s.err)
theorem tLim_le {most e : Int} {l : List UInt8} {n k : Nat} (h : tLim most e l = .ok (n, k)) : (n : Int) ≤ most := by
  unfold tLim at h
  split at h
  · split at h
    · cases h
    · cases h; omega
  · cases h
theorem tText_le {most : Int} {l v : List UInt8} {k : Nat} (h : tText most l = .ok (v, k)) : (v.length : Int) ≤ most := by
  unfold tText at h
  split at h
  · rename_i n j hq
    have := tLim_le hq
    split at h
    · cases h
    · cases h
      rw [List.length_take]
      omega
  · cases h
theorem gText_le (g : GS) : (gText g).1.length ≤ 32 := by
  unfold gText RS.take
  split
  · cases h : tText 32 (g.s.b.drop g.s.pos) with
    | ok p => obtain ⟨v, k⟩ := p; have := tText_le h; simp only; omega
    | error e => simp
  · simp
theorem gUse_lt (g : GS) : (gUse g).1 < 256 := by
  unfold gUse RS.take
  split
  · cases h : tByte ((gRise g).b.drop (gRise g).pos) with
    | ok p =>
      obtain ⟨v, k⟩ := p
      unfold tByte at h
      split at h
      · cases h
      · rename_i c _ _
        cases h
        exact UInt8.toNat_lt c
    | error e => simp
  · simp
theorem gInit_le (b : List UInt8) : (gInit b).1 ≤ 64 := by
  unfold gInit RS.take
  simp only [if_true]
  cases h : tLim 64 6 (List.drop 0 b) with
  | ok p => obtain ⟨v, k⟩ := p; have := tLim_le h; simp only; omega
  | error e => simp
end Go.Proofs.Foot

/- Lists of footprints: who waits for whom, levels; in plain words. -/
namespace Go.Proofs.Foot
open Go.Proofs.Eng
set_option linter.unusedSimpArgs false
set_option linter.unusedVariables false
abbrev FT := List Tx × List Tx
def clP (x y : FT) : Bool := (x.2.any fun t => decide (t ∈ y.1 ++ y.2)) || (y.2.any fun t => decide (t ∈ x.1 ++ x.2))
def clA (ts : List FT) (i j : Nat) : Bool := clP (ts.getD i ([], [])) (ts.getD j ([], []))
def aheadU (ts : List FT) (p i : Nat) : List Nat := (List.range i).filter fun j => clA ts j p
def aheadT (ts : List FT) (p : Nat) : List Nat := aheadU ts p p
theorem aheadU_succ (ts : List FT) (p i : Nat) : aheadU ts p (i + 1) = aheadU ts p i ++ (if clA ts i p = true then [i] else []) := by
  unfold aheadU
  rw [List.range_succ, List.filter_append]
  congr 1
  by_cases h : clA ts i p = true <;> simp [h]
theorem aheadU_lt {ts : List FT} {p i x : Nat} (h : x ∈ aheadU ts p i) : x < i := by
  unfold aheadU at h
  exact List.mem_range.1 (List.mem_filter.1 h).1
theorem aheadU_len (ts : List FT) (p i : Nat) : (aheadU ts p i).length ≤ i := by
  unfold aheadU
  have := List.length_filter_le (fun j => clA ts j p) (List.range i)
  simpa using this
def lvS (out : List Nat) (m k : Nat) : Nat := if m < out.getD k 0 + 1 then out.getD k 0 + 1 else m
def lvOf (ts : List FT) (out : List Nat) (i : Nat) : Nat := (aheadT ts i).foldl (lvS out) 0
def lvN (ts : List FT) : Nat → List Nat
  | 0 => []
  | i + 1 => lvN ts i ++ [lvOf ts (lvN ts i) i]
theorem lvN_len (ts : List FT) : ∀ i, (lvN ts i).length = i
  | 0 => rfl
  | i + 1 => by simp [lvN, lvN_len ts i]
theorem lvS_le {out : List Nat} {B : Nat} (h : ∀ k, out.getD k 0 ≤ B) (m k : Nat) (hm : m ≤ B + 1) : lvS out m k ≤ B + 1 := by
  unfold lvS
  have := h k
  split <;> omega
theorem fold_le {out : List Nat} {B : Nat} (h : ∀ k, out.getD k 0 ≤ B) : ∀ (l : List Nat) (m : Nat), m ≤ B + 1 → l.foldl (lvS out) m ≤ B + 1
  | [], m, hm => hm
  | k :: l, m, hm => fold_le h l _ (lvS_le h m k hm)
theorem lvN_le (ts : List FT) : ∀ i k, (lvN ts i).getD k 0 ≤ i
  | 0, k => by simp [lvN]
  | i + 1, k => by
    have ih := lvN_le ts i
    show (lvN ts i ++ [lvOf ts (lvN ts i) i]).getD k 0 ≤ i + 1
    have h1 : lvOf ts (lvN ts i) i ≤ i + 1 := fold_le ih _ _ (by omega)
    rw [List.getD_eq_getElem?_getD, List.getElem?_append]
    split
    · have := ih k
      rw [List.getD_eq_getElem?_getD] at this
      omega
    · rw [lvN_len]
      cases hq : k - i with
      | zero => simpa using h1
      | succ j => simp
def nv (l : List Nat) : List Value := l.map fun (x : Nat) => Value.int .i64 ((x : Nat) : Int)
@[simp] theorem nv_length (l : List Nat) : (nv l).length = l.length := by simp [nv]
theorem nv_append (a b : List Nat) : nv (a ++ b) = nv a ++ nv b := by simp [nv]
theorem nv_get (l : List Nat) (i : Nat) (h : i < l.length) : (nv l)[i]? = some (Value.int .i64 ((l.getD i 0 : Nat) : Int)) := by
  simp [nv, List.getD_eq_getElem?_getD, List.getElem?_eq_getElem h]
theorem nv_one (l : List Nat) : ∀ u ∈ nv l, u.oneCell' = true := by
  intro u hu
  obtain ⟨b, _, rfl⟩ := List.mem_map.1 hu
  rfl
end Go.Proofs.Foot

/- The contracts of the library at this program. Written by the tools of the shelf. -/
namespace Go.Proofs
open Go.Shelf
def Try.lays128_ren : Go.Shelf.Ren := ⟨fun | 128 => 116 | n => n, fun | 51 => 134 | 3 => 3 | 4 => 4 | 46 => 104 | 5 => 5 | 9 => 9 | n => n, fun | n => n⟩
def Try.lays125_ren : Go.Shelf.Ren := ⟨fun | 125 => 101 | 128 => 116 | 129 => 117 | n => n, fun | 46 => 104 | 3 => 3 | 51 => 134 | 53 => 45 | 4 => 4 | 5 => 5 | 9 => 9 | n => n, fun | n => n⟩
def Try.lays137_ren : Go.Shelf.Ren := ⟨fun | 137 => 74 | 217 => 97 | 266 => 106 | n => n, fun | 9 => 9 | 5 => 5 | 3 => 3 | n => n, fun | n => n⟩
theorem Try.lays137 : Go.Proofs.Lays.n137 Try.prog Try.lays137_ren := {
  mixed := by kernel_rfl
  f137 := Try.func74.trans (congrArg some (by kernel_rfl))
  f217 := Try.func97.trans (congrArg some (by kernel_rfl))
  f266 := Try.func106.trans (congrArg some (by kernel_rfl))
  t3 := Try.underlying3
  a3 := Try.isAgg3
  z3 := Try.sizeOf3
  v3 := Try.zeroValue3
  t5 := Try.underlying5
  a5 := Try.isAgg5
  z5 := Try.sizeOf5
  v5 := Try.zeroValue5
  t9 := Try.underlying9
  a9 := Try.isAgg9
  z9 := Try.sizeOf9
  v9 := Try.zeroValue9 }
open Go.RowKit in
theorem Try.strings_IndexByte (s : ByteArray) (c : Int) (w : World) :
    Calls Try.prog 74 #[.string s, .int .u8 c] w fun e w' => e = .returned (.int .i64 (Lib.indexByte s.data.toList c.toNat.toUInt8)) ∧ w' = w := Any.strings_IndexByte Try.lays137 s c w
def Try.lays129_ren : Go.Shelf.Ren := ⟨fun | 129 => 117 | n => n, fun | 53 => 45 | 3 => 3 | 4 => 4 | 46 => 104 | 5 => 5 | 9 => 9 | n => n, fun | n => n⟩
def Try.lays217_ren : Go.Shelf.Ren := ⟨fun | 217 => 97 | 266 => 106 | n => n, fun | 9 => 9 | 5 => 5 | 3 => 3 | n => n, fun | n => n⟩
def Try.lays190_ren : Go.Shelf.Ren := ⟨fun | 190 => 86 | 125 => 101 | 258 => 100 | 128 => 116 | 129 => 117 | 302 => 107 | 303 => 108 | 304 => 109 | 305 => 110 | 306 => 111 | 307 => 112 | 308 => 113 | 309 => 114 | 310 => 115 | 333 => 118 | 329 => 119 | 330 => 120 | 334 => 121 | 335 => 122 | 336 => 123 | 344 => 124 | n => n, fun | 31 => 26 | 9 => 9 | 3 => 3 | 46 => 104 | 0 => 0 | 51 => 134 | 53 => 45 | 4 => 4 | 183 => 126 | 182 => 125 | 131 => 131 | 5 => 5 | 218 => 136 | 222 => 139 | 228 => 141 | 229 => 142 | n => n, fun | n => n⟩
theorem Try.lays190 : Go.Proofs.Lays.n190 Try.prog Try.lays190_ren := {
  mixed := by kernel_rfl
  f125 := Try.func101.trans (congrArg some (by kernel_rfl))
  f128 := Try.func116.trans (congrArg some (by kernel_rfl))
  f129 := Try.func117.trans (congrArg some (by kernel_rfl))
  f190 := Try.func86.trans (congrArg some (by kernel_rfl))
  f258 := Try.func100.trans (congrArg some (by kernel_rfl))
  f302 := Try.func107.trans (congrArg some (by kernel_rfl))
  f303 := Try.func108.trans (congrArg some (by kernel_rfl))
  f304 := Try.func109.trans (congrArg some (by kernel_rfl))
  f305 := Try.func110.trans (congrArg some (by kernel_rfl))
  f306 := Try.func111.trans (congrArg some (by kernel_rfl))
  f307 := Try.func112.trans (congrArg some (by kernel_rfl))
  f308 := Try.func113.trans (congrArg some (by kernel_rfl))
  f309 := Try.func114.trans (congrArg some (by kernel_rfl))
  f310 := Try.func115.trans (congrArg some (by kernel_rfl))
  f329 := Try.func119.trans (congrArg some (by kernel_rfl))
  f330 := Try.func120.trans (congrArg some (by kernel_rfl))
  f333 := Try.func118.trans (congrArg some (by kernel_rfl))
  f334 := Try.func121.trans (congrArg some (by kernel_rfl))
  f335 := Try.func122.trans (congrArg some (by kernel_rfl))
  f336 := Try.func123.trans (congrArg some (by kernel_rfl))
  f344 := Try.func124.trans (congrArg some (by kernel_rfl))
  t0 := Try.underlying0
  a0 := Try.isAgg0
  z0 := Try.sizeOf0
  v0 := Try.zeroValue0
  t3 := Try.underlying3
  a3 := Try.isAgg3
  z3 := Try.sizeOf3
  v3 := Try.zeroValue3
  t4 := Try.underlying4
  a4 := Try.isAgg4
  z4 := Try.sizeOf4
  v4 := Try.zeroValue4
  t5 := Try.underlying5
  a5 := Try.isAgg5
  z5 := Try.sizeOf5
  v5 := Try.zeroValue5
  t9 := Try.underlying9
  a9 := Try.isAgg9
  z9 := Try.sizeOf9
  v9 := Try.zeroValue9
  t31 := Try.underlying26
  a31 := Try.isAgg26
  z31 := Try.sizeOf26
  v31 := Try.zeroValue26
  t46 := Try.underlying104
  a46 := Try.isAgg104
  z46 := Try.sizeOf104
  v46 := Try.zeroValue104
  t51 := Try.underlying134
  a51 := Try.isAgg134
  z51 := Try.sizeOf134
  v51 := Try.zeroValue134
  t53 := Try.underlying45
  a53 := Try.isAgg45
  z53 := Try.sizeOf45
  v53 := Try.zeroValue45
  t131 := Try.underlying131
  a131 := Try.isAgg131
  z131 := Try.sizeOf131
  v131 := Try.zeroValue131
  t182 := Try.underlying125
  a182 := Try.isAgg125
  z182 := Try.sizeOf125
  v182 := Try.zeroValue125
  t183 := Try.underlying126
  a183 := Try.isAgg126
  z183 := Try.sizeOf126
  v183 := Try.zeroValue126
  t218 := Try.underlying136
  a218 := Try.isAgg136
  z218 := Try.sizeOf136
  v218 := Try.zeroValue136
  t222 := Try.underlying139
  a222 := Try.isAgg139
  z222 := Try.sizeOf139
  v222 := Try.zeroValue139
  t228 := Try.underlying141
  a228 := Try.isAgg141
  z228 := Try.sizeOf141
  v228 := Try.zeroValue141
  t229 := Try.underlying142
  a229 := Try.isAgg142
  z229 := Try.sizeOf142
  v229 := Try.zeroValue142 }
open Go.Sort Go.RowKit in
theorem Try.slices_Sort_string (blk off cap : Nat) (ss : List (List UInt8)) (w : World) (hH : Holds encStr w blk off ss.toArray) (hblk : blk < w.heap.size) (hsz : ss.length < 4611686018427387904) :
    Calls Try.prog 86 #[.slice (some ⟨blk, off, none⟩) ss.length cap] w fun e w' =>
      e = .returned (.tuple #[]) ∧ ∃ n os, w' = grow (putRow encStr (Sort.ahead w n) blk off (ss.mergeSort fun x y => decide (x ≤ y)).toArray) os := Any.slices_Sort_string Try.lays190 blk off cap ss w hH hblk hsz
def Try.lays193_ren : Go.Shelf.Ren := ⟨fun | 193 => 84 | n => n, fun | 31 => 26 | 9 => 9 | 4 => 4 | 3 => 3 | 0 => 0 | n => n, fun | n => n⟩
theorem Try.lays193 : Go.Proofs.Lays.n193 Try.prog Try.lays193_ren := {
  mixed := by kernel_rfl
  f193 := Try.func84.trans (congrArg some (by kernel_rfl))
  t0 := Try.underlying0
  a0 := Try.isAgg0
  z0 := Try.sizeOf0
  v0 := Try.zeroValue0
  t3 := Try.underlying3
  a3 := Try.isAgg3
  z3 := Try.sizeOf3
  v3 := Try.zeroValue3
  t4 := Try.underlying4
  a4 := Try.isAgg4
  z4 := Try.sizeOf4
  v4 := Try.zeroValue4
  t9 := Try.underlying9
  a9 := Try.isAgg9
  z9 := Try.sizeOf9
  v9 := Try.zeroValue9
  t31 := Try.underlying26
  a31 := Try.isAgg26
  z31 := Try.sizeOf26
  v31 := Try.zeroValue26 }
open Go.RowKit Go.Lib in
theorem Try.slices_Equal_string (b1 o1 n c b2 o2 m d : Nat) (xs ys : List ByteArray) (w : World) (hx : n ≤ xs.length) (hy : m ≤ ys.length) (hbig : n ≤ 9223372036854775807) (hbig2 : m ≤ 9223372036854775807) (hc1 : ∀ j, j < xs.length → w.cell? ⟨b1, o1 + j, none⟩ = some (.string (xs.getD j ByteArray.empty))) (hc2 : ∀ j, j < ys.length → w.cell? ⟨b2, o2 + j, none⟩ = some (.string (ys.getD j ByteArray.empty))) :
    Calls Try.prog 84 #[.slice (some ⟨b1, o1, none⟩) n c, .slice (some ⟨b2, o2, none⟩) m d] w fun e w' => e = .returned (.bool (decide (xs.take n = ys.take m))) ∧ ∃ q, w' = w.drewN q := Any.slices_Equal_string Try.lays193 b1 o1 n c b2 o2 m d xs ys w hx hy hbig hbig2 hc1 hc2
open Go.RowKit Go.Lib in
theorem Try.slices_Equal_string_empty (a1 a2 : Option Addr) (c m d : Nat) (w : World) (hbig2 : m ≤ 9223372036854775807) :
    Calls Try.prog 84 #[.slice a1 0 c, .slice a2 m d] w fun e w' => e = .returned (.bool (decide (m = 0))) ∧ w' = w := Any.slices_Equal_string_empty Try.lays193 a1 a2 c m d w hbig2
open Go.RowKit Go.Sort in
theorem Try.slices_Sort_string_none (p : Option Addr) (cap : Nat) (w : World) :
    Calls Try.prog 86 #[.slice p 0 cap] w fun e w' => e = .returned (.tuple #[]) ∧ w' = w := Any.slices_Sort_string_none Try.lays190 p cap w
open Go.RowKit Go.Lib in
theorem Try.slices_Equal_string_lens (a1 a2 : Option Addr) (n c m d : Nat) (w : World) (hnm : n ≠ m) :
    Calls Try.prog 84 #[.slice a1 n c, .slice a2 m d] w fun e w' => e = .returned (.bool false) ∧ w' = w := Any.slices_Equal_string_lens Try.lays193 a1 a2 n c m d w hnm
end Go.Proofs

namespace Go.Proofs.Ytfplmpfdhiagaaa
open Go.RowKit Go.Proofs.Eng Go.Proofs.Foot
set_option linter.unusedSimpArgs false
set_option linter.unusedVariables false set_option maxRecDepth 10000
attribute [local irreducible] T TL LV TH TA
theorem IndexByte_c (S : ByteArray) (c : Int) (w : World) :
    Ret Try.prog 74 [.string S, .int .u8 c] w (fun v w' => v = .int .i64 (Lib.indexByte S.data.toList c.toNat.toUInt8) ∧ w' = w) := by
  refine Calls.mono (Try.strings_IndexByte S c w) ?_
  rintro e w' ⟨rfl, rfl⟩
  exact ⟨rfl, rfl⟩
theorem Valid_c (l : Tx) (hl : l.length ≤ 9223372036854775807) (w : World) :
    Ret Try.prog 23 [.string (ofL l)] w (fun v w' => v = .bool (validT l) ∧ w' = w) := by
  have hsz := ofL_size l
  refine ret_T (n := 23) Try.func23 rfl rfl ?_
  repeat (first | refine T_seq ?_ | refine T_region ?_ | refine T_block ?_ | refine TL_nil ?_ | refine TL_move (hk := ?_) | refine TL_assign (hk := ?_) | refine TL_len_s TE (hk := ?_))
  refine T_loop (ι := Nat) (fun i => [(6, .int .i64 (i : Int)), (5, .int .i64 ((ofL l).size : Int)), (0, .string (ofL l))]) (fun i w' => w' = w ∧ i ≤ l.length ∧ okUpto l i) (fun i => l.length - i) 0 (.c rfl (.c rfl (.c rfl (.n)))) ⟨rfl, Nat.zero_le _, fun j h => absurd h (by omega)⟩ ?_
  rintro i _ ⟨rfl, hi, hu⟩ ih
  by_cases hlt : i < l.length
  · repeat (first | refine T_seq ?_ | refine T_region ?_ | refine T_cond_true rfl ?_ | refine T_block ?_ | refine T_skip ?_ | refine TL_lt_t (hk := ?_) | refine TL_nil ?_ | refine TL_move (hk := ?_) | refine TL_assign (hk := ?_) | (refine TL_index_s TE (hk := ?_); intro _))
    refine TL_call TE (hc := IndexByte_c _ _ _) (hk := ?_)
    rintro _ _ ⟨rfl, rfl⟩
    have hk := ix_key' (gb_lt l i)
    by_cases hv : okc (gb l i) = true
    · have h0 := hk.2 hv
      have h0' : ¬ Lib.indexByte kbytes ((gb l i : Int).toNat.toUInt8) < 0 := by omega
      repeat (first | refine T_region ?_ | refine T_cond_false rfl ?_ | refine T_inBlock ?_ | refine T_skip ?_ | refine TL_add (hk := ?_) | refine TL_lt_f (hk := ?_) | refine TL_nil ?_ | refine TL_move (hk := ?_))
      exact ih (i + 1) _ _ (by omega) ⟨rfl, by omega, fun j hj => by
        by_cases e : j = i
        · rw [e]; exact hv
        · exact hu j (by omega)⟩ (.c rfl (.c rfl (.c rfl (.n))))
    · have h0 : Lib.indexByte kbytes ((gb l i : Int).toNat.toUInt8) < 0 := by
        have : ¬ 0 ≤ Lib.indexByte kbytes ((gb l i : Int).toNat.toUInt8) := fun h => hv (hk.1 h)
        omega
      repeat (first | refine T_seq ?_ | refine T_region ?_ | refine T_cond_true rfl ?_ | refine TL_lt_t (hk := ?_) | refine TL_nil ?_ | refine TL_assign (hk := ?_))
      refine T_ret1 rfl rfl ⟨?_, rfl⟩
      rw [valid_no hlt (by simpa using hv)]
  · have hin : i = l.length := by omega
    have hx := valid_end (l := l) (by rw [← hin]; exact hu)
    by_cases h1 : 1 ≤ l.length
    · by_cases h2 : l.length ≤ 32
      · repeat (first | refine T_seq ?_ | refine T_region ?_ | refine T_cond_false rfl ?_ | refine T_exit rfl ?_ | refine TL_lt_f (hk := ?_) | refine TL_le_t (hk := ?_) | refine TL_ge_t (hk := ?_) | refine TL_nil ?_ | refine TL_move (hk := ?_) | refine TL_assign (hk := ?_) | refine TL_len_s TE (hk := ?_) | refine TL_yes (hk := ?_) | refine TL_pick_t (hk := ?_))
        refine T_ret1 rfl rfl ⟨?_, rfl⟩
        rw [hx]; simp [h1, h2]
      · repeat (first | refine T_seq ?_ | refine T_region ?_ | refine T_cond_false rfl ?_ | refine T_exit rfl ?_ | refine TL_lt_f (hk := ?_) | refine TL_le_f (hk := ?_) | refine TL_ge_t (hk := ?_) | refine TL_nil ?_ | refine TL_move (hk := ?_) | refine TL_assign (hk := ?_) | refine TL_len_s TE (hk := ?_) | refine TL_yes (hk := ?_) | refine TL_pick_t (hk := ?_))
        refine T_ret1 rfl rfl ⟨?_, rfl⟩
        rw [hx]; simp [h1, h2]
    · repeat (first | refine T_seq ?_ | refine T_region ?_ | refine T_cond_false rfl ?_ | refine T_exit rfl ?_ | refine TL_lt_f (hk := ?_) | refine TL_ge_f (hk := ?_) | refine TL_nil ?_ | refine TL_move (hk := ?_) | refine TL_assign (hk := ?_) | refine TL_len_s TE (hk := ?_) | refine TL_no (hk := ?_) | refine TL_pick_f (hk := ?_))
      refine T_ret1 rfl rfl ⟨?_, rfl⟩
      rw [hx]; simp [h1]
theorem Hash_c (l : Tx) (hl : l.length ≤ 9223372036854775807) (w : World) :
    Ret Try.prog 25 [.string (ofL l)] w (fun v w' => v = .int .u64 (hashT l : Nat) ∧ w' = w) := by
  have hsz := ofL_size l
  refine ret_T (n := 19) Try.func25 rfl rfl ?_
  repeat (first | refine T_seq ?_ | refine T_region ?_ | refine T_block ?_ | refine TL_nil ?_ | refine TL_move (hk := ?_) | refine TL_assign (hk := ?_) | refine TL_len_s TE (hk := ?_))
  refine T_loop (ι := Nat) (fun i => [(7, .int .i64 (i : Int)), (3, .int .u64 (hashU l i : Nat)), (6, .int .i64 ((ofL l).size : Int)), (0, .string (ofL l))]) (fun i w' => w' = w ∧ i ≤ l.length) (fun i => l.length - i) 0 (.c rfl (.c rfl (.c rfl (.c rfl (.n))))) ⟨rfl, Nat.zero_le _⟩ ?_
  rintro i _ ⟨rfl, hi⟩ ih
  have hh := hashU_lt l i
  by_cases hlt : i < l.length
  · repeat (first | refine T_seq ?_ | refine T_region ?_ | refine T_cond_true rfl ?_ | refine T_block ?_ | refine T_skip ?_ | refine TL_lt_t (hk := ?_) | refine TL_nil ?_ | refine TL_move (hk := ?_) | refine TL_assign (hk := ?_) | refine TL_conv TE (hk := ?_) | (refine TL_index_s TE (hk := ?_); intro _))
    refine TL_xor (hk := ?_); intro _
    refine TL_mul_wrap (hk := ?_)
    have e : IntKind.u64.wrap (((hashU l i ^^^ gb l i : Nat) : Int) * 1099511628211) = ((hashU l (i + 1) : Nat) : Int) := wrap_nat (k := .u64) rfl ((hashU l i ^^^ gb l i) * 1099511628211)
    rw [e]
    repeat (first | refine T_region ?_ | refine T_inBlock ?_ | refine TL_add (hk := ?_) | refine TL_nil ?_ | refine TL_move (hk := ?_) | refine TL_assign (hk := ?_))
    exact ih (i + 1) _ _ (by omega) ⟨rfl, by omega⟩ (.c rfl (.c rfl (.c rfl (.c rfl (.n)))))
  · have hin : i = l.length := by omega
    repeat (first | refine T_seq ?_ | refine T_region ?_ | refine T_cond_false rfl ?_ | refine T_exit rfl ?_ | refine TL_lt_f (hk := ?_) | refine TL_nil ?_ | refine TL_move (hk := ?_) | refine TL_assign (hk := ?_))
    refine T_ret1 rfl rfl ⟨?_, rfl⟩
    rw [hin]; rfl
end Go.Proofs.Ytfplmpfdhiagaaa

namespace Go.Proofs.Ytfplmpfdhiagaaa
open Go.RowKit Go.Proofs.Eng Go.Proofs.Foot
set_option linter.unusedSimpArgs false
set_option linter.unusedVariables false set_option maxRecDepth 10000
attribute [local irreducible] T TL LV TH TA
theorem Sort_c (A : Option Addr) (n c base : Nat) (l : List Tx) (w : World) (h : Own w base 9 1 A n c (sv l)) (hn : n ≤ 70368744177000) :
    Ret Try.prog 86 [.slice A n c] w (fun v w' => v = .tuple #[] ∧ Mod (blkL A) w w' ∧ Own w' base 9 1 A n c (sv (l.mergeSort le2))) := by
  have hl : l.length = n := by simpa using h.len
  by_cases h0 : n = 0
  · subst h0
    have hl0 : l = [] := List.length_eq_zero_iff.1 hl
    subst hl0
    refine Calls.mono (Try.slices_Sort_string_none A c w) ?_
    rintro e w' ⟨rfl, rfl⟩
    exact ⟨rfl, Mod.refl _ _, by simpa using h⟩
  · rcases h.2 with ⟨_, h2⟩ | ⟨g, cap, cur, hv, hg, hb, h1, h2, h3, h4⟩
    · exact absurd h2 h0
    · cases hv
      subst hl
      refine Calls.mono (Try.slices_Sort_string g 0 c l w (holds_of_block hb (by have h5 := h4; rw [Nat.mul_one] at h5; exact h5)) (Array.getElem?_eq_some_iff.1 hb).1 (by omega)) ?_
      rintro e w' ⟨rfl, m, os, rfl⟩
      refine ⟨rfl, Mod.of_grown (grownBy_sorted _), ?_⟩
      exact ownsRow_sorted (List.length_mergeSort _) hg hb h1 h2 h3
theorem of_c (A B : Option Addr) (n c m e : Nat) (r k : List Tx) (w : World) (h : Rd w A n 1 (sv r)) (g : Rd w B m 1 (sv k)) (hn : n ≤ 70368744177000) (hm : m ≤ 70368744177000) :
    Ret Try.prog 54 [.agg #[.slice A n c, .slice B m e]] w (fun v w' => ∃ b, v = .map (some b) ∧ Ext w w' ∧ w.heap.size ≤ b ∧ Mp w' .string b tK uV (ofM r k)) := by
  have hr : r.length = n := by simpa using h.1
  have hk : k.length = m := by simpa using g.1
  refine ret_T (n := 34) Try.func54 rfl rfl ?_
  repeat (first | refine T_seq ?_ | refine T_region ?_)
  refine TL_box (hk := ?_); intro bx w1 e1 hx1 hx2 kx
  repeat (first | refine T_seq ?_ | refine T_region ?_ | refine TL_nil ?_ | refine TL_assign (hk := ?_))
  refine TL_makeMap .string tK uV (hk := ?_); intro b w2 e2 hb1 hb2 mp
  have s1 := e1.size
  have s2 := e2.size
  repeat (first | refine T_seq ?_ | refine T_region ?_ | refine T_block ?_ | refine TL_nil ?_ | refine TL_move (hk := ?_) | refine TL_assign (hk := ?_) | refine TL_load TE (hk := ?_) | refine TL_fieldAddr TE (hk := ?_) | refine TL_len TE (hk := ?_))
  have e02 : Ext w w2 := e1.ext e2
  refine T_loop (ι := Nat) (fun i => [(12, .int .i64 (i : Int)), (11, .int .i64 (n : Int)), (10, .slice A n c), (3, .map (some b)), (1, .pointer (some ⟨bx, 0, none⟩))])
    (fun i w' => Ext w w' ∧ Mod [b] w2 w' ∧ i ≤ n ∧ Mp w' .string b tK uV (addL 1 [] (r.take i))) (fun i => n - i) 0 (.c rfl (.c rfl (.c rfl (.c rfl (.c rfl (.n)))))) ⟨e02, Mod.refl _ _, Nat.zero_le _, mp⟩ ?_
  clear mp
  rintro i w3 ⟨e03, m3, hi, mp⟩ ih
  have hr3 := h.be e03
  have kx3 := (kx.be e2).bm m3 (by simp; omega)
  have s3 := m3.size
  by_cases hlt : i < n
  · repeat (first | refine T_seq ?_ | refine T_region ?_ | refine T_cond_true rfl ?_ | refine T_block ?_ | refine T_skip ?_ | refine TL_lt_t (hk := ?_) | refine TL_nil ?_ | refine TL_move (hk := ?_) | refine TL_assign (hk := ?_) | refine TL_indexAddr1n TE (hk := ?_) | refine TL_load_s TE (hk := ?_))
    refine TL_lookup TE (0) (hk := ?_)
    have hb4 := addL_one r i (r.getD i [])
    unfold bitsM at hb4
    refine TL_or (hk := ?_); intro _
    refine TL_mapUpdate TE ((addL 1 [] (r.take i) |> fun m => (mget m (r.getD i [])).getD 0 ||| 1)) (hk := ?_); intro w4 m4 s4 mp4
    repeat (first | refine T_region ?_ | refine T_inBlock ?_ | refine TL_add (hk := ?_) | refine TL_nil ?_ | refine TL_move (hk := ?_))
    exact ih (i + 1) _ _ (by omega) ⟨Mod.step e03 m4 (by simp; omega), m3.trans m4, by omega, by rw [addL_take 1 [] r i (by omega)]; exact mp4⟩ (.c rfl (.c rfl (.c rfl (.c rfl (.c rfl (.n))))))
  · have hin : i = r.length := by omega
    rw [hin, List.take_length] at mp
    repeat (first | refine T_seq ?_ | refine T_region ?_ | refine T_cond_false rfl ?_ | refine T_block ?_ | refine T_exit rfl ?_ | refine TL_lt_f (hk := ?_) | refine TL_nil ?_ | refine TL_move (hk := ?_) | refine TL_load TE (hk := ?_) | refine TL_fieldAddr TE (hk := ?_) | refine TL_len TE (hk := ?_))
    refine T_loop (ι := Nat) (fun i => [(24, .int .i64 (i : Int)), (23, .int .i64 (m : Int)), (22, .slice B m e), (3, .map (some b)), (1, .pointer (some ⟨bx, 0, none⟩))])
      (fun i w' => Ext w w' ∧ Mod [b] w2 w' ∧ i ≤ m ∧ Mp w' .string b tK uV (addL 2 (addL 1 [] r) (k.take i))) (fun i => m - i) 0 (.c rfl (.c rfl (.c rfl (.c rfl (.c rfl (.n)))))) ⟨e03, m3, Nat.zero_le _, by simpa [addL] using mp⟩ ?_
    clear mp ih hlt hin hi kx3 hr3 e03 m3 s3
    clear i w3
    rintro i w3 ⟨e03, m3, hi, mp⟩ ih
    have hr3 := g.be e03
    have s3 := m3.size
    by_cases hlt : i < m
    · repeat (first | refine T_seq ?_ | refine T_region ?_ | refine T_cond_true rfl ?_ | refine T_block ?_ | refine T_skip ?_ | refine TL_lt_t (hk := ?_) | refine TL_nil ?_ | refine TL_move (hk := ?_) | refine TL_assign (hk := ?_) | refine TL_indexAddr1n TE (hk := ?_) | refine TL_load_s TE (hk := ?_))
      refine TL_lookup TE (0) (hk := ?_)
      have hb4 := addL_two r k i (k.getD i [])
      unfold bitsM at hb4
      refine TL_or (hk := ?_); intro _
      refine TL_mapUpdate TE ((addL 2 (addL 1 [] r) (k.take i) |> fun m => (mget m (k.getD i [])).getD 0 ||| 2)) (hk := ?_); intro w4 m4 s4 mp4
      repeat (first | refine T_region ?_ | refine T_inBlock ?_ | refine TL_add (hk := ?_) | refine TL_nil ?_ | refine TL_move (hk := ?_))
      exact ih (i + 1) _ _ (by omega) ⟨Mod.step e03 m4 (by simp; omega), m3.trans m4, by omega, by rw [addL_take 2 _ k i (by omega)]; exact mp4⟩ (.c rfl (.c rfl (.c rfl (.c rfl (.c rfl (.n))))))
    · have hin : i = k.length := by omega
      rw [hin, List.take_length] at mp
      repeat (first | refine T_seq ?_ | refine T_region ?_ | refine T_cond_false rfl ?_ | refine T_exit rfl ?_ | refine TL_lt_f (hk := ?_) | refine TL_nil ?_ | refine TL_move (hk := ?_) | refine TL_assign (hk := ?_))
      exact T_ret1 rfl rfl ⟨b, rfl, e03, by omega, mp⟩
end Go.Proofs.Ytfplmpfdhiagaaa

namespace Go.Proofs.Ytfplmpfdhiagaaa
open Go.RowKit Go.Proofs.Eng Go.Proofs.Foot
set_option linter.unusedSimpArgs false
set_option linter.unusedVariables false set_option maxRecDepth 10000
attribute [local irreducible] T TL LV TH TA
theorem off_not {A : Option Addr} {r : Nat} (h : Off A [r]) : r ∉ blkL A := by
  cases A with
  | none => simp [blkL]
  | some ad =>
    have := h ad rfl
    simp only [blkL, List.mem_singleton] at this ⊢
    exact fun e => this e.symm
theorem hi_not {A : Option Addr} {B b : Nat} (h : Hi A B) (hb : b < B) : b ∉ blkL A := off_not (Off.hi h hb)
theorem used_cons (p : Tx × Nat) (l : TM) (u : Nat) : used (p :: l) u = if p.2 &&& u = 0 then used l u else p.1 :: used l u := by
  unfold used
  rw [List.filter_cons]
  by_cases h : p.2 &&& u = 0 <;> simp [h]
theorem used_append (a b : TM) (u : Nat) : used (a ++ b) u = used a u ++ used b u := by simp [used]
theorem keys_c (b use : Nat) (m : TM) (w : World) (hm : Mp w .string b tK uV m) (hu : use < 4) (h4 : ∀ p ∈ m, p.2 < 4) (hl : m.length ≤ 100000) :
    Ret Try.prog 56 [.map (some b), .int .u8 (use : Int)] w (fun v w' => ∃ A n c, v = .slice A n c ∧ Ext w w' ∧ Own w' w.heap.size 9 1 A n c (sv (keysM m use))) := by
  have lb := hm.lt
  refine ret_T (n := 26) Try.func56 rfl rfl ?_
  repeat (first | refine T_seq ?_ | refine T_region ?_ | refine TL_nil ?_ | refine TL_move (hk := ?_) | refine TL_assign (hk := ?_))
  refine TL_range TE (.string) (hk := ?_); intro r w1 e1 hr1 hr2 it
  have s1 := e1.size
  repeat (first | refine T_block ?_ | refine TL_nil ?_)
  refine T_loop (ι := (Option Addr × Nat × Nat) × TM × List Tx) (fun i => [(9, .pointer (some ⟨r, 0, none⟩)), (5, .slice i.1.1 i.1.2.1 i.1.2.2), (1, .int .u8 (use : Int))])
    (fun i w' => Ext w w' ∧ It w' r b tK uV m i.2.1 ∧ Own w' w.heap.size 9 1 i.1.1 i.1.2.1 i.1.2.2 (sv i.2.2) ∧ Off i.1.1 [r] ∧ (i.2.2 ++ used i.2.1 use).Perm (used m use) ∧ (∀ p ∈ i.2.1, p.2 < 4) ∧ i.2.2.length + i.2.1.length ≤ m.length) (fun i => i.2.1.length) ((none, 0, 0), m, []) (.c rfl (.c rfl (.c rfl (.n))))
    ⟨e1, it, Own.nil _ _ _ _, (fun _ h => by cases h), by simp, h4, by simp⟩ ?_
  clear it
  rintro ⟨⟨A, n, c⟩, left, acc⟩ w2 ⟨e2, it, ow, off, pm, p4, len⟩ ih
  simp only at e2 it ow off pm p4 len ih
  change T _ _ _ _ _ [(9, .pointer (some ⟨r, 0, none⟩)), (5, .slice A n c), (1, .int .u8 (use : Int))] _ _
  have hn : n = acc.length := by have := ow.len; simp at this; omega
  have lr := it.lt
  repeat (first | refine T_seq ?_ | refine T_region ?_)
  refine TL_next (h0 := ?_) (h1 := ?_)
  · rintro rfl
    repeat (first | refine T_seq ?_ | refine T_region ?_ | refine T_cond_false rfl ?_ | refine T_exit rfl ?_ | refine TL_nil ?_ | refine TL_move (hk := ?_) | refine TL_extract (hk := ?_))
    have pm' : acc.Perm (used m use) := by simpa [used] using pm
    refine TL_call TE (hc := Sort_c A n c _ acc w2 ow (by simp at len; omega)) (hk := ?_)
    rintro _ w3 ⟨rfl, m3, o3⟩
    repeat (first | refine T_seq ?_ | refine T_region ?_ | refine TL_nil ?_ | refine TL_move (hk := ?_) | refine TL_assign (hk := ?_))
    refine T_ret1 rfl rfl ⟨A, n, c, rfl, e2.own m3 ow.hi, ?_⟩
    have : acc.mergeSort le2 = keysM m use := mergeSort_of_perm pm'
    rw [← this]
    exact o3
  · rintro l1 p l2 w3 rfl m3 s3 it3 cur
    have hp4 : p.2 < 4 := p4 p (by simp)
    have e3 : Ext w w3 := Mod.step e2 m3 (by simp; omega)
    have ow3 := ow.mod m3 off
    simp only [List.length_append, List.length_cons] at len
    have hpm : (used (l1 ++ p :: l2) use).Perm ((if p.2 &&& use = 0 then [] else [p.1]) ++ used (l1 ++ l2) use) := by
      rw [used_append, used_append, used_cons]
      split
      · simp
      · exact List.perm_middle
    repeat (first | refine T_seq ?_ | refine T_region ?_ | refine T_cond_true rfl ?_ | refine T_block ?_ | refine T_skip ?_ | refine TL_nil ?_ | refine TL_move (hk := ?_) | refine TL_assign (hk := ?_) | refine TL_extract (hk := ?_) | refine TL_entry (hk := ?_))
    refine TL_and (hk := ?_); intro _
    by_cases hz : p.2 &&& use = 0
    · rw [if_pos hz] at hpm
      repeat (first | refine T_cond_false rfl ?_ | refine T_inBlock ?_ | refine T_skip ?_ | refine TL_ne_f (hk := ?_) | refine TL_nil ?_)
      exact ih ((A, n, c), l1 ++ l2, acc) _ _ (by simp) ⟨e3, it3, ow3, off, (List.Perm.append_left acc hpm.symm).trans pm, fun q hq => p4 q (by simp at hq ⊢; rcases hq with h | h <;> simp [h]), by simp; omega⟩ (.c rfl (.c rfl (.c rfl (.n))))
    · rw [if_neg hz] at hpm
      repeat (first | refine T_region ?_ | refine T_cond_true rfl ?_ | refine TL_ne_t (hk := ?_) | refine TL_nil ?_ | refine TL_move (hk := ?_))
      refine TL_buildSlice TE (hk := ?_); intro b5 w5 e5 h51 h52 k5
      have s5 := e5.size
      have ow5 := ow3.be e5
      refine TL_append TE (hk := ?_); intro A2 c2 w6 o6 m6 n6
      repeat (first | refine T_inBlock ?_ | refine TL_nil ?_ | refine TL_assign (hk := ?_))
      have hcap := ow3.cap
      have lr3 := it3.lt
      refine ih ((A2, _, c2), l1 ++ l2, acc ++ [p.1]) _ _ (by simp) ⟨(e3.ext e5).own m6 ow5.hi, (it3.be e5).mod m6 (off_not off) (hi_not ow5.hi lb), by rw [sv_append]; exact o6, n6.ne off (by omega), ?_, fun q hq => p4 q (by simp at hq ⊢; rcases hq with h | h <;> simp [h]), by simp; omega⟩ (.c rfl (.c rfl (.c rfl (.n))))
      refine List.Perm.trans ?_ pm
      rw [List.append_assoc]
      exact List.Perm.append_left acc hpm.symm
end Go.Proofs.Ytfplmpfdhiagaaa

/- A struct that is laid into its place; a struct that is handed back out of its place. -/
namespace Go.Proofs.Eng
open Go.RowKit
set_option linter.unusedSimpArgs false
set_option linter.unusedVariables false
set_option linter.unusedSectionVars false
section
variable {q : Qm} {P : Program} {fn : Func} {R : Ending → World → Prop} {Φ : Value → World → Prop} {M : Md} {dd : Bool} {n : Nat} {st : Slots} {k : List Item} {w : World} {ops rest : List Oper}
  {d : Nat} {v : Value} {ty : TypeId} {ps : String} {af : Array Edge} {X V : Operand} {t e : TypeId} {by_ s m c base : Nat} {z : Value}
theorem run_storeAll {b o : Nat} {bt : TypeId} : ∀ (vs cs : List Value) (i : Nat) (w : World), Blk w b bt cs → o + i + vs.length ≤ cs.length → (∀ u ∈ vs, u.oneCell' = true) →
    ∃ w', (storeCells ⟨b, o, none⟩ vs i).run P w = .ok () w' ∧ Mod [b] w w' ∧ w'.heap.size = w.heap.size ∧ Blk w' b bt (setAll cs (o + i) vs)
  | [], cs, i, w, hb, _, _ => ⟨w, rfl, Mod.refl _ _, rfl, hb⟩
  | u :: vs, cs, i, w, hb, hl, h1 => by
    have hi : o + i < cs.length := by simp at hl; omega
    have hadd : (⟨b, o, none⟩ : Addr).add i = ⟨b, o + i, none⟩ := by unfold Addr.add; split <;> simp_all
    have hc : w.cell? ⟨b, o + i, none⟩ = some (cs[o + i]) := by rw [hb.cell]; exact List.getElem?_eq_getElem hi
    obtain ⟨w', g1, g2, g3, g4⟩ := run_storeAll (o := o) vs (cs.set (o + i) u) (i + 1) (w.setCell ⟨b, o + i, none⟩ u) (hb.set _ _) (by simp at hl ⊢; omega) (fun x hx => h1 x (by simp [hx]))
    refine ⟨w', ?_, (Mod.setCell w ⟨b, o + i, none⟩ u).trans g2, by rw [g3]; simp [World.setCell], ?_⟩
    · simp [storeCells, hadd, run_store _ _ _ _ _ (h1 u (by simp)), hc, hb.thawed, g1]
    · exact g4
theorem TL_storea {b o : Nat} {bt : TypeId} {cs vs : List Value} (E : Env P) (hx : ev st X = some (.pointer (some ⟨b, o, none⟩)) := by exact rfl) (hv : ev st V = some (.agg vs.toArray) := by exact rfl) (h1 : vs.all (fun u => u.oneCell') = true := by exact rfl) (hi : E.inf t = some (vs.length, by_, z) := by exact rfl) (hb : Blk w b bt cs := by focus ((repeat (first | assumption | (apply Own.rd; assumption) | (apply Rd.blk; assumption; exact rfl) | (apply Blk.be; assumption) | (apply Rd.be; assumption) | (apply Own.be; assumption) | (apply Blk.bm; assumption; focus (first | assumption | (simp only [List.mem_cons, List.not_mem_nil, or_false]; omega))) | (apply Rd.bm; assumption; focus assumption) | (apply Own.bm; assumption; focus assumption))); done)) (ho : o + vs.length ≤ cs.length := by first | exact Nat.le_refl _ | decide | (simp; done) | (simp; omega))
    (hf : Fl q (rest.length + 1) := by first | exact trivial | exact rfl) (hq : ∀ w', Mod [b] w w' → w'.heap.size = w.heap.size → Kp q w' := by exact fun _ _ _ => trivial)
    (hk : ∀ w', Mod [b] w w' → w'.heap.size = w.heap.size → Blk w' b bt (setAll cs o vs) → TL q P fn R M n st ops rest k w') :
    TL q P fn R M n st ops (⟨none, .store t X V, ty, ps, af, none⟩ :: rest) k w := by
  obtain ⟨w', g1, g2, g3, g4⟩ := run_storeAll (P := P) vs cs 0 w hb (by omega) (fun u hu => List.all_eq_true.1 h1 u hu)
  refine TL_do (w' := w') (fun ρ h => ?_) hf (hq _ g2 g3) (hk _ g2 g3 g4)
  simp [execOp, Instr.storeAt, h _ _ hx, h _ _ hv, Instr.sureAddr, storeVar, Value.cells, run_sizeOf' (E.inf_ok _ _ _ _ hi), g1]
theorem loadVar_agg (E : Env P) {b o : Nat} {bt : TypeId} {cs vs : List Value} {fl : List (Nat × TypeId)} (ht : E.fld t = some fl) (hi : E.inf t = some (vs.length, by_, z)) (hb : Blk w b bt cs) (hc : (cs.drop o).take vs.length = vs) (h0 : 0 < vs.length) :
    (loadVar t ⟨b, o, none⟩).run P w = .ok (.agg vs.toArray) w := by
  have h1 := load_cells (P := P) (j := o) hb.rd hc h0
  have e : adr (some ⟨b, 0, none⟩) o = ⟨b, o, none⟩ := by simp [adr]
  rw [e] at h1
  simp [loadVar, run_isAgg_fld E ht, run_sizeOf' (E.inf_ok _ _ _ _ hi), h1]
theorem T_retA1 (E : Env P) {x : Tmp} {b o : Nat} {bt : TypeId} {cs vs : List Value} {fl : List (Nat × TypeId)} (hr : fn.results = #[.cell x t]) (hx : look st x = some (.pointer (some ⟨b, o, none⟩))) (ht : E.fld t = some fl) (hi : E.inf t = some (vs.length, by_, z)) (hb : Blk w b bt cs) (hc : (cs.drop o).take vs.length = vs) (h0 : 0 < vs.length)
    (hR : Φ (.agg vs.toArray) w) : T P fn (RR Φ) ⟨dd, []⟩ n st (.code .ret :: k) w := T_ret rfl (fun a ha => by
  have e1 := ha.get _ _ hx
  simp only [Array.getD_eq_getD_getElem?] at e1
  simp [results, hr, e1, asAddr, loadVar_agg E ht hi hb hc h0]) hR
theorem T_retA2 (E : Env P) {x y : Tmp} {u : Value} {b o : Nat} {bt : TypeId} {cs vs : List Value} {fl : List (Nat × TypeId)} (hr : fn.results = #[.cell x t, .tmp y]) (hx : look st x = some (.pointer (some ⟨b, o, none⟩))) (hy : look st y = some u) (ht : E.fld t = some fl) (hi : E.inf t = some (vs.length, by_, z)) (hb : Blk w b bt cs) (hc : (cs.drop o).take vs.length = vs) (h0 : 0 < vs.length)
    (hR : Φ (.tuple #[.agg vs.toArray, u]) w) : T P fn (RR Φ) ⟨dd, []⟩ n st (.code .ret :: k) w := T_ret rfl (fun a ha => by
  have e1 := ha.get _ _ hx
  have e2 := ha.get _ _ hy
  simp only [Array.getD_eq_getD_getElem?] at e1 e2
  simp [results, hr, e1, e2, asAddr, loadVar_agg E ht hi hb hc h0]) hR
theorem T_retA3 (E : Env P) {x y y2 : Tmp} {u u2 : Value} {b o : Nat} {bt : TypeId} {cs vs : List Value} {fl : List (Nat × TypeId)} (hr : fn.results = #[.cell x t, .tmp y, .tmp y2]) (hx : look st x = some (.pointer (some ⟨b, o, none⟩))) (hy : look st y = some u) (hy2 : look st y2 = some u2) (ht : E.fld t = some fl) (hi : E.inf t = some (vs.length, by_, z)) (hb : Blk w b bt cs) (hc : (cs.drop o).take vs.length = vs) (h0 : 0 < vs.length)
    (hR : Φ (.tuple #[.agg vs.toArray, u, u2]) w) : T P fn (RR Φ) ⟨dd, []⟩ n st (.code .ret :: k) w := T_ret rfl (fun a ha => by
  have e1 := ha.get _ _ hx
  have e2 := ha.get _ _ hy
  have e3 := ha.get _ _ hy2
  simp only [Array.getD_eq_getD_getElem?] at e1 e2 e3
  simp [results, hr, e1, e2, e3, asAddr, loadVar_agg E ht hi hb hc h0]) hR
end
end Go.Proofs.Eng

namespace Go.Proofs.Ytfplmpfdhiagaaa
open Go.RowKit Go.Proofs.Eng Go.Proofs.Foot
set_option linter.unusedSimpArgs false
set_option linter.unusedVariables false set_option maxRecDepth 10000
attribute [local irreducible] T TL LV TH TA
theorem getD_mem {l : List Tx} {i : Nat} (hi : i < l.length) : l.getD i [] ∈ l := by
  rw [List.getD_eq_getElem?_getD, List.getElem?_eq_getElem hi]
  exact List.getElem_mem hi
theorem Texts_c (A B : Option Addr) (n m c d : Nat) (l k : List Tx) (w : World) (h : Rd w A n 1 (sv l)) (g : Rd w B m 1 (sv k)) (hn : n ≤ 70368744177000) (hm : m ≤ 70368744177000) :
    Ret Try.prog 73 [.slice A n c, .slice B m d] w (fun v w' => v = .bool (decide (l = k)) ∧ Ext w w') := by
  have hl : l.length = n := by simpa using h.1
  have hk : k.length = m := by simpa using g.1
  refine ret_T (n := 26) Try.func73 rfl rfl ?_
  by_cases hnm : n = m
  · subst hnm
    repeat (first | refine T_seq ?_ | refine T_region ?_ | refine T_cond_false rfl ?_ | refine T_block ?_ | refine T_skip ?_ | refine TL_ne_f (hk := ?_) | refine TL_nil ?_ | refine TL_move (hk := ?_) | refine TL_assign (hk := ?_) | refine TL_len TE (hk := ?_))
    refine T_loop (ι := Nat) (fun i => [(5, .int .i64 (i : Int)), (0, .slice A n c), (1, .slice B n d)]) (fun i w' => Ext w w' ∧ i ≤ n ∧ ∀ j, j < i → l.getD j [] = k.getD j []) (fun i => n - i) 0 (.c rfl (.c rfl (.c rfl (.n)))) ⟨Mod.refl _ _, Nat.zero_le _, fun j h => absurd h (by omega)⟩ ?_
    rintro i w1 ⟨e1, hi, hu⟩ ih
    have h1 := h.be e1
    have g1 := g.be e1
    by_cases hlt : i < n
    · by_cases e : l.getD i [] = k.getD i []
      · have e' : ofL (l.getD i []) = ofL (k.getD i []) := by rw [e]
        repeat (first | refine T_seq ?_ | refine T_region ?_ | refine T_region_q TE.mixed (by kernel_rfl) ?_ | refine T_cond_true rfl ?_ | refine T_block ?_ | refine T_skip ?_ | refine TL_lt_t (hk := ?_) | refine TL_sne_f (hk := ?_) | refine TL_nil ?_ | refine TL_move (hk := ?_) | refine TL_indexAddr1n TE (hk := ?_) | refine TL_len TE (hk := ?_) | refine TL_load_s TE (hk := ?_))
        refine TL_nil_q ?_; intro w2 e2
        repeat (first | refine T_region ?_ | refine T_cond_false rfl ?_ | refine T_inBlock ?_ | refine T_skip ?_ | refine TL_add (hk := ?_) | refine TL_nil ?_ | refine TL_move (hk := ?_) | refine TL_assign (hk := ?_))
        exact ih (i + 1) _ _ (by omega) ⟨e1.ext e2, by omega, fun j hj => by
          by_cases q : j = i
          · rw [q]; exact e
          · exact hu j (by omega)⟩ (.c rfl (.c rfl (.c rfl (.n))))
      · have e' : ¬ ofL (l.getD i []) = ofL (k.getD i []) := fun h => e (ofL_inj h)
        repeat (first | refine T_seq ?_ | refine T_region ?_ | refine T_region_q TE.mixed (by kernel_rfl) ?_ | refine T_cond_true rfl ?_ | refine T_block ?_ | refine T_skip ?_ | refine TL_lt_t (hk := ?_) | refine TL_sne_t (hk := ?_) | refine TL_nil ?_ | refine TL_move (hk := ?_) | refine TL_indexAddr1n TE (hk := ?_) | refine TL_len TE (hk := ?_) | refine TL_load_s TE (hk := ?_))
        refine TL_nil_q ?_; intro w2 e2
        repeat (first | refine T_seq ?_ | refine T_region ?_ | refine T_cond_true rfl ?_ | refine TL_nil ?_ | refine TL_assign (hk := ?_))
        refine T_ret1 rfl rfl ⟨?_, e1.ext e2⟩
        have : ¬ l = k := fun q => e (by rw [q])
        simp [this]
    · repeat (first | refine T_seq ?_ | refine T_region ?_ | refine T_cond_false rfl ?_ | refine T_exit rfl ?_ | refine TL_lt_f (hk := ?_) | refine TL_nil ?_ | refine TL_move (hk := ?_) | refine TL_assign (hk := ?_) | refine TL_len TE (hk := ?_))
      refine T_ret1 rfl rfl ⟨?_, e1⟩
      have : l = k := by
        apply List.ext_getElem?
        intro j
        by_cases hj : j < n
        · have := hu j (by omega)
          rw [List.getD_eq_getElem?_getD, List.getD_eq_getElem?_getD, List.getElem?_eq_getElem (by omega), List.getElem?_eq_getElem (by omega)] at this
          rw [List.getElem?_eq_getElem (by omega), List.getElem?_eq_getElem (by omega)]
          simpa using this
        · rw [List.getElem?_eq_none (by omega), List.getElem?_eq_none (by omega)]
      simp [this]
  · have hno : ¬ l = k := fun q => hnm (by rw [← hl, ← hk, q])
    repeat (first | refine T_seq ?_ | refine T_region ?_ | refine T_cond_true rfl ?_ | refine TL_ne_t (hk := ?_) | refine TL_nil ?_ | refine TL_move (hk := ?_) | refine TL_assign (hk := ?_) | refine TL_len TE (hk := ?_))
    refine T_ret1 rfl rfl ⟨?_, Mod.refl _ _⟩
    simp [hno]
theorem Same_c (A B C D : Option Addr) (n m p q c d e f : Nat) (l k l2 k2 : List Tx) (w : World) (hA : Rd w A n 1 (sv l)) (hB : Rd w B m 1 (sv k)) (hC : Rd w C p 1 (sv l2)) (hD : Rd w D q 1 (sv k2)) (hn : n ≤ 100000) (hm : m ≤ 100000) (hp : p ≤ 100000) (hq : q ≤ 100000) :
    Ret Try.prog 20 [.agg #[.slice A n c, .slice B m d], .agg #[.slice C p e, .slice D q f]] w (fun v w' => v = .bool (decide (l = l2 ∧ k = k2)) ∧ Ext w w') := by
  refine ret_T (n := 17) Try.func20 rfl rfl ?_
  repeat (first | refine T_seq ?_ | refine T_region ?_)
  refine TL_box (hk := ?_); intro b1 w1 e1 h1 h1' k1
  --
  refine TL_box (hk := ?_); intro b2 w2 e2 h2 h2' k2
  have k12 := k1.be e2
  have e02 := e1.ext e2
  clear k1
  repeat (first | refine T_seq ?_ | refine T_region ?_ | refine TL_nil ?_ | refine TL_assign (hk := ?_) | refine TL_load TE (hk := ?_) | refine TL_fieldAddr TE (hk := ?_))
  refine TL_call TE (hc := Texts_c A C n p c e l l2 w2 (hA.be e02) (hC.be e02) (by omega) (by omega)) (hk := ?_)
  rintro _ w3 ⟨rfl, e3⟩
  have k13 := k12.be e3
  have k23 := k2.be e3
  clear k12 k2
  by_cases q1 : l = l2
  · rw [decide_eq_true q1]
    repeat (first | refine TL_move (hk := ?_) | refine TL_load TE (hk := ?_) | refine TL_fieldAddr TE (hk := ?_) | refine TL_yes (hk := ?_))
    refine TL_call TE (hc := Texts_c B D m q d f k k2 w3 ((hB.be e02).be e3) ((hD.be e02).be e3) (by omega) (by omega)) (hk := ?_)
    rintro _ w4 ⟨rfl, e4⟩
    repeat (first | refine TL_nil ?_ | refine TL_assign (hk := ?_) | refine TL_pick_t (hk := ?_))
    refine T_ret1 rfl rfl ⟨?_, (e02.ext e3).ext e4⟩
    simp [q1]
  · rw [decide_eq_false q1]
    repeat (first | refine TL_nil ?_ | refine TL_move (hk := ?_) | refine TL_assign (hk := ?_) | refine TL_no (hk := ?_) | refine TL_pick_f (hk := ?_))
    refine T_ret1 rfl rfl ⟨?_, e02.ext e3⟩
    simp [q1]
end Go.Proofs.Ytfplmpfdhiagaaa

namespace Go.Proofs.Ytfplmpfdhiagaaa
open Go.RowKit Go.Proofs.Eng Go.Proofs.Foot
set_option linter.unusedSimpArgs false
set_option linter.unusedVariables false set_option maxRecDepth 10000
attribute [local irreducible] T TL LV TH TA
/-- A footprint in lists of its own. -/
def FootO (w : World) (base : Nat) (e : TypeId) (v : Value) (f : List Tx × List Tx) : Prop :=
  ∃ A n c B m d, v = .agg #[.slice A n c, .slice B m d] ∧ Own w base e 1 A n c (sv f.1) ∧ Own w base e 1 B m d (sv f.2) ∧ Off B (blkL A)
theorem FootO.nil (w : World) (base : Nat) (e : TypeId) : FootO w base e (.agg #[.slice none 0 0, .slice none 0 0]) ([], []) :=
  ⟨none, 0, 0, none, 0, 0, rfl, Own.nil _ _ _ _, Own.nil _ _ _ _, fun _ h => by cases h⟩
theorem Norm_c (A B : Option Addr) (n c m d : Nat) (r k : List Tx) (w : World) (h : Rd w A n 1 (sv r)) (g : Rd w B m 1 (sv k)) (hn : n ≤ 50000) (hm : m ≤ 50000) (sr : Short r) (sk : Short k) :
    Ret Try.prog 22 [.agg #[.slice A n c, .slice B m d]] w (fun v w' => ∃ u, v = .tuple #[u, .int .i64 (normF r k).2] ∧ Ext w w' ∧ FootO w' w.heap.size 9 u (normF r k).1) := by
  have hr : r.length = n := by simpa using h.1
  have hk : k.length = m := by simpa using g.1
  refine ret_T (n := 42) Try.func22 rfl rfl ?_
  repeat (first | refine T_seq ?_ | refine T_region ?_)
  refine TL_box (hk := ?_); intro b1 w1 e1 h1 h1' k1
  refine TL_alloc TE (hk := ?_); intro b2 w2 e2 h2 h2' k2
  have k12 := k1.be e2
  clear k1
  repeat (first | refine T_seq ?_ | refine T_region ?_ | refine TL_nil ?_ | refine TL_assign (hk := ?_) | refine TL_load TE (hk := ?_) | refine TL_fieldAddr TE (hk := ?_))
  refine TL_buildSlice TE (hk := ?_); intro b3 w3 e3 h3 h3' k3
  have k13 := k12.be e3
  have k23 := k2.be e3
  have e03 := (e1.ext e2).ext e3
  have s1 := e1.size
  have s2 := e2.size
  have s3 := e3.size
  clear k12 k2
  have hA := h.be e03
  have hB := g.be e03
  repeat (first | refine T_block ?_ | refine TL_nil ?_ | refine TL_move (hk := ?_) | refine TL_len TE (hk := ?_))
  refine T_loop (ι := Nat) (fun i => [(15, .int .i64 (i : Int)), (14, .int .i64 2), (13, .slice (some ⟨b3, 0, none⟩) 2 2), (1, .pointer (some ⟨b1, 0, none⟩)), (2, .pointer (some ⟨b2, 0, none⟩))])
    (fun i w' => w' = w3 ∧ i ≤ 2 ∧ (0 < i → r.all validT = true) ∧ (1 < i → k.all validT = true)) (fun i => 2 - i) 0 (.c rfl (.c rfl (.c rfl (.c rfl (.c rfl (.n)))))) ⟨rfl, by omega, fun h => by omega, fun h => by omega⟩ ?_
  rintro i w3 ⟨rfl, hi, hv1, hv2⟩ ih
  by_cases hlt : i < 2
  · obtain ⟨A0, n0, c0, l0, hld, hrd, hn0, hs0, hal, hno⟩ : ∃ A0 n0 c0 l0, [Value.slice A n c, Value.slice B m d][i]? = some (.slice A0 n0 c0) ∧ Rd w3 A0 n0 1 (sv l0) ∧ n0 ≤ 50000 ∧ Short l0 ∧ (l0.all validT = true → (0 < i + 1 → r.all validT = true) ∧ (1 < i + 1 → k.all validT = true)) ∧ (l0.all validT = false → (r.all validT && k.all validT) = false) := by
      rcases (by omega : i = 0 ∨ i = 1) with rfl | rfl
      · exact ⟨A, n, c, r, rfl, hA, hn, sr, fun h => ⟨fun _ => h, fun h => by omega⟩, fun h => by rw [h]; rfl⟩
      · exact ⟨B, m, d, k, rfl, hB, hm, sk, fun h => ⟨fun _ => hv1 (by omega), fun _ => h⟩, fun h => by rw [h]; simp⟩
    have hl0 : l0.length = n0 := by simpa using hrd.1
    have rd3 : Rd w3 (some ⟨b3, 0, none⟩) 2 1 [Value.slice A n c, Value.slice B m d] := Rd.blk k3 rfl
    repeat (first | refine T_seq ?_ | refine T_region ?_ | refine T_cond_true rfl ?_ | refine T_block ?_ | refine T_skip ?_ | refine TL_lt_t (hk := ?_) | refine TL_nil ?_ | refine TL_move (hk := ?_) | refine TL_assign (hk := ?_) | refine TL_load_rd TE (hk := ?_) | refine TL_indexAddr1n TE (hk := ?_) | refine TL_len TE (hk := ?_))
    refine T_loop (ι := Nat) (fun j => [(21, .int .i64 (j : Int)), (20, .int .i64 (n0 : Int)), (19, .slice A0 n0 c0), (15, .int .i64 (i : Int)), (14, .int .i64 2), (13, .slice (some ⟨b3, 0, none⟩) 2 2), (1, .pointer (some ⟨b1, 0, none⟩)), (2, .pointer (some ⟨b2, 0, none⟩))])
      (fun j w' => w' = w3 ∧ j ≤ n0 ∧ ∀ x, x < j → validT (l0.getD x []) = true) (fun j => n0 - j) 0 (.c rfl (.c rfl (.c rfl (.c rfl (.c rfl (.c rfl (.c rfl (.c rfl (.n))))))))) ⟨rfl, by omega, fun x h => by omega⟩ ?_
    rintro j w3 ⟨rfl, hj, hu⟩ ih2
    by_cases hjl : j < n0
    · repeat (first | refine T_seq ?_ | refine T_region ?_ | refine T_cond_true rfl ?_ | refine T_block ?_ | refine T_skip ?_ | refine TL_lt_t (hk := ?_) | refine TL_nil ?_ | refine TL_move (hk := ?_) | refine TL_assign (hk := ?_) | refine TL_indexAddr1n TE (hk := ?_) | refine TL_load_s TE (hk := ?_))
      refine TL_call TE (hc := Valid_c (l0.getD j []) (hs0 j (by omega)) _) (hk := ?_)
      rintro _ _ ⟨rfl, rfl⟩
      by_cases hv : validT (l0.getD j []) = true
      · rw [hv]
        repeat (first | refine T_region ?_ | refine T_cond_false rfl ?_ | refine T_inBlock ?_ | refine T_skip ?_ | refine TL_add (hk := ?_) | refine TL_nil ?_ | refine TL_move (hk := ?_) | refine TL_not (hk := ?_))
        exact ih2 (j + 1) _ _ (by omega) ⟨rfl, by omega, fun x hx => by
          by_cases q : x = j
          · rw [q]; exact hv
          · exact hu x (by omega)⟩ (.c rfl (.c rfl (.c rfl (.c rfl (.c rfl (.c rfl (.c rfl (.c rfl (.n)))))))))
      · have hv' : validT (l0.getD j []) = false := by simpa using hv
        have hf := hno (all_not (by omega) hv')
        rw [hv']
        repeat (first | refine T_seq ?_ | refine T_region ?_ | refine T_cond_true rfl ?_ | refine TL_nil ?_ | refine TL_not (hk := ?_) | refine TL_build TE (hk := ?_))
        refine TL_storea TE (hk := ?_); intro w4 m4 s4 k4
        repeat (first | refine TL_nil ?_ | refine TL_assign (hk := ?_))
        refine T_retA2 TE (vs := [.slice none 0 0, .slice none 0 0]) (o := 0) rfl rfl rfl rfl rfl k4 rfl (Nat.succ_pos _) ⟨.agg #[.slice none 0 0, .slice none 0 0], ?_, Mod.step e03 m4 (by simp; omega), ?_⟩
        · unfold normF; rw [hf]; rfl
        · unfold normF; rw [hf]; exact FootO.nil _ _ _
    · have hjn : j = l0.length := by omega
      have hall := hal (all_upto (by rw [← hjn]; exact hu))
      repeat (first | refine T_seq ?_ | refine T_region ?_ | refine T_cond_false rfl ?_ | refine T_inBlock ?_ | refine T_exit rfl ?_ | refine TL_add (hk := ?_) | refine TL_lt_f (hk := ?_) | refine TL_nil ?_ | refine TL_move (hk := ?_))
      exact ih (i + 1) _ _ (by omega) ⟨rfl, by omega, hall.1, hall.2⟩ (.c rfl (.c rfl (.c rfl (.c rfl (.c rfl (.n))))))
  · have hi2 : i = 2 := by omega
    have hv1' := hv1 (by omega)
    have hv2' := hv2 (by omega)
    have hvv : (r.all validT && k.all validT) = true := by rw [hv1', hv2']; rfl
    clear ih hv1 hv2 hv1' hv2'
    repeat (first | refine T_seq ?_ | refine T_region ?_ | refine T_cond_false rfl ?_ | refine T_exit rfl ?_ | refine TL_lt_f (hk := ?_) | refine TL_nil ?_)
    refine TL_loadb TE (cs := [.slice A n c, .slice B m d]) (o := 0) rfl rfl k13 rfl rfl (Nat.succ_pos _) (hk := ?_)
    --
    refine TL_call TE (hc := of_c A B n c m d r k _ hA hB (by omega) (by omega)) (hk := ?_)
    rintro _ w4 ⟨bm, rfl, e4, hbm, mp⟩
    have s4 := e4.size
    have k24 := k23.be e4
    by_cases h64 : 64 < (ofM r k).length
    · have hf : normF r k = (([], []), 6) := by unfold normF; rw [hvv, if_pos rfl, if_pos h64]
      repeat (first | refine T_seq ?_ | refine T_region ?_ | refine T_cond_true rfl ?_ | refine TL_gt_t (hk := ?_) | refine TL_nil ?_ | refine TL_move (hk := ?_) | refine TL_assign (hk := ?_) | refine TL_build TE (hk := ?_) | refine TL_len_m TE (hk := ?_))
      refine TL_storea TE (hk := ?_); intro w5 m5 s5 k5
      repeat (first | refine TL_nil ?_ | refine TL_assign (hk := ?_))
      refine T_retA2 TE (vs := [.slice none 0 0, .slice none 0 0]) (o := 0) rfl rfl rfl rfl rfl k5 rfl (Nat.succ_pos _) ⟨.agg #[.slice none 0 0, .slice none 0 0], ?_, Mod.step (e03.ext e4) m5 (by simp; omega), ?_⟩
      · rw [hf]
      · rw [hf]; exact FootO.nil _ _ _
    · have hf : normF r k = ((keysM (ofM r k) 1, keysM (ofM r k) 2), 0) := by unfold normF; rw [hvv, if_pos rfl, if_neg h64]
      have hlt4 := of_lt4 r k
      repeat (first | refine T_seq ?_ | refine T_region ?_ | refine T_cond_false rfl ?_ | refine T_skip ?_ | refine TL_gt_f (hk := ?_) | refine TL_nil ?_ | refine TL_move (hk := ?_) | refine TL_assign (hk := ?_) | refine TL_len_m TE (hk := ?_))
      refine TL_call TE (hc := keys_c bm 1 (ofM r k) _ mp (by decide) hlt4 (by omega)) (hk := ?_)
      rintro _ w5 ⟨A1, n1, c1, rfl, e5, o5⟩
      have s5 := e5.size
      repeat (refine TL_move (hk := ?_))
      refine TL_call TE (hc := keys_c bm 2 (ofM r k) _ (mp.be e5) (by decide) hlt4 (by omega)) (hk := ?_)
      rintro _ w6 ⟨A2, n2, c2, rfl, e6, o6⟩
      have s6 := e6.size
      have k26 := (k24.be e5).be e6
      repeat (refine TL_build TE (hk := ?_))
      refine TL_storea TE (hk := ?_); intro w7 m7 s7 k7
      repeat (first | refine TL_nil ?_ | refine TL_assign (hk := ?_))
      have a1 := (o5.be e6).mod m7 (Off.hi o5.hi (by omega))
      have a2 := o6.mod m7 (Off.hi o6.hi (by omega))
      refine T_retA2 TE (vs := [.slice A1 n1 c1, .slice A2 n2 c2]) (o := 0) rfl rfl rfl rfl rfl k7 rfl (Nat.succ_pos _) ⟨.agg #[.slice A1 n1 c1, .slice A2 n2 c2], ?_, Mod.step (((e03.ext e4).ext e5).ext e6) m7 (by simp; omega), ?_⟩
      · rw [hf]
      · rw [hf]; exact ⟨A1, n1, c1, A2, n2, c2, rfl, a1.weaken (by omega), a2.weaken (by omega), Off.hilo o6.hi o5.lo⟩
end Go.Proofs.Ytfplmpfdhiagaaa

namespace Go.Proofs.Ytfplmpfdhiagaaa
open Go.RowKit Go.Proofs.Eng Go.Proofs.Foot
set_option linter.unusedSimpArgs false
set_option linter.unusedVariables false set_option maxRecDepth 10000
attribute [local irreducible] T TL LV TH TA
def clash1 (y : TM) (p : Tx × Nat) : Bool := bitsM y p.1 != 0 && (p.2 ||| bitsM y p.1) &&& 2 != 0
def within1 (y : TM) (p : Tx × Nat) : Bool := bitsM y p.1 != 0 && (p.2 &&& 2 == 0 || bitsM y p.1 &&& 2 != 0)
theorem bits_lt4 (r k : List Tx) (t : Tx) : bitsM (ofM r k) t < 4 := by
  rw [bits_of]; split <;> split <;> omega
theorem Clash_c (A B C D : Option Addr) (n m p q c d e f : Nat) (r k r2 k2 : List Tx) (w : World) (hA : Rd w A n 1 (sv r)) (hB : Rd w B m 1 (sv k)) (hC : Rd w C p 1 (sv r2)) (hD : Rd w D q 1 (sv k2)) (hn : n ≤ 50000) (hm : m ≤ 50000) (hp : p ≤ 50000) (hq : q ≤ 50000) :
    Ret Try.prog 37 [.agg #[.slice A n c, .slice B m d], .agg #[.slice C p e, .slice D q f]] w (fun v w' => v = .bool ((ofM r k).any (clash1 (ofM r2 k2))) ∧ Ext w w') := by
  refine ret_T (n := 31) Try.func37 rfl rfl ?_
  repeat (first | refine T_seq ?_ | refine T_region ?_)
  refine TL_box (hk := ?_); intro b1 w1 e1 h1 h1' k1
  --
  refine TL_box (hk := ?_); intro b2 w2 e2 h2 h2' k2'
  have k12 := k1.be e2
  have e02 := e1.ext e2
  clear k1
  repeat (first | refine T_seq ?_ | refine T_region ?_ | refine TL_nil ?_ | refine TL_assign (hk := ?_))
  refine TL_loadb TE (cs := [.slice C p e, .slice D q f]) (o := 0) rfl rfl k2' rfl rfl (Nat.succ_pos _) (hk := ?_)
  refine TL_call TE (hc := of_c C D p e q f r2 k2 _ (hC.be e02) (hD.be e02) (by omega) (by omega)) (hk := ?_)
  rintro _ w3 ⟨by_, rfl, e3, hby, my⟩
  repeat (first | refine T_seq ?_ | refine T_region ?_ | refine TL_nil ?_ | refine TL_assign (hk := ?_))
  refine TL_loadb TE (cs := [.slice A n c, .slice B m d]) (o := 0) rfl rfl (k12.be e3) rfl rfl (Nat.succ_pos _) (hk := ?_)
  refine TL_call TE (hc := of_c A B n c m d r k _ (hA.be (e02.ext e3)) (hB.be (e02.ext e3)) (by omega) (by omega)) (hk := ?_)
  rintro _ w4 ⟨bx, rfl, e4, hbx, mx⟩
  have hly := my.lt
  have my4 := my.be e4
  have e04 := (e02.ext e3).ext e4
  refine TL_range TE (.string) (hk := ?_); intro it w5 e5 hr1 hr2 itr
  have s3 := e3.size
  have s4 := e4.size
  have s5 := e5.size
  have my5 := my4.be e5
  have e05 := e04.ext e5
  have s05 := e05.size
  have s04 := e04.size
  repeat (first | refine T_block ?_ | refine TL_nil ?_)
  refine T_loop (ι := TM) (fun i => [(12, .pointer (some ⟨it, 0, none⟩)), (5, .map (some by_))])
    (fun i w' => Ext w w' ∧ It w' it bx tK uV (ofM r k) i ∧ Mp w' .string by_ tK uV (ofM r2 k2) ∧ (∀ x ∈ ofM r k, x ∈ i ∨ clash1 (ofM r2 k2) x = false) ∧ (∀ x ∈ i, x ∈ ofM r k)) (fun i => i.length) (ofM r k) (.c rfl (.c rfl (.n))) ⟨e05, itr, my5, fun x hx => .inl hx, fun x hx => hx⟩ ?_
  clear itr my5 my4 my
  rintro left w6 ⟨e6, itr, my, hno, hin⟩ ih
  have lr := itr.lt
  repeat (first | refine T_seq ?_ | refine T_region ?_)
  refine TL_next (h0 := ?_) (h1 := ?_)
  · rintro rfl
    repeat (first | refine T_seq ?_ | refine T_region ?_ | refine T_cond_false rfl ?_ | refine T_exit rfl ?_ | refine TL_nil ?_ | refine TL_assign (hk := ?_) | refine TL_extract (hk := ?_))
    refine T_ret1 rfl rfl ⟨?_, e6⟩
    have : (ofM r k).any (clash1 (ofM r2 k2)) = false := by
      rw [List.any_eq_false]
      intro x hx
      rcases hno x hx with h | h
      · cases h
      · simp [h]
    rw [this]
  · rintro l1 x l2 w7 rfl m7 s7 it7 cur
    have e7 : Ext w w7 := Mod.step e6 m7 (by simp; omega)
    have my7 : Mp w7 .string by_ tK uV (ofM r2 k2) := my.mod m7 (by simp; omega)
    have hx4 := of_lt4 r k x (hin x (by simp))
    have hy4 := bits_lt4 r2 k2 x.1
    have hxm := hin x (by simp)
    by_cases hz : bitsM (ofM r2 k2) x.1 = 0
    · have hz' := hz
      unfold bitsM at hz'
      have hc : clash1 (ofM r2 k2) x = false := by unfold clash1; rw [hz]; rfl
      repeat (first | refine T_seq ?_ | refine T_region ?_ | refine T_cond_true rfl ?_ | refine T_block ?_ | refine T_skip ?_ | refine TL_nil ?_ | refine TL_move (hk := ?_) | refine TL_assign (hk := ?_) | refine TL_extract (hk := ?_) | refine TL_entry (hk := ?_))
      refine TL_lookup TE (0) (hk := ?_)
      rw [hz']
      repeat (first | refine T_cond_false rfl ?_ | refine T_inBlock ?_ | refine T_skip ?_ | refine TL_ne_f (hk := ?_) | refine TL_nil ?_ | refine TL_move (hk := ?_) | refine TL_no (hk := ?_) | refine TL_pick_f (hk := ?_))
      exact ih (l1 ++ l2) _ _ (by simp) ⟨e7, it7, my7, fun y hy => by
        rcases hno y hy with h | h
        · simp only [List.mem_append, List.mem_cons] at h ⊢
          rcases h with h | rfl | h
          · exact .inl (.inl h)
          · exact .inr hc
          · exact .inl (.inr h)
        · exact .inr h, fun y hy => hin y (by simp at hy ⊢; rcases hy with h | h <;> simp [h])⟩ (.c rfl (.c rfl (.n)))
    · obtain ⟨u, hu⟩ : ∃ u, (mget (ofM r2 k2) x.1).getD 0 = u := ⟨_, rfl⟩
      have hu' : bitsM (ofM r2 k2) x.1 = u := hu
      rw [hu'] at hz hy4
      by_cases hc2 : (x.2 ||| u) &&& 2 = 0
      · have hc : clash1 (ofM r2 k2) x = false := by unfold clash1; rw [hu', hc2]; simp
        repeat (first | refine T_seq ?_ | refine T_region ?_ | refine T_cond_true rfl ?_ | refine T_block ?_ | refine T_skip ?_ | refine TL_nil ?_ | refine TL_move (hk := ?_) | refine TL_assign (hk := ?_) | refine TL_extract (hk := ?_) | refine TL_entry (hk := ?_))
        refine TL_lookup TE (0) (hk := ?_)
        rw [hu]
        repeat (first | refine TL_ne_t (hk := ?_) | refine TL_move (hk := ?_) | refine TL_yes (hk := ?_))
        refine TL_lookup TE (0) (hk := ?_)
        rw [hu]
        repeat (refine TL_yes (hk := ?_))
        refine TL_or (hk := ?_); intro _
        repeat (refine TL_yes (hk := ?_))
        refine TL_and (hk := ?_); intro _
        repeat (first | refine T_cond_false rfl ?_ | refine T_inBlock ?_ | refine T_skip ?_ | refine TL_ne_f (hk := ?_) | refine TL_nil ?_ | refine TL_yes (hk := ?_) | refine TL_pick_t (hk := ?_))
        exact ih (l1 ++ l2) _ _ (by simp) ⟨e7, it7, my7, fun y hy => by
          rcases hno y hy with h | h
          · simp only [List.mem_append, List.mem_cons] at h ⊢
            rcases h with h | rfl | h
            · exact .inl (.inl h)
            · exact .inr hc
            · exact .inl (.inr h)
          · exact .inr h, fun y hy => hin y (by simp at hy ⊢; rcases hy with h | h <;> simp [h])⟩ (.c rfl (.c rfl (.n)))
      · have hc : clash1 (ofM r2 k2) x = true := by unfold clash1; rw [hu']; simp [hz, hc2]
        repeat (first | refine T_seq ?_ | refine T_region ?_ | refine T_cond_true rfl ?_ | refine T_block ?_ | refine T_skip ?_ | refine TL_nil ?_ | refine TL_move (hk := ?_) | refine TL_assign (hk := ?_) | refine TL_extract (hk := ?_) | refine TL_entry (hk := ?_))
        refine TL_lookup TE (0) (hk := ?_)
        rw [hu]
        repeat (first | refine TL_ne_t (hk := ?_) | refine TL_move (hk := ?_) | refine TL_yes (hk := ?_))
        refine TL_lookup TE (0) (hk := ?_)
        rw [hu]
        repeat (refine TL_yes (hk := ?_))
        refine TL_or (hk := ?_); intro _
        repeat (refine TL_yes (hk := ?_))
        refine TL_and (hk := ?_); intro _
        repeat (first | refine T_seq ?_ | refine T_region ?_ | refine T_cond_true rfl ?_ | refine TL_ne_t (hk := ?_) | refine TL_nil ?_ | refine TL_assign (hk := ?_) | refine TL_yes (hk := ?_) | refine TL_pick_t (hk := ?_))
        refine T_ret1 rfl rfl ⟨?_, e7⟩
        have : (ofM r k).any (clash1 (ofM r2 k2)) = true := List.any_eq_true.2 ⟨x, hxm, hc⟩
        rw [this]
end Go.Proofs.Ytfplmpfdhiagaaa

namespace Go.Proofs.Ytfplmpfdhiagaaa
open Go.RowKit Go.Proofs.Eng Go.Proofs.Foot
set_option linter.unusedSimpArgs false
set_option linter.unusedVariables false set_option maxRecDepth 10000
attribute [local irreducible] T TL LV TH TA
end Go.Proofs.Ytfplmpfdhiagaaa

namespace Go.Proofs.Ytfplmpfdhiagaaa
open Go.RowKit Go.Proofs.Eng Go.Proofs.Foot
set_option linter.unusedSimpArgs false
set_option linter.unusedVariables false set_option maxRecDepth 10000
attribute [local irreducible] T TL LV TH TA
theorem Equals_c (A B : Option Addr) (n m c d : Nat) (l k : List Tx) (w : World) (h : Rd w A n 1 (sv l)) (g : Rd w B m 1 (sv k)) (hn : n ≤ 100000) (hm : m ≤ 100000) :
    Ret Try.prog 84 [.slice A n c, .slice B m d] w (fun v w' => v = .bool (decide (l = k)) ∧ Ext w w') := by
  have hl : l.length = n := by simpa using h.1
  have hk : k.length = m := by simpa using g.1
  by_cases hnm : n = m
  · by_cases h0 : n = 0
    · refine Calls.mono (P := Try.prog) (f := 84) (by
        have := Try.slices_Equal_string_empty A B c m d w (by omega)
        subst h0
        exact this) ?_
      rintro e w' ⟨rfl, rfl⟩
      refine ⟨?_, Mod.refl _ _⟩
      have h1 : l = [] := List.length_eq_zero_iff.1 (by omega)
      have h2 : k = [] := List.length_eq_zero_iff.1 (by omega)
      have h3 : m = 0 := by omega
      simp [h1, h2, h3]
    · obtain ⟨b1, o1, rfl, _, _⟩ := h.2 (by omega)
      obtain ⟨b2, o2, rfl, _, _⟩ := g.2 (by omega)
      have cell : ∀ (b o n : Nat) (x : List Tx), Rd w (some ⟨b, o, none⟩) n 1 (sv x) → ∀ j, j < (x.map ofL).length → w.cell? ⟨b, o + j, none⟩ = some (.string ((x.map ofL).getD j ByteArray.empty)) := fun b o n x hx j hj => by
        have hj' : j < x.length := by simpa using hj
        have := hx.cell (sv_get x j hj')
        rw [show (⟨b, o + j, none⟩ : Addr) = adr (some ⟨b, o, none⟩) j from rfl, this]
        simp [List.getD_eq_getElem?_getD, List.getElem?_eq_getElem hj']
      refine Calls.mono (Try.slices_Equal_string b1 o1 n c b2 o2 m d (l.map ofL) (k.map ofL) w (by simp; omega) (by simp; omega) (by omega) (by omega) (cell b1 o1 n l h) (cell b2 o2 m k g)) ?_
      rintro e w' ⟨rfl, q, rfl⟩
      refine ⟨?_, Ext.drewN _ _⟩
      have h1 : (l.map ofL).take n = l.map ofL := List.take_of_length_le (by simp; omega)
      have h2 : (k.map ofL).take m = k.map ofL := List.take_of_length_le (by simp; omega)
      rw [h1, h2]
      congr 1
      refine decide_eq_decide.2 ⟨fun e => ?_, fun e => by rw [e]⟩
      have h3 := congrArg (List.map fun b : ByteArray => b.data.toList) e
      simpa [Function.comp_def, ofL] using h3
  · refine Calls.mono (Try.slices_Equal_string_lens A B n c m d w hnm) ?_
    rintro e w' ⟨rfl, rfl⟩
    refine ⟨?_, Mod.refl _ _⟩
    have : ¬ l = k := fun q => hnm (by rw [← hl, ← hk, q])
    simp [this]
end Go.Proofs.Ytfplmpfdhiagaaa

namespace Go.Proofs.Ytfplmpfdhiagaaa
open Go.RowKit Go.Proofs.Eng Go.Proofs.Foot
set_option linter.unusedSimpArgs false
set_option linter.unusedVariables false set_option maxRecDepth 10000
attribute [local irreducible] T TL LV TH TA
theorem keysM_len (m : TM) (u : Nat) : (keysM m u).length ≤ m.length := by
  unfold keysM used
  rw [List.length_mergeSort, List.length_map]
  exact List.length_filter_le _ _
theorem normF_len (r k : List Tx) : (normF r k).1.1.length ≤ 64 ∧ (normF r k).1.2.length ≤ 64 := by
  unfold normF
  split
  · split
    · simp
    · have h1 := keysM_len (ofM r k) 1
      have h2 := keysM_len (ofM r k) 2
      exact ⟨by show (keysM (ofM r k) 1).length ≤ 64; omega, by show (keysM (ofM r k) 2).length ≤ 64; omega⟩
  · simp
/-- Is it in its normal form? -/
def isNorm (r k : List Tx) : Bool := decide ((normF r k).2 = 0 ∧ (normF r k).1.1 = r ∧ (normF r k).1.2 = k)
theorem normal_c (A B : Option Addr) (n c m d : Nat) (r k : List Tx) (w : World) (h : Rd w A n 1 (sv r)) (g : Rd w B m 1 (sv k)) (hn : n ≤ 50000) (hm : m ≤ 50000) (sr : Short r) (sk : Short k) :
    Ret Try.prog 53 [.agg #[.slice A n c, .slice B m d]] w (fun v w' => v = .bool (isNorm r k) ∧ Ext w w') := by
  refine ret_T (n := 26) Try.func53 rfl rfl ?_
  repeat (first | refine T_seq ?_ | refine T_region ?_)
  refine TL_box (hk := ?_); intro b1 w1 e1 h1 h1' k1
  repeat (first | refine T_seq ?_ | refine T_region ?_ | refine TL_nil ?_ | refine TL_assign (hk := ?_))
  refine TL_loadb TE (cs := [.slice A n c, .slice B m d]) (o := 0) rfl rfl k1 rfl rfl (Nat.succ_pos _) (hk := ?_)
  refine TL_call TE (hc := Norm_c A B n c m d r k _ (h.be e1) (g.be e1) hn hm sr sk) (hk := ?_)
  rintro _ w2 ⟨_, rfl, e2, A1, n1, c1, B1, m1, d1, rfl, oA, oB, _⟩
  have k12 := k1.be e2
  have s1 := e1.size
  have s2 := e2.size
  clear k1
  repeat (first | refine TL_move (hk := ?_) | refine TL_extract (hk := ?_))
  refine TL_alloc TE (hk := ?_); intro b3 w3 e3 h3 h3' k3
  have k13 := k12.be e3
  clear k12
  --
  refine TL_storea TE (hk := ?_); intro w4 m4 s4 k4
  have e03 := (e1.ext e2).ext e3
  have e04 : Ext w w4 := Mod.step e03 m4 (by simp; omega)
  have oA4 := (oA.be e3).mod m4 (Off.lo oA.lo (by omega))
  have oB4 := (oB.be e3).mod m4 (Off.lo oB.lo (by omega))
  have k14 := k13.bm m4 (by simp; omega)
  clear k13 k3 oA oB
  have lenA := oA4.len
  have lenB := oB4.len
  have capA := oA4.cap
  have capB := oB4.cap
  have hlenA : n1 ≤ 100000 := by
    have h1 := (normF_len r k).1
    rw [sv_length] at lenA
    omega
  have hlenB : m1 ≤ 100000 := by
    have h1 := (normF_len r k).2
    rw [sv_length] at lenB
    omega
  repeat (first | refine T_seq ?_ | refine T_region ?_ | refine TL_nil ?_ | refine TL_move (hk := ?_) | refine TL_assign (hk := ?_))
  by_cases q0 : (normF r k).2 = 0
  · repeat (first | refine TL_eq_t (hk := ?_) | refine TL_move (hk := ?_) | refine TL_load TE (hk := ?_) | refine TL_fieldAddr TE (hk := ?_) | refine TL_yes (hk := ?_))
    refine TL_call TE (hc := Equals_c A1 A n1 n c1 c _ r _ oA4.rd (h.be e04) hlenA (by omega)) (hk := ?_)
    rintro _ w5 ⟨rfl, e5⟩
    have k45 := k4.be e5
    have k15 := k14.be e5
    clear k4 k14
    by_cases q1 : (normF r k).1.1 = r
    · rw [decide_eq_true q1]
      repeat (first | refine TL_move (hk := ?_) | refine TL_load TE (hk := ?_) | refine TL_fieldAddr TE (hk := ?_) | refine TL_yes (hk := ?_) | refine TL_pick_t (hk := ?_))
      refine TL_call TE (hc := Equals_c B1 B m1 m d1 d _ k _ (oB4.be e5).rd ((g.be e04).be e5) hlenB (by omega)) (hk := ?_)
      rintro _ w6 ⟨rfl, e6⟩
      repeat (first | refine TL_nil ?_ | refine TL_assign (hk := ?_) | refine TL_pick_t (hk := ?_))
      refine T_ret1 rfl rfl ⟨?_, (e04.ext e5).ext e6⟩
      unfold isNorm
      simp [q0, q1]
    · rw [decide_eq_false q1]
      repeat (first | refine TL_nil ?_ | refine TL_move (hk := ?_) | refine TL_assign (hk := ?_) | refine TL_no (hk := ?_) | refine TL_pick_t (hk := ?_) | refine TL_pick_f (hk := ?_))
      refine T_ret1 rfl rfl ⟨?_, e04.ext e5⟩
      unfold isNorm
      simp [q1]
  · repeat (first | refine TL_eq_f (hk := ?_) | refine TL_nil ?_ | refine TL_move (hk := ?_) | refine TL_assign (hk := ?_) | refine TL_no (hk := ?_) | refine TL_pick_f (hk := ?_))
    refine T_ret1 rfl rfl ⟨?_, e04⟩
    unfold isNorm
    simp [q0]
end Go.Proofs.Ytfplmpfdhiagaaa

/- A slice that is written out, its elements structs. -/
namespace Go.Proofs.Eng
open Go.RowKit
set_option linter.unusedSimpArgs false
set_option linter.unusedVariables false
set_option linter.unusedSectionVars false
section
variable {q : Qm} {P : Program} {fn : Func} {R : Ending → World → Prop} {M : Md} {n : Nat} {st : Slots} {k : List Item} {w : World} {ops rest : List Oper}
  {d : Nat} {ty : TypeId} {ps : String} {af : Array Edge} {t e : TypeId} {by_ s : Nat} {z : Value}
def elems (e s len : Nat) : List (Nat × TypeId) := (List.range len).map fun i => (i * s, e)
def zeros (z : List Value) (s len : Nat) : List Value := (List.range (len * s)).map fun i => z[i % s]!
theorem TL_buildSliceA {len : Nat} {parts : Array (Nat × Operand)} {cs : List Value} (E : Env P) (ht : E.und t = some (.slice e) := by exact rfl) (he : E.inf e = some (s, by_, z) := by exact rfl) (hz : z.cells.size = s := by exact rfl)
    (hb : bldF E.inf st (elems e s len) parts.toList (zeros z.cells.toList s len) = some cs := by exact rfl) (hs : Nat.blt 0 s = true := by exact rfl) (hl : Nat.blt 0 len = true := by exact rfl) (hm : Nat.ble (len * s) 16777216 = true := by exact rfl) (hd : Nat.blt d n = true := by exact rfl)
    (hf : Fl q (rest.length + 1) := by first | exact trivial | exact rfl) (hq : ∀ w', Ext w w' → Kp q w' := by exact fun _ _ => trivial)
    (hk : ∀ b w', Ext w w' → w.heap.size ≤ b → b < w'.heap.size → Blk w' b e cs → TL q P fn R M n ((d, .slice (some ⟨b, 0, none⟩) len len) :: st) ops rest k w') :
    TL q P fn R M n st ops (⟨some d, .buildSlice t len parts, ty, ps, af, none⟩ :: rest) k w :=
  TL_new (w' := w.alloc (.cells cs.toArray e)) hd (fun ρ h => by
    have hm' : ¬ len * s > 2 ^ 24 := by have := Nat.le_of_ble_eq_true hm; omega
    have hl' : 0 < len := Nat.le_of_ble_eq_true hl
    have hs' : 0 < s := Nat.le_of_ble_eq_true hs
    have h0 : ¬ len * s = 0 := by have := Nat.mul_pos hl' hs'; omega
    have hp : (parts.map fun p => (p.1, ρ p.2)).toList = parts.toList.map fun p => (p.1, ρ p.2) := by simp
    have hplace : ∀ (i off : Nat) (ft : TypeId) (s' b : Nat) (z : Value), (elems e s len)[i]? = some (off, ft) → E.inf ft = some (s', b, z) → (fun i => some (i * s, s)) i = some (off, s') := by
      intro i off ft s' b z' g1 g2
      unfold elems at g1
      simp only [List.getElem?_map, Option.map_eq_some_iff] at g1
      obtain ⟨x, g3, g4⟩ := g1
      cases g4
      rw [he] at g2
      cases g2
      have : x = i := by
        have := (List.getElem?_eq_some_iff.1 g3)
        obtain ⟨_, g5⟩ := this
        simpa using g5.symm
      rw [this]
    have hfill := fill_bld (E := E) (fl := elems e s len) h hplace parts.toList (zeros z.cells.toList s len) cs hb
    have hzz : (zeros z.cells.toList s len).toArray = (Array.range (len * s)).map (z.cells[· % z.cells.size]!) := by
      unfold zeros
      apply Array.ext'
      simp [hz, Array.toList_range]
      intro a _
      rw [getElem!_def]
      cases z.cells[a % s]? <;> rfl
    rw [hzz] at hfill
    simp only [execOp, Instr.buildSlice, Sem.run_bind, run_underlying (E.und_ok _ _ ht), Result.andThen_ok, run_sizeOf' (E.inf_ok _ _ _ _ he), hm', if_false, h0, run_zero' (E.inf_ok _ _ _ _ he), Sem.run_pure, Sem.run_ite]
    simp only [hp, hfill, newRow, Sem.run_bind, run_newObj, Sem.run_pure, Result.andThen_ok]
    rfl) hf (hq _ (Ext.alloc _ _))
    (hk w.heap.size _ (Ext.alloc _ _) (Nat.le_refl _) (by simp) (by simpa using Blk.new w e cs.toArray))
end
end Go.Proofs.Eng

namespace Go.Proofs.Ytfplmpfdhiagaaa
open Go.RowKit Go.Proofs.Eng Go.Proofs.Foot
set_option linter.unusedSimpArgs false
set_option linter.unusedVariables false set_option maxRecDepth 10000
attribute [local irreducible] T TL LV TH TA
/-- Locks as cells. -/
def lv (l : List (Tx × Bool)) : List Value := (l.map fun p => [Value.string (ofL p.1), Value.bool p.2]).flatten
def locksM (m : TM) : List (Tx × Bool) := (keysM m 3).map fun t => (t, bitsM m t &&& 2 != 0)
end Go.Proofs.Ytfplmpfdhiagaaa

namespace Go.Proofs.Ytfplmpfdhiagaaa
open Go.RowKit Go.Proofs.Eng Go.Proofs.Foot
set_option linter.unusedSimpArgs false
set_option linter.unusedVariables false set_option maxRecDepth 10000
attribute [local irreducible] T TL LV TH TA
end Go.Proofs.Ytfplmpfdhiagaaa

namespace Go.Proofs.Ytfplmpfdhiagaaa
open Go.RowKit Go.Proofs.Eng Go.Proofs.Foot
set_option linter.unusedSimpArgs false
set_option linter.unusedVariables false set_option maxRecDepth 10000
attribute [local irreducible] T TL LV TH TA
/-- Is each of a list in another? -/
def sub (l k : List Tx) : Bool := l.all fun x => decide (x ∈ k)
end Go.Proofs.Ytfplmpfdhiagaaa

/- copy into an own row. -/
namespace Go.Proofs.Eng
open Go.RowKit
set_option linter.unusedSimpArgs false
set_option linter.unusedVariables false
set_option linter.unusedSectionVars false
section
variable {q : Qm} {P : Program} {fn : Func} {R : Ending → World → Prop} {M : Md} {n : Nat} {st : Slots} {k : List Item} {w : World} {ops rest : List Oper}
  {d : Nat} {ty : TypeId} {ps : String} {af : Array Edge} {X Y : Operand} {t e : TypeId} {by_ base : Nat} {z : Value} {A B : Option Addr}
end
section
variable {w0 : World} {D : List Nat} {plan : List (Nat × Bool)} {P : Program} {fn : Func} {R : Ending → World → Prop} {M : Md} {n : Nat} {st : Slots} {k : List Item} {w : World} {ops rest : List Oper}
  {d : Nat} {ty : TypeId} {ps : String} {af : Array Edge} {X Y : Operand} {t e : TypeId} {by_ base : Nat} {z : Value} {A B : Option Addr} {zz : Option Nat} {bb : Array Bool} {pp : Nat} {fr : Bool} {fuel : Nat}
theorem TLP_loadb {b o : Nat} {bt : TypeId} {xs cs : List Value} {fl : List (Nat × TypeId)} (E : Env P) (hx : ev st X = some (.pointer (some ⟨b, o, none⟩)) := by exact rfl) (ht : E.fld t = some fl := by exact rfl) (hb : Blk w0 b bt xs) (hD : b ∉ D) (hc : (xs.drop o).take cs.length = cs := by exact rfl) (hi : E.inf t = some (cs.length, by_, z) := by exact rfl) (h0 : 0 < cs.length := by exact Nat.succ_pos _) (hd : Nat.blt d n = true := by exact rfl)
    (hk : TL (.pick w0 D zz bb pp fr fuel) P fn R M n ((d, .agg cs.toArray) :: st) ops rest k w) : TL (.pick w0 D zz bb pp fr fuel) P fn R M n st ops (⟨some d, .load t X, ty, ps, af, none⟩ :: rest) k w :=
  TL_val hd (fun w' hw ρ h => by
    have h2 := hb.mod hw hD
    have h1 := load_cells (P := P) (A := some ⟨b, 0, none⟩) (j := o) h2.rd hc h0
    have h3 : adr (some ⟨b, 0, none⟩) o = ⟨b, o, none⟩ := by simp [adr]
    rw [h3] at h1
    simp [execOp, Instr.loadAt, h _ _ hx, Instr.sureAddr, loadVar, run_isAgg_fld E ht, run_sizeOf' (E.inf_ok _ _ _ _ hi), h1]) hk
end
end Go.Proofs.Eng

namespace Go.Proofs.Ytfplmpfdhiagaaa
open Go.RowKit Go.Proofs.Eng Go.Proofs.Foot
set_option linter.unusedSimpArgs false
set_option linter.unusedVariables false set_option maxRecDepth 10000
attribute [local irreducible] T TL LV TH TA
end Go.Proofs.Ytfplmpfdhiagaaa

namespace Go.Proofs.Ytfplmpfdhiagaaa
open Go.RowKit Go.Proofs.Eng Go.Proofs.Foot
set_option linter.unusedSimpArgs false
set_option linter.unusedVariables false set_option maxRecDepth 10000
attribute [local irreducible] T TL LV TH TA
end Go.Proofs.Ytfplmpfdhiagaaa

namespace Go.Proofs.Ytfplmpfdhiagaaa
open Go.RowKit Go.Proofs.Eng Go.Proofs.Foot
set_option linter.unusedSimpArgs false
set_option linter.unusedVariables false set_option maxRecDepth 10000
attribute [local irreducible] T TL LV TH TA
end Go.Proofs.Ytfplmpfdhiagaaa

namespace Go.Proofs.Ytfplmpfdhiagaaa
open Go.RowKit Go.Proofs.Eng Go.Proofs.Foot
set_option linter.unusedSimpArgs false
set_option linter.unusedVariables false set_option maxRecDepth 10000
attribute [local irreducible] T TL LV TH TA
def eqF (r k r2 k2 : List Tx) : Bool := sub r r2 && sub r2 r && sub k k2 && sub k2 k
theorem bits_mem {r k : List Tx} {p : Tx × Nat} (h : p ∈ ofM r k) : bitsM (ofM r k) p.1 = p.2 := by
  unfold bitsM; rw [mget_mem (of_nodup r k) h]; rfl
end Go.Proofs.Ytfplmpfdhiagaaa

/- Within and Clash, by the map and by the lists. -/
namespace Go.Proofs.Ytfplmpfdhiagaaa
open Go.Proofs.Eng Go.Proofs.Foot
set_option linter.unusedSimpArgs false
set_option linter.unusedVariables false
theorem bits2 (r k : List Tx) (t : Tx) : (bitsM (ofM r k) t &&& 2 ≠ 0) ↔ t ∈ k := by
  rw [bits_of]; by_cases h : t ∈ r <;> by_cases g : t ∈ k <;> simp [h, g]
theorem bits0 (r k : List Tx) (t : Tx) : (bitsM (ofM r k) t ≠ 0) ↔ (t ∈ r ∨ t ∈ k) := by
  rw [bits_of]; by_cases h : t ∈ r <;> by_cases g : t ∈ k <;> simp [h, g]
theorem clash_iff (y : TM) (t : Tx) (u : Nat) : clash1 y (t, u) = true ↔ (bitsM y t ≠ 0 ∧ (u &&& 2 ≠ 0 ∨ bitsM y t &&& 2 ≠ 0)) := by
  unfold clash1
  have e : (u ||| bitsM y t) &&& 2 = (u &&& 2) ||| (bitsM y t &&& 2) := Nat.and_or_distrib_right ..
  rw [e]
  by_cases h : bitsM y t = 0 <;> by_cases g : u &&& 2 = 0 <;> by_cases i : bitsM y t &&& 2 = 0 <;> simp [h, g, i, Nat.or_eq_zero_iff]
theorem clash_prop (r k r2 k2 : List Tx) : (ofM r k).any (clash1 (ofM r2 k2)) = true ↔ ∃ t, (t ∈ r ∨ t ∈ k) ∧ (t ∈ r2 ∨ t ∈ k2) ∧ (t ∈ k ∨ t ∈ k2) := by
  rw [List.any_eq_true]
  constructor
  · rintro ⟨⟨t, u⟩, hp, hc⟩
    rw [clash_iff, bits0, bits2] at hc
    have hu := bits_mem hp
    simp only at hu
    refine ⟨t, (of_keys_mem r k t).1 (List.mem_map_of_mem hp), hc.1, hc.2.imp (fun h => ?_) id⟩
    rw [← hu, bits2] at h
    exact h
  · rintro ⟨t, h1, h2, h3⟩
    obtain ⟨p, hp, rfl⟩ := List.mem_map.1 ((of_keys_mem r k t).2 h1)
    refine ⟨p, hp, ?_⟩
    have : clash1 (ofM r2 k2) (p.1, p.2) = true := by
      rw [clash_iff, bits0, bits2, ← bits_mem hp, bits2]
      exact ⟨h2, h3⟩
    exact this
theorem clash_eq (r k r2 k2 : List Tx) : (ofM r k).any (clash1 (ofM r2 k2)) = ((k.any fun x => decide (x ∈ r2 ++ k2)) || (k2.any fun x => decide (x ∈ r ++ k))) := by
  rw [Bool.eq_iff_iff, clash_prop]
  simp only [Bool.or_eq_true, List.any_eq_true, decide_eq_true_eq, List.mem_append]
  constructor
  · rintro ⟨t, h1, h2, h3⟩
    rcases h3 with h | h
    · exact .inl ⟨t, h, h2⟩
    · exact .inr ⟨t, h, h1⟩
  · rintro (⟨t, h, h2⟩ | ⟨t, h, h1⟩)
    · exact ⟨t, .inr h, h2, .inl h⟩
    · exact ⟨t, h1, .inr h, .inr h⟩
end Go.Proofs.Ytfplmpfdhiagaaa

/- Maps in a region that draws its order, move by move. -/
namespace Go.Proofs.Eng
open Go.RowKit
set_option linter.unusedSimpArgs false
set_option linter.unusedVariables false
set_option linter.unusedSectionVars false
section
variable {κ α : Type} [DecidableEq κ] {K : κ → Value} {V : α → Value} {l : List (κ × α)} {key : κ} {w0 : World} {D : List Nat} {zz : Option Nat} {bb : Array Bool} {pp : Nat} {fr : Bool} {fuel : Nat}
  {P : Program} {fn : Func} {R : Ending → World → Prop} {M : Md} {n : Nat} {st : Slots} {k : List Item} {w : World} {ops rest : List Oper}
  {d b s by_ : Nat} {ty : TypeId} {ps : String} {af : Array Edge} {X Y : Operand} {t kt et : TypeId} {z : Value} {dsc : TypeDesc}
theorem TLP_lookup (E : Env P) (u0 : α) (hm : Mp w0 dsc b K V l) (hD : b ∉ D) (hx : ev st X = some (.map (some b)) := by exact rfl) (ht : E.und t = some (.map kt et) := by exact rfl) (hkt : E.und kt = some dsc := by exact rfl) (he : E.inf et = some (s, by_, z) := by exact rfl) (hd : Nat.blt d n = true := by exact rfl)
    (hK : Keys dsc K := by first | exact keys_tx | exact keys_str | exact keys_int _) (hy : ev st Y = some (K key) := by exact rfl) (hz : z = V u0 := by exact rfl)
    (hk : TL (.pick w0 D zz bb pp fr fuel) P fn R M n ((d, V ((mget l key).getD u0)) :: st) ops rest k w) : TL (.pick w0 D zz bb pp fr fuel) P fn R M n st ops (⟨some d, .lookup t X Y false, ty, ps, af, none⟩ :: rest) k w :=
  TL_val hd (fun w' hw ρ h => by
    have h1 := run_lookup (key := key) E ht hkt he hK (hm.mod hw hD) false
    have h2 : (mget l key).elim z V = V ((mget l key).getD u0) := by cases mget l key <;> simp [hz]
    simp only [Bool.false_eq_true, if_false, h2] at h1
    simp [execOp, h _ _ hx, h _ _ hy, h1]) hk
end
section
variable {q : Qm} {P : Program} {fn : Func} {R : Ending → World → Prop} {M : Md} {n : Nat} {st : Slots} {k : List Item} {w : World} {ops rest : List Oper}
  {d : Nat} {ty : TypeId} {ps : String} {af : Array Edge} {X Y : Operand} {t t2 : TypeId} {K : IntKind} {x y : Int} {S S2 : List UInt8}
theorem TL_ne_d (hx : ev st X = some (.int K x) := by exact rfl) (hy : ev st Y = some (.int K y) := by exact rfl) (hd : Nat.blt d n = true := by exact rfl) (hk : TL q P fn R M n ((d, .bool (!decide (x = y))) :: st) ops rest k w) : TL q P fn R M n st ops (⟨some d, .binOp .neq t X Y t2, ty, ps, af, none⟩ :: rest) k w := by
  by_cases h : x = y
  · rw [decide_eq_true h] at hk; exact TL_ne_f hx hy h hd hk
  · rw [decide_eq_false h] at hk; exact TL_ne_t hx hy h hd hk
theorem TL_sle_d (hx : ev st X = some (.string (ofL S)) := by exact rfl) (hy : ev st Y = some (.string (ofL S2)) := by exact rfl) (hd : Nat.blt d n = true := by exact rfl)
    (hk : TL q P fn R M n ((d, .bool (decide (S ≤ S2))) :: st) ops rest k w) : TL q P fn R M n st ops (⟨some d, .binOp .leq t X Y t2, ty, ps, af, none⟩ :: rest) k w := by
  by_cases h : (S ≤ S2)
  · rw [decide_eq_true h] at hk; exact TL_sle_t hx hy h hd hk
  · rw [decide_eq_false h] at hk; exact TL_sle_f hx hy h hd hk
end
/-- Where two ways meet: what holds behind them is said once. -/
theorem T_join {ι : Type} {P : Program} {fn : Func} {R : Ending → World → Prop} {M : Md} {n : Nat} {st : Slots} {k : List Item} {w : World} {x : Code} (st' : ι → Slots) (J : ι → World → Prop)
    (hx : ∀ k', (∀ i w', J i w' → T P fn R M n (st' i) k' w') → T P fn R M n st (.code x :: k') w) (hk : ∀ i w', J i w' → T P fn R M n (st' i) k w') : T P fn R M n st (.code x :: k) w := hx k hk
theorem Ext.un {D : List Nat} {a b : World} (h : Ext a b) : Mod D a b := h.mono (fun x hx => by cases hx)
end Go.Proofs.Eng

/- Two structs that are compared. -/
namespace Go.Proofs.Eng
open Go.RowKit
set_option linter.unusedSimpArgs false
set_option linter.unusedVariables false
set_option linter.unusedSectionVars false
section
variable {q : Qm} {P : Program} {fn : Func} {R : Ending → World → Prop} {M : Md} {n : Nat} {st : Slots} {k : List Item} {w : World} {ops rest : List Oper}
  {d : Nat} {ty : TypeId} {ps : String} {af : Array Edge} {X Y : Operand} {t t2 : TypeId} {xs ys : Array Value} {r : Bool}
end
end Go.Proofs.Eng

/- In a region walked move by move: bytes as a text. -/
namespace Go.Proofs.Eng
open Go.RowKit
set_option linter.unusedSimpArgs false
set_option linter.unusedVariables false
section
variable {P : Program} {fn : Func} {R : Ending → World → Prop} {M : Md} {n : Nat} {st : Slots} {k : List Item} {w w0 : World} {ops rest : List Oper} {D : List Nat}
  {d : Nat} {ty : TypeId} {ps : String} {af : Array Edge} {X : Operand} {t t2 e : TypeId} {m c : Nat} {A : Option Addr} {zz : Option Nat} {bb : Array Bool} {pp : Nat} {fr : Bool} {fuel : Nat}
end
end Go.Proofs.Eng

/- max of two numbers; a new row of zeros. -/
namespace Go.Proofs.Eng
open Go.RowKit
set_option linter.unusedSimpArgs false
set_option linter.unusedVariables false
section
variable {q : Qm} {P : Program} {fn : Func} {R : Ending → World → Prop} {M : Md} {n : Nat} {st : Slots} {k : List Item} {w : World} {ops rest : List Oper}
  {d : Nat} {ty : TypeId} {ps : String} {af : Array Edge} {X Y : Operand} {t t2 e : TypeId} {by_ m : Nat} {z u : Value} {K K2 : IntKind} {x y : Int}
theorem TL_max (hx : ev st X = some (.int K x) := by exact rfl) (hy : ev st Y = some (.int K y) := by exact rfl) (hd : Nat.blt d n = true := by exact rfl)
    (hk : TL q P fn R M n ((d, .int K (if x < y then y else x)) :: st) ops rest k w) : TL q P fn R M n st ops (⟨some d, .call { callee := .builtin .max, args := #[X, Y], argTypes := #[t, t2] }, ty, ps, af, none⟩ :: rest) k w :=
  TL_val_w hd (fun w ρ h => by simp [execOp, resolve, invoke, builtin, Builtin.max_, Builtin.max2, h _ _ hx, h _ _ hy]) hk
theorem TL_makeSlice (E : Env P) (hx : ev st X = some (.int K x) := by exact rfl) (hy : ev st Y = some (.int K2 x) := by exact rfl) (hxa : x = (m : Int) := by first | exact rfl | omega) (ht : E.und t = some (.slice e) := by exact rfl) (he : E.inf e = some (1, by_, z) := by exact rfl) (hz : z.cells = #[u] := by exact rfl) (hbm : by_ * m ≤ 70368744177664 := by omega) (hm : m ≤ 70368744177664 := by omega) (hd : Nat.blt d n = true := by exact rfl)
    (hf : Fl q (rest.length + 1) := by first | exact trivial | exact rfl) (hq : ∀ w', Ext w w' → Kp q w' := by exact fun _ _ => trivial)
    (hk : ∀ b w', Ext w w' → w.heap.size ≤ b → b < w'.heap.size → Blk w' b e (List.replicate m u) → TL q P fn R M n ((d, .slice (some ⟨b, 0, none⟩) m m) :: st) ops rest k w') :
    TL q P fn R M n st ops (⟨some d, .makeSlice t X Y, ty, ps, af, none⟩ :: rest) k w :=
  TL_new (w' := w.alloc (.cells (Array.replicate m u) e)) hd (fun ρ h => by
    subst hxa
    obtain ⟨i, i1, i2, i3, i4⟩ := E.inf_ok _ _ _ _ he
    have wl : IntKind.i64.wrap (m : Int) = m := by rw [IntKind.wrap_i64]; omega
    have n1 : ¬ ((m : Int) < 0) := by omega
    have n2 : ¬ (281474976710656 < (by_ : Int) * (m : Int)) := by
      have : ((by_ * m : Nat) : Int) = (by_ : Int) * (m : Int) := by simp
      omega
    have hti : ∀ w, (typeInfo e).run P w = .ok i w := fun w => by
      show (do let p ← program; match p.info? e with | some i => pure i | none => stuck "no such type" : Sem TypeInfo).run P w = _
      simp only [Sem.run_bind]
      show (match P.info? e with | some i => pure i | none => stuck "no such type" : Sem TypeInfo).run P w = _
      rw [i1]
      rfl
    have wl0 : IntKind.i64.wrap 0 = 0 := by decide
    have hs := run_sizeOf' (P := P) (E.inf_ok _ _ _ _ he)
    have hzr := run_zero' (P := P) (E.inf_ok _ _ _ _ he)
    have hrow : (Array.range m).map (fun x => ([u] : List Value)[x % 1]?.getD default) = Array.replicate m u := by
      apply Array.ext
      · simp
      · intro a h1 h2
        simp [Nat.mod_one]
    have hr0 : Array.range 0 = #[] := by apply Array.ext <;> simp
    rcases Nat.eq_zero_or_pos m with h0 | h0
    · subst h0
      simp [execOp, Instr.makeSlice, run_underlying (E.und_ok _ _ ht), asInt, asIntOf, h _ _ hx, h _ _ hy, hti, i3, wl0, run_askRoom, hs, newRow, hr0]
    · have h0' : ¬ m * 1 = 0 := by omega
      simp [execOp, Instr.makeSlice, run_underlying (E.und_ok _ _ ht), asInt, asIntOf, h _ _ hx, h _ _ hy, hti, i3, wl, n1, n2, run_askRoom, hs, hzr, h0', newRow, hz]
      rw [if_neg (by omega), hrow]) hf (hq _ (Ext.alloc _ _))
    (hk w.heap.size _ (Ext.alloc _ _) (Nat.le_refl _) (by simp) (by simpa using Blk.new w e (Array.replicate m u)))
end
end Go.Proofs.Eng

namespace Go.Proofs.Ytfplmpfdhiagaaa
open Go.RowKit Go.Proofs.Eng Go.Proofs.Foot
set_option linter.unusedSimpArgs false
set_option linter.unusedVariables false set_option maxRecDepth 10000
attribute [local irreducible] T TL LV TH TA
/-- A footprint in a row: where its two lists lie, and what stands there. -/
structure FV where
  A : Option Addr
  n : Nat
  c : Nat
  B : Option Addr
  m : Nat
  d : Nat
  t : FT
def fvs (l : List FV) : List Value := (l.map fun x => [Value.slice x.A x.n x.c, Value.slice x.B x.m x.d]).flatten
def fts (l : List FV) : List FT := l.map FV.t
def fv0 : FV := ⟨none, 0, 0, none, 0, 0, ([], [])⟩
theorem fvs_cons (x : FV) (l : List FV) : fvs (x :: l) = [Value.slice x.A x.n x.c, Value.slice x.B x.m x.d] ++ fvs l := by simp [fvs]
theorem fvs_append (a b : List FV) : fvs (a ++ b) = fvs a ++ fvs b := by simp [fvs]
theorem fvs_len (l : List FV) : (fvs l).length = l.length * 2 := by
  induction l with
  | nil => rfl
  | cons x l ih => rw [fvs_cons, List.length_append, ih]; simp; omega
theorem fvs_two (l : List FV) (i : Nat) (hi : i < l.length) : ((fvs l).drop (i * 2)).take 2 = [.slice (l.getD i fv0).A (l.getD i fv0).n (l.getD i fv0).c, .slice (l.getD i fv0).B (l.getD i fv0).m (l.getD i fv0).d] := by
  induction l generalizing i with
  | nil => simp at hi
  | cons p l ih =>
    cases i with
    | zero => rw [fvs_cons]; simp
    | succ i =>
      have := ih i (by simpa using hi)
      rw [fvs_cons, show (i + 1) * 2 = [Value.slice p.A p.n p.c, Value.slice p.B p.m p.d].length + i * 2 by simp; omega, ← List.drop_drop, List.drop_left]
      simpa using this
theorem fts_get (l : List FV) (i : Nat) : (fts l).getD i ([], []) = (l.getD i fv0).t := by
  unfold fts
  rw [List.getD_eq_getElem?_getD, List.getD_eq_getElem?_getD, List.getElem?_map]
  cases l[i]? <;> rfl
def FIn (w : World) (x : FV) : Prop := Rd w x.A x.n 1 (sv x.t.1) ∧ Rd w x.B x.m 1 (sv x.t.2) ∧ x.n ≤ 50000 ∧ x.m ≤ 50000
structure Feet (w : World) (A : Option Addr) (n : Nat) (l : List FV) : Prop where
  rd : Rd w A n 2 (fvs l)
  mem : ∀ x ∈ l, FIn w x
theorem Feet.be {w w' : World} {A : Option Addr} {n : Nat} {l : List FV} (e : Ext w w') (h : Feet w A n l) : Feet w' A n l :=
  ⟨h.rd.be e, fun x hx => ⟨(h.mem x hx).1.be e, (h.mem x hx).2.1.be e, (h.mem x hx).2.2⟩⟩
theorem Feet.len {w : World} {A : Option Addr} {n : Nat} {l : List FV} (h : Feet w A n l) : l.length = n := by
  have := h.rd.1
  rw [fvs_len] at this
  omega
theorem Feet.get {w : World} {A : Option Addr} {n : Nat} {l : List FV} (h : Feet w A n l) (i : Nat) (hi : i < n) : FIn w (l.getD i fv0) :=
  h.mem _ (by rw [List.getD_eq_getElem?_getD, List.getElem?_eq_getElem (by rw [h.len]; exact hi)]; exact List.getElem_mem _)
theorem clash_f {w : World} {x y : FV} (h : FIn w x) (g : FIn w y) : Ret Try.prog 37 [.agg #[.slice x.A x.n x.c, .slice x.B x.m x.d], .agg #[.slice y.A y.n y.c, .slice y.B y.m y.d]] w (fun v w' => v = .bool (clP x.t y.t) ∧ Ext w w') :=
  (Clash_c x.A x.B y.A y.B x.n x.m y.n y.m x.c x.d y.c y.d x.t.1 x.t.2 y.t.1 y.t.2 w h.1 h.2.1 g.1 g.2.1 h.2.2.1 h.2.2.2 g.2.2.1 g.2.2.2).mono fun v w' ⟨a, b⟩ => ⟨by rw [a, clash_eq]; rfl, b⟩
theorem ahead_c (A : Option Addr) (n c : Nat) (l : List FV) (p : Nat) (w : World) (hf : Feet w A n l) (hp : p < n) (hn : n ≤ 1000) (hc : n ≤ c) :
    Ret Try.prog 80 [.slice A n c, .int .i64 (p : Int)] w (fun v w' => ∃ P np cp, v = .slice P np cp ∧ Ext w w' ∧ Own w' w.heap.size 3 1 P np cp (nv (aheadT (fts l) p))) := by
  have hl := hf.len
  refine ret_T (n := 29) Try.func80 rfl rfl ?_
  repeat (first | refine T_seq ?_ | refine T_region ?_ | refine T_block ?_ | refine TL_nil ?_ | refine TL_move (hk := ?_) | refine TL_assign (hk := ?_) | refine TL_len TE (hk := ?_) | refine TL_slice_hi TE (hk := ?_))
  refine T_loop (ι := Nat × Option Addr × Nat × Nat) (fun i => [(12, .int .i64 (i.1 : Int)), (11, .int .i64 (p : Int)), (10, .slice A p c), (5, .slice i.2.1 i.2.2.1 i.2.2.2), (0, .slice A n c), (1, .int .i64 (p : Int))])
    (fun i w' => i.1 ≤ p ∧ Ext w w' ∧ Own w' w.heap.size 3 1 i.2.1 i.2.2.1 i.2.2.2 (nv (aheadU (fts l) p i.1))) (fun i => p - i.1) (0, none, 0, 0) (.c rfl (.c rfl (.c rfl (.c rfl (.c rfl (.c rfl (.n))))))) ⟨Nat.zero_le _, Mod.refl _ _, Own.nil _ _ _ _⟩ ?_
  rintro ⟨i, O, on, oc⟩ w1 ⟨hi, e1, o1⟩ ih
  simp only at hi e1 o1 ih ⊢
  by_cases hlt : i < p
  · have f1 := hf.be e1
    have t1 := fvs_two l i (by omega)
    have t2 := fvs_two l p (by omega)
    have g1 := f1.get i (by omega)
    have g2 := f1.get p hp
    have hcl : clP (l.getD i fv0).t (l.getD p fv0).t = clA (fts l) i p := by unfold clA; rw [fts_get, fts_get]
    generalize l.getD i fv0 = x at t1 g1 hcl
    generalize l.getD p fv0 = y at t2 g2 hcl
    have r1 := f1.rd
    have rp := r1.take (h := p) (by omega)
    have ol := o1.len
    rw [nv_length, Nat.mul_one] at ol
    have hle := aheadU_len (fts l) p i
    repeat (first | refine T_seq ?_ | refine T_region ?_ | refine T_cond_true rfl ?_ | refine T_block ?_ | refine T_skip ?_ | refine TL_lt_t (hk := ?_) | refine TL_nil ?_ | refine TL_move (hk := ?_) | refine TL_indexAddrn TE (hk := ?_))
    refine TL_loada TE (cs := [.slice x.A x.n x.c, .slice x.B x.m x.d]) (hx := rfl) (ht := rfl) (hi := rfl) (hr := r1) (hc := t1) (h0 := Nat.succ_pos _) (hk := ?_)
    --
    refine TL_alloc TE (hk := ?_); intro b7 w2 e2 h2 h2' k2
    repeat (refine TL_assign (hk := ?_))
    refine TL_storea TE (hk := ?_); intro w3 m3 z3 k3
    have e13 : Ext w1 w3 := Mod.step e2 m3 (by simp; omega)
    have r3 := r1.be e13
    have o3 := o1.be e13
    have q1 : FIn w3 x := ⟨g1.1.be e13, g1.2.1.be e13, g1.2.2⟩
    have q2 : FIn w3 y := ⟨g2.1.be e13, g2.2.1.be e13, g2.2.2⟩
    clear r1 rp k2 g1 g2 f1
    repeat (first | refine T_seq ?_ | refine T_region_q TE.mixed (by kernel_rfl) ?_ | refine TL_nil ?_)
    refine TL_loadb TE (cs := [.slice x.A x.n x.c, .slice x.B x.m x.d]) (o := 0) rfl rfl k3 rfl rfl (Nat.succ_pos _) (hk := ?_)
    repeat (first | refine TL_move (hk := ?_) | refine TL_indexAddrn TE (hk := ?_))
    refine TL_loada TE (cs := [.slice y.A y.n y.c, .slice y.B y.m y.d]) (hx := rfl) (ht := rfl) (hi := rfl) (hr := r3) (hc := t2) (h0 := Nat.succ_pos _) (hk := ?_)
    refine TL_call_q TE rfl rfl rfl ((fun w' e' => clash_f (x := x) (y := y) ⟨q1.1.be e', q1.2.1.be e', q1.2.2⟩ ⟨q2.1.be e', q2.2.1.be e', q2.2.2⟩)) ?_
    refine TL_nil_q ?_; intro w4 e4
    rw [hcl]
    have o4 := o3.be e4
    have e14 := e13.ext e4
    clear o3 r3 k3
    by_cases hb : clA (fts l) i p = true
    · rw [hb]
      repeat (first | refine T_region ?_ | refine T_cond_true rfl ?_ | refine TL_move (hk := ?_))
      refine TL_buildSlice TE (hk := ?_); intro b5 w5 e5 h5 h5' k5
      replace k5 : Blk w5 b5 3 (nv [i]) := k5
      have o5 := o4.be e5
      have r5 : Rd w5 (some ⟨b5, 0, none⟩) 1 1 (nv [i]) := Rd.blk k5 rfl
      have hone := nv_one [i]
      have z4 := (e1.ext e14).size
      have z5 := e5.size
      clear o4 o1
      --
      refine TL_append TE (hk := ?_); intro O6 c6 w6 o6 m6 n6
      rw [← nv_append] at o6
      repeat (first | refine T_region ?_ | refine T_inBlock ?_ | refine TL_add (hk := ?_) | refine TL_nil ?_ | refine TL_move (hk := ?_) | refine TL_assign (hk := ?_))
      refine ih (i + 1, O6, on + 1, c6) w6 _ (by simp only; omega) ⟨by simp only; omega, ((e1.ext e14).ext e5).own m6 o5.hi, ?_⟩ (.c rfl (.c rfl (.c rfl (.c rfl (.c rfl (.c rfl (.n)))))))
      simp only
      rw [aheadU_succ, if_pos hb]
      exact o6
    · have hb' : clA (fts l) i p = false := by simpa using hb
      rw [hb']
      repeat (first | refine T_region ?_ | refine T_cond_false rfl ?_ | refine T_inBlock ?_ | refine T_skip ?_ | refine TL_add (hk := ?_) | refine TL_nil ?_ | refine TL_move (hk := ?_))
      refine ih (i + 1, O, on, oc) w4 _ (by simp only; omega) ⟨by simp only; omega, e1.ext e14, ?_⟩ (.c rfl (.c rfl (.c rfl (.c rfl (.c rfl (.c rfl (.n)))))))
      simp only
      rw [aheadU_succ, if_neg hb, List.append_nil]
      exact o4
  · have : i = p := by omega
    subst this
    clear ih
    repeat (first | refine T_seq ?_ | refine T_region ?_ | refine T_cond_false rfl ?_ | refine T_exit rfl ?_ | refine TL_lt_f (hk := ?_) | refine TL_nil ?_ | refine TL_move (hk := ?_) | refine TL_assign (hk := ?_))
    exact T_ret1 rfl rfl ⟨_, _, _, rfl, e1, o1⟩
end Go.Proofs.Ytfplmpfdhiagaaa

namespace Go.Proofs.Ytfplmpfdhiagaaa
open Go.RowKit Go.Proofs.Eng Go.Proofs.Foot
set_option linter.unusedSimpArgs false
set_option linter.unusedVariables false set_option maxRecDepth 10000
attribute [local irreducible] T TL LV TH TA
theorem foldl_take {α : Type} (f : α → Nat → α) (a : α) (l : List Nat) (j : Nat) (hj : j < l.length) : (l.take (j + 1)).foldl f a = f ((l.take j).foldl f a) (l.getD j 0) := by
  rw [List.take_succ_eq_append_getElem hj, List.foldl_append]
  simp [List.getD_eq_getElem?_getD, List.getElem?_eq_getElem hj]
theorem lvS_cast (out : List Nat) (m k : Nat) : (if (m : Int) < ((out.getD k 0 : Nat) : Int) + 1 then ((out.getD k 0 : Nat) : Int) + 1 else (m : Int)) = ((lvS out m k : Nat) : Int) := by
  unfold lvS
  split <;> split <;> omega
theorem Levels_c (A : Option Addr) (n c : Nat) (l : List FV) (w : World) (hf : Feet w A n l) (hn : n ≤ 1000) (hc : n ≤ c) :
    Ret Try.prog 45 [.slice A n c] w (fun v w' => ∃ P np cp, v = .slice P np cp ∧ Ext w w' ∧ Own w' w.heap.size 3 1 P np cp (nv (lvN (fts l) n))) := by
  have hl := hf.len
  refine ret_T (n := 35) Try.func45 rfl rfl ?_
  repeat (first | refine T_seq ?_ | refine T_region ?_ | refine T_block ?_ | refine TL_nil ?_ | refine TL_move (hk := ?_) | refine TL_assign (hk := ?_) | refine TL_len TE (hk := ?_))
  refine T_loop (ι := Nat × Option Addr × Nat × Nat) (fun i => [(10, .int .i64 (i.1 : Int)), (9, .int .i64 (n : Int)), (3, .slice i.2.1 i.2.2.1 i.2.2.2), (0, .slice A n c)])
    (fun i w' => i.1 ≤ n ∧ Ext w w' ∧ Own w' w.heap.size 3 1 i.2.1 i.2.2.1 i.2.2.2 (nv (lvN (fts l) i.1))) (fun i => n - i.1) (0, none, 0, 0) (.c rfl (.c rfl (.c rfl (.c rfl (.n))))) ⟨Nat.zero_le _, Mod.refl _ _, Own.nil _ _ _ _⟩ ?_
  rintro ⟨i, O, on, oc⟩ w1 ⟨hi, e1, o1⟩ ih
  simp only at hi e1 o1 ih ⊢
  have ol := o1.len
  rw [nv_length, Nat.mul_one, lvN_len] at ol
  subst ol
  by_cases hlt : i < n
  · repeat (first | refine T_seq ?_ | refine T_region ?_ | refine T_cond_true rfl ?_ | refine T_block ?_ | refine T_skip ?_ | refine TL_lt_t (hk := ?_) | refine TL_nil ?_ | refine TL_move (hk := ?_) | refine TL_assign (hk := ?_))
    refine TL_call TE (hc := ahead_c A n c l i _ (hf.be e1) hlt hn hc) (hk := ?_)
    rintro _ w2 ⟨P, np, cp, rfl, e2, oP⟩
    have lP := oP.len
    rw [nv_length, Nat.mul_one] at lP
    have rP := oP.rd
    have o2 := o1.be e2
    have rO := o2.rd
    have z1 := e1.size
    have z2 := e2.size
    have hob := lvN_le (fts l) i
    have hol := lvN_len (fts l) i
    obtain ⟨out, hout⟩ : ∃ out, lvN (fts l) i = out := ⟨_, rfl⟩
    obtain ⟨ah, hah⟩ : ∃ ah, aheadT (fts l) i = ah := ⟨_, rfl⟩
    have hal : ∀ x ∈ ah, x < i := fun x hx => by rw [← hah] at hx; exact aheadU_lt hx
    have hnp : np ≤ i := by rw [← lP]; exact aheadU_len _ _ _
    rw [hout] at rO hob hol
    rw [hah] at rP lP
    repeat (first | refine T_block ?_ | refine TL_nil ?_ | refine TL_move (hk := ?_) | refine TL_len TE (hk := ?_))
    refine T_loop (ι := Nat × Nat) (fun j => [(17, .int .i64 (j.1 : Int)), (16, .int .i64 (np : Int)), (15, .slice P np cp), (5, .int .i64 (j.2 : Int)), (3, .slice O i oc), (10, .int .i64 (i : Int)), (9, .int .i64 (n : Int)), (0, .slice A n c)])
      (fun j w' => j.1 ≤ np ∧ Ext w2 w' ∧ j.2 = (ah.take j.1).foldl (lvS out) 0 ∧ j.2 ≤ i + 1) (fun j => np - j.1) (0, 0) (.c rfl (.c rfl (.c rfl (.c rfl (.c rfl (.c rfl (.c rfl (.c rfl (.n))))))))) ⟨Nat.zero_le _, Mod.refl _ _, rfl, Nat.zero_le _⟩ ?_
    rintro ⟨j, lev⟩ w3 ⟨hj, e3, hlev, hlb⟩ ihj
    simp only at hj e3 hlev hlb ihj ⊢
    have rP3 := rP.be e3
    have rO3 := rO.be e3
    by_cases hjl : j < np
    · have hv := nv_get ah j (by omega)
      have hft := foldl_take (lvS out) 0 ah j (by omega)
      have hk1 : ah.getD j 0 < i := hal _ (by rw [List.getD_eq_getElem?_getD, List.getElem?_eq_getElem (by omega)]; exact List.getElem_mem _)
      obtain ⟨k, hk⟩ : ∃ k, ah.getD j 0 = k := ⟨_, rfl⟩
      rw [hk] at hv hft hk1
      have hv2 := nv_get out k (by omega)
      have hb2 := hob k
      have hcast := lvS_cast out lev k
      have hle := lvS_le hob lev k hlb
      repeat (first | refine T_seq ?_ | refine T_region ?_ | refine T_cond_true rfl ?_ | refine T_block ?_ | refine T_skip ?_ | refine TL_add (hk := ?_) | refine TL_lt_t (hk := ?_) | refine TL_nil ?_ | refine TL_move (hk := ?_) | refine TL_assign (hk := ?_) | refine TL_load_rd TE (hk := ?_) | refine TL_indexAddr1n TE (hk := ?_))
      refine TL_max (hk := ?_)
      rw [hcast]
      repeat (first | refine T_region ?_ | refine T_inBlock ?_ | refine TL_add (hk := ?_) | refine TL_nil ?_ | refine TL_move (hk := ?_) | refine TL_assign (hk := ?_))
      exact ihj (j + 1, lvS out lev k) w3 _ (by simp only; omega) ⟨by simp only; omega, e3, by simp only; rw [hft, ← hlev], hle⟩ (.c rfl (.c rfl (.c rfl (.c rfl (.c rfl (.c rfl (.c rfl (.c rfl (.n)))))))))
    · have : j = np := by omega
      subst this
      rw [← lP, List.take_length] at hlev
      have o3 := o2.be e3
      have e13 := e2.ext e3
      have z3 := e3.size
      clear ihj rP3 rO3 rP rO o2
      repeat (first | refine T_seq ?_ | refine T_region ?_ | refine T_cond_false rfl ?_ | refine T_exit rfl ?_ | refine TL_lt_f (hk := ?_) | refine TL_nil ?_ | refine TL_move (hk := ?_))
      refine TL_buildSlice TE (hk := ?_); intro b5 w5 e5 h5 h5' k5
      replace k5 : Blk w5 b5 3 (nv [lev]) := k5
      have o5 := o3.be e5
      have r5 : Rd w5 (some ⟨b5, 0, none⟩) 1 1 (nv [lev]) := Rd.blk k5 rfl
      have hone := nv_one [lev]
      have z5 := e5.size
      clear o3 o1
      --
      refine TL_append TE (hk := ?_); intro O6 c6 w6 o6 m6 n6
      rw [← nv_append] at o6
      repeat (first | refine T_region ?_ | refine T_inBlock ?_ | refine TL_add (hk := ?_) | refine TL_nil ?_ | refine TL_move (hk := ?_) | refine TL_assign (hk := ?_))
      refine ih (i + 1, O6, i + 1, c6) w6 _ (by simp only; omega) ⟨by simp only; omega, ((e1.ext e13).ext e5).own m6 o5.hi, ?_⟩ (.c rfl (.c rfl (.c rfl (.c rfl (.n)))))
      have : lvN (fts l) (i + 1) = lvN (fts l) i ++ [lev] := by
        show lvN (fts l) i ++ [lvOf (fts l) (lvN (fts l) i) i] = _
        unfold lvOf
        rw [hah, hout, ← hlev]
      simp only
      rw [this]
      exact o6
  · have : i = n := by omega
    subst this
    clear ih
    repeat (first | refine T_seq ?_ | refine T_region ?_ | refine T_cond_false rfl ?_ | refine T_exit rfl ?_ | refine TL_lt_f (hk := ?_) | refine TL_nil ?_ | refine TL_move (hk := ?_) | refine TL_assign (hk := ?_))
    exact T_ret1 rfl rfl ⟨_, _, _, rfl, e1, o1⟩
end Go.Proofs.Ytfplmpfdhiagaaa

namespace Go.Proofs.Ytfplmpfdhiagaaa
open Go.RowKit Go.Proofs.Eng Go.Proofs.Foot
set_option linter.unusedSimpArgs false
set_option linter.unusedVariables false set_option maxRecDepth 10000
attribute [local irreducible] T TL LV TH TA
end Go.Proofs.Ytfplmpfdhiagaaa

/- How many have one level, at most. -/
namespace Go.Proofs.Foot
open Go.Proofs.Eng
set_option linter.unusedSimpArgs false
set_option linter.unusedVariables false
abbrev kI : Nat → Value := fun n => Value.int .i64 ((n : Nat) : Int)
def cntS (m : List (Nat × Nat)) (x : Nat) : List (Nat × Nat) := mput m x ((mget m x).getD 0 + 1)
def cntM (ls : List Nat) : List (Nat × Nat) := ls.foldl cntS []
theorem take_snoc (ls : List Nat) (j : Nat) (hj : j < ls.length) : ls.take (j + 1) = ls.take j ++ [ls.getD j 0] := by
  rw [List.take_succ_eq_append_getElem hj]
  simp [List.getD_eq_getElem?_getD, List.getElem?_eq_getElem hj]
def wdU (ls : List Nat) : Nat → Nat
  | 0 => 0
  | j + 1 => max (wdU ls j) ((ls.take (j + 1)).count (ls.getD j 0))
def wdR (ls : List Nat) : Nat → Nat
  | 0 => 0
  | j + 1 => max (wdR ls j) (ls.count (ls.getD j 0))
def wdT (ls : List Nat) : Nat := wdR ls ls.length
end Go.Proofs.Foot

namespace Go.Proofs.Ytfplmpfdhiagaaa
open Go.RowKit Go.Proofs.Eng Go.Proofs.Foot
set_option linter.unusedSimpArgs false
set_option linter.unusedVariables false set_option maxRecDepth 10000
attribute [local irreducible] T TL LV TH TA
end Go.Proofs.Ytfplmpfdhiagaaa

namespace Go.Proofs.Ytfplmpfdhiagaaa
open Go.RowKit Go.Proofs.Eng Go.Proofs.Foot
set_option linter.unusedSimpArgs false
set_option linter.unusedVariables false set_option maxRecDepth 10000
attribute [local irreducible] T TL LV TH TA
def totU (l : List FV) (i : Nat) : Nat := ((l.take i).map fun x => x.n + x.m).sum
theorem totU_succ (l : List FV) (i : Nat) (hi : i < l.length) : totU l (i + 1) = totU l i + ((l.getD i fv0).n + (l.getD i fv0).m) := by
  unfold totU
  rw [List.take_succ_eq_append_getElem hi, List.map_append, List.sum_append]
  simp only [List.map_cons, List.map_nil, List.sum_cons, List.sum_nil, Nat.add_zero]
  rw [List.getD_eq_getElem?_getD, List.getElem?_eq_getElem hi]
  rfl
theorem le_tot (l : List FV) : ∀ x ∈ l, x.n + x.m ≤ (l.map fun x => x.n + x.m).sum := by
  induction l with
  | nil => simp
  | cons y l ih =>
    intro x hx
    rw [List.map_cons, List.sum_cons]
    rcases List.mem_cons.1 hx with rfl | h
    · omega
    · have := ih x h; omega
theorem fvs_at0 (l : List FV) (i : Nat) (hi : i < l.length) : (fvs l)[i * 2 + 0]? = some (.slice (l.getD i fv0).A (l.getD i fv0).n (l.getD i fv0).c) := by
  have h := fvs_two l i hi
  have := congrArg (fun x : List Value => x[0]?) h
  simpa using this
theorem fvs_at1 (l : List FV) (i : Nat) (hi : i < l.length) : (fvs l)[i * 2 + 1]? = some (.slice (l.getD i fv0).B (l.getD i fv0).m (l.getD i fv0).d) := by
  have h := fvs_two l i hi
  have := congrArg (fun x : List Value => x[1]?) h
  simpa using this
theorem many_c (A : Option Addr) (n c : Nat) (l : List FV) (w : World) (h : Rd w A n 2 (fvs l)) (hn : n ≤ 9223372036854775807) (hs : ∀ x ∈ l, x.n ≤ 8796093021952 ∧ x.m ≤ 8796093021952) :
    Ret Try.prog 44 [.slice A n c] w (fun v w' => (v = .bool true ∨ v = .bool false ∧ n ≤ 40 ∧ ∀ x ∈ l, x.n + x.m ≤ 1500) ∧ Ext w w') := by
  have hl : l.length = n := by have := h.1; rw [fvs_len] at this; omega
  refine ret_T (n := 37) Try.func44 rfl rfl ?_
  repeat (first | refine T_seq ?_ | refine T_region ?_ | refine T_block ?_ | refine TL_nil ?_ | refine TL_assign (hk := ?_))
  refine T_loop (ι := Nat) (fun i => [(4, .int .i64 (i : Int)), (3, .int .i64 ((totU l i : Nat) : Int)), (0, .slice A n c)]) (fun i w' => Ext w w' ∧ i ≤ n ∧ i ≤ 100 ∧ totU l i ≤ i * 17592186043904) (fun i => n - i) 0 (.c rfl (.c rfl (.c rfl (.n)))) ⟨Mod.refl _ _, Nat.zero_le _, Nat.zero_le _, by simp [totU]⟩ ?_
  rintro i w1 ⟨e1, hi, hi2, ht⟩ ih
  have h1 := h.be e1
  by_cases hlt : i < n
  · by_cases hlt2 : i < 100
    · have hA : A ≠ none := by obtain ⟨_, _, hq, _⟩ := h1.2 (by omega); rw [hq]; simp
      have hv0 := fvs_at0 l i (by omega)
      have hv1 := fvs_at1 l i (by omega)
      have hsu := totU_succ l i (by omega)
      have hb := hs (l.getD i fv0) (by rw [List.getD_eq_getElem?_getD, List.getElem?_eq_getElem (by omega)]; exact List.getElem_mem _)
      generalize l.getD i fv0 = x at hv0 hv1 hsu hb
      have hc : ((totU l i : Nat) : Int) + (x.n : Int) + (x.m : Int) = ((totU l (i + 1) : Nat) : Int) := by omega
      repeat (first | refine T_seq ?_ | refine T_region ?_ | refine T_region_q TE.mixed (by kernel_rfl) ?_ | refine T_cond_true rfl ?_ | refine T_block ?_ | refine T_skip ?_ | refine TL_add (hk := ?_) | refine TL_lt_t (hk := ?_) | refine TL_nil ?_ | refine TL_move (hk := ?_) | refine TL_assign (hk := ?_) | refine TL_load_rd TE (hk := ?_) | refine TL_fieldAddr_e TE (hk := ?_) | refine TL_indexAddrn TE (hk := ?_) | refine TL_len TE (hk := ?_) | refine TL_yes (hk := ?_) | refine TL_pick_t (hk := ?_))
      rw [hc]
      --
      refine TL_nil_q ?_; intro w2 e2
      repeat (first | refine T_region ?_ | refine T_inBlock ?_ | refine TL_add (hk := ?_) | refine TL_nil ?_ | refine TL_move (hk := ?_) | refine TL_assign (hk := ?_))
      exact ih (i + 1) _ _ (by omega) ⟨e1.ext e2, by omega, by omega, by omega⟩ (.c rfl (.c rfl (.c rfl (.n))))
    · have : 40 < n := by omega
      clear ih
      repeat (first | refine T_seq ?_ | refine T_region ?_ | refine T_cond_false rfl ?_ | refine T_exit rfl ?_ | refine TL_lt_t (hk := ?_) | refine TL_lt_f (hk := ?_) | refine TL_gt_t (hk := ?_) | refine TL_nil ?_ | refine TL_move (hk := ?_) | refine TL_assign (hk := ?_) | refine TL_len TE (hk := ?_) | refine TL_yes (hk := ?_) | refine TL_no (hk := ?_) | refine TL_pick_t (hk := ?_))
      exact T_ret1 rfl rfl ⟨.inl rfl, e1⟩
  · have : i = n := by omega
    subst this
    clear ih
    by_cases h40 : 40 < i
    · repeat (first | refine T_seq ?_ | refine T_region ?_ | refine T_cond_false rfl ?_ | refine T_exit rfl ?_ | refine TL_lt_f (hk := ?_) | refine TL_gt_t (hk := ?_) | refine TL_nil ?_ | refine TL_move (hk := ?_) | refine TL_assign (hk := ?_) | refine TL_len TE (hk := ?_) | refine TL_no (hk := ?_) | refine TL_pick_t (hk := ?_) | refine TL_pick_f (hk := ?_))
      exact T_ret1 rfl rfl ⟨.inl rfl, e1⟩
    · by_cases h15 : 1500 < totU l i
      · repeat (first | refine T_seq ?_ | refine T_region ?_ | refine T_cond_false rfl ?_ | refine T_exit rfl ?_ | refine TL_lt_f (hk := ?_) | refine TL_gt_t (hk := ?_) | refine TL_gt_f (hk := ?_) | refine TL_nil ?_ | refine TL_move (hk := ?_) | refine TL_assign (hk := ?_) | refine TL_len TE (hk := ?_) | refine TL_yes (hk := ?_) | refine TL_no (hk := ?_) | refine TL_pick_f (hk := ?_))
        exact T_ret1 rfl rfl ⟨.inl rfl, e1⟩
      · repeat (first | refine T_seq ?_ | refine T_region ?_ | refine T_cond_false rfl ?_ | refine T_exit rfl ?_ | refine TL_lt_f (hk := ?_) | refine TL_gt_f (hk := ?_) | refine TL_nil ?_ | refine TL_move (hk := ?_) | refine TL_assign (hk := ?_) | refine TL_len TE (hk := ?_) | refine TL_yes (hk := ?_) | refine TL_no (hk := ?_) | refine TL_pick_f (hk := ?_))
        refine T_ret1 rfl rfl ⟨.inr ⟨rfl, by omega, fun x hx => ?_⟩, e1⟩
        have := le_tot l x hx
        unfold totU at h15
        rw [← hl, List.take_length] at h15
        omega
end Go.Proofs.Ytfplmpfdhiagaaa

namespace Go.Proofs.Ytfplmpfdhiagaaa
open Go.RowKit Go.Proofs.Eng Go.Proofs.Foot
set_option linter.unusedSimpArgs false
set_option linter.unusedVariables false set_option maxRecDepth 10000
attribute [local irreducible] T TL LV TH TA
end Go.Proofs.Ytfplmpfdhiagaaa

namespace Go.Proofs.Ytfplmpfdhiagaaa
open Go.RowKit Go.Proofs.Eng Go.Proofs.Codec
set_option linter.unusedSimpArgs false
set_option linter.unusedVariables false set_option maxRecDepth 10000
attribute [local irreducible] T TL LV TH TA

theorem Clone_c (A : Option Addr) (n c : Nat) (l : List UInt8) (w : World) (h : Rd w A n 1 (bv l)) (hn : n ≤ 70368744177664) :
    Ret Try.prog 85 [.slice A n c] w (fun v w' => ∃ A' c', v = .slice A' n c' ∧ Ext w w' ∧ Own w' w.heap.size 5 1 A' n c' (bv l)) := by
  cases A with
  | none =>
    obtain ⟨rfl, hl⟩ := h.none
    rw [hl]
    refine ret_T (n := 8) Try.func85 rfl rfl ?_
    repeat (first | refine T_seq ?_ | refine T_region ?_ | refine T_cond_true rfl ?_ | refine TL_nil_t TE (hk := ?_) | refine TL_nil ?_ | refine TL_move (hk := ?_) | refine TL_assign (hk := ?_))
    exact T_ret1 rfl rfl ⟨none, 0, rfl, Mod.refl _ _, Own.nil _ _ _ _⟩
  | some a =>
    refine ret_T (n := 8) Try.func85 rfl rfl ?_
    repeat (first | refine T_seq ?_ | refine T_region ?_ | refine T_cond_false rfl ?_ | refine T_skip ?_ | refine TL_nil_f TE (hk := ?_) | refine TL_nil ?_ | refine TL_move (hk := ?_) | refine TL_assign (hk := ?_))
    refine TL_buildSlice TE (hk := ?_); intro b1 w1 e1 h1 h2 k1
    have o1 : Own w1 w.heap.size 5 1 (some ⟨b1, 0, none⟩) 0 0 [] := Own.of_blk k1 h1 rfl (by decide)
    have s1 := e1.size
    repeat (refine TL_move (hk := ?_))
    refine TL_append TE (hk := ?_); intro A2 c2 w2 o2 m2 n2
    repeat (first | refine TL_nil ?_ | refine TL_assign (hk := ?_))
    refine T_ret1 rfl rfl ⟨A2, c2, by simp, e1.step m2 (fun x hx => .inr (by simp [blkL] at hx; omega)), ?_⟩
    simpa using o2

theorem PutUint_c (A : Option Addr) (n c : Nat) (l : List UInt8) (x : Nat) (w : World) {z : Int} (hz : z = (x : Int)) (h : Rd w A n 1 (bv l)) (hn : n ≤ 70368744177000) (hx : x < 2 ^ 64) :
    Ret Try.prog 55 [.slice A n c, .int .u64 z] w (fun v w' => ∃ A' n' c', v = .slice A' n' c' ∧ Ext w w' ∧ Own w' w.heap.size 5 1 A' n' c' (bv (l ++ encU x))) := by
  subst hz
  have hlen : l.length = n := by simpa using h.1
  refine ret_T (n := 23) Try.func55 rfl rfl ?_
  repeat (first | refine T_seq ?_ | refine T_region ?_ | refine TL_nil ?_ | refine TL_move (hk := ?_) | refine TL_assign (hk := ?_))
  refine TL_call TE (hc := Clone_c A n c l w h (by omega)) (hk := ?_)
  rintro _ w1 ⟨A1, c1, rfl, e1, o1⟩
  have s1 := e1.size
  repeat (first | refine T_seq ?_ | refine T_block ?_ | refine TL_nil ?_ | refine TL_assign (hk := ?_))
  refine T_loop (ι := (Option Addr × Nat × Nat) × List UInt8 × Nat) (fun i => [(5, .slice i.1.1 i.1.2.1 i.1.2.2), (1, .int .u64 (i.2.2 : Int))])
    (fun i w' => Ext w w' ∧ Own w' w.heap.size 5 1 i.1.1 i.1.2.1 i.1.2.2 (bv (l ++ i.2.1)) ∧ i.2.1 ++ encU i.2.2 = encU x ∧ i.2.2 < 2 ^ 64) (fun i => i.2.2) ((A1, n, c1), [], x) (.c rfl (.c rfl (.n))) ⟨e1, by simpa using o1, rfl, hx⟩ ?_
  rintro ⟨⟨A2, n2, c2⟩, pre, m⟩ w2 ⟨e2, o2, hpre, hm⟩ ih
  simp only at e2 o2 hpre hm ih ⊢
  have s2 := e2.size
  have hn2 := o2.len
  have hl10 := encU_len64 hx
  rw [← hpre] at hl10
  simp only [bv_length, List.length_append, Nat.mul_one] at hn2 hl10
  have hp := encU_pos m
  by_cases h128 : m < 128
  · repeat (first | refine T_seq ?_ | refine T_region ?_ | refine T_cond_false rfl ?_ | refine T_exit rfl ?_ | refine TL_ge_f (hk := ?_) | refine TL_nil ?_ | refine TL_move (hk := ?_) | refine TL_conv TE (hk := ?_))
    refine TL_buildSlice TE (hk := ?_); intro b3 w3 e3 h31 h32 k3
    have s3 := e3.size
    --
    refine TL_append TE (hk := ?_); intro A4 c4 w4 o4 m4 n4
    repeat (first | refine TL_nil ?_ | refine TL_assign (hk := ?_))
    refine T_ret1 rfl rfl ⟨A4, _, c4, rfl, (e2.ext e3).step m4 (fun y hy => .inr ?_), ?_⟩
    · cases A2 with
      | none => simp [blkL] at hy
      | some ad => simp [blkL] at hy; rw [hy]; exact o2.hi ad rfl
    · rw [bv_snoc _ _ (by omega), List.append_assoc] at o4
      rw [← hpre, encU_lt h128]
      exact o4
  · repeat (first | refine T_seq ?_ | refine T_region ?_ | refine T_cond_true rfl ?_ | refine T_block ?_ | refine T_skip ?_ | refine TL_ge_t (hk := ?_) | (refine TL_or (hk := ?_); intro _) | refine TL_nil ?_ | refine TL_move (hk := ?_) | refine TL_conv_nat TE (hk := ?_))
    refine TL_buildSlice TE (hk := ?_); intro b3 w3 e3 h31 h32 k3
    have s3 := e3.size
    --
    refine TL_append TE (hk := ?_); intro A4 c4 w4 o4 m4 n4
    repeat (first | refine T_region ?_ | refine T_inBlock ?_ | refine TL_shr (hk := ?_) | refine TL_nil ?_ | refine TL_move (hk := ?_) | refine TL_assign (hk := ?_))
    have ho : Own w4 w.heap.size 5 1 A4 (n2 + 1) c4 (bv (l ++ (pre ++ [UInt8.ofNat (m % 128 + 128)]))) := by
      have e : m % 2 ^ 8 ||| 128 = m % 128 + 128 := by rw [or128 _ (by omega)]; omega
      have o5 : Own w4 w.heap.size 5 1 A4 (n2 + 1) c4 (bv (l ++ pre) ++ [.int .u8 ((m % 2 ^ 8 ||| 128 : Nat) : Int)]) := o4
      rw [e, bv_snoc _ _ (by omega), List.append_assoc] at o5
      exact o5
    refine ih ⟨(A4, n2 + 1, c4), pre ++ [UInt8.ofNat (m % 128 + 128)], m / 128⟩ w4 _ (by simp only; omega) ⟨(e2.ext e3).step m4 (fun y hy => .inr ?_), ho, ?_, by simp only; omega⟩ (.c rfl (.c rfl (.n)))
    · cases A2 with
      | none => simp [blkL] at hy
      | some ad => simp [blkL] at hy; rw [hy]; exact o2.hi ad rfl
    · rw [← hpre, encU_ge h128]; simp
end Go.Proofs.Ytfplmpfdhiagaaa

namespace Go.Proofs.Ytfplmpfdhiagaaa
open Go.RowKit Go.Proofs.Eng Go.Proofs.Codec
set_option linter.unusedSimpArgs false
set_option linter.unusedVariables false set_option maxRecDepth 10000
attribute [local irreducible] T TL LV TH TA
set_option maxHeartbeats 1000000

/-- A Reader (of either package: t is its type's number). -/
structure Rdr (w : World) (t : TypeId) (b : Nat) (s : RS) (A : Option Addr) (n c : Nat) : Prop where
  blk : Blk w b t [.slice A n c, .int .i64 (s.pos : Int), .int .i64 (s.last : Int), .int .i64 s.err, .int .i64 (s.spot : Int)]
  rd : Rd w A n 1 (bv s.b)
  off : Off A [b]
  len : s.b.length = n
  pos : s.pos ≤ n
  last : s.last ≤ n
  big : n ≤ 7036874417
  cap : n ≤ c
theorem Rdr.mod {w w' : World} {t : TypeId} {b : Nat} {s : RS} {A : Option Addr} {n c : Nat} {S : List Nat} (h : Rdr w t b s A n c) (hm : Mod S w w') (hb : b ∉ S) (hA : Off A S) : Rdr w' t b s A n c :=
  ⟨h.blk.mod hm hb, h.rd.mod hm hA, h.off, h.len, h.pos, h.last, h.big, h.cap⟩
theorem Rdr.ext {w w' : World} {t : TypeId} {b : Nat} {s : RS} {A : Option Addr} {n c : Nat} (h : Rdr w t b s A n c) (hm : Ext w w') : Rdr w' t b s A n c := h.mod hm (by simp) (.nil A)
def gave (e : Int) : List PanicEntry := [{ v := .iface 112 (.agg #[.int .i64 e]), recovered := false }]
abbrev ptr (b : Nat) : Value := .pointer (some ⟨b, 0, none⟩)
/-- What an inner reading does: it answers v and moves the place on; or it gives up. -/
def Took (w : World) (b : Nat) (s : RS) (A : Option Addr) (n c : Nat) {α : Type} (V : α → Value) (r : Except Int (α × Nat)) : Ending → World → Prop
  | .returned v, w' => ∃ x k, r = .ok (x, k) ∧ v = V x ∧ Mod [b] w w' ∧ Rdr w' 107 b { s with pos := s.pos + k } A n c
  | .panicked ch, w' => ∃ e p, r = .error e ∧ ch = gave e ∧ Mod [b] w w' ∧ Rdr w' 107 b { s with pos := p } A n c
  | .outgrown, _ => False

theorem gb_get (l : List UInt8) (i : Nat) (h : i < l.length) : gb l i = (l[i]).toNat := by simp [gb, h]
theorem Took.ok {w w' : World} {b : Nat} {s : RS} {A : Option Addr} {n c : Nat} {α : Type} {V : α → Value} {r : Except Int (α × Nat)} {v : Value} (x : α) (k : Nat) (hr : r = .ok (x, k)) (hv : v = V x) (hm : Mod [b] w w')
    (h : Rdr w' 107 b { s with pos := s.pos + k } A n c) : Took w b s A n c V r (.returned v) w' := ⟨x, k, hr, hv, hm, h⟩
theorem Took.no {w w' : World} {b : Nat} {s : RS} {A : Option Addr} {n c : Nat} {α : Type} {V : α → Value} {r : Except Int (α × Nat)} (e : Int) (p : Nat) (hr : r = .error e) (hm : Mod [b] w w')
    (h : Rdr w' 107 b { s with pos := p } A n c) : Took w b s A n c V r (.panicked (gave e)) w' := ⟨e, p, hr, rfl, hm, h⟩

theorem byte_c (b : Nat) (s : RS) (A : Option Addr) (n c : Nat) (w : World) (h : Rdr w 107 b s A n c) :
    Calls Try.prog 93 #[ptr b] w (Took w b s A n c (fun x : Nat => .int .u8 (x : Int)) (tByte (s.b.drop s.pos))) := by
  have h0 := h
  obtain ⟨hb, hr, ho, hl, hp, hla, hbig, hcap⟩ := h
  refine calls_T (n := 33) (args := [ptr b]) Try.func93 rfl rfl ?_
  by_cases g : s.pos < n
  · repeat (first | refine T_seq ?_ | refine T_region ?_ | refine T_region_q TE.mixed (by kernel_rfl) ?_ | refine TL_ge_f (hk := ?_) | refine TL_nil ?_ | refine TL_move (hk := ?_) | refine TL_assign (hk := ?_) | refine TL_load TE (hk := ?_) | refine TL_fieldAddr TE (hk := ?_) | refine TL_len TE (hk := ?_) | refine TL_nilCheck (hk := ?_))
    refine TL_nil_q ?_; intro w1 e1
    repeat (first | refine T_seq ?_ | refine T_region ?_ | refine T_cond_false rfl ?_ | refine T_skip ?_ | refine TL_add (hk := ?_) | refine TL_move (hk := ?_) | refine TL_load TE (hk := ?_) | refine TL_fieldAddr TE (hk := ?_) | refine TL_nilCheck (hk := ?_))
    refine TL_store TE (hk := ?_); intro w2 m2 s2 k2
    repeat (first | refine T_seq ?_ | refine T_region_q TE.mixed (by kernel_rfl) ?_ | refine TL_sub (hk := ?_) | refine TL_nil ?_ | refine TL_move (hk := ?_) | refine TL_assign (hk := ?_) | refine TL_load TE (hk := ?_) | (refine TL_load_b TE (hk := ?_); intro _) | refine TL_fieldAddr TE (hk := ?_) | refine TL_indexAddr1 TE (hk := ?_) | refine TL_nilCheck (hk := ?_))
    refine TL_nil_q ?_; intro w3 e3
    refine T_ret1' rfl rfl ?_
    have hd : s.b.drop s.pos = s.b[s.pos] :: s.b.drop (s.pos + 1) := List.drop_eq_getElem_cons _
    have hm : Mod [b] w w3 := (e1.mod.trans m2).ext e3
    refine Took.ok (s.b[s.pos]).toNat 1 (by rw [hd]; rfl) ?_ hm ?_
    · show Value.int .u8 (gb s.b ((s.pos : Int) + 1 - 1).toNat : Nat) = _
      rw [show ((s.pos : Int) + 1 - 1).toNat = s.pos by omega, gb_get _ _ (by omega)]
    · exact ⟨k2.be e3, hr.mod hm (by focus ((repeat (first | assumption | (apply Own.rd; assumption) | (apply Rd.blk; assumption; exact rfl) | (apply Blk.be; assumption) | (apply Rd.be; assumption) | (apply Own.be; assumption) | (apply Blk.bm; assumption; focus (first | assumption | (simp only [List.mem_cons, List.not_mem_nil, or_false]; omega))) | (apply Rd.bm; assumption; focus assumption) | (apply Own.bm; assumption; focus assumption))); done)), ho, hl, g, hla, hbig, hcap⟩
  · repeat (first | refine T_seq ?_ | refine T_region ?_ | refine T_region_q TE.mixed (by kernel_rfl) ?_ | refine TL_ge_t (hk := ?_) | refine TL_nil ?_ | refine TL_move (hk := ?_) | refine TL_assign (hk := ?_) | refine TL_load TE (hk := ?_) | refine TL_fieldAddr TE (hk := ?_) | refine TL_len TE (hk := ?_) | refine TL_nilCheck (hk := ?_))
    refine TL_nil_q ?_; intro w1 e1
    repeat (first | refine T_region ?_ | refine T_cond_true rfl ?_ | refine TL_makeIface_s TE (hk := ?_) | refine TL_build TE (hk := ?_))
    refine TL_panic rfl ?_
    refine LV_panic ?_
    exact Took.no 3 s.pos (by rw [List.drop_of_length_le (by omega)]; rfl) e1.mod (h0.ext e1)

theorem lor_add {a b i : Nat} (h : a < 2 ^ i) : a ||| (b * 2 ^ i) = a + b * 2 ^ i := by
  rw [Nat.or_comm, Nat.mul_comm b, ← Nat.two_pow_add_eq_or_of_lt h, Nat.add_comm]
theorem tByte_ok {l : List UInt8} {x k : Nat} (h : tByte l = .ok (x, k)) : ∃ c t, l = c :: t ∧ x = c.toNat ∧ k = 1 := by
  cases l with
  | nil => cases h
  | cons c t => cases h; exact ⟨c, t, rfl, rfl, rfl⟩
theorem tByte_no {l : List UInt8} {e : Int} (h : tByte l = .error e) : l = [] ∧ e = 3 := by
  cases l with
  | nil => cases h; exact ⟨rfl, rfl⟩
  | cons c t => cases h

theorem uint_c (b : Nat) (s : RS) (A : Option Addr) (n c : Nat) (w : World) (h : Rdr w 107 b s A n c) :
    Calls Try.prog 103 #[ptr b] w (Took w b s A n c (fun x : Nat => .int .u64 (x : Int)) (num0 (s.b.drop s.pos))) := by
  refine calls_T (n := 39) (args := [ptr b]) Try.func103 rfl rfl ?_
  repeat (first | refine T_seq ?_ | refine T_region ?_ | refine T_block ?_ | refine TL_nil ?_ | refine TL_move (hk := ?_) | refine TL_assign (hk := ?_))
  refine T_loop (ι := Nat × Nat) (fun i => [(6, .int .i64 (i.1 : Int)), (3, .int .u64 (i.2 : Int)), (0, ptr b)])
    (fun i w' => Rdr w' 107 b { s with pos := s.pos + i.1 } A n c ∧ Mod [b] w w' ∧ i.1 ≤ 9 ∧ i.2 < 2 ^ (7 * i.1) ∧ numF (10 - i.1) i.1 i.2 (s.b.drop (s.pos + i.1)) = num0 (s.b.drop s.pos)) (fun i => 10 - i.1) (0, 0) (.c rfl (.c rfl (.c rfl (.n)))) ⟨h, Mod.refl _ _, by decide, by decide, rfl⟩ ?_
  rintro ⟨i, N⟩ w1 ⟨h1, m1, hi, hN, hF⟩ ih
  simp only at h1 hi hN hF ih ⊢
  obtain ⟨f, hf⟩ : ∃ f, 10 - i = f + 1 := ⟨9 - i, by omega⟩
  have hp9 : 2 ^ (7 * i) ≤ 2 ^ 63 := Nat.pow_le_pow_right (by decide) (by omega)
  rw [hf] at hF
  repeat (first | refine T_seq ?_ | refine T_region ?_ | refine T_cond_true rfl ?_ | refine T_block ?_ | refine T_skip ?_ | refine TL_lt_t (hk := ?_) | refine TL_nil ?_ | refine TL_move (hk := ?_) | refine TL_assign (hk := ?_))
  refine TL_callc TE (fst := []) (cap := []) rfl rfl rfl rfl (byte_c b _ A n c _ h1) ?_ ?_ (fun _ h => h)
  · rintro _ w2 ⟨x, k, hx, rfl, m2, h2⟩
    obtain ⟨ch, t, hl, rfl, rfl⟩ := tByte_ok hx
    simp only at hl h2
    have hl2 : s.b.drop (s.pos + (i + 1)) = t := by
      have := congrArg List.tail hl
      simpa [List.tail_drop, Nat.add_assoc] using this
    have hc := UInt8.toNat_lt ch
    have m3 := m1.trans m2
    rw [hl] at hF
    simp only [numF] at hF
    by_cases h9 : i = 9 ∧ 1 < ch.toNat
    · rw [if_pos h9] at hF
      obtain ⟨rfl, h91⟩ := h9
      repeat (first | refine T_seq ?_ | refine T_region ?_ | refine T_cond_true rfl ?_ | refine TL_gt_t (hk := ?_) | refine TL_eq_t (hk := ?_) | refine TL_nil ?_ | refine TL_move (hk := ?_) | refine TL_assign (hk := ?_) | refine TL_yes (hk := ?_) | refine TL_pick_t (hk := ?_) | refine TL_makeIface_s TE (hk := ?_) | refine TL_build TE (hk := ?_))
      refine TL_panic rfl ?_
      exact LV_panic (Took.no 11 _ hF.symm m3 h2)
    · rw [if_neg h9] at hF
      have hp : 2 ^ (7 * (i + 1)) = 2 ^ (7 * i) * 128 := by rw [show 7 * (i + 1) = 7 * i + 7 from by omega, Nat.pow_add]
      have hm : N + ch.toNat % 128 * 2 ^ (7 * i) < 2 ^ (7 * (i + 1)) := by
        rw [hp]
        have : ch.toNat % 128 * 2 ^ (7 * i) ≤ 127 * 2 ^ (7 * i) := Nat.mul_le_mul_right _ (by omega)
        omega
      have hb : ch.toNat % 128 * 2 ^ (7 * i) < 2 ^ 64 := by
        by_cases h9' : i = 9
        · have : ch.toNat % 128 * 2 ^ (7 * i) ≤ 1 * 2 ^ (7 * i) := Nat.mul_le_mul_right _ (by omega)
          omega
        · have : 2 ^ (7 * (i + 1)) ≤ 2 ^ 63 := Nat.pow_le_pow_right (by decide) (by omega)
          omega
      have hor : N ||| (ch.toNat % 128 * 2 ^ (7 * i) % 2 ^ 64) = N + ch.toNat % 128 * 2 ^ (7 * i) := by rw [Nat.mod_eq_of_lt hb, lor_add hN]
      have hN64 : N < 2 ^ 64 := by omega
      have hpl := h2.pos
      by_cases i9 : i = 9
      · repeat (first | refine T_seq ?_ | refine T_region ?_ | refine T_cond_false rfl ?_ | refine T_skip ?_ | refine TL_mul (hk := ?_) | refine TL_gt_f (hk := ?_) | refine TL_eq_t (hk := ?_) | (refine TL_andNot80 (hk := ?_); intro _) | refine TL_nil ?_ | refine TL_move (hk := ?_) | refine TL_assign (hk := ?_) | refine TL_yes (hk := ?_) | refine TL_pick_t (hk := ?_) | refine TL_conv TE (hk := ?_))
        refine TL_shl rfl rfl (a := ch.toNat % 128) (c := 7 * i) rfl (by omega) rfl (by omega) rfl ?_
        repeat (first | refine T_seq ?_ | refine T_region ?_ | refine T_cond_true rfl ?_ | refine TL_lt_t (hk := ?_) | refine TL_gt_t (hk := ?_) | (refine TL_or (hk := ?_); intro _) | refine TL_nil ?_ | refine TL_move (hk := ?_) | refine TL_assign (hk := ?_) | refine TL_yes (hk := ?_))
        by_cases hlt : ch.toNat < 128
        · rw [if_pos hlt] at hF
          by_cases h0 : 0 < i
          · by_cases hz : ch.toNat = 0
            · rw [if_pos ⟨h0, hz⟩] at hF
              repeat (first | refine T_region ?_ | refine T_cond_true rfl ?_ | refine TL_eq_t (hk := ?_) | refine TL_nil ?_ | refine TL_pick_t (hk := ?_) | refine TL_makeIface_s TE (hk := ?_) | refine TL_build TE (hk := ?_))
              refine TL_panic rfl ?_
              exact LV_panic (Took.no 10 _ hF.symm m3 h2)
            · rw [if_neg (by omega)] at hF
              repeat (first | refine T_seq ?_ | refine T_region ?_ | refine T_cond_false rfl ?_ | refine T_skip ?_ | refine T_exit rfl ?_ | refine TL_eq_f (hk := ?_) | refine TL_nil ?_ | refine TL_move (hk := ?_) | refine TL_assign (hk := ?_) | refine TL_pick_t (hk := ?_))
              exact T_ret1' rfl rfl (Took.ok _ (i + 1) hF.symm (by rw [← hor]) m3 h2)
          · first
            | (exfalso; omega)
            | skip
              rw [if_neg (by omega)] at hF
              --
              exact T_ret1' rfl rfl (Took.ok _ (i + 1) hF.symm (by rw [← hor]) m3 h2)
        · first
          | (exfalso; omega)
          | skip
            rw [if_neg hlt] at hF
            --
            refine ih (i + 1, N + ch.toNat % 128 * 2 ^ (7 * i)) _ _ (by simp only; omega) ⟨h2, m3, by simp only; omega, hm, ?_⟩ ?_
            · simp only
              rw [hl2, show 10 - (i + 1) = f by omega]
              exact hF
            · rw [← hor]
              exact (.c rfl (.c rfl (.c rfl (.n))))
      · repeat (first | refine T_seq ?_ | refine T_region ?_ | refine T_cond_false rfl ?_ | refine T_skip ?_ | refine TL_mul (hk := ?_) | refine TL_eq_f (hk := ?_) | (refine TL_andNot80 (hk := ?_); intro _) | refine TL_nil ?_ | refine TL_move (hk := ?_) | refine TL_assign (hk := ?_) | refine TL_no (hk := ?_) | refine TL_pick_f (hk := ?_) | refine TL_conv TE (hk := ?_))
        refine TL_shl rfl rfl (a := ch.toNat % 128) (c := 7 * i) rfl (by omega) rfl (by omega) rfl ?_
        repeat (first | refine T_seq ?_ | refine T_region ?_ | (refine TL_or (hk := ?_); intro _) | refine TL_nil ?_ | refine TL_move (hk := ?_) | refine TL_assign (hk := ?_))
        by_cases hlt : ch.toNat < 128
        · rw [if_pos hlt] at hF
          by_cases h0 : 0 < i
          · by_cases hz : ch.toNat = 0
            · rw [if_pos ⟨h0, hz⟩] at hF
              repeat (first | refine T_seq ?_ | refine T_region ?_ | refine T_cond_true rfl ?_ | refine TL_lt_t (hk := ?_) | refine TL_gt_t (hk := ?_) | refine TL_eq_t (hk := ?_) | refine TL_nil ?_ | refine TL_move (hk := ?_) | refine TL_yes (hk := ?_) | refine TL_pick_t (hk := ?_) | refine TL_makeIface_s TE (hk := ?_) | refine TL_build TE (hk := ?_))
              refine TL_panic rfl ?_
              exact LV_panic (Took.no 10 _ hF.symm m3 h2)
            · rw [if_neg (by omega)] at hF
              repeat (first | refine T_seq ?_ | refine T_region ?_ | refine T_cond_true rfl ?_ | refine T_cond_false rfl ?_ | refine T_skip ?_ | refine T_exit rfl ?_ | refine TL_lt_t (hk := ?_) | refine TL_gt_t (hk := ?_) | refine TL_eq_f (hk := ?_) | refine TL_nil ?_ | refine TL_move (hk := ?_) | refine TL_assign (hk := ?_) | refine TL_yes (hk := ?_) | refine TL_pick_t (hk := ?_))
              exact T_ret1' rfl rfl (Took.ok _ (i + 1) hF.symm (by rw [← hor]) m3 h2)
          · first
            | (exfalso; omega)
            | skip
              rw [if_neg (by omega)] at hF
              repeat (first | refine T_seq ?_ | refine T_region ?_ | refine T_cond_true rfl ?_ | refine T_cond_false rfl ?_ | refine T_skip ?_ | refine T_exit rfl ?_ | refine TL_lt_t (hk := ?_) | refine TL_gt_f (hk := ?_) | refine TL_nil ?_ | refine TL_move (hk := ?_) | refine TL_assign (hk := ?_) | refine TL_no (hk := ?_) | refine TL_pick_f (hk := ?_))
              exact T_ret1' rfl rfl (Took.ok _ (i + 1) hF.symm (by rw [← hor]) m3 h2)
        · first
          | (exfalso; omega)
          | skip
            rw [if_neg hlt] at hF
            repeat (first | refine T_region ?_ | refine T_cond_false rfl ?_ | refine T_inBlock ?_ | refine T_skip ?_ | refine TL_add (hk := ?_) | refine TL_lt_f (hk := ?_) | refine TL_nil ?_ | refine TL_move (hk := ?_))
            refine ih (i + 1, N + ch.toNat % 128 * 2 ^ (7 * i)) _ _ (by simp only; omega) ⟨h2, m3, by simp only; omega, hm, ?_⟩ ?_
            · simp only
              rw [hl2, show 10 - (i + 1) = f by omega]
              exact hF
            · rw [← hor]
              exact (.c rfl (.c rfl (.c rfl (.n))))
  · rintro ch w2 ⟨e, p, he, rfl, m2, h2⟩
    obtain ⟨hl, rfl⟩ := tByte_no he
    simp only at hl h2
    rw [hl] at hF
    exact LV_panic (Took.no 3 p hF.symm (m1.trans m2) h2)
end Go.Proofs.Ytfplmpfdhiagaaa

namespace Go.Proofs.Ytfplmpfdhiagaaa
open Go.RowKit Go.Proofs.Eng Go.Proofs.Codec
set_option linter.unusedSimpArgs false
set_option linter.unusedVariables false set_option maxRecDepth 10000
attribute [local irreducible] T TL LV TH TA
set_option maxHeartbeats 1000000























theorem limited_c (b : Nat) (s : RS) (A : Option Addr) (n c : Nat) (most e : Int) (hmo : -9223372036854775808 ≤ most ∧ most ≤ 9223372036854775807) (w : World) (h : Rdr w 107 b s A n c) :
    Calls Try.prog 89 #[ptr b, .int .i64 most, .int .i64 e] w (Took w b s A n c (fun x : Nat => .int .i64 (x : Int)) (tLim most e (s.b.drop s.pos))) := by
  refine calls_T (n := 23) (args := [ptr b, .int .i64 most, .int .i64 e]) Try.func89 rfl rfl ?_
  repeat (first | refine T_seq ?_ | refine T_region ?_ | refine TL_nil ?_ | refine TL_move (hk := ?_) | refine TL_assign (hk := ?_))
  refine TL_callc TE (fst := []) (cap := []) rfl rfl rfl rfl (uint_c b s A n c w h) ?_ ?_ (fun _ h => h)
  · rintro _ w1 ⟨x, k, hx, rfl, m1, h1⟩
    have hlt := (num0_ok hx).1
    by_cases hm : most < 0
    · have hi : tLim most e (s.b.drop s.pos) = .error e := by unfold tLim; rw [hx]; simp only; rw [if_pos (.inl hm)]
      repeat (first | refine T_seq ?_ | refine T_region ?_ | refine T_cond_true rfl ?_ | refine TL_lt_t (hk := ?_) | refine TL_nil ?_ | refine TL_move (hk := ?_) | refine TL_assign (hk := ?_) | refine TL_no (hk := ?_) | refine TL_pick_t (hk := ?_) | refine TL_makeIface_s TE (hk := ?_) | refine TL_build TE (hk := ?_))
      refine TL_panic rfl ?_
      exact LV_panic (Took.no e _ hi m1 h1)
    · by_cases hg : most < (x : Int)
      · have hi : tLim most e (s.b.drop s.pos) = .error e := by unfold tLim; rw [hx]; simp only; rw [if_pos (.inr hg)]
        repeat (first | refine T_seq ?_ | refine T_region ?_ | refine T_cond_true rfl ?_ | refine TL_lt_f (hk := ?_) | refine TL_gt_t (hk := ?_) | refine TL_nil ?_ | refine TL_move (hk := ?_) | refine TL_assign (hk := ?_) | refine TL_yes (hk := ?_) | refine TL_pick_f (hk := ?_) | refine TL_makeIface_s TE (hk := ?_) | refine TL_conv TE (hk := ?_) | refine TL_build TE (hk := ?_))
        refine TL_panic rfl ?_
        exact LV_panic (Took.no e _ hi m1 h1)
      · have hi : tLim most e (s.b.drop s.pos) = .ok (x, k) := by unfold tLim; rw [hx]; simp only; rw [if_neg (by omega)]
        repeat (first | refine T_seq ?_ | refine T_region ?_ | refine T_cond_false rfl ?_ | refine T_skip ?_ | refine TL_lt_f (hk := ?_) | refine TL_gt_f (hk := ?_) | refine TL_nil ?_ | refine TL_move (hk := ?_) | refine TL_assign (hk := ?_) | refine TL_yes (hk := ?_) | refine TL_pick_f (hk := ?_) | refine TL_conv TE (hk := ?_))
        exact T_ret1' rfl rfl (Took.ok x k hi rfl m1 h1)
  · rintro ch w1 ⟨e, p, he, rfl, m1, h1⟩
    exact LV_panic (Took.no e p (by unfold tLim; rw [he]) m1 h1)

theorem Count1_c (b x y : Nat) (tx ty : TypeId) (s : RS) (A : Option Addr) (n c : Nat) (most : Int) (hmo : -9223372036854775808 ≤ most ∧ most ≤ 9223372036854775807) (w : World) (h : Rdr w 107 b s A n c) (hx : Blk w x tx [ptr b]) (hy : Blk w y ty [.int .i64 most]) :
    Calls Try.prog 88 #[ptr x, ptr y] w (Took w b s A n c (fun x : Nat => .int .i64 (x : Int)) (tLim most 6 (s.b.drop s.pos))) := by
  refine calls_T (n := 6) (args := [ptr x, ptr y]) Try.func88 rfl rfl ?_
  repeat (first | refine T_seq ?_ | refine T_region ?_ | refine TL_nil ?_ | refine TL_assign (hk := ?_) | refine TL_load TE (hk := ?_))
  refine TL_callc TE (fst := []) (cap := []) rfl rfl rfl rfl (limited_c b s A n c most 6 hmo w h) ?_ ?_ (fun _ h => h)
  · rintro _ w1 ⟨z, k, hz, rfl, m1, h1⟩
    repeat (first | refine TL_nil ?_ | refine TL_assign (hk := ?_))
    exact T_ret1' rfl rfl (Took.ok _ k hz rfl m1 h1)
  · rintro ch w1 ⟨e, p, he, rfl, m1, h1⟩
    exact LV_panic (Took.no e p he m1 h1)
theorem tLim_le {most e : Int} {l : List UInt8} {z k : Nat} (hz : tLim most e l = .ok (z, k)) : (z : Int) ≤ most := by
  unfold tLim at hz
  split at hz
  · split at hz
    · cases hz
    · cases hz; omega
  · cases hz
theorem Text1_c (b x y : Nat) (tx ty : TypeId) (s : RS) (A : Option Addr) (n c : Nat) (most : Int) (hmo : -9223372036854775808 ≤ most ∧ most ≤ 9223372036854775807) (w : World) (h : Rdr w 107 b s A n c) (hx : Blk w x tx [ptr b]) (hy : Blk w y ty [.int .i64 most]) (hxb : x ≠ b) :
    Calls Try.prog 91 #[ptr x, ptr y] w (Took w b s A n c (fun x : List UInt8 => .string ⟨x.toArray⟩) (tText most (s.b.drop s.pos))) := by
  refine calls_T (n := 45) (args := [ptr x, ptr y]) Try.func91 rfl rfl ?_
  repeat (first | refine T_seq ?_ | refine T_region ?_ | refine TL_nil ?_ | refine TL_assign (hk := ?_) | refine TL_load TE (hk := ?_))
  refine TL_callc TE (fst := []) (cap := []) rfl rfl rfl rfl (limited_c b s A n c most 1 hmo w h) ?_ ?_ (fun _ h => h)
  · rintro _ w1 ⟨z, k, hz, rfl, m1, h1⟩
    have hx1 := hx.mod m1 (by simpa using hxb)
    obtain ⟨hb, hr, ho, hl, hp, hla, hbig, hcap⟩ := h1
    simp only at hb hr hl hp hla
    have hnl : (s.b.drop s.pos).length = n - s.pos := by rw [List.length_drop, hl]
    have hz0 : (z : Int) ≤ most := tLim_le hz
    by_cases g : (s.b.drop s.pos).length < k + z
    · have hi : tText most (s.b.drop s.pos) = .error 3 := by unfold tText; rw [hz]; simp only; rw [if_pos g]
      repeat (first | refine T_seq ?_ | refine T_region_q TE.mixed (by kernel_rfl) ?_ | refine TL_sub (hk := ?_) | refine TL_gt_t (hk := ?_) | refine TL_nil ?_ | refine TL_move (hk := ?_) | refine TL_assign (hk := ?_) | refine TL_load TE (hk := ?_) | refine TL_fieldAddr TE (hk := ?_) | refine TL_len TE (hk := ?_) | refine TL_nilCheck (hk := ?_))
      refine TL_nil_q ?_; intro w2 e2
      repeat (first | refine T_region ?_ | refine T_cond_true rfl ?_ | refine TL_makeIface_s TE (hk := ?_) | refine TL_build TE (hk := ?_))
      refine TL_panic rfl ?_
      exact LV_panic (Took.no 3 _ hi (m1.ext e2) ⟨hb.be e2, hr.be e2, ho, hl, hp, hla, hbig, hcap⟩)
    · have hi : tText most (s.b.drop s.pos) = .ok (((s.b.drop s.pos).drop k).take z, k + z) := by unfold tText; rw [hz]; simp only; rw [if_neg g]
      repeat (first | refine T_seq ?_ | refine T_region_q TE.mixed (by kernel_rfl) ?_ | refine TL_sub (hk := ?_) | refine TL_gt_f (hk := ?_) | refine TL_nil ?_ | refine TL_move (hk := ?_) | refine TL_assign (hk := ?_) | refine TL_load TE (hk := ?_) | refine TL_fieldAddr TE (hk := ?_) | refine TL_len TE (hk := ?_) | refine TL_nilCheck (hk := ?_))
      refine TL_nil_q ?_; intro w2 e2
      repeat (first | refine T_seq ?_ | refine T_region ?_ | refine T_cond_false rfl ?_ | refine T_skip ?_ | refine TL_add (hk := ?_) | refine TL_move (hk := ?_) | refine TL_load TE (hk := ?_) | refine TL_fieldAddr TE (hk := ?_) | refine TL_nilCheck (hk := ?_))
      refine TL_store TE (hk := ?_); intro w3 m3 s3 k3
      have q1 : ((↑(s.pos + k) : Int) + ↑z - ↑z).toNat = s.pos + k := by omega
      have q2 : ((↑(s.pos + k) : Int) + ↑z).toNat = s.pos + k + z := by omega
      have r3 : Rd w3 A n 1 (bv s.b) := (hr.ext e2).mod m3 ho
      have r4 : Rd w3 (cutA A c (s.pos + k) 1) (s.pos + k + z - (s.pos + k)) 1 (bv (((s.b.drop s.pos).drop k).take z)) := by
        have := r3.cut (c := c) (l := s.pos + k) (h := s.pos + k + z) (by omega) (by omega) (by omega)
        rw [show bv (((s.b.drop s.pos).drop k).take z) = ((bv s.b).drop ((s.pos + k) * 1)).take ((s.pos + k + z - (s.pos + k)) * 1) from by
          simp only [bv, List.map_take, List.map_drop, List.drop_drop, Nat.mul_one, Nat.add_sub_cancel_left]]
        exact this
      repeat (first | refine T_seq ?_ | refine T_region_q TE.mixed (by kernel_rfl) ?_ | refine TL_sub (hk := ?_) | refine TL_nil ?_ | refine TL_move (hk := ?_) | refine TL_load TE (hk := ?_) | refine TL_fieldAddr TE (hk := ?_) | refine TL_nilCheck (hk := ?_) | refine TL_slice_lh TE (hk := ?_))
      rw [q1, q2]
      repeat (first | refine TL_assign (hk := ?_) | refine TL_conv_bs TE (hk := ?_))
      refine TL_nil_q ?_; intro w4 e4
      have hm : Mod [b] w w4 := ((m1.ext e2).trans m3).ext e4
      refine T_ret1' rfl rfl (Took.ok _ (k + z) hi rfl hm ⟨?_, r3.be e4, ho, hl, ?_, hla, hbig, hcap⟩)
      · rw [show s.pos + (k + z) = s.pos + k + z by omega]
        have := k3.be e4
        simpa using this
      · simp only; omega
  · rintro ch w1 ⟨e, p, he, rfl, m1, h1⟩
    exact LV_panic (Took.no e p (by unfold tText; rw [he]) m1 h1)
end Go.Proofs.Ytfplmpfdhiagaaa

namespace Go.Proofs.Ytfplmpfdhiagaaa
open Go.RowKit Go.Proofs.Eng Go.Proofs.Codec
set_option linter.unusedSimpArgs false
set_option linter.unusedVariables false set_option maxRecDepth 10000
attribute [local irreducible] T TL LV TH TA
set_option maxHeartbeats 1000000
theorem st_params (args : List Value) (n m : Nat) : ∀ a : Act, a.tmps = args.toArray ++ Array.replicate (n - args.length) undef → ∀ i v, Eng.look (params 0 args) i = some v → a.tmps.getD i undef = v := by
  intro a ha i v hv
  obtain ⟨_, hi⟩ := look_params args 0 i v hv
  have h1 : args[i]? = some v := by simpa using hi
  have h2 : i < args.length := (List.getElem?_eq_some_iff.1 h1).1
  rw [ha, Array.getD_eq_getD_getElem?, Array.getElem?_append_left (by simpa using h2)]
  simp [h1]
theorem Rd.mod0 {w w' : World} {A : Option Addr} {n s : Nat} {xs : List Value} {S : List Nat} (h : Rd w A n s xs) (hm : Mod S w w') (hS : 0 < n → Off A S) : Rd w' A n s xs := by
  rcases Nat.eq_zero_or_pos n with rfl | hn
  · exact ⟨h.1, fun hn => by omega⟩
  · exact h.mod hm (hS hn)
theorem Rd.offNew {w : World} {A : Option Addr} {n s x : Nat} {xs : List Value} (h : Rd w A n s xs) (hx : w.heap.size ≤ x) (hn : 0 < n) : Off A [x] := by
  obtain ⟨b, off, rfl, hb, _⟩ := h.2 (by omega)
  intro ad e hq
  cases e
  simp only [List.mem_singleton] at hq
  omega
theorem take_ok {α : Type} {s : RS} {z0 v : α} {k : Nat} {t : List UInt8 → Except Int (α × Nat)} (he : s.err = 0) (h : t (s.b.drop s.pos) = .ok (v, k)) : s.take z0 t = (v, { s with pos := s.pos + k, last := s.pos }) := by
  unfold RS.take; rw [if_pos he, h]
theorem take_err {α : Type} {s : RS} {z0 : α} {e : Int} {t : List UInt8 → Except Int (α × Nat)} (he : s.err = 0) (h : t (s.b.drop s.pos) = .error e) : s.take z0 t = (z0, { s with err := e, spot := s.pos }) := by
  unfold RS.take; rw [if_pos he, h]








































































































































































































































































































































theorem rdd0_string (w : World) (x y z : Nat) : CallsD Try.prog 104 #[ptr x, ptr y, ptr z] .returning w (fun e u w' => u = .returning ∧ e = .returned (.tuple #[]) ∧ w' = w) := by
  refine callsD_recover (n := 32) (args := [ptr x, ptr y, ptr z]) (st := params 0 [ptr x, ptr y, ptr z]) Try.func104 rfl rfl (st_params _ _ 0) rfl (.inl ⟨rfl, rfl, rfl⟩) ?_
  repeat (first | refine T_seq ?_ | refine T_region ?_ | refine T_cond_false rfl ?_ | refine T_skip ?_ | refine TL_ine_f TE (hk := ?_) | refine TL_nil ?_ | refine TL_move (hk := ?_) | refine TL_assign (hk := ?_))
  refine T_end0' rfl ⟨rfl, rfl⟩
theorem rdd1_string (b : Nat) (s : RS) (A : Option Addr) (n c : Nat) (e : Int) (w : World) (x y z : Nat) (tx ty tz : TypeId) (p : Nat) (v0 : Value) (h : Rdr w 107 b s A n c) (hx : Blk w x tx [.int .i64 (p : Int)]) (hy : Blk w y ty [v0]) (hz : Blk w z tz [ptr b])
    (hyb : y ≠ b) (hxb : x ≠ b) (hzb : z ≠ b) (hxy : x ≠ y) (hzy : z ≠ y) (hyA : 0 < n → Off A [y]) (hp : p ≤ n) :
    CallsD Try.prog 104 #[ptr x, ptr y, ptr z] (.panicking (gave e)) w (fun e' u w' => u = .panicking [{ v := .iface 112 (.agg #[.int .i64 e]), recovered := true }] ∧ e' = .returned (.tuple #[]) ∧ Mod [y, b] w w' ∧ Rdr w' 107 b { s with pos := p, err := e, spot := p } A n c ∧ Blk w' y ty [.string ⟨#[]⟩]) := by
  refine callsD_recover (n := 32) (args := [ptr x, ptr y, ptr z]) (st := params 0 [ptr x, ptr y, ptr z]) Try.func104 rfl rfl (st_params _ _ 0) rfl (.inr ⟨_, _, rfl, rfl, rfl⟩) ?_
  obtain ⟨hb, hr, ho, hl, hpp, hla, hbig, hcap⟩ := h
  repeat (first | refine T_seq ?_ | refine T_region ?_ | refine T_cond_true rfl ?_ | refine TL_ine_t TE (hk := ?_) | refine TL_nil ?_ | refine TL_move (hk := ?_) | refine TL_assign (hk := ?_) | refine TL_extract (hk := ?_) | refine TL_assert_t TE (hk := ?_))
  refine TL_alloc TE (hk := ?_); intro g w1 e1 g1 g2 kg
  --
  refine TL_store1 TE rfl rfl rfl rfl rfl (by exact kg) (by decide) (hk := ?_); intro w2 m2 s2 k2
  have e2 : Ext w w2 := Mod.step e1 m2 (fun y hy => .inr (by simp only [List.mem_singleton] at hy; omega))
  repeat (first | refine T_seq ?_ | refine T_region ?_ | refine T_cond_false rfl ?_ | refine T_skip ?_ | refine TL_nil ?_ | refine TL_move (hk := ?_) | refine TL_assign (hk := ?_) | refine TL_not (hk := ?_))
  have hxl := hx.be e2
  have hzl := hz.be e2
  have hyl := hy.be e2
  have hbl := hb.be e2
  refine T_region_h TE (fun w' => Blk w' x tx [.int .i64 (p : Int)] ∧ Blk w' z tz [ptr b] ∧ Blk w' g 112 [.int .i64 e]) (fun w3 e3 s3 => ⟨⟨hxl.be e3, hzl.be e3, k2.be e3⟩, ?_⟩)
  have hx3 := hxl.be e3
  have hz3 := hzl.be e3
  have hy3 := hyl.be e3
  have hb3 := hbl.be e3
  have hg3 := k2.be e3
  refine TH_load 0 TE rfl (by kernel_rfl) (by kernel_rfl) (by kernel_rfl) rfl rfl rfl rfl (by rintro w' ⟨h1, h2, h3⟩; first | exact h1 | exact h2 | exact h3) (by exact rfl) ?_; refine TH_load 1 TE rfl (by kernel_rfl) (by kernel_rfl) (by kernel_rfl) rfl rfl rfl rfl (by rintro w' ⟨h1, h2, h3⟩; first | exact h1 | exact h2 | exact h3) (by exact rfl) ?_; refine TH_load 2 TE rfl (by kernel_rfl) (by kernel_rfl) (by kernel_rfl) rfl rfl rfl rfl (by rintro w' ⟨h1, h2, h3⟩; first | exact h1 | exact h2 | exact h3) (by exact rfl) ?_
  refine TH_move 3 rfl (by kernel_rfl) (by kernel_rfl) (by kernel_rfl) rfl rfl ?_
  refine TH_load 4 TE rfl (by kernel_rfl) (by kernel_rfl) (by kernel_rfl) rfl rfl rfl rfl (by rintro w' ⟨h1, h2, h3⟩; first | exact h1 | exact h2 | exact h3) (by exact rfl) ?_
  refine TH_fieldAddr 5 TE rfl (by kernel_rfl) (by kernel_rfl) (by kernel_rfl) rfl rfl rfl rfl rfl rfl ?_
  refine TH_load 6 TE rfl (by kernel_rfl) (by kernel_rfl) (by kernel_rfl) rfl rfl rfl rfl (by rintro w' ⟨h1, h2, h3⟩; first | exact h1 | exact h2 | exact h3) (by exact rfl) ?_; refine TH_load 7 TE rfl (by kernel_rfl) (by kernel_rfl) (by kernel_rfl) rfl rfl rfl rfl (by rintro w' ⟨h1, h2, h3⟩; first | exact h1 | exact h2 | exact h3) (by exact rfl) ?_
  have yg : y < g := Nat.lt_of_lt_of_le hy.lt g1
  have bg : b < g := Nat.lt_of_lt_of_le hb.lt g1
  refine TH_store 8 TE rfl (by kernel_rfl) rfl rfl rfl rfl (by focus ((repeat (first | assumption | (apply Own.rd; assumption) | (apply Rd.blk; assumption; exact rfl) | (apply Blk.be; assumption) | (apply Rd.be; assumption) | (apply Own.be; assumption) | (apply Blk.bm; assumption; focus (first | assumption | (simp only [List.mem_cons, List.not_mem_nil, or_false]; omega))) | (apply Rd.bm; assumption; focus assumption) | (apply Own.bm; assumption; focus assumption))); done)) (by first | decide | (simp; done) | (simp; omega)) ?_; intro w4 m4 s4 k4
  have hx4 := hx3.mod m4 (by simpa using hxy)
  have hz4 := hz3.mod m4 (by simpa using hzy)
  have hg4 := hg3.mod m4 (by simp; omega)
  have hb4 := hb3.mod m4 (by simpa using Ne.symm hyb)
  refine ⟨⟨hx4, hz4, hg4⟩, ?_⟩
  refine TH_nilCheck 9 rfl (by kernel_rfl) (by kernel_rfl) (by kernel_rfl) rfl rfl ?_
  refine TH_fieldAddr 10 TE rfl (by kernel_rfl) (by kernel_rfl) (by kernel_rfl) rfl rfl rfl rfl rfl rfl ?_
  refine TH_store 11 TE rfl (by kernel_rfl) rfl rfl rfl rfl (by focus ((repeat (first | assumption | (apply Own.rd; assumption) | (apply Rd.blk; assumption; exact rfl) | (apply Blk.be; assumption) | (apply Rd.be; assumption) | (apply Own.be; assumption) | (apply Blk.bm; assumption; focus (first | assumption | (simp only [List.mem_cons, List.not_mem_nil, or_false]; omega))) | (apply Rd.bm; assumption; focus assumption) | (apply Own.bm; assumption; focus assumption))); done)) (by first | decide | (simp; done) | (simp; omega)) ?_; intro w5 m5 s5 k5
  have hx5 := hx4.mod m5 (by simpa using hxb)
  have hz5 := hz4.mod m5 (by simpa using hzb)
  have hg5 := hg4.mod m5 (by simp; omega)
  have hy5 := k4.mod m5 (by simpa using hyb)
  refine ⟨⟨hx5, hz5, hg5⟩, ?_⟩
  refine TH_nilCheck 12 rfl (by kernel_rfl) (by kernel_rfl) (by kernel_rfl) rfl rfl ?_
  refine TH_fieldAddr 13 TE rfl (by kernel_rfl) (by kernel_rfl) (by kernel_rfl) rfl rfl rfl rfl rfl rfl ?_
  refine TH_store 14 TE rfl (by kernel_rfl) rfl rfl rfl rfl (by focus ((repeat (first | assumption | (apply Own.rd; assumption) | (apply Rd.blk; assumption; exact rfl) | (apply Blk.be; assumption) | (apply Rd.be; assumption) | (apply Own.be; assumption) | (apply Blk.bm; assumption; focus (first | assumption | (simp only [List.mem_cons, List.not_mem_nil, or_false]; omega))) | (apply Rd.bm; assumption; focus assumption) | (apply Own.bm; assumption; focus assumption))); done)) (by first | decide | (simp; done) | (simp; omega)) ?_; intro w6 m6 s6 k6
  have hx6 := hx5.mod m6 (by simpa using hxb)
  have hz6 := hz5.mod m6 (by simpa using hzb)
  have hg6 := hg5.mod m6 (by simp; omega)
  have hy6 := hy5.mod m6 (by simpa using hyb)
  refine ⟨⟨hx6, hz6, hg6⟩, ?_⟩
  refine TH_nilCheck 15 rfl (by kernel_rfl) (by kernel_rfl) (by kernel_rfl) rfl rfl ?_
  refine TH_fieldAddr 16 TE rfl (by kernel_rfl) (by kernel_rfl) (by kernel_rfl) rfl rfl rfl rfl rfl rfl ?_
  refine TH_store 17 TE rfl (by kernel_rfl) rfl rfl rfl rfl (by focus ((repeat (first | assumption | (apply Own.rd; assumption) | (apply Rd.blk; assumption; exact rfl) | (apply Blk.be; assumption) | (apply Rd.be; assumption) | (apply Own.be; assumption) | (apply Blk.bm; assumption; focus (first | assumption | (simp only [List.mem_cons, List.not_mem_nil, or_false]; omega))) | (apply Rd.bm; assumption; focus assumption) | (apply Own.bm; assumption; focus assumption))); done)) (by first | decide | (simp; done) | (simp; omega)) ?_; intro w7 m7 s7 k7
  have hx7 := hx6.mod m7 (by simpa using hxb)
  have hz7 := hz6.mod m7 (by simpa using hzb)
  have hg7 := hg6.mod m7 (by simp; omega)
  have hy7 := hy6.mod m7 (by simpa using hyb)
  refine ⟨⟨hx7, hz7, hg7⟩, ?_⟩
  refine TH_done (by kernel_rfl) ?_
  have hm : Mod [y, b] w w7 := by
    have a1 : Mod [y, b] w w3 := Ext.mod (Mod.ext e2 e3)
    have a2 := a1.step m4 (fun q hq => .inl (by simp only [List.mem_cons, List.not_mem_nil, or_false] at hq ⊢; omega))
    have a3 := a2.step m5 (fun q hq => .inl (by simp only [List.mem_cons, List.not_mem_nil, or_false] at hq ⊢; omega))
    have a4 := a3.step m6 (fun q hq => .inl (by simp only [List.mem_cons, List.not_mem_nil, or_false] at hq ⊢; omega))
    exact a4.step m7 (fun q hq => .inl (by simp only [List.mem_cons, List.not_mem_nil, or_false] at hq ⊢; omega))
  refine T_end0' rfl ⟨rfl, hm, ⟨k7, Rd.mod0 hr hm ?_, ho, hl, hp, hla, hbig, hcap⟩, hy7⟩
  intro hn0 ad ea hq
  simp only [List.mem_cons, List.not_mem_nil, or_false] at hq
  rcases hq with hq | hq
  · exact hyA hn0 ad ea (by simpa using hq)
  · exact ho ad ea (by simpa using hq)
theorem rd_string {α : Type} (b : Nat) (s : RS) (A : Option Addr) (n c : Nat) (w : World) (g : Nat) (fst cap : List Value) (V : α → Value) (z0 : α) (hV : V z0 = .string ⟨#[]⟩) (hV1 : ∀ x, (V x).oneCell' = true) (t : List UInt8 → Except Int (α × Nat)) (hE : TE.fn g = true) (h : Rdr w 107 b s A n c)
    (hc : ∀ w', Ext w w' → Calls Try.prog g (fst ++ cap).toArray w' (Took w' b s A n c V (t (s.b.drop s.pos)))) :
    Ret Try.prog 90 [ptr b, .func (.func g) fst.toArray cap.toArray] w (fun v w' => v = V (s.take z0 t).1 ∧ Mod [b] w w' ∧ Rdr w' 107 b (s.take z0 t).2 A n c) := by
  have h0 := h
  obtain ⟨hb, hr, ho, hl, hpp, hla, hbig, hcap⟩ := h
  refine ret_T (n := 28) Try.func90 rfl rfl ?_
  repeat (first | refine T_seq ?_ | refine T_region ?_)
  refine TL_box (hk := ?_); intro x1 w1 e1 g1 g1' k1
  --
  refine TL_alloc TE (hk := ?_); intro x2 w2 e2 g2 g2' k2
  have e02 : Ext w w2 := e1.ext e2
  have hb2 := hb.be e02
  have k12 : Blk w2 x1 _ [ptr b] := k1.be e2
  have k22 : Blk w2 x2 _ [.string ⟨#[]⟩] := k2
  have lb := hb.lt
  have ls1 := e1.size
  by_cases he : s.err = 0
  · rw [he] at hb2
    repeat (first | refine T_seq ?_ | refine T_region ?_ | refine T_cond_false rfl ?_ | refine T_skip ?_ | refine TL_ne_f (hk := ?_) | refine TL_pnil_f TE (hk := ?_) | refine TL_nil ?_ | refine TL_move (hk := ?_) | refine TL_load TE (hk := ?_) | refine TL_fieldAddr TE (hk := ?_) | refine TL_yes (hk := ?_) | refine TL_pick_f (hk := ?_) | refine TL_nilCheck (hk := ?_))
    refine TL_alloc TE (hk := ?_); intro x3 w3 e3 g3 g3' k3
    --
    refine TL_store TE (hk := ?_); intro w4 m4 s4 k4
    have e34 : Ext w2 w4 := Mod.step e3 m4 (fun y hy => .inr (by simp only [List.mem_singleton] at hy; omega))
    have e04 : Ext w w4 := e02.ext e34
    have k14 := k12.be e34
    have k24 := k22.be e34
    have k34 : Blk w4 x3 _ [.int .i64 (s.pos : Int)] := k4
    have hc4 := hc w4 e04
    have l12 : x1 < x2 := by omega
    have ls2 := e2.size
    have l23 : x2 < x3 := by omega
    repeat (first | refine T_seq ?_ | refine T_region ?_ | refine TL_nil ?_ | refine TL_makeFunc (hk := ?_))
    refine TL_defer rfl rfl rfl ?_
    repeat (first | refine T_seq ?_ | refine T_region ?_ | refine TL_nil ?_ | refine TL_move (hk := ?_))
    refine TL_callc TE (fst := fst) (cap := cap) (vs := []) rfl rfl hE rfl (by simpa using hc4) ?_ ?_ (fun _ h => h)
    · rintro _ w5 ⟨x, k, hx, rfl, m5, h5⟩
      rw [take_ok he hx]
      have k15 := k14.mod m5 (by simp; omega)
      have k25 := k24.mod m5 (by simp; omega)
      have k35 := k34.mod m5 (by simp; omega)
      obtain ⟨hb5, hr5, _, _, hp5, _, _, _⟩ := h5
      simp only at hb5 hr5 hp5
      refine TL_store TE rfl rfl (hV1 x) rfl (by exact k25) (by decide) (hk := ?_); intro w6 m6 s6 k6
      have k16 := k15.mod m6 (by simp; omega)
      have k36 := k35.mod m6 (by simp; omega)
      have hb6 := hb5.mod m6 (by simp; omega)
      have hr6 := Rd.mod0 hr5 m6 (Rd.offNew hr (by omega))
      repeat (first | refine T_seq ?_ | refine T_region ?_ | refine TL_nil ?_ | refine TL_load TE (hk := ?_) | refine TL_fieldAddr TE (hk := ?_) | refine TL_nilCheck (hk := ?_))
      refine TL_store TE (hk := ?_); intro w7 m7 s7 k7
      have k17 := k16.mod m7 (by simp; omega)
      have k37 := k36.mod m7 (by simp; omega)
      have k27 : Blk w7 x2 _ [V x] := k6.mod m7 (by simp; omega)
      have hr7 := hr6.mod m7 ho
      repeat (first | refine T_seq ?_ | refine T_region ?_ | refine TL_nil ?_ | refine TL_load TE (hk := ?_))
      refine TL_store TE rfl rfl (hV1 x) rfl (by exact k27) (by simp) (hk := ?_); intro w8 m8 s8 k8
      have hb8 := k7.mod m8 (by simp; omega)
      have hr8 := Rd.mod0 hr7 m8 (Rd.offNew hr (by omega))
      have hm : Mod [b] w w8 := by
        have a1 : Mod [b] w w5 := (Ext.mod e04).trans m5
        have a2 := a1.step m6 (fun q hq => .inr (by simp only [List.mem_singleton] at hq; omega))
        have a3 := a2.trans m7
        exact a3.step m8 (fun q hq => .inr (by simp only [List.mem_singleton] at hq; omega))
      repeat (refine TL_nil ?_)
      refine T_leave ?_
      refine LV_defer TE (args := []) (cap := [ptr x3, ptr x2, ptr x1]) rfl (by simp) (rdd0_string w8 x3 x2 x1) ?_ ?_ ?_
      · rintro v u' w9 ⟨rfl, hv, rfl⟩
        refine LV_ret rfl (res1c TE rfl rfl rfl rfl k8 rfl) ?_
        exact ⟨rfl, hm, ⟨hb8, hr8, ho, hl, hp5, hpp, hbig, hcap⟩⟩
      · rintro ch u' w9 ⟨_, hv, _⟩; cases hv
      · rintro u' w9 ⟨_, hv, _⟩; cases hv
    · rintro ch w5 ⟨e, p, hx, rfl, m5, h5⟩
      rw [take_err he hx]
      have k15 := k14.mod m5 (by simp; omega)
      have k25 := k24.mod m5 (by simp; omega)
      have k35 := k34.mod m5 (by simp; omega)
      refine LV_defer TE (args := []) (cap := [ptr x3, ptr x2, ptr x1]) rfl (by simp) (rdd1_string b _ A n c e w5 x3 x2 x1 _ _ _ s.pos _ h5 k35 k25 k15 (by omega) (by omega) (by omega) (by omega) (by omega) (Rd.offNew hr (by omega)) hpp) ?_ ?_ ?_
      · rintro v u' w9 ⟨rfl, hv, m9, h9, k9⟩
        refine LV_ret rfl (res1c TE rfl rfl rfl rfl k9 rfl) ?_
        refine ⟨hV.symm, ?_, h9⟩
        exact ((Ext.mod e04).trans m5).step m9 (fun q hq => by simp only [List.mem_cons, List.not_mem_nil, or_false] at hq ⊢; omega)
      · rintro ch u' w9 ⟨_, hv, _⟩; cases hv
      · rintro u' w9 ⟨_, hv, _⟩; cases hv
  · have hs0 : s.take z0 t = (z0, s) := by unfold RS.take; rw [if_neg he]
    rw [hs0]
    repeat (first | refine T_seq ?_ | refine T_region ?_ | refine T_cond_true rfl ?_ | refine TL_ne_t (hk := ?_) | refine TL_pnil_f TE (hk := ?_) | refine TL_nil ?_ | refine TL_move (hk := ?_) | refine TL_load TE (hk := ?_) | refine TL_fieldAddr TE (hk := ?_) | refine TL_yes (hk := ?_) | refine TL_pick_f (hk := ?_) | refine TL_nilCheck (hk := ?_))
    refine TL_store TE (hk := ?_); intro w3 m3 s3 k3
    have hm : Ext w w3 := Mod.step e02 m3 (fun y hy => .inr (by simp only [List.mem_singleton] at hy; omega))
    repeat (refine TL_nil ?_)
    exact T_ret1c TE rfl rfl rfl rfl k3 rfl ⟨hV.symm, Ext.mod hm, h0.ext hm⟩
theorem rdd0_byte (w : World) (x y z : Nat) : CallsD Try.prog 105 #[ptr x, ptr y, ptr z] .returning w (fun e u w' => u = .returning ∧ e = .returned (.tuple #[]) ∧ w' = w) := by
  refine callsD_recover (n := 32) (args := [ptr x, ptr y, ptr z]) (st := params 0 [ptr x, ptr y, ptr z]) Try.func105 rfl rfl (st_params _ _ 0) rfl (.inl ⟨rfl, rfl, rfl⟩) ?_
  repeat (first | refine T_seq ?_ | refine T_region ?_ | refine T_cond_false rfl ?_ | refine T_skip ?_ | refine TL_ine_f TE (hk := ?_) | refine TL_nil ?_ | refine TL_move (hk := ?_) | refine TL_assign (hk := ?_))
  refine T_end0' rfl ⟨rfl, rfl⟩
theorem rdd1_byte (b : Nat) (s : RS) (A : Option Addr) (n c : Nat) (e : Int) (w : World) (x y z : Nat) (tx ty tz : TypeId) (p : Nat) (v0 : Value) (h : Rdr w 107 b s A n c) (hx : Blk w x tx [.int .i64 (p : Int)]) (hy : Blk w y ty [v0]) (hz : Blk w z tz [ptr b])
    (hyb : y ≠ b) (hxb : x ≠ b) (hzb : z ≠ b) (hxy : x ≠ y) (hzy : z ≠ y) (hyA : 0 < n → Off A [y]) (hp : p ≤ n) :
    CallsD Try.prog 105 #[ptr x, ptr y, ptr z] (.panicking (gave e)) w (fun e' u w' => u = .panicking [{ v := .iface 112 (.agg #[.int .i64 e]), recovered := true }] ∧ e' = .returned (.tuple #[]) ∧ Mod [y, b] w w' ∧ Rdr w' 107 b { s with pos := p, err := e, spot := p } A n c ∧ Blk w' y ty [.int .u8 0]) := by
  refine callsD_recover (n := 32) (args := [ptr x, ptr y, ptr z]) (st := params 0 [ptr x, ptr y, ptr z]) Try.func105 rfl rfl (st_params _ _ 0) rfl (.inr ⟨_, _, rfl, rfl, rfl⟩) ?_
  obtain ⟨hb, hr, ho, hl, hpp, hla, hbig, hcap⟩ := h
  repeat (first | refine T_seq ?_ | refine T_region ?_ | refine T_cond_true rfl ?_ | refine TL_ine_t TE (hk := ?_) | refine TL_nil ?_ | refine TL_move (hk := ?_) | refine TL_assign (hk := ?_) | refine TL_extract (hk := ?_) | refine TL_assert_t TE (hk := ?_))
  refine TL_alloc TE (hk := ?_); intro g w1 e1 g1 g2 kg
  --
  refine TL_store1 TE rfl rfl rfl rfl rfl (by exact kg) (by decide) (hk := ?_); intro w2 m2 s2 k2
  have e2 : Ext w w2 := Mod.step e1 m2 (fun y hy => .inr (by simp only [List.mem_singleton] at hy; omega))
  repeat (first | refine T_seq ?_ | refine T_region ?_ | refine T_cond_false rfl ?_ | refine T_skip ?_ | refine TL_nil ?_ | refine TL_move (hk := ?_) | refine TL_assign (hk := ?_) | refine TL_not (hk := ?_))
  have hxl := hx.be e2
  have hzl := hz.be e2
  have hyl := hy.be e2
  have hbl := hb.be e2
  refine T_region_h TE (fun w' => Blk w' x tx [.int .i64 (p : Int)] ∧ Blk w' z tz [ptr b] ∧ Blk w' g 112 [.int .i64 e]) (fun w3 e3 s3 => ⟨⟨hxl.be e3, hzl.be e3, k2.be e3⟩, ?_⟩)
  have hx3 := hxl.be e3
  have hz3 := hzl.be e3
  have hy3 := hyl.be e3
  have hb3 := hbl.be e3
  have hg3 := k2.be e3
  refine TH_load 0 TE rfl (by kernel_rfl) (by kernel_rfl) (by kernel_rfl) rfl rfl rfl rfl (by rintro w' ⟨h1, h2, h3⟩; first | exact h1 | exact h2 | exact h3) (by exact rfl) ?_; refine TH_load 1 TE rfl (by kernel_rfl) (by kernel_rfl) (by kernel_rfl) rfl rfl rfl rfl (by rintro w' ⟨h1, h2, h3⟩; first | exact h1 | exact h2 | exact h3) (by exact rfl) ?_; refine TH_load 2 TE rfl (by kernel_rfl) (by kernel_rfl) (by kernel_rfl) rfl rfl rfl rfl (by rintro w' ⟨h1, h2, h3⟩; first | exact h1 | exact h2 | exact h3) (by exact rfl) ?_
  refine TH_move 3 rfl (by kernel_rfl) (by kernel_rfl) (by kernel_rfl) rfl rfl ?_
  refine TH_load 4 TE rfl (by kernel_rfl) (by kernel_rfl) (by kernel_rfl) rfl rfl rfl rfl (by rintro w' ⟨h1, h2, h3⟩; first | exact h1 | exact h2 | exact h3) (by exact rfl) ?_
  refine TH_fieldAddr 5 TE rfl (by kernel_rfl) (by kernel_rfl) (by kernel_rfl) rfl rfl rfl rfl rfl rfl ?_
  refine TH_load 6 TE rfl (by kernel_rfl) (by kernel_rfl) (by kernel_rfl) rfl rfl rfl rfl (by rintro w' ⟨h1, h2, h3⟩; first | exact h1 | exact h2 | exact h3) (by exact rfl) ?_; refine TH_load 7 TE rfl (by kernel_rfl) (by kernel_rfl) (by kernel_rfl) rfl rfl rfl rfl (by rintro w' ⟨h1, h2, h3⟩; first | exact h1 | exact h2 | exact h3) (by exact rfl) ?_
  have yg : y < g := Nat.lt_of_lt_of_le hy.lt g1
  have bg : b < g := Nat.lt_of_lt_of_le hb.lt g1
  refine TH_store 8 TE rfl (by kernel_rfl) rfl rfl rfl rfl (by focus ((repeat (first | assumption | (apply Own.rd; assumption) | (apply Rd.blk; assumption; exact rfl) | (apply Blk.be; assumption) | (apply Rd.be; assumption) | (apply Own.be; assumption) | (apply Blk.bm; assumption; focus (first | assumption | (simp only [List.mem_cons, List.not_mem_nil, or_false]; omega))) | (apply Rd.bm; assumption; focus assumption) | (apply Own.bm; assumption; focus assumption))); done)) (by first | decide | (simp; done) | (simp; omega)) ?_; intro w4 m4 s4 k4
  have hx4 := hx3.mod m4 (by simpa using hxy)
  have hz4 := hz3.mod m4 (by simpa using hzy)
  have hg4 := hg3.mod m4 (by simp; omega)
  have hb4 := hb3.mod m4 (by simpa using Ne.symm hyb)
  refine ⟨⟨hx4, hz4, hg4⟩, ?_⟩
  refine TH_nilCheck 9 rfl (by kernel_rfl) (by kernel_rfl) (by kernel_rfl) rfl rfl ?_
  refine TH_fieldAddr 10 TE rfl (by kernel_rfl) (by kernel_rfl) (by kernel_rfl) rfl rfl rfl rfl rfl rfl ?_
  refine TH_store 11 TE rfl (by kernel_rfl) rfl rfl rfl rfl (by focus ((repeat (first | assumption | (apply Own.rd; assumption) | (apply Rd.blk; assumption; exact rfl) | (apply Blk.be; assumption) | (apply Rd.be; assumption) | (apply Own.be; assumption) | (apply Blk.bm; assumption; focus (first | assumption | (simp only [List.mem_cons, List.not_mem_nil, or_false]; omega))) | (apply Rd.bm; assumption; focus assumption) | (apply Own.bm; assumption; focus assumption))); done)) (by first | decide | (simp; done) | (simp; omega)) ?_; intro w5 m5 s5 k5
  have hx5 := hx4.mod m5 (by simpa using hxb)
  have hz5 := hz4.mod m5 (by simpa using hzb)
  have hg5 := hg4.mod m5 (by simp; omega)
  have hy5 := k4.mod m5 (by simpa using hyb)
  refine ⟨⟨hx5, hz5, hg5⟩, ?_⟩
  refine TH_nilCheck 12 rfl (by kernel_rfl) (by kernel_rfl) (by kernel_rfl) rfl rfl ?_
  refine TH_fieldAddr 13 TE rfl (by kernel_rfl) (by kernel_rfl) (by kernel_rfl) rfl rfl rfl rfl rfl rfl ?_
  refine TH_store 14 TE rfl (by kernel_rfl) rfl rfl rfl rfl (by focus ((repeat (first | assumption | (apply Own.rd; assumption) | (apply Rd.blk; assumption; exact rfl) | (apply Blk.be; assumption) | (apply Rd.be; assumption) | (apply Own.be; assumption) | (apply Blk.bm; assumption; focus (first | assumption | (simp only [List.mem_cons, List.not_mem_nil, or_false]; omega))) | (apply Rd.bm; assumption; focus assumption) | (apply Own.bm; assumption; focus assumption))); done)) (by first | decide | (simp; done) | (simp; omega)) ?_; intro w6 m6 s6 k6
  have hx6 := hx5.mod m6 (by simpa using hxb)
  have hz6 := hz5.mod m6 (by simpa using hzb)
  have hg6 := hg5.mod m6 (by simp; omega)
  have hy6 := hy5.mod m6 (by simpa using hyb)
  refine ⟨⟨hx6, hz6, hg6⟩, ?_⟩
  refine TH_nilCheck 15 rfl (by kernel_rfl) (by kernel_rfl) (by kernel_rfl) rfl rfl ?_
  refine TH_fieldAddr 16 TE rfl (by kernel_rfl) (by kernel_rfl) (by kernel_rfl) rfl rfl rfl rfl rfl rfl ?_
  refine TH_store 17 TE rfl (by kernel_rfl) rfl rfl rfl rfl (by focus ((repeat (first | assumption | (apply Own.rd; assumption) | (apply Rd.blk; assumption; exact rfl) | (apply Blk.be; assumption) | (apply Rd.be; assumption) | (apply Own.be; assumption) | (apply Blk.bm; assumption; focus (first | assumption | (simp only [List.mem_cons, List.not_mem_nil, or_false]; omega))) | (apply Rd.bm; assumption; focus assumption) | (apply Own.bm; assumption; focus assumption))); done)) (by first | decide | (simp; done) | (simp; omega)) ?_; intro w7 m7 s7 k7
  have hx7 := hx6.mod m7 (by simpa using hxb)
  have hz7 := hz6.mod m7 (by simpa using hzb)
  have hg7 := hg6.mod m7 (by simp; omega)
  have hy7 := hy6.mod m7 (by simpa using hyb)
  refine ⟨⟨hx7, hz7, hg7⟩, ?_⟩
  refine TH_done (by kernel_rfl) ?_
  have hm : Mod [y, b] w w7 := by
    have a1 : Mod [y, b] w w3 := Ext.mod (Mod.ext e2 e3)
    have a2 := a1.step m4 (fun q hq => .inl (by simp only [List.mem_cons, List.not_mem_nil, or_false] at hq ⊢; omega))
    have a3 := a2.step m5 (fun q hq => .inl (by simp only [List.mem_cons, List.not_mem_nil, or_false] at hq ⊢; omega))
    have a4 := a3.step m6 (fun q hq => .inl (by simp only [List.mem_cons, List.not_mem_nil, or_false] at hq ⊢; omega))
    exact a4.step m7 (fun q hq => .inl (by simp only [List.mem_cons, List.not_mem_nil, or_false] at hq ⊢; omega))
  refine T_end0' rfl ⟨rfl, hm, ⟨k7, Rd.mod0 hr hm ?_, ho, hl, hp, hla, hbig, hcap⟩, hy7⟩
  intro hn0 ad ea hq
  simp only [List.mem_cons, List.not_mem_nil, or_false] at hq
  rcases hq with hq | hq
  · exact hyA hn0 ad ea (by simpa using hq)
  · exact ho ad ea (by simpa using hq)
theorem rd_byte {α : Type} (b : Nat) (s : RS) (A : Option Addr) (n c : Nat) (w : World) (g : Nat) (fst cap : List Value) (V : α → Value) (z0 : α) (hV : V z0 = .int .u8 0) (hV1 : ∀ x, (V x).oneCell' = true) (t : List UInt8 → Except Int (α × Nat)) (hE : TE.fn g = true) (h : Rdr w 107 b s A n c)
    (hc : ∀ w', Ext w w' → Calls Try.prog g (fst ++ cap).toArray w' (Took w' b s A n c V (t (s.b.drop s.pos)))) :
    Ret Try.prog 92 [ptr b, .func (.func g) fst.toArray cap.toArray] w (fun v w' => v = V (s.take z0 t).1 ∧ Mod [b] w w' ∧ Rdr w' 107 b (s.take z0 t).2 A n c) := by
  have h0 := h
  obtain ⟨hb, hr, ho, hl, hpp, hla, hbig, hcap⟩ := h
  refine ret_T (n := 28) Try.func92 rfl rfl ?_
  repeat (first | refine T_seq ?_ | refine T_region ?_)
  refine TL_box (hk := ?_); intro x1 w1 e1 g1 g1' k1
  --
  refine TL_alloc TE (hk := ?_); intro x2 w2 e2 g2 g2' k2
  have e02 : Ext w w2 := e1.ext e2
  have hb2 := hb.be e02
  have k12 : Blk w2 x1 _ [ptr b] := k1.be e2
  have k22 : Blk w2 x2 _ [.int .u8 0] := k2
  have lb := hb.lt
  have ls1 := e1.size
  by_cases he : s.err = 0
  · rw [he] at hb2
    repeat (first | refine T_seq ?_ | refine T_region ?_ | refine T_cond_false rfl ?_ | refine T_skip ?_ | refine TL_ne_f (hk := ?_) | refine TL_pnil_f TE (hk := ?_) | refine TL_nil ?_ | refine TL_move (hk := ?_) | refine TL_load TE (hk := ?_) | refine TL_fieldAddr TE (hk := ?_) | refine TL_yes (hk := ?_) | refine TL_pick_f (hk := ?_) | refine TL_nilCheck (hk := ?_))
    refine TL_alloc TE (hk := ?_); intro x3 w3 e3 g3 g3' k3
    --
    refine TL_store TE (hk := ?_); intro w4 m4 s4 k4
    have e34 : Ext w2 w4 := Mod.step e3 m4 (fun y hy => .inr (by simp only [List.mem_singleton] at hy; omega))
    have e04 : Ext w w4 := e02.ext e34
    have k14 := k12.be e34
    have k24 := k22.be e34
    have k34 : Blk w4 x3 _ [.int .i64 (s.pos : Int)] := k4
    have hc4 := hc w4 e04
    have l12 : x1 < x2 := by omega
    have ls2 := e2.size
    have l23 : x2 < x3 := by omega
    repeat (first | refine T_seq ?_ | refine T_region ?_ | refine TL_nil ?_ | refine TL_makeFunc (hk := ?_))
    refine TL_defer rfl rfl rfl ?_
    repeat (first | refine T_seq ?_ | refine T_region ?_ | refine TL_nil ?_ | refine TL_move (hk := ?_))
    refine TL_callc TE (fst := fst) (cap := cap) (vs := []) rfl rfl hE rfl (by simpa using hc4) ?_ ?_ (fun _ h => h)
    · rintro _ w5 ⟨x, k, hx, rfl, m5, h5⟩
      rw [take_ok he hx]
      have k15 := k14.mod m5 (by simp; omega)
      have k25 := k24.mod m5 (by simp; omega)
      have k35 := k34.mod m5 (by simp; omega)
      obtain ⟨hb5, hr5, _, _, hp5, _, _, _⟩ := h5
      simp only at hb5 hr5 hp5
      refine TL_store TE rfl rfl (hV1 x) rfl (by exact k25) (by decide) (hk := ?_); intro w6 m6 s6 k6
      have k16 := k15.mod m6 (by simp; omega)
      have k36 := k35.mod m6 (by simp; omega)
      have hb6 := hb5.mod m6 (by simp; omega)
      have hr6 := Rd.mod0 hr5 m6 (Rd.offNew hr (by omega))
      repeat (first | refine T_seq ?_ | refine T_region ?_ | refine TL_nil ?_ | refine TL_load TE (hk := ?_) | refine TL_fieldAddr TE (hk := ?_) | refine TL_nilCheck (hk := ?_))
      refine TL_store TE (hk := ?_); intro w7 m7 s7 k7
      have k17 := k16.mod m7 (by simp; omega)
      have k37 := k36.mod m7 (by simp; omega)
      have k27 : Blk w7 x2 _ [V x] := k6.mod m7 (by simp; omega)
      have hr7 := hr6.mod m7 ho
      repeat (first | refine T_seq ?_ | refine T_region ?_ | refine TL_nil ?_ | refine TL_load TE (hk := ?_))
      refine TL_store TE rfl rfl (hV1 x) rfl (by exact k27) (by simp) (hk := ?_); intro w8 m8 s8 k8
      have hb8 := k7.mod m8 (by simp; omega)
      have hr8 := Rd.mod0 hr7 m8 (Rd.offNew hr (by omega))
      have hm : Mod [b] w w8 := by
        have a1 : Mod [b] w w5 := (Ext.mod e04).trans m5
        have a2 := a1.step m6 (fun q hq => .inr (by simp only [List.mem_singleton] at hq; omega))
        have a3 := a2.trans m7
        exact a3.step m8 (fun q hq => .inr (by simp only [List.mem_singleton] at hq; omega))
      repeat (refine TL_nil ?_)
      refine T_leave ?_
      refine LV_defer TE (args := []) (cap := [ptr x3, ptr x2, ptr x1]) rfl (by simp) (rdd0_byte w8 x3 x2 x1) ?_ ?_ ?_
      · rintro v u' w9 ⟨rfl, hv, rfl⟩
        refine LV_ret rfl (res1c TE rfl rfl rfl rfl k8 rfl) ?_
        exact ⟨rfl, hm, ⟨hb8, hr8, ho, hl, hp5, hpp, hbig, hcap⟩⟩
      · rintro ch u' w9 ⟨_, hv, _⟩; cases hv
      · rintro u' w9 ⟨_, hv, _⟩; cases hv
    · rintro ch w5 ⟨e, p, hx, rfl, m5, h5⟩
      rw [take_err he hx]
      have k15 := k14.mod m5 (by simp; omega)
      have k25 := k24.mod m5 (by simp; omega)
      have k35 := k34.mod m5 (by simp; omega)
      refine LV_defer TE (args := []) (cap := [ptr x3, ptr x2, ptr x1]) rfl (by simp) (rdd1_byte b _ A n c e w5 x3 x2 x1 _ _ _ s.pos _ h5 k35 k25 k15 (by omega) (by omega) (by omega) (by omega) (by omega) (Rd.offNew hr (by omega)) hpp) ?_ ?_ ?_
      · rintro v u' w9 ⟨rfl, hv, m9, h9, k9⟩
        refine LV_ret rfl (res1c TE rfl rfl rfl rfl k9 rfl) ?_
        refine ⟨hV.symm, ?_, h9⟩
        exact ((Ext.mod e04).trans m5).step m9 (fun q hq => by simp only [List.mem_cons, List.not_mem_nil, or_false] at hq ⊢; omega)
      · rintro ch u' w9 ⟨_, hv, _⟩; cases hv
      · rintro u' w9 ⟨_, hv, _⟩; cases hv
  · have hs0 : s.take z0 t = (z0, s) := by unfold RS.take; rw [if_neg he]
    rw [hs0]
    repeat (first | refine T_seq ?_ | refine T_region ?_ | refine T_cond_true rfl ?_ | refine TL_ne_t (hk := ?_) | refine TL_pnil_f TE (hk := ?_) | refine TL_nil ?_ | refine TL_move (hk := ?_) | refine TL_load TE (hk := ?_) | refine TL_fieldAddr TE (hk := ?_) | refine TL_yes (hk := ?_) | refine TL_pick_f (hk := ?_) | refine TL_nilCheck (hk := ?_))
    refine TL_store TE (hk := ?_); intro w3 m3 s3 k3
    have hm : Ext w w3 := Mod.step e02 m3 (fun y hy => .inr (by simp only [List.mem_singleton] at hy; omega))
    repeat (refine TL_nil ?_)
    exact T_ret1c TE rfl rfl rfl rfl k3 rfl ⟨hV.symm, Ext.mod hm, h0.ext hm⟩
theorem rdd0_int (w : World) (x y z : Nat) : CallsD Try.prog 102 #[ptr x, ptr y, ptr z] .returning w (fun e u w' => u = .returning ∧ e = .returned (.tuple #[]) ∧ w' = w) := by
  refine callsD_recover (n := 32) (args := [ptr x, ptr y, ptr z]) (st := params 0 [ptr x, ptr y, ptr z]) Try.func102 rfl rfl (st_params _ _ 0) rfl (.inl ⟨rfl, rfl, rfl⟩) ?_
  repeat (first | refine T_seq ?_ | refine T_region ?_ | refine T_cond_false rfl ?_ | refine T_skip ?_ | refine TL_ine_f TE (hk := ?_) | refine TL_nil ?_ | refine TL_move (hk := ?_) | refine TL_assign (hk := ?_))
  refine T_end0' rfl ⟨rfl, rfl⟩
theorem rdd1_int (b : Nat) (s : RS) (A : Option Addr) (n c : Nat) (e : Int) (w : World) (x y z : Nat) (tx ty tz : TypeId) (p : Nat) (v0 : Value) (h : Rdr w 107 b s A n c) (hx : Blk w x tx [.int .i64 (p : Int)]) (hy : Blk w y ty [v0]) (hz : Blk w z tz [ptr b])
    (hyb : y ≠ b) (hxb : x ≠ b) (hzb : z ≠ b) (hxy : x ≠ y) (hzy : z ≠ y) (hyA : 0 < n → Off A [y]) (hp : p ≤ n) :
    CallsD Try.prog 102 #[ptr x, ptr y, ptr z] (.panicking (gave e)) w (fun e' u w' => u = .panicking [{ v := .iface 112 (.agg #[.int .i64 e]), recovered := true }] ∧ e' = .returned (.tuple #[]) ∧ Mod [y, b] w w' ∧ Rdr w' 107 b { s with pos := p, err := e, spot := p } A n c ∧ Blk w' y ty [.int .i64 0]) := by
  refine callsD_recover (n := 32) (args := [ptr x, ptr y, ptr z]) (st := params 0 [ptr x, ptr y, ptr z]) Try.func102 rfl rfl (st_params _ _ 0) rfl (.inr ⟨_, _, rfl, rfl, rfl⟩) ?_
  obtain ⟨hb, hr, ho, hl, hpp, hla, hbig, hcap⟩ := h
  repeat (first | refine T_seq ?_ | refine T_region ?_ | refine T_cond_true rfl ?_ | refine TL_ine_t TE (hk := ?_) | refine TL_nil ?_ | refine TL_move (hk := ?_) | refine TL_assign (hk := ?_) | refine TL_extract (hk := ?_) | refine TL_assert_t TE (hk := ?_))
  refine TL_alloc TE (hk := ?_); intro g w1 e1 g1 g2 kg
  --
  refine TL_store1 TE rfl rfl rfl rfl rfl (by exact kg) (by decide) (hk := ?_); intro w2 m2 s2 k2
  have e2 : Ext w w2 := Mod.step e1 m2 (fun y hy => .inr (by simp only [List.mem_singleton] at hy; omega))
  repeat (first | refine T_seq ?_ | refine T_region ?_ | refine T_cond_false rfl ?_ | refine T_skip ?_ | refine TL_nil ?_ | refine TL_move (hk := ?_) | refine TL_assign (hk := ?_) | refine TL_not (hk := ?_))
  have hxl := hx.be e2
  have hzl := hz.be e2
  have hyl := hy.be e2
  have hbl := hb.be e2
  refine T_region_h TE (fun w' => Blk w' x tx [.int .i64 (p : Int)] ∧ Blk w' z tz [ptr b] ∧ Blk w' g 112 [.int .i64 e]) (fun w3 e3 s3 => ⟨⟨hxl.be e3, hzl.be e3, k2.be e3⟩, ?_⟩)
  have hx3 := hxl.be e3
  have hz3 := hzl.be e3
  have hy3 := hyl.be e3
  have hb3 := hbl.be e3
  have hg3 := k2.be e3
  refine TH_load 0 TE rfl (by kernel_rfl) (by kernel_rfl) (by kernel_rfl) rfl rfl rfl rfl (by rintro w' ⟨h1, h2, h3⟩; first | exact h1 | exact h2 | exact h3) (by exact rfl) ?_; refine TH_load 1 TE rfl (by kernel_rfl) (by kernel_rfl) (by kernel_rfl) rfl rfl rfl rfl (by rintro w' ⟨h1, h2, h3⟩; first | exact h1 | exact h2 | exact h3) (by exact rfl) ?_; refine TH_load 2 TE rfl (by kernel_rfl) (by kernel_rfl) (by kernel_rfl) rfl rfl rfl rfl (by rintro w' ⟨h1, h2, h3⟩; first | exact h1 | exact h2 | exact h3) (by exact rfl) ?_
  refine TH_move 3 rfl (by kernel_rfl) (by kernel_rfl) (by kernel_rfl) rfl rfl ?_
  refine TH_load 4 TE rfl (by kernel_rfl) (by kernel_rfl) (by kernel_rfl) rfl rfl rfl rfl (by rintro w' ⟨h1, h2, h3⟩; first | exact h1 | exact h2 | exact h3) (by exact rfl) ?_
  refine TH_fieldAddr 5 TE rfl (by kernel_rfl) (by kernel_rfl) (by kernel_rfl) rfl rfl rfl rfl rfl rfl ?_
  refine TH_load 6 TE rfl (by kernel_rfl) (by kernel_rfl) (by kernel_rfl) rfl rfl rfl rfl (by rintro w' ⟨h1, h2, h3⟩; first | exact h1 | exact h2 | exact h3) (by exact rfl) ?_; refine TH_load 7 TE rfl (by kernel_rfl) (by kernel_rfl) (by kernel_rfl) rfl rfl rfl rfl (by rintro w' ⟨h1, h2, h3⟩; first | exact h1 | exact h2 | exact h3) (by exact rfl) ?_
  have yg : y < g := Nat.lt_of_lt_of_le hy.lt g1
  have bg : b < g := Nat.lt_of_lt_of_le hb.lt g1
  refine TH_store 8 TE rfl (by kernel_rfl) rfl rfl rfl rfl (by focus ((repeat (first | assumption | (apply Own.rd; assumption) | (apply Rd.blk; assumption; exact rfl) | (apply Blk.be; assumption) | (apply Rd.be; assumption) | (apply Own.be; assumption) | (apply Blk.bm; assumption; focus (first | assumption | (simp only [List.mem_cons, List.not_mem_nil, or_false]; omega))) | (apply Rd.bm; assumption; focus assumption) | (apply Own.bm; assumption; focus assumption))); done)) (by first | decide | (simp; done) | (simp; omega)) ?_; intro w4 m4 s4 k4
  have hx4 := hx3.mod m4 (by simpa using hxy)
  have hz4 := hz3.mod m4 (by simpa using hzy)
  have hg4 := hg3.mod m4 (by simp; omega)
  have hb4 := hb3.mod m4 (by simpa using Ne.symm hyb)
  refine ⟨⟨hx4, hz4, hg4⟩, ?_⟩
  refine TH_nilCheck 9 rfl (by kernel_rfl) (by kernel_rfl) (by kernel_rfl) rfl rfl ?_
  refine TH_fieldAddr 10 TE rfl (by kernel_rfl) (by kernel_rfl) (by kernel_rfl) rfl rfl rfl rfl rfl rfl ?_
  refine TH_store 11 TE rfl (by kernel_rfl) rfl rfl rfl rfl (by focus ((repeat (first | assumption | (apply Own.rd; assumption) | (apply Rd.blk; assumption; exact rfl) | (apply Blk.be; assumption) | (apply Rd.be; assumption) | (apply Own.be; assumption) | (apply Blk.bm; assumption; focus (first | assumption | (simp only [List.mem_cons, List.not_mem_nil, or_false]; omega))) | (apply Rd.bm; assumption; focus assumption) | (apply Own.bm; assumption; focus assumption))); done)) (by first | decide | (simp; done) | (simp; omega)) ?_; intro w5 m5 s5 k5
  have hx5 := hx4.mod m5 (by simpa using hxb)
  have hz5 := hz4.mod m5 (by simpa using hzb)
  have hg5 := hg4.mod m5 (by simp; omega)
  have hy5 := k4.mod m5 (by simpa using hyb)
  refine ⟨⟨hx5, hz5, hg5⟩, ?_⟩
  refine TH_nilCheck 12 rfl (by kernel_rfl) (by kernel_rfl) (by kernel_rfl) rfl rfl ?_
  refine TH_fieldAddr 13 TE rfl (by kernel_rfl) (by kernel_rfl) (by kernel_rfl) rfl rfl rfl rfl rfl rfl ?_
  refine TH_store 14 TE rfl (by kernel_rfl) rfl rfl rfl rfl (by focus ((repeat (first | assumption | (apply Own.rd; assumption) | (apply Rd.blk; assumption; exact rfl) | (apply Blk.be; assumption) | (apply Rd.be; assumption) | (apply Own.be; assumption) | (apply Blk.bm; assumption; focus (first | assumption | (simp only [List.mem_cons, List.not_mem_nil, or_false]; omega))) | (apply Rd.bm; assumption; focus assumption) | (apply Own.bm; assumption; focus assumption))); done)) (by first | decide | (simp; done) | (simp; omega)) ?_; intro w6 m6 s6 k6
  have hx6 := hx5.mod m6 (by simpa using hxb)
  have hz6 := hz5.mod m6 (by simpa using hzb)
  have hg6 := hg5.mod m6 (by simp; omega)
  have hy6 := hy5.mod m6 (by simpa using hyb)
  refine ⟨⟨hx6, hz6, hg6⟩, ?_⟩
  refine TH_nilCheck 15 rfl (by kernel_rfl) (by kernel_rfl) (by kernel_rfl) rfl rfl ?_
  refine TH_fieldAddr 16 TE rfl (by kernel_rfl) (by kernel_rfl) (by kernel_rfl) rfl rfl rfl rfl rfl rfl ?_
  refine TH_store 17 TE rfl (by kernel_rfl) rfl rfl rfl rfl (by focus ((repeat (first | assumption | (apply Own.rd; assumption) | (apply Rd.blk; assumption; exact rfl) | (apply Blk.be; assumption) | (apply Rd.be; assumption) | (apply Own.be; assumption) | (apply Blk.bm; assumption; focus (first | assumption | (simp only [List.mem_cons, List.not_mem_nil, or_false]; omega))) | (apply Rd.bm; assumption; focus assumption) | (apply Own.bm; assumption; focus assumption))); done)) (by first | decide | (simp; done) | (simp; omega)) ?_; intro w7 m7 s7 k7
  have hx7 := hx6.mod m7 (by simpa using hxb)
  have hz7 := hz6.mod m7 (by simpa using hzb)
  have hg7 := hg6.mod m7 (by simp; omega)
  have hy7 := hy6.mod m7 (by simpa using hyb)
  refine ⟨⟨hx7, hz7, hg7⟩, ?_⟩
  refine TH_done (by kernel_rfl) ?_
  have hm : Mod [y, b] w w7 := by
    have a1 : Mod [y, b] w w3 := Ext.mod (Mod.ext e2 e3)
    have a2 := a1.step m4 (fun q hq => .inl (by simp only [List.mem_cons, List.not_mem_nil, or_false] at hq ⊢; omega))
    have a3 := a2.step m5 (fun q hq => .inl (by simp only [List.mem_cons, List.not_mem_nil, or_false] at hq ⊢; omega))
    have a4 := a3.step m6 (fun q hq => .inl (by simp only [List.mem_cons, List.not_mem_nil, or_false] at hq ⊢; omega))
    exact a4.step m7 (fun q hq => .inl (by simp only [List.mem_cons, List.not_mem_nil, or_false] at hq ⊢; omega))
  refine T_end0' rfl ⟨rfl, hm, ⟨k7, Rd.mod0 hr hm ?_, ho, hl, hp, hla, hbig, hcap⟩, hy7⟩
  intro hn0 ad ea hq
  simp only [List.mem_cons, List.not_mem_nil, or_false] at hq
  rcases hq with hq | hq
  · exact hyA hn0 ad ea (by simpa using hq)
  · exact ho ad ea (by simpa using hq)
theorem rd_int {α : Type} (b : Nat) (s : RS) (A : Option Addr) (n c : Nat) (w : World) (g : Nat) (fst cap : List Value) (V : α → Value) (z0 : α) (hV : V z0 = .int .i64 0) (hV1 : ∀ x, (V x).oneCell' = true) (t : List UInt8 → Except Int (α × Nat)) (hE : TE.fn g = true) (h : Rdr w 107 b s A n c)
    (hc : ∀ w', Ext w w' → Calls Try.prog g (fst ++ cap).toArray w' (Took w' b s A n c V (t (s.b.drop s.pos)))) :
    Ret Try.prog 87 [ptr b, .func (.func g) fst.toArray cap.toArray] w (fun v w' => v = V (s.take z0 t).1 ∧ Mod [b] w w' ∧ Rdr w' 107 b (s.take z0 t).2 A n c) := by
  have h0 := h
  obtain ⟨hb, hr, ho, hl, hpp, hla, hbig, hcap⟩ := h
  refine ret_T (n := 28) Try.func87 rfl rfl ?_
  repeat (first | refine T_seq ?_ | refine T_region ?_)
  refine TL_box (hk := ?_); intro x1 w1 e1 g1 g1' k1
  --
  refine TL_alloc TE (hk := ?_); intro x2 w2 e2 g2 g2' k2
  have e02 : Ext w w2 := e1.ext e2
  have hb2 := hb.be e02
  have k12 : Blk w2 x1 _ [ptr b] := k1.be e2
  have k22 : Blk w2 x2 _ [.int .i64 0] := k2
  have lb := hb.lt
  have ls1 := e1.size
  by_cases he : s.err = 0
  · rw [he] at hb2
    repeat (first | refine T_seq ?_ | refine T_region ?_ | refine T_cond_false rfl ?_ | refine T_skip ?_ | refine TL_ne_f (hk := ?_) | refine TL_pnil_f TE (hk := ?_) | refine TL_nil ?_ | refine TL_move (hk := ?_) | refine TL_load TE (hk := ?_) | refine TL_fieldAddr TE (hk := ?_) | refine TL_yes (hk := ?_) | refine TL_pick_f (hk := ?_) | refine TL_nilCheck (hk := ?_))
    refine TL_alloc TE (hk := ?_); intro x3 w3 e3 g3 g3' k3
    --
    refine TL_store TE (hk := ?_); intro w4 m4 s4 k4
    have e34 : Ext w2 w4 := Mod.step e3 m4 (fun y hy => .inr (by simp only [List.mem_singleton] at hy; omega))
    have e04 : Ext w w4 := e02.ext e34
    have k14 := k12.be e34
    have k24 := k22.be e34
    have k34 : Blk w4 x3 _ [.int .i64 (s.pos : Int)] := k4
    have hc4 := hc w4 e04
    have l12 : x1 < x2 := by omega
    have ls2 := e2.size
    have l23 : x2 < x3 := by omega
    repeat (first | refine T_seq ?_ | refine T_region ?_ | refine TL_nil ?_ | refine TL_makeFunc (hk := ?_))
    refine TL_defer rfl rfl rfl ?_
    repeat (first | refine T_seq ?_ | refine T_region ?_ | refine TL_nil ?_ | refine TL_move (hk := ?_))
    refine TL_callc TE (fst := fst) (cap := cap) (vs := []) rfl rfl hE rfl (by simpa using hc4) ?_ ?_ (fun _ h => h)
    · rintro _ w5 ⟨x, k, hx, rfl, m5, h5⟩
      rw [take_ok he hx]
      have k15 := k14.mod m5 (by simp; omega)
      have k25 := k24.mod m5 (by simp; omega)
      have k35 := k34.mod m5 (by simp; omega)
      obtain ⟨hb5, hr5, _, _, hp5, _, _, _⟩ := h5
      simp only at hb5 hr5 hp5
      refine TL_store TE rfl rfl (hV1 x) rfl (by exact k25) (by decide) (hk := ?_); intro w6 m6 s6 k6
      have k16 := k15.mod m6 (by simp; omega)
      have k36 := k35.mod m6 (by simp; omega)
      have hb6 := hb5.mod m6 (by simp; omega)
      have hr6 := Rd.mod0 hr5 m6 (Rd.offNew hr (by omega))
      repeat (first | refine T_seq ?_ | refine T_region ?_ | refine TL_nil ?_ | refine TL_load TE (hk := ?_) | refine TL_fieldAddr TE (hk := ?_) | refine TL_nilCheck (hk := ?_))
      refine TL_store TE (hk := ?_); intro w7 m7 s7 k7
      have k17 := k16.mod m7 (by simp; omega)
      have k37 := k36.mod m7 (by simp; omega)
      have k27 : Blk w7 x2 _ [V x] := k6.mod m7 (by simp; omega)
      have hr7 := hr6.mod m7 ho
      repeat (first | refine T_seq ?_ | refine T_region ?_ | refine TL_nil ?_ | refine TL_load TE (hk := ?_))
      refine TL_store TE rfl rfl (hV1 x) rfl (by exact k27) (by simp) (hk := ?_); intro w8 m8 s8 k8
      have hb8 := k7.mod m8 (by simp; omega)
      have hr8 := Rd.mod0 hr7 m8 (Rd.offNew hr (by omega))
      have hm : Mod [b] w w8 := by
        have a1 : Mod [b] w w5 := (Ext.mod e04).trans m5
        have a2 := a1.step m6 (fun q hq => .inr (by simp only [List.mem_singleton] at hq; omega))
        have a3 := a2.trans m7
        exact a3.step m8 (fun q hq => .inr (by simp only [List.mem_singleton] at hq; omega))
      repeat (refine TL_nil ?_)
      refine T_leave ?_
      refine LV_defer TE (args := []) (cap := [ptr x3, ptr x2, ptr x1]) rfl (by simp) (rdd0_int w8 x3 x2 x1) ?_ ?_ ?_
      · rintro v u' w9 ⟨rfl, hv, rfl⟩
        refine LV_ret rfl (res1c TE rfl rfl rfl rfl k8 rfl) ?_
        exact ⟨rfl, hm, ⟨hb8, hr8, ho, hl, hp5, hpp, hbig, hcap⟩⟩
      · rintro ch u' w9 ⟨_, hv, _⟩; cases hv
      · rintro u' w9 ⟨_, hv, _⟩; cases hv
    · rintro ch w5 ⟨e, p, hx, rfl, m5, h5⟩
      rw [take_err he hx]
      have k15 := k14.mod m5 (by simp; omega)
      have k25 := k24.mod m5 (by simp; omega)
      have k35 := k34.mod m5 (by simp; omega)
      refine LV_defer TE (args := []) (cap := [ptr x3, ptr x2, ptr x1]) rfl (by simp) (rdd1_int b _ A n c e w5 x3 x2 x1 _ _ _ s.pos _ h5 k35 k25 k15 (by omega) (by omega) (by omega) (by omega) (by omega) (Rd.offNew hr (by omega)) hpp) ?_ ?_ ?_
      · rintro v u' w9 ⟨rfl, hv, m9, h9, k9⟩
        refine LV_ret rfl (res1c TE rfl rfl rfl rfl k9 rfl) ?_
        refine ⟨hV.symm, ?_, h9⟩
        exact ((Ext.mod e04).trans m5).step m9 (fun q hq => by simp only [List.mem_cons, List.not_mem_nil, or_false] at hq ⊢; omega)
      · rintro ch u' w9 ⟨_, hv, _⟩; cases hv
      · rintro u' w9 ⟨_, hv, _⟩; cases hv
  · have hs0 : s.take z0 t = (z0, s) := by unfold RS.take; rw [if_neg he]
    rw [hs0]
    repeat (first | refine T_seq ?_ | refine T_region ?_ | refine T_cond_true rfl ?_ | refine TL_ne_t (hk := ?_) | refine TL_pnil_f TE (hk := ?_) | refine TL_nil ?_ | refine TL_move (hk := ?_) | refine TL_load TE (hk := ?_) | refine TL_fieldAddr TE (hk := ?_) | refine TL_yes (hk := ?_) | refine TL_pick_f (hk := ?_) | refine TL_nilCheck (hk := ?_))
    refine TL_store TE (hk := ?_); intro w3 m3 s3 k3
    have hm : Ext w w3 := Mod.step e02 m3 (fun y hy => .inr (by simp only [List.mem_singleton] at hy; omega))
    repeat (refine TL_nil ?_)
    exact T_ret1c TE rfl rfl rfl rfl k3 rfl ⟨hV.symm, Ext.mod hm, h0.ext hm⟩
end Go.Proofs.Ytfplmpfdhiagaaa

namespace Go.Proofs.Ytfplmpfdhiagaaa
open Go.RowKit Go.Proofs.Eng Go.Proofs.Codec
set_option linter.unusedSimpArgs false
set_option linter.unusedVariables false set_option maxRecDepth 10000
attribute [local irreducible] T TL LV TH TA
set_option maxHeartbeats 1000000






























end Go.Proofs.Ytfplmpfdhiagaaa
