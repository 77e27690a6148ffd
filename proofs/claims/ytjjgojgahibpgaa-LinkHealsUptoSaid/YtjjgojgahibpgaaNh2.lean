import Derived.Test.YtjjgojgahibpgaaNh1
import Derived.Test.YtjjgojgahibpgaaRows
import Derived.MapKept
import Derived.Maps.RangeRun
import Derived.Sort.EncStr
import Derived.Sort.Walk0
import Derived.Lib.AppendZerosOnto
import Derived.Laws.StructEq
import Derived.ArgAppend
import Derived.Room.Entries
/- Parts: Tab CSpec CW1 CRead CW6 CW7 CW8 CW8n CW9 Eng11 Eng12 Eng13 Eng14 Eng15 Eng16 Eng17 Eng19 Eng20 Eng21 Eng22 CW2 CW3 CW5 LSpec CW4 LW1 LMem LMem2 CW10. -/
/- The table of this translation: types and functions, each entry a closed fact. Written by program. -/
namespace Go.Proofs.Ytjjgojgahibpgaa
open Go.Proofs.Eng
set_option linter.unusedSimpArgs false
set_option maxRecDepth 10000
def tUnd : List (Nat × TypeDesc) := [(1, .func #[] #[] false), (2, .int .i64), (3, .int .i64), (4, .bool), (5, .int .u8), (6, .int .u8), (9, .string), (10, .string), (11, .string), (12, .int .u64), (15, .pointer 171), (16, .pointer 174), (17, .pointer 182), (21, .int .i32), (22, .int .u64), (23, .slice 5), (26, .func #[] #[4] false), (27, .int .i64), (29, .func #[22, 22, 23] #[23, 27] false), (31, .func #[22, 22, 23] #[23, 3] false), (32, .func #[22] #[23] false), (33, .func #[23, 23] #[4] false), (34, .func #[27] #[3] false), (35, .pointer 113), (37, .func #[3, 3] #[35, 27] false), (38, .int .u64), (39, .func #[23] #[27] false), (40, .func #[25] #[4] false), (41, .array 2 3), (42, .slice 51), (45, .func #[44] #[4] false), (46, .pointer 56), (48, .func #[41, 41] #[46, 4] false), (49, .func #[51, 4] #[4] false), (52, .array 2 35), (53, .slice 23), (54, .array 2 53), (57, .func #[] #[3] false), (58, .func #[3] #[4] false), (59, .slice 62), (60, .func #[59] #[4] false), (63, .func #[] #[53] false), (65, .func #[] #[23, 4] false), (66, .func #[] #[22] false), (67, .func #[3, 3, 59] #[4] false), (68, .pointer 123), (70, .func #[3, 3] #[68, 3] false), (71, .func #[23] #[3] false), (72, .func #[53, 53] #[4] false), (73, .func #[23] #[] false), (74, .func #[35, 68] #[4] false), (75, .func #[41] #[] false), (76, .pointer 132), (78, .func #[3] #[3, 23, 4] false), (79, .func #[3, 3, 23] #[27] false), (80, .func #[3] #[3] false), (81, .func #[3] #[27] false), (82, .func #[3, 3] #[4] false), (83, .slice 103), (84, .func #[] #[83] false), (85, .slice 96), (88, .func #[87] #[4] false), (90, .func #[3, 3, 3] #[76, 27] false), (91, .pointer 101), (93, .func #[3, 3, 3] #[91, 3] false), (94, .func #[76, 91, 96] #[4] false), (97, .func #[83, 83] #[4] false), (98, .slice 136), (99, .slice 137), (104, .slice 53), (105, .slice 3), (106, .func #[76, 3, 104, 105] #[4] false), (107, .func #[23] #[23] false), (108, .func #[23, 22] #[23] false), (109, .func #[23] #[23, 3] false), (110, .map 22 23), (111, .slice 118), (115, .func #[23] #[5, 22, 22, 23, 4] false), (116, .func #[111, 119] #[111] false), (119, .func #[118] #[4] false), (120, .pointer 118), (121, .slice 125), (127, .func #[23] #[4, 22, 22, 23, 4] false), (128, .func #[22] #[3] false), (129, .slice 133), (130, .slice 105), (133, .slice 35), (134, .func #[83, 3, 3] #[83] false), (135, .func #[3, 3, 3] #[4] false), (136, .slice 68), (137, .slice 4), (138, .func #[3, 3, 23] #[3] false), (139, .func #[3, 3, 4] #[4] false), (140, .func #[23] #[23, 27] false), (141, .func #[23, 142] #[23] false), (142, .int .u32), (143, .func #[23] #[142] false), (145, .func #[23] #[23, 3, 27] false), (146, .pointer 160), (147, .func #[23] #[146] false), (148, .func #[] #[5] false), (150, .func #[] #[27, 3] false), (151, .func #[] #[27] false), (152, .func #[111, 119] #[3] false), (154, .func #[23] #[23, 3, 3] false), (155, .pointer 158), (156, .func #[23] #[155] false), (161, .func #[146, 148] #[5] false), (162, .func #[146, 66] #[22] false), (163, .func #[3] #[] false), (165, .func #[23] #[22, 3, 3] false), (169, .func #[] #[9] false), (172, .array 0 16), (175, .int .u8), (176, .int .u8), (177, .func #[183, 183] #[4] false), (178, .pointer 5), (179, .int .i32), (180, .int .i32), (183, .unsafePointer)]
def tInf : List (Nat × (Nat × Nat × Value)) := [(0, (1, 0, .tuple #[])), (1, (1, 8, .nilFunc)), (2, (1, 8, .int .i64 0)), (3, (1, 8, .int .i64 0)), (4, (1, 1, .bool false)), (5, (1, 1, .int .u8 0)), (6, (1, 1, .int .u8 0)), (7, (4, 24, .agg #[.int .i64 0, .int .i64 0, .bool false, .int .u8 0])), (8, (4, 24, .agg #[.int .i64 0, .int .i64 0, .bool false, .int .u8 0])), (9, (1, 16, .string ⟨#[]⟩)), (10, (1, 16, .string ⟨#[]⟩)), (11, (1, 16, .string ⟨#[]⟩)), (12, (1, 8, .int .u64 0)), (13, (2, 24, .agg #[.string ⟨#[]⟩, .int .u64 0])), (14, (2, 24, .agg #[.string ⟨#[]⟩, .int .u64 0])), (15, (1, 8, .pointer none)), (16, (1, 8, .pointer none)), (17, (1, 8, .pointer none)), (18, (1, 8, .agg #[.pointer none])), (19, (1, 8, .agg #[.pointer none])), (20, (1, 16, .nilIface)), (21, (1, 4, .int .i32 0)), (22, (1, 8, .int .u64 0)), (23, (1, 24, .slice none 0 0)), (24, (4, 48, .agg #[.int .u64 0, .int .u64 0, .slice none 0 0, .int .i64 0])), (25, (4, 48, .agg #[.int .u64 0, .int .u64 0, .slice none 0 0, .int .i64 0])), (26, (1, 8, .nilFunc)), (27, (1, 8, .int .i64 0)), (28, (1, 0, .tuple #[.slice none 0 0, .int .i64 0])), (29, (1, 8, .nilFunc)), (30, (1, 0, .tuple #[.slice none 0 0, .int .i64 0])), (31, (1, 8, .nilFunc)), (32, (1, 8, .nilFunc)), (33, (1, 8, .nilFunc)), (34, (1, 8, .nilFunc)), (35, (1, 8, .pointer none)), (36, (1, 0, .tuple #[.pointer none, .int .i64 0])), (37, (1, 8, .nilFunc)), (38, (1, 8, .int .u64 0)), (39, (1, 8, .nilFunc)), (40, (1, 8, .nilFunc)), (41, (2, 16, .agg #[.int .i64 0, .int .i64 0])), (42, (1, 24, .slice none 0 0)), (43, (5, 56, .agg #[.int .i64 0, .int .i64 0, .int .i64 0, .int .i64 0, .slice none 0 0])), (44, (5, 56, .agg #[.int .i64 0, .int .i64 0, .int .i64 0, .int .i64 0, .slice none 0 0])), (45, (1, 8, .nilFunc)), (46, (1, 8, .pointer none)), (47, (1, 0, .tuple #[.pointer none, .bool false])), (48, (1, 8, .nilFunc)), (49, (1, 8, .nilFunc)), (50, (4, 48, .agg #[.int .i64 0, .int .i64 0, .slice none 0 0, .int .i64 0])), (51, (4, 48, .agg #[.int .i64 0, .int .i64 0, .slice none 0 0, .int .i64 0])), (52, (2, 16, .agg #[.pointer none, .pointer none])), (53, (1, 24, .slice none 0 0)), (54, (2, 48, .agg #[.slice none 0 0, .slice none 0 0])), (55, (8, 128, .agg #[.pointer none, .pointer none, .slice none 0 0, .slice none 0 0, .slice none 0 0, .slice none 0 0, .int .i64 0, .int .i64 0])), (56, (8, 128, .agg #[.pointer none, .pointer none, .slice none 0 0, .slice none 0 0, .slice none 0 0, .slice none 0 0, .int .i64 0, .int .i64 0])), (57, (1, 8, .nilFunc)), (58, (1, 8, .nilFunc)), (59, (1, 24, .slice none 0 0)), (60, (1, 8, .nilFunc)), (61, (2, 32, .agg #[.int .i64 0, .slice none 0 0])), (62, (2, 32, .agg #[.int .i64 0, .slice none 0 0])), (63, (1, 8, .nilFunc)), (64, (1, 0, .tuple #[.slice none 0 0, .bool false])), (65, (1, 8, .nilFunc)), (66, (1, 8, .nilFunc)), (67, (1, 8, .nilFunc)), (68, (1, 8, .pointer none)), (69, (1, 0, .tuple #[.pointer none, .int .i64 0])), (70, (1, 8, .nilFunc)), (71, (1, 8, .nilFunc)), (72, (1, 8, .nilFunc)), (73, (1, 8, .nilFunc)), (74, (1, 8, .nilFunc)), (75, (1, 8, .nilFunc)), (76, (1, 8, .pointer none)), (77, (1, 0, .tuple #[.int .i64 0, .slice none 0 0, .bool false])), (78, (1, 8, .nilFunc)), (79, (1, 8, .nilFunc)), (80, (1, 8, .nilFunc)), (81, (1, 8, .nilFunc)), (82, (1, 8, .nilFunc)), (83, (1, 24, .slice none 0 0)), (84, (1, 8, .nilFunc)), (85, (1, 24, .slice none 0 0)), (86, (4, 48, .agg #[.int .i64 0, .int .i64 0, .int .i64 0, .slice none 0 0])), (87, (4, 48, .agg #[.int .i64 0, .int .i64 0, .int .i64 0, .slice none 0 0])), (88, (1, 8, .nilFunc)), (89, (1, 0, .tuple #[.pointer none, .int .i64 0])), (90, (1, 8, .nilFunc)), (91, (1, 8, .pointer none)), (92, (1, 0, .tuple #[.pointer none, .int .i64 0])), (93, (1, 8, .nilFunc)), (94, (1, 8, .nilFunc)), (95, (4, 48, .agg #[.int .i64 0, .int .i64 0, .int .i64 0, .slice none 0 0])), (96, (4, 48, .agg #[.int .i64 0, .int .i64 0, .int .i64 0, .slice none 0 0])), (97, (1, 8, .nilFunc)), (98, (1, 24, .slice none 0 0)), (99, (1, 24, .slice none 0 0)), (100, (4, 80, .agg #[.slice none 0 0, .slice none 0 0, .slice none 0 0, .int .i64 0])), (101, (4, 80, .agg #[.slice none 0 0, .slice none 0 0, .slice none 0 0, .int .i64 0])), (102, (3, 40, .agg #[.int .i64 0, .int .i64 0, .slice none 0 0])), (103, (3, 40, .agg #[.int .i64 0, .int .i64 0, .slice none 0 0])), (104, (1, 24, .slice none 0 0)), (105, (1, 24, .slice none 0 0)), (106, (1, 8, .nilFunc)), (107, (1, 8, .nilFunc)), (108, (1, 8, .nilFunc)), (109, (1, 8, .nilFunc)), (110, (1, 8, .map none)), (111, (1, 24, .slice none 0 0)), (112, (9, 120, .agg #[.int .i64 0, .int .i64 0, .slice none 0 0, .slice none 0 0, .int .u64 0, .int .u64 0, .map none, .slice none 0 0, .bool false])), (113, (9, 120, .agg #[.int .i64 0, .int .i64 0, .slice none 0 0, .slice none 0 0, .int .u64 0, .int .u64 0, .map none, .slice none 0 0, .bool false])), (114, (1, 0, .tuple #[.int .u8 0, .int .u64 0, .int .u64 0, .slice none 0 0, .bool false])), (115, (1, 8, .nilFunc)), (116, (1, 8, .nilFunc)), (117, (4, 48, .agg #[.int .u64 0, .slice none 0 0, .int .i64 0, .bool false])), (118, (4, 48, .agg #[.int .u64 0, .slice none 0 0, .int .i64 0, .bool false])), (119, (1, 8, .nilFunc)), (120, (1, 8, .pointer none)), (121, (1, 24, .slice none 0 0)), (122, (9, 136, .agg #[.int .i64 0, .int .i64 0, .slice none 0 0, .slice none 0 0, .slice none 0 0, .slice none 0 0, .int .u64 0, .int .u64 0, .bool false])), (123, (9, 136, .agg #[.int .i64 0, .int .i64 0, .slice none 0 0, .slice none 0 0, .slice none 0 0, .slice none 0 0, .int .u64 0, .int .u64 0, .bool false])), (124, (4, 48, .agg #[.int .u64 0, .slice none 0 0, .int .i64 0, .bool false])), (125, (4, 48, .agg #[.int .u64 0, .slice none 0 0, .int .i64 0, .bool false])), (126, (1, 0, .tuple #[.bool false, .int .u64 0, .int .u64 0, .slice none 0 0, .bool false])), (127, (1, 8, .nilFunc)), (128, (1, 8, .nilFunc)), (129, (1, 24, .slice none 0 0)), (130, (1, 24, .slice none 0 0)), (131, (4, 80, .agg #[.int .i64 0, .slice none 0 0, .slice none 0 0, .slice none 0 0])), (132, (4, 80, .agg #[.int .i64 0, .slice none 0 0, .slice none 0 0, .slice none 0 0])), (133, (1, 24, .slice none 0 0)), (134, (1, 8, .nilFunc)), (135, (1, 8, .nilFunc)), (136, (1, 24, .slice none 0 0)), (137, (1, 24, .slice none 0 0)), (138, (1, 8, .nilFunc)), (139, (1, 8, .nilFunc)), (140, (1, 8, .nilFunc)), (141, (1, 8, .nilFunc)), (142, (1, 4, .int .u32 0)), (143, (1, 8, .nilFunc)), (144, (1, 0, .tuple #[.slice none 0 0, .int .i64 0, .int .i64 0])), (145, (1, 8, .nilFunc)), (146, (1, 8, .pointer none)), (147, (1, 8, .nilFunc)), (148, (1, 8, .nilFunc)), (149, (1, 0, .tuple #[.int .i64 0, .int .i64 0])), (150, (1, 8, .nilFunc)), (151, (1, 8, .nilFunc)), (152, (1, 8, .nilFunc)), (153, (1, 0, .tuple #[.slice none 0 0, .int .i64 0, .int .i64 0])), (154, (1, 8, .nilFunc)), (155, (1, 8, .pointer none)), (156, (1, 8, .nilFunc)), (157, (5, 56, .agg #[.slice none 0 0, .int .i64 0, .int .i64 0, .int .i64 0, .int .i64 0])), (158, (5, 56, .agg #[.slice none 0 0, .int .i64 0, .int .i64 0, .int .i64 0, .int .i64 0])), (159, (5, 56, .agg #[.slice none 0 0, .int .i64 0, .int .i64 0, .int .i64 0, .int .i64 0])), (160, (5, 56, .agg #[.slice none 0 0, .int .i64 0, .int .i64 0, .int .i64 0, .int .i64 0])), (161, (1, 8, .nilFunc)), (162, (1, 8, .nilFunc)), (163, (1, 8, .nilFunc)), (164, (1, 0, .tuple #[.int .u64 0, .int .i64 0, .int .i64 0])), (165, (1, 8, .nilFunc)), (166, (1, 8, .agg #[.int .i64 0])), (167, (1, 8, .agg #[.int .i64 0])), (168, (1, 0, .tuple #[.agg #[.int .i64 0], .bool false])), (169, (1, 8, .nilFunc)), (170, (4, 40, .agg #[.pointer none, .pointer none, .pointer none, .string ⟨#[]⟩])), (171, (4, 40, .agg #[.pointer none, .pointer none, .pointer none, .string ⟨#[]⟩])), (172, (0, 0, .agg #[])), (173, (0, 0, .agg #[])), (174, (0, 0, .agg #[])), (175, (1, 1, .int .u8 0)), (176, (1, 1, .int .u8 0)), (177, (1, 8, .nilFunc)), (178, (1, 8, .pointer none)), (179, (1, 4, .int .i32 0)), (180, (1, 4, .int .i32 0)), (181, (11, 48, .agg #[.int .u64 0, .int .u64 0, .int .u32 0, .int .u8 0, .int .u8 0, .int .u8 0, .int .u8 0, .nilFunc, .pointer none, .int .i32 0, .int .i32 0])), (182, (11, 48, .agg #[.int .u64 0, .int .u64 0, .int .u32 0, .int .u8 0, .int .u8 0, .int .u8 0, .int .u8 0, .nilFunc, .pointer none, .int .i32 0, .int .i32 0])), (183, (1, 8, .pointer none))]
def tFld : List (Nat × (List (Nat × TypeId))) := [(7, [(0, 2), (1, 3), (2, 4), (3, 6)]), (8, [(0, 2), (1, 3), (2, 4), (3, 6)]), (13, [(0, 9), (1, 12)]), (14, [(0, 9), (1, 12)]), (18, [(0, 17)]), (19, [(0, 17)]), (24, [(0, 22), (1, 22), (2, 23), (3, 3)]), (25, [(0, 22), (1, 22), (2, 23), (3, 3)]), (43, [(0, 41), (2, 41), (4, 42)]), (44, [(0, 41), (2, 41), (4, 42)]), (50, [(0, 3), (1, 3), (2, 23), (3, 3)]), (51, [(0, 3), (1, 3), (2, 23), (3, 3)]), (55, [(0, 52), (2, 54), (4, 54), (6, 41)]), (56, [(0, 52), (2, 54), (4, 54), (6, 41)]), (61, [(0, 3), (1, 23)]), (62, [(0, 3), (1, 23)]), (86, [(0, 3), (1, 3), (2, 3), (3, 85)]), (87, [(0, 3), (1, 3), (2, 3), (3, 85)]), (95, [(0, 3), (1, 3), (2, 3), (3, 23)]), (96, [(0, 3), (1, 3), (2, 3), (3, 23)]), (100, [(0, 98), (1, 99), (2, 83), (3, 3)]), (101, [(0, 98), (1, 99), (2, 83), (3, 3)]), (102, [(0, 3), (1, 3), (2, 23)]), (103, [(0, 3), (1, 3), (2, 23)]), (112, [(0, 3), (1, 3), (2, 53), (3, 111), (4, 22), (5, 22), (6, 110), (7, 53), (8, 4)]), (113, [(0, 3), (1, 3), (2, 53), (3, 111), (4, 22), (5, 22), (6, 110), (7, 53), (8, 4)]), (117, [(0, 22), (1, 23), (2, 3), (3, 4)]), (118, [(0, 22), (1, 23), (2, 3), (3, 4)]), (122, [(0, 3), (1, 3), (2, 53), (3, 121), (4, 121), (5, 53), (6, 22), (7, 22), (8, 4)]), (123, [(0, 3), (1, 3), (2, 53), (3, 121), (4, 121), (5, 53), (6, 22), (7, 22), (8, 4)]), (124, [(0, 22), (1, 23), (2, 3), (3, 4)]), (125, [(0, 22), (1, 23), (2, 3), (3, 4)]), (131, [(0, 3), (1, 129), (2, 130), (3, 83)]), (132, [(0, 3), (1, 129), (2, 130), (3, 83)]), (157, [(0, 23), (1, 3), (2, 3), (3, 3), (4, 3)]), (158, [(0, 23), (1, 3), (2, 3), (3, 3), (4, 3)]), (159, [(0, 23), (1, 3), (2, 3), (3, 27), (4, 3)]), (160, [(0, 23), (1, 3), (2, 3), (3, 27), (4, 3)]), (166, [(0, 27)]), (167, [(0, 27)]), (170, [(0, 17), (1, 17), (2, 17), (3, 9)]), (171, [(0, 17), (1, 17), (2, 17), (3, 9)]), (173, [(0, 172)]), (174, [(0, 172)]), (181, [(0, 12), (1, 12), (2, 142), (3, 175), (4, 5), (5, 5), (6, 176), (7, 177), (8, 178), (9, 179), (10, 180)]), (182, [(0, 12), (1, 12), (2, 142), (3, 175), (4, 5), (5, 5), (6, 176), (7, 177), (8, 178), (9, 179), (10, 180)])]
def tFn : List (Nat × Bool) := [(2, true), (3, true), (4, true), (5, true), (6, true), (7, true), (8, true), (9, true), (10, true), (11, true), (12, true), (13, true), (14, true), (15, true), (16, true), (17, true), (18, true), (19, true), (20, true), (21, true), (22, true), (23, true), (24, true), (25, true), (26, true), (27, true), (28, true), (29, true), (30, true), (31, true), (32, true), (33, true), (34, true), (35, true), (36, true), (37, true), (38, true), (39, true), (40, true), (41, true), (42, true), (43, true), (44, true), (45, true), (46, true), (47, true), (48, true), (49, true), (50, true), (51, true), (52, true), (53, true), (54, true), (55, true), (56, true), (57, true), (58, true), (59, true), (60, true), (61, true), (62, true), (63, true), (64, true), (65, true), (66, true), (67, true), (68, true), (69, true), (70, true), (71, true), (72, true), (73, true), (74, true), (75, true), (76, true), (77, true), (78, true), (79, true), (80, true), (81, true), (82, true), (83, true), (84, true), (85, true), (86, true), (87, true), (88, true), (89, true), (90, true), (91, true), (92, true), (93, true), (94, true), (95, true), (96, true), (97, true), (98, true), (99, true), (100, true), (101, true), (102, true), (103, true), (104, true), (105, true), (106, true), (107, true), (108, true), (109, true), (110, true), (111, true), (112, true), (113, true), (114, true), (115, true), (116, true), (117, true)]
theorem tUnd_ok : ∀ p ∈ tUnd, Try.prog.underlying p.1 = some p.2 := by
  simp only [tUnd, tInf, tFld, tFn, List.forall_mem_cons, List.not_mem_nil, false_imp_iff, implies_true, and_true]
  refine ⟨?_, ?_, ?_, ?_, ?_, ?_, ?_, ?_, ?_, ?_, ?_, ?_, ?_, ?_, ?_, ?_, ?_, ?_, ?_, ?_, ?_, ?_, ?_, ?_, ?_, ?_, ?_, ?_, ?_, ?_, ?_, ?_, ?_, ?_, ?_, ?_, ?_, ?_, ?_, ?_, ?_, ?_, ?_, ?_, ?_, ?_, ?_, ?_, ?_, ?_, ?_, ?_, ?_, ?_, ?_, ?_, ?_, ?_, ?_, ?_, ?_, ?_, ?_, ?_, ?_, ?_, ?_, ?_, ?_, ?_, ?_, ?_, ?_, ?_, ?_, ?_, ?_, ?_, ?_, ?_, ?_, ?_, ?_, ?_, ?_, ?_, ?_, ?_, ?_, ?_, ?_, ?_, ?_, ?_, ?_, ?_, ?_, ?_, ?_, ?_, ?_, ?_, ?_, ?_, ?_, ?_, ?_, ?_, ?_, ?_, ?_, ?_, ?_, ?_, ?_, ?_, ?_, ?_, ?_, ?_⟩
  · exact Try.underlying1
  · exact Try.underlying2
  · exact Try.underlying3
  · exact Try.underlying4
  · exact Try.underlying5
  · exact Try.underlying6
  · exact Try.underlying9
  · exact Try.underlying10
  · exact Try.underlying11
  · exact Try.underlying12
  · exact Try.underlying15
  · exact Try.underlying16
  · exact Try.underlying17
  · exact Try.underlying21
  · exact Try.underlying22
  · exact Try.underlying23
  · exact Try.underlying26
  · exact Try.underlying27
  · exact Try.underlying29
  · exact Try.underlying31
  · exact Try.underlying32
  · exact Try.underlying33
  · exact Try.underlying34
  · exact Try.underlying35
  · exact Try.underlying37
  · exact Try.underlying38
  · exact Try.underlying39
  · exact Try.underlying40
  · exact Try.underlying41
  · exact Try.underlying42
  · exact Try.underlying45
  · exact Try.underlying46
  · exact Try.underlying48
  · exact Try.underlying49
  · exact Try.underlying52
  · exact Try.underlying53
  · exact Try.underlying54
  · exact Try.underlying57
  · exact Try.underlying58
  · exact Try.underlying59
  · exact Try.underlying60
  · exact Try.underlying63
  · exact Try.underlying65
  · exact Try.underlying66
  · exact Try.underlying67
  · exact Try.underlying68
  · exact Try.underlying70
  · exact Try.underlying71
  · exact Try.underlying72
  · exact Try.underlying73
  · exact Try.underlying74
  · exact Try.underlying75
  · exact Try.underlying76
  · exact Try.underlying78
  · exact Try.underlying79
  · exact Try.underlying80
  · exact Try.underlying81
  · exact Try.underlying82
  · exact Try.underlying83
  · exact Try.underlying84
  · exact Try.underlying85
  · exact Try.underlying88
  · exact Try.underlying90
  · exact Try.underlying91
  · exact Try.underlying93
  · exact Try.underlying94
  · exact Try.underlying97
  · exact Try.underlying98
  · exact Try.underlying99
  · exact Try.underlying104
  · exact Try.underlying105
  · exact Try.underlying106
  · exact Try.underlying107
  · exact Try.underlying108
  · exact Try.underlying109
  · exact Try.underlying110
  · exact Try.underlying111
  · exact Try.underlying115
  · exact Try.underlying116
  · exact Try.underlying119
  · exact Try.underlying120
  · exact Try.underlying121
  · exact Try.underlying127
  · exact Try.underlying128
  · exact Try.underlying129
  · exact Try.underlying130
  · exact Try.underlying133
  · exact Try.underlying134
  · exact Try.underlying135
  · exact Try.underlying136
  · exact Try.underlying137
  · exact Try.underlying138
  · exact Try.underlying139
  · exact Try.underlying140
  · exact Try.underlying141
  · exact Try.underlying142
  · exact Try.underlying143
  · exact Try.underlying145
  · exact Try.underlying146
  · exact Try.underlying147
  · exact Try.underlying148
  · exact Try.underlying150
  · exact Try.underlying151
  · exact Try.underlying152
  · exact Try.underlying154
  · exact Try.underlying155
  · exact Try.underlying156
  · exact Try.underlying161
  · exact Try.underlying162
  · exact Try.underlying163
  · exact Try.underlying165
  · exact Try.underlying169
  · exact Try.underlying172
  · exact Try.underlying175
  · exact Try.underlying176
  · exact Try.underlying177
  · exact Try.underlying178
  · exact Try.underlying179
  · exact Try.underlying180
  · exact Try.underlying183
theorem inf0 : (Try.prog.info? 0).map (fun i => (i.size, i.bytes, i.zero)) = some (1, 0, some (.tuple #[])) := by kernel_rfl
theorem inf1 : (Try.prog.info? 1).map (fun i => (i.size, i.bytes, i.zero)) = some (1, 8, some (.nilFunc)) := by kernel_rfl
theorem inf2 : (Try.prog.info? 2).map (fun i => (i.size, i.bytes, i.zero)) = some (1, 8, some (.int .i64 0)) := by kernel_rfl
theorem inf3 : (Try.prog.info? 3).map (fun i => (i.size, i.bytes, i.zero)) = some (1, 8, some (.int .i64 0)) := by kernel_rfl
theorem inf4 : (Try.prog.info? 4).map (fun i => (i.size, i.bytes, i.zero)) = some (1, 1, some (.bool false)) := by kernel_rfl
theorem inf5 : (Try.prog.info? 5).map (fun i => (i.size, i.bytes, i.zero)) = some (1, 1, some (.int .u8 0)) := by kernel_rfl
theorem inf6 : (Try.prog.info? 6).map (fun i => (i.size, i.bytes, i.zero)) = some (1, 1, some (.int .u8 0)) := by kernel_rfl
theorem inf7 : (Try.prog.info? 7).map (fun i => (i.size, i.bytes, i.zero)) = some (4, 24, some (.agg #[.int .i64 0, .int .i64 0, .bool false, .int .u8 0])) := by kernel_rfl
theorem inf8 : (Try.prog.info? 8).map (fun i => (i.size, i.bytes, i.zero)) = some (4, 24, some (.agg #[.int .i64 0, .int .i64 0, .bool false, .int .u8 0])) := by kernel_rfl
theorem inf9 : (Try.prog.info? 9).map (fun i => (i.size, i.bytes, i.zero)) = some (1, 16, some (.string ⟨#[]⟩)) := by kernel_rfl
theorem inf10 : (Try.prog.info? 10).map (fun i => (i.size, i.bytes, i.zero)) = some (1, 16, some (.string ⟨#[]⟩)) := by kernel_rfl
theorem inf11 : (Try.prog.info? 11).map (fun i => (i.size, i.bytes, i.zero)) = some (1, 16, some (.string ⟨#[]⟩)) := by kernel_rfl
theorem inf12 : (Try.prog.info? 12).map (fun i => (i.size, i.bytes, i.zero)) = some (1, 8, some (.int .u64 0)) := by kernel_rfl
theorem inf13 : (Try.prog.info? 13).map (fun i => (i.size, i.bytes, i.zero)) = some (2, 24, some (.agg #[.string ⟨#[]⟩, .int .u64 0])) := by kernel_rfl
theorem inf14 : (Try.prog.info? 14).map (fun i => (i.size, i.bytes, i.zero)) = some (2, 24, some (.agg #[.string ⟨#[]⟩, .int .u64 0])) := by kernel_rfl
theorem inf15 : (Try.prog.info? 15).map (fun i => (i.size, i.bytes, i.zero)) = some (1, 8, some (.pointer none)) := by kernel_rfl
theorem inf16 : (Try.prog.info? 16).map (fun i => (i.size, i.bytes, i.zero)) = some (1, 8, some (.pointer none)) := by kernel_rfl
theorem inf17 : (Try.prog.info? 17).map (fun i => (i.size, i.bytes, i.zero)) = some (1, 8, some (.pointer none)) := by kernel_rfl
theorem inf18 : (Try.prog.info? 18).map (fun i => (i.size, i.bytes, i.zero)) = some (1, 8, some (.agg #[.pointer none])) := by kernel_rfl
theorem inf19 : (Try.prog.info? 19).map (fun i => (i.size, i.bytes, i.zero)) = some (1, 8, some (.agg #[.pointer none])) := by kernel_rfl
theorem inf20 : (Try.prog.info? 20).map (fun i => (i.size, i.bytes, i.zero)) = some (1, 16, some (.nilIface)) := by kernel_rfl
theorem inf21 : (Try.prog.info? 21).map (fun i => (i.size, i.bytes, i.zero)) = some (1, 4, some (.int .i32 0)) := by kernel_rfl
theorem inf22 : (Try.prog.info? 22).map (fun i => (i.size, i.bytes, i.zero)) = some (1, 8, some (.int .u64 0)) := by kernel_rfl
theorem inf23 : (Try.prog.info? 23).map (fun i => (i.size, i.bytes, i.zero)) = some (1, 24, some (.slice none 0 0)) := by kernel_rfl
theorem inf24 : (Try.prog.info? 24).map (fun i => (i.size, i.bytes, i.zero)) = some (4, 48, some (.agg #[.int .u64 0, .int .u64 0, .slice none 0 0, .int .i64 0])) := by kernel_rfl
theorem inf25 : (Try.prog.info? 25).map (fun i => (i.size, i.bytes, i.zero)) = some (4, 48, some (.agg #[.int .u64 0, .int .u64 0, .slice none 0 0, .int .i64 0])) := by kernel_rfl
theorem inf26 : (Try.prog.info? 26).map (fun i => (i.size, i.bytes, i.zero)) = some (1, 8, some (.nilFunc)) := by kernel_rfl
theorem inf27 : (Try.prog.info? 27).map (fun i => (i.size, i.bytes, i.zero)) = some (1, 8, some (.int .i64 0)) := by kernel_rfl
theorem inf28 : (Try.prog.info? 28).map (fun i => (i.size, i.bytes, i.zero)) = some (1, 0, some (.tuple #[.slice none 0 0, .int .i64 0])) := by kernel_rfl
theorem inf29 : (Try.prog.info? 29).map (fun i => (i.size, i.bytes, i.zero)) = some (1, 8, some (.nilFunc)) := by kernel_rfl
theorem inf30 : (Try.prog.info? 30).map (fun i => (i.size, i.bytes, i.zero)) = some (1, 0, some (.tuple #[.slice none 0 0, .int .i64 0])) := by kernel_rfl
theorem inf31 : (Try.prog.info? 31).map (fun i => (i.size, i.bytes, i.zero)) = some (1, 8, some (.nilFunc)) := by kernel_rfl
theorem inf32 : (Try.prog.info? 32).map (fun i => (i.size, i.bytes, i.zero)) = some (1, 8, some (.nilFunc)) := by kernel_rfl
theorem inf33 : (Try.prog.info? 33).map (fun i => (i.size, i.bytes, i.zero)) = some (1, 8, some (.nilFunc)) := by kernel_rfl
theorem inf34 : (Try.prog.info? 34).map (fun i => (i.size, i.bytes, i.zero)) = some (1, 8, some (.nilFunc)) := by kernel_rfl
theorem inf35 : (Try.prog.info? 35).map (fun i => (i.size, i.bytes, i.zero)) = some (1, 8, some (.pointer none)) := by kernel_rfl
theorem inf36 : (Try.prog.info? 36).map (fun i => (i.size, i.bytes, i.zero)) = some (1, 0, some (.tuple #[.pointer none, .int .i64 0])) := by kernel_rfl
theorem inf37 : (Try.prog.info? 37).map (fun i => (i.size, i.bytes, i.zero)) = some (1, 8, some (.nilFunc)) := by kernel_rfl
theorem inf38 : (Try.prog.info? 38).map (fun i => (i.size, i.bytes, i.zero)) = some (1, 8, some (.int .u64 0)) := by kernel_rfl
theorem inf39 : (Try.prog.info? 39).map (fun i => (i.size, i.bytes, i.zero)) = some (1, 8, some (.nilFunc)) := by kernel_rfl
theorem inf40 : (Try.prog.info? 40).map (fun i => (i.size, i.bytes, i.zero)) = some (1, 8, some (.nilFunc)) := by kernel_rfl
theorem inf41 : (Try.prog.info? 41).map (fun i => (i.size, i.bytes, i.zero)) = some (2, 16, some (.agg #[.int .i64 0, .int .i64 0])) := by kernel_rfl
theorem inf42 : (Try.prog.info? 42).map (fun i => (i.size, i.bytes, i.zero)) = some (1, 24, some (.slice none 0 0)) := by kernel_rfl
theorem inf43 : (Try.prog.info? 43).map (fun i => (i.size, i.bytes, i.zero)) = some (5, 56, some (.agg #[.int .i64 0, .int .i64 0, .int .i64 0, .int .i64 0, .slice none 0 0])) := by kernel_rfl
theorem inf44 : (Try.prog.info? 44).map (fun i => (i.size, i.bytes, i.zero)) = some (5, 56, some (.agg #[.int .i64 0, .int .i64 0, .int .i64 0, .int .i64 0, .slice none 0 0])) := by kernel_rfl
theorem inf45 : (Try.prog.info? 45).map (fun i => (i.size, i.bytes, i.zero)) = some (1, 8, some (.nilFunc)) := by kernel_rfl
theorem inf46 : (Try.prog.info? 46).map (fun i => (i.size, i.bytes, i.zero)) = some (1, 8, some (.pointer none)) := by kernel_rfl
theorem inf47 : (Try.prog.info? 47).map (fun i => (i.size, i.bytes, i.zero)) = some (1, 0, some (.tuple #[.pointer none, .bool false])) := by kernel_rfl
theorem inf48 : (Try.prog.info? 48).map (fun i => (i.size, i.bytes, i.zero)) = some (1, 8, some (.nilFunc)) := by kernel_rfl
theorem inf49 : (Try.prog.info? 49).map (fun i => (i.size, i.bytes, i.zero)) = some (1, 8, some (.nilFunc)) := by kernel_rfl
theorem inf50 : (Try.prog.info? 50).map (fun i => (i.size, i.bytes, i.zero)) = some (4, 48, some (.agg #[.int .i64 0, .int .i64 0, .slice none 0 0, .int .i64 0])) := by kernel_rfl
theorem inf51 : (Try.prog.info? 51).map (fun i => (i.size, i.bytes, i.zero)) = some (4, 48, some (.agg #[.int .i64 0, .int .i64 0, .slice none 0 0, .int .i64 0])) := by kernel_rfl
theorem inf52 : (Try.prog.info? 52).map (fun i => (i.size, i.bytes, i.zero)) = some (2, 16, some (.agg #[.pointer none, .pointer none])) := by kernel_rfl
theorem inf53 : (Try.prog.info? 53).map (fun i => (i.size, i.bytes, i.zero)) = some (1, 24, some (.slice none 0 0)) := by kernel_rfl
theorem inf54 : (Try.prog.info? 54).map (fun i => (i.size, i.bytes, i.zero)) = some (2, 48, some (.agg #[.slice none 0 0, .slice none 0 0])) := by kernel_rfl
theorem inf55 : (Try.prog.info? 55).map (fun i => (i.size, i.bytes, i.zero)) = some (8, 128, some (.agg #[.pointer none, .pointer none, .slice none 0 0, .slice none 0 0, .slice none 0 0, .slice none 0 0, .int .i64 0, .int .i64 0])) := by kernel_rfl
theorem inf56 : (Try.prog.info? 56).map (fun i => (i.size, i.bytes, i.zero)) = some (8, 128, some (.agg #[.pointer none, .pointer none, .slice none 0 0, .slice none 0 0, .slice none 0 0, .slice none 0 0, .int .i64 0, .int .i64 0])) := by kernel_rfl
theorem inf57 : (Try.prog.info? 57).map (fun i => (i.size, i.bytes, i.zero)) = some (1, 8, some (.nilFunc)) := by kernel_rfl
theorem inf58 : (Try.prog.info? 58).map (fun i => (i.size, i.bytes, i.zero)) = some (1, 8, some (.nilFunc)) := by kernel_rfl
theorem inf59 : (Try.prog.info? 59).map (fun i => (i.size, i.bytes, i.zero)) = some (1, 24, some (.slice none 0 0)) := by kernel_rfl
theorem inf60 : (Try.prog.info? 60).map (fun i => (i.size, i.bytes, i.zero)) = some (1, 8, some (.nilFunc)) := by kernel_rfl
theorem inf61 : (Try.prog.info? 61).map (fun i => (i.size, i.bytes, i.zero)) = some (2, 32, some (.agg #[.int .i64 0, .slice none 0 0])) := by kernel_rfl
theorem inf62 : (Try.prog.info? 62).map (fun i => (i.size, i.bytes, i.zero)) = some (2, 32, some (.agg #[.int .i64 0, .slice none 0 0])) := by kernel_rfl
theorem inf63 : (Try.prog.info? 63).map (fun i => (i.size, i.bytes, i.zero)) = some (1, 8, some (.nilFunc)) := by kernel_rfl
theorem inf64 : (Try.prog.info? 64).map (fun i => (i.size, i.bytes, i.zero)) = some (1, 0, some (.tuple #[.slice none 0 0, .bool false])) := by kernel_rfl
theorem inf65 : (Try.prog.info? 65).map (fun i => (i.size, i.bytes, i.zero)) = some (1, 8, some (.nilFunc)) := by kernel_rfl
theorem inf66 : (Try.prog.info? 66).map (fun i => (i.size, i.bytes, i.zero)) = some (1, 8, some (.nilFunc)) := by kernel_rfl
theorem inf67 : (Try.prog.info? 67).map (fun i => (i.size, i.bytes, i.zero)) = some (1, 8, some (.nilFunc)) := by kernel_rfl
theorem inf68 : (Try.prog.info? 68).map (fun i => (i.size, i.bytes, i.zero)) = some (1, 8, some (.pointer none)) := by kernel_rfl
theorem inf69 : (Try.prog.info? 69).map (fun i => (i.size, i.bytes, i.zero)) = some (1, 0, some (.tuple #[.pointer none, .int .i64 0])) := by kernel_rfl
theorem inf70 : (Try.prog.info? 70).map (fun i => (i.size, i.bytes, i.zero)) = some (1, 8, some (.nilFunc)) := by kernel_rfl
theorem inf71 : (Try.prog.info? 71).map (fun i => (i.size, i.bytes, i.zero)) = some (1, 8, some (.nilFunc)) := by kernel_rfl
theorem inf72 : (Try.prog.info? 72).map (fun i => (i.size, i.bytes, i.zero)) = some (1, 8, some (.nilFunc)) := by kernel_rfl
theorem inf73 : (Try.prog.info? 73).map (fun i => (i.size, i.bytes, i.zero)) = some (1, 8, some (.nilFunc)) := by kernel_rfl
theorem inf74 : (Try.prog.info? 74).map (fun i => (i.size, i.bytes, i.zero)) = some (1, 8, some (.nilFunc)) := by kernel_rfl
theorem inf75 : (Try.prog.info? 75).map (fun i => (i.size, i.bytes, i.zero)) = some (1, 8, some (.nilFunc)) := by kernel_rfl
theorem inf76 : (Try.prog.info? 76).map (fun i => (i.size, i.bytes, i.zero)) = some (1, 8, some (.pointer none)) := by kernel_rfl
theorem inf77 : (Try.prog.info? 77).map (fun i => (i.size, i.bytes, i.zero)) = some (1, 0, some (.tuple #[.int .i64 0, .slice none 0 0, .bool false])) := by kernel_rfl
theorem inf78 : (Try.prog.info? 78).map (fun i => (i.size, i.bytes, i.zero)) = some (1, 8, some (.nilFunc)) := by kernel_rfl
theorem inf79 : (Try.prog.info? 79).map (fun i => (i.size, i.bytes, i.zero)) = some (1, 8, some (.nilFunc)) := by kernel_rfl
theorem inf80 : (Try.prog.info? 80).map (fun i => (i.size, i.bytes, i.zero)) = some (1, 8, some (.nilFunc)) := by kernel_rfl
theorem inf81 : (Try.prog.info? 81).map (fun i => (i.size, i.bytes, i.zero)) = some (1, 8, some (.nilFunc)) := by kernel_rfl
theorem inf82 : (Try.prog.info? 82).map (fun i => (i.size, i.bytes, i.zero)) = some (1, 8, some (.nilFunc)) := by kernel_rfl
theorem inf83 : (Try.prog.info? 83).map (fun i => (i.size, i.bytes, i.zero)) = some (1, 24, some (.slice none 0 0)) := by kernel_rfl
theorem inf84 : (Try.prog.info? 84).map (fun i => (i.size, i.bytes, i.zero)) = some (1, 8, some (.nilFunc)) := by kernel_rfl
theorem inf85 : (Try.prog.info? 85).map (fun i => (i.size, i.bytes, i.zero)) = some (1, 24, some (.slice none 0 0)) := by kernel_rfl
theorem inf86 : (Try.prog.info? 86).map (fun i => (i.size, i.bytes, i.zero)) = some (4, 48, some (.agg #[.int .i64 0, .int .i64 0, .int .i64 0, .slice none 0 0])) := by kernel_rfl
theorem inf87 : (Try.prog.info? 87).map (fun i => (i.size, i.bytes, i.zero)) = some (4, 48, some (.agg #[.int .i64 0, .int .i64 0, .int .i64 0, .slice none 0 0])) := by kernel_rfl
theorem inf88 : (Try.prog.info? 88).map (fun i => (i.size, i.bytes, i.zero)) = some (1, 8, some (.nilFunc)) := by kernel_rfl
theorem inf89 : (Try.prog.info? 89).map (fun i => (i.size, i.bytes, i.zero)) = some (1, 0, some (.tuple #[.pointer none, .int .i64 0])) := by kernel_rfl
theorem inf90 : (Try.prog.info? 90).map (fun i => (i.size, i.bytes, i.zero)) = some (1, 8, some (.nilFunc)) := by kernel_rfl
theorem inf91 : (Try.prog.info? 91).map (fun i => (i.size, i.bytes, i.zero)) = some (1, 8, some (.pointer none)) := by kernel_rfl
theorem inf92 : (Try.prog.info? 92).map (fun i => (i.size, i.bytes, i.zero)) = some (1, 0, some (.tuple #[.pointer none, .int .i64 0])) := by kernel_rfl
theorem inf93 : (Try.prog.info? 93).map (fun i => (i.size, i.bytes, i.zero)) = some (1, 8, some (.nilFunc)) := by kernel_rfl
theorem inf94 : (Try.prog.info? 94).map (fun i => (i.size, i.bytes, i.zero)) = some (1, 8, some (.nilFunc)) := by kernel_rfl
theorem inf95 : (Try.prog.info? 95).map (fun i => (i.size, i.bytes, i.zero)) = some (4, 48, some (.agg #[.int .i64 0, .int .i64 0, .int .i64 0, .slice none 0 0])) := by kernel_rfl
theorem inf96 : (Try.prog.info? 96).map (fun i => (i.size, i.bytes, i.zero)) = some (4, 48, some (.agg #[.int .i64 0, .int .i64 0, .int .i64 0, .slice none 0 0])) := by kernel_rfl
theorem inf97 : (Try.prog.info? 97).map (fun i => (i.size, i.bytes, i.zero)) = some (1, 8, some (.nilFunc)) := by kernel_rfl
theorem inf98 : (Try.prog.info? 98).map (fun i => (i.size, i.bytes, i.zero)) = some (1, 24, some (.slice none 0 0)) := by kernel_rfl
theorem inf99 : (Try.prog.info? 99).map (fun i => (i.size, i.bytes, i.zero)) = some (1, 24, some (.slice none 0 0)) := by kernel_rfl
theorem inf100 : (Try.prog.info? 100).map (fun i => (i.size, i.bytes, i.zero)) = some (4, 80, some (.agg #[.slice none 0 0, .slice none 0 0, .slice none 0 0, .int .i64 0])) := by kernel_rfl
theorem inf101 : (Try.prog.info? 101).map (fun i => (i.size, i.bytes, i.zero)) = some (4, 80, some (.agg #[.slice none 0 0, .slice none 0 0, .slice none 0 0, .int .i64 0])) := by kernel_rfl
theorem inf102 : (Try.prog.info? 102).map (fun i => (i.size, i.bytes, i.zero)) = some (3, 40, some (.agg #[.int .i64 0, .int .i64 0, .slice none 0 0])) := by kernel_rfl
theorem inf103 : (Try.prog.info? 103).map (fun i => (i.size, i.bytes, i.zero)) = some (3, 40, some (.agg #[.int .i64 0, .int .i64 0, .slice none 0 0])) := by kernel_rfl
theorem inf104 : (Try.prog.info? 104).map (fun i => (i.size, i.bytes, i.zero)) = some (1, 24, some (.slice none 0 0)) := by kernel_rfl
theorem inf105 : (Try.prog.info? 105).map (fun i => (i.size, i.bytes, i.zero)) = some (1, 24, some (.slice none 0 0)) := by kernel_rfl
theorem inf106 : (Try.prog.info? 106).map (fun i => (i.size, i.bytes, i.zero)) = some (1, 8, some (.nilFunc)) := by kernel_rfl
theorem inf107 : (Try.prog.info? 107).map (fun i => (i.size, i.bytes, i.zero)) = some (1, 8, some (.nilFunc)) := by kernel_rfl
theorem inf108 : (Try.prog.info? 108).map (fun i => (i.size, i.bytes, i.zero)) = some (1, 8, some (.nilFunc)) := by kernel_rfl
theorem inf109 : (Try.prog.info? 109).map (fun i => (i.size, i.bytes, i.zero)) = some (1, 8, some (.nilFunc)) := by kernel_rfl
theorem inf110 : (Try.prog.info? 110).map (fun i => (i.size, i.bytes, i.zero)) = some (1, 8, some (.map none)) := by kernel_rfl
theorem inf111 : (Try.prog.info? 111).map (fun i => (i.size, i.bytes, i.zero)) = some (1, 24, some (.slice none 0 0)) := by kernel_rfl
theorem inf112 : (Try.prog.info? 112).map (fun i => (i.size, i.bytes, i.zero)) = some (9, 120, some (.agg #[.int .i64 0, .int .i64 0, .slice none 0 0, .slice none 0 0, .int .u64 0, .int .u64 0, .map none, .slice none 0 0, .bool false])) := by kernel_rfl
theorem inf113 : (Try.prog.info? 113).map (fun i => (i.size, i.bytes, i.zero)) = some (9, 120, some (.agg #[.int .i64 0, .int .i64 0, .slice none 0 0, .slice none 0 0, .int .u64 0, .int .u64 0, .map none, .slice none 0 0, .bool false])) := by kernel_rfl
theorem inf114 : (Try.prog.info? 114).map (fun i => (i.size, i.bytes, i.zero)) = some (1, 0, some (.tuple #[.int .u8 0, .int .u64 0, .int .u64 0, .slice none 0 0, .bool false])) := by kernel_rfl
theorem inf115 : (Try.prog.info? 115).map (fun i => (i.size, i.bytes, i.zero)) = some (1, 8, some (.nilFunc)) := by kernel_rfl
theorem inf116 : (Try.prog.info? 116).map (fun i => (i.size, i.bytes, i.zero)) = some (1, 8, some (.nilFunc)) := by kernel_rfl
theorem inf117 : (Try.prog.info? 117).map (fun i => (i.size, i.bytes, i.zero)) = some (4, 48, some (.agg #[.int .u64 0, .slice none 0 0, .int .i64 0, .bool false])) := by kernel_rfl
theorem inf118 : (Try.prog.info? 118).map (fun i => (i.size, i.bytes, i.zero)) = some (4, 48, some (.agg #[.int .u64 0, .slice none 0 0, .int .i64 0, .bool false])) := by kernel_rfl
theorem inf119 : (Try.prog.info? 119).map (fun i => (i.size, i.bytes, i.zero)) = some (1, 8, some (.nilFunc)) := by kernel_rfl
theorem inf120 : (Try.prog.info? 120).map (fun i => (i.size, i.bytes, i.zero)) = some (1, 8, some (.pointer none)) := by kernel_rfl
theorem inf121 : (Try.prog.info? 121).map (fun i => (i.size, i.bytes, i.zero)) = some (1, 24, some (.slice none 0 0)) := by kernel_rfl
theorem inf122 : (Try.prog.info? 122).map (fun i => (i.size, i.bytes, i.zero)) = some (9, 136, some (.agg #[.int .i64 0, .int .i64 0, .slice none 0 0, .slice none 0 0, .slice none 0 0, .slice none 0 0, .int .u64 0, .int .u64 0, .bool false])) := by kernel_rfl
theorem inf123 : (Try.prog.info? 123).map (fun i => (i.size, i.bytes, i.zero)) = some (9, 136, some (.agg #[.int .i64 0, .int .i64 0, .slice none 0 0, .slice none 0 0, .slice none 0 0, .slice none 0 0, .int .u64 0, .int .u64 0, .bool false])) := by kernel_rfl
theorem inf124 : (Try.prog.info? 124).map (fun i => (i.size, i.bytes, i.zero)) = some (4, 48, some (.agg #[.int .u64 0, .slice none 0 0, .int .i64 0, .bool false])) := by kernel_rfl
theorem inf125 : (Try.prog.info? 125).map (fun i => (i.size, i.bytes, i.zero)) = some (4, 48, some (.agg #[.int .u64 0, .slice none 0 0, .int .i64 0, .bool false])) := by kernel_rfl
theorem inf126 : (Try.prog.info? 126).map (fun i => (i.size, i.bytes, i.zero)) = some (1, 0, some (.tuple #[.bool false, .int .u64 0, .int .u64 0, .slice none 0 0, .bool false])) := by kernel_rfl
theorem inf127 : (Try.prog.info? 127).map (fun i => (i.size, i.bytes, i.zero)) = some (1, 8, some (.nilFunc)) := by kernel_rfl
theorem inf128 : (Try.prog.info? 128).map (fun i => (i.size, i.bytes, i.zero)) = some (1, 8, some (.nilFunc)) := by kernel_rfl
theorem inf129 : (Try.prog.info? 129).map (fun i => (i.size, i.bytes, i.zero)) = some (1, 24, some (.slice none 0 0)) := by kernel_rfl
theorem inf130 : (Try.prog.info? 130).map (fun i => (i.size, i.bytes, i.zero)) = some (1, 24, some (.slice none 0 0)) := by kernel_rfl
theorem inf131 : (Try.prog.info? 131).map (fun i => (i.size, i.bytes, i.zero)) = some (4, 80, some (.agg #[.int .i64 0, .slice none 0 0, .slice none 0 0, .slice none 0 0])) := by kernel_rfl
theorem inf132 : (Try.prog.info? 132).map (fun i => (i.size, i.bytes, i.zero)) = some (4, 80, some (.agg #[.int .i64 0, .slice none 0 0, .slice none 0 0, .slice none 0 0])) := by kernel_rfl
theorem inf133 : (Try.prog.info? 133).map (fun i => (i.size, i.bytes, i.zero)) = some (1, 24, some (.slice none 0 0)) := by kernel_rfl
theorem inf134 : (Try.prog.info? 134).map (fun i => (i.size, i.bytes, i.zero)) = some (1, 8, some (.nilFunc)) := by kernel_rfl
theorem inf135 : (Try.prog.info? 135).map (fun i => (i.size, i.bytes, i.zero)) = some (1, 8, some (.nilFunc)) := by kernel_rfl
theorem inf136 : (Try.prog.info? 136).map (fun i => (i.size, i.bytes, i.zero)) = some (1, 24, some (.slice none 0 0)) := by kernel_rfl
theorem inf137 : (Try.prog.info? 137).map (fun i => (i.size, i.bytes, i.zero)) = some (1, 24, some (.slice none 0 0)) := by kernel_rfl
theorem inf138 : (Try.prog.info? 138).map (fun i => (i.size, i.bytes, i.zero)) = some (1, 8, some (.nilFunc)) := by kernel_rfl
theorem inf139 : (Try.prog.info? 139).map (fun i => (i.size, i.bytes, i.zero)) = some (1, 8, some (.nilFunc)) := by kernel_rfl
theorem inf140 : (Try.prog.info? 140).map (fun i => (i.size, i.bytes, i.zero)) = some (1, 8, some (.nilFunc)) := by kernel_rfl
theorem inf141 : (Try.prog.info? 141).map (fun i => (i.size, i.bytes, i.zero)) = some (1, 8, some (.nilFunc)) := by kernel_rfl
theorem inf142 : (Try.prog.info? 142).map (fun i => (i.size, i.bytes, i.zero)) = some (1, 4, some (.int .u32 0)) := by kernel_rfl
theorem inf143 : (Try.prog.info? 143).map (fun i => (i.size, i.bytes, i.zero)) = some (1, 8, some (.nilFunc)) := by kernel_rfl
theorem inf144 : (Try.prog.info? 144).map (fun i => (i.size, i.bytes, i.zero)) = some (1, 0, some (.tuple #[.slice none 0 0, .int .i64 0, .int .i64 0])) := by kernel_rfl
theorem inf145 : (Try.prog.info? 145).map (fun i => (i.size, i.bytes, i.zero)) = some (1, 8, some (.nilFunc)) := by kernel_rfl
theorem inf146 : (Try.prog.info? 146).map (fun i => (i.size, i.bytes, i.zero)) = some (1, 8, some (.pointer none)) := by kernel_rfl
theorem inf147 : (Try.prog.info? 147).map (fun i => (i.size, i.bytes, i.zero)) = some (1, 8, some (.nilFunc)) := by kernel_rfl
theorem inf148 : (Try.prog.info? 148).map (fun i => (i.size, i.bytes, i.zero)) = some (1, 8, some (.nilFunc)) := by kernel_rfl
theorem inf149 : (Try.prog.info? 149).map (fun i => (i.size, i.bytes, i.zero)) = some (1, 0, some (.tuple #[.int .i64 0, .int .i64 0])) := by kernel_rfl
theorem inf150 : (Try.prog.info? 150).map (fun i => (i.size, i.bytes, i.zero)) = some (1, 8, some (.nilFunc)) := by kernel_rfl
theorem inf151 : (Try.prog.info? 151).map (fun i => (i.size, i.bytes, i.zero)) = some (1, 8, some (.nilFunc)) := by kernel_rfl
theorem inf152 : (Try.prog.info? 152).map (fun i => (i.size, i.bytes, i.zero)) = some (1, 8, some (.nilFunc)) := by kernel_rfl
theorem inf153 : (Try.prog.info? 153).map (fun i => (i.size, i.bytes, i.zero)) = some (1, 0, some (.tuple #[.slice none 0 0, .int .i64 0, .int .i64 0])) := by kernel_rfl
theorem inf154 : (Try.prog.info? 154).map (fun i => (i.size, i.bytes, i.zero)) = some (1, 8, some (.nilFunc)) := by kernel_rfl
theorem inf155 : (Try.prog.info? 155).map (fun i => (i.size, i.bytes, i.zero)) = some (1, 8, some (.pointer none)) := by kernel_rfl
theorem inf156 : (Try.prog.info? 156).map (fun i => (i.size, i.bytes, i.zero)) = some (1, 8, some (.nilFunc)) := by kernel_rfl
theorem inf157 : (Try.prog.info? 157).map (fun i => (i.size, i.bytes, i.zero)) = some (5, 56, some (.agg #[.slice none 0 0, .int .i64 0, .int .i64 0, .int .i64 0, .int .i64 0])) := by kernel_rfl
theorem inf158 : (Try.prog.info? 158).map (fun i => (i.size, i.bytes, i.zero)) = some (5, 56, some (.agg #[.slice none 0 0, .int .i64 0, .int .i64 0, .int .i64 0, .int .i64 0])) := by kernel_rfl
theorem inf159 : (Try.prog.info? 159).map (fun i => (i.size, i.bytes, i.zero)) = some (5, 56, some (.agg #[.slice none 0 0, .int .i64 0, .int .i64 0, .int .i64 0, .int .i64 0])) := by kernel_rfl
theorem inf160 : (Try.prog.info? 160).map (fun i => (i.size, i.bytes, i.zero)) = some (5, 56, some (.agg #[.slice none 0 0, .int .i64 0, .int .i64 0, .int .i64 0, .int .i64 0])) := by kernel_rfl
theorem inf161 : (Try.prog.info? 161).map (fun i => (i.size, i.bytes, i.zero)) = some (1, 8, some (.nilFunc)) := by kernel_rfl
theorem inf162 : (Try.prog.info? 162).map (fun i => (i.size, i.bytes, i.zero)) = some (1, 8, some (.nilFunc)) := by kernel_rfl
theorem inf163 : (Try.prog.info? 163).map (fun i => (i.size, i.bytes, i.zero)) = some (1, 8, some (.nilFunc)) := by kernel_rfl
theorem inf164 : (Try.prog.info? 164).map (fun i => (i.size, i.bytes, i.zero)) = some (1, 0, some (.tuple #[.int .u64 0, .int .i64 0, .int .i64 0])) := by kernel_rfl
theorem inf165 : (Try.prog.info? 165).map (fun i => (i.size, i.bytes, i.zero)) = some (1, 8, some (.nilFunc)) := by kernel_rfl
theorem inf166 : (Try.prog.info? 166).map (fun i => (i.size, i.bytes, i.zero)) = some (1, 8, some (.agg #[.int .i64 0])) := by kernel_rfl
theorem inf167 : (Try.prog.info? 167).map (fun i => (i.size, i.bytes, i.zero)) = some (1, 8, some (.agg #[.int .i64 0])) := by kernel_rfl
theorem inf168 : (Try.prog.info? 168).map (fun i => (i.size, i.bytes, i.zero)) = some (1, 0, some (.tuple #[.agg #[.int .i64 0], .bool false])) := by kernel_rfl
theorem inf169 : (Try.prog.info? 169).map (fun i => (i.size, i.bytes, i.zero)) = some (1, 8, some (.nilFunc)) := by kernel_rfl
theorem inf170 : (Try.prog.info? 170).map (fun i => (i.size, i.bytes, i.zero)) = some (4, 40, some (.agg #[.pointer none, .pointer none, .pointer none, .string ⟨#[]⟩])) := by kernel_rfl
theorem inf171 : (Try.prog.info? 171).map (fun i => (i.size, i.bytes, i.zero)) = some (4, 40, some (.agg #[.pointer none, .pointer none, .pointer none, .string ⟨#[]⟩])) := by kernel_rfl
theorem inf172 : (Try.prog.info? 172).map (fun i => (i.size, i.bytes, i.zero)) = some (0, 0, some (.agg #[])) := by kernel_rfl
theorem inf173 : (Try.prog.info? 173).map (fun i => (i.size, i.bytes, i.zero)) = some (0, 0, some (.agg #[])) := by kernel_rfl
theorem inf174 : (Try.prog.info? 174).map (fun i => (i.size, i.bytes, i.zero)) = some (0, 0, some (.agg #[])) := by kernel_rfl
theorem inf175 : (Try.prog.info? 175).map (fun i => (i.size, i.bytes, i.zero)) = some (1, 1, some (.int .u8 0)) := by kernel_rfl
theorem inf176 : (Try.prog.info? 176).map (fun i => (i.size, i.bytes, i.zero)) = some (1, 1, some (.int .u8 0)) := by kernel_rfl
theorem inf177 : (Try.prog.info? 177).map (fun i => (i.size, i.bytes, i.zero)) = some (1, 8, some (.nilFunc)) := by kernel_rfl
theorem inf178 : (Try.prog.info? 178).map (fun i => (i.size, i.bytes, i.zero)) = some (1, 8, some (.pointer none)) := by kernel_rfl
theorem inf179 : (Try.prog.info? 179).map (fun i => (i.size, i.bytes, i.zero)) = some (1, 4, some (.int .i32 0)) := by kernel_rfl
theorem inf180 : (Try.prog.info? 180).map (fun i => (i.size, i.bytes, i.zero)) = some (1, 4, some (.int .i32 0)) := by kernel_rfl
theorem inf181 : (Try.prog.info? 181).map (fun i => (i.size, i.bytes, i.zero)) = some (11, 48, some (.agg #[.int .u64 0, .int .u64 0, .int .u32 0, .int .u8 0, .int .u8 0, .int .u8 0, .int .u8 0, .nilFunc, .pointer none, .int .i32 0, .int .i32 0])) := by kernel_rfl
theorem inf182 : (Try.prog.info? 182).map (fun i => (i.size, i.bytes, i.zero)) = some (11, 48, some (.agg #[.int .u64 0, .int .u64 0, .int .u32 0, .int .u8 0, .int .u8 0, .int .u8 0, .int .u8 0, .nilFunc, .pointer none, .int .i32 0, .int .i32 0])) := by kernel_rfl
theorem inf183 : (Try.prog.info? 183).map (fun i => (i.size, i.bytes, i.zero)) = some (1, 8, some (.pointer none)) := by kernel_rfl
theorem tInf_ok : ∀ p ∈ tInf, ∃ i, Try.prog.info? p.1 = some i ∧ i.size = p.2.1 ∧ i.bytes = p.2.2.1 ∧ i.zero = some p.2.2.2 := by
  simp only [tUnd, tInf, tFld, tFn, List.forall_mem_cons, List.not_mem_nil, false_imp_iff, implies_true, and_true]
  refine ⟨?_, ?_, ?_, ?_, ?_, ?_, ?_, ?_, ?_, ?_, ?_, ?_, ?_, ?_, ?_, ?_, ?_, ?_, ?_, ?_, ?_, ?_, ?_, ?_, ?_, ?_, ?_, ?_, ?_, ?_, ?_, ?_, ?_, ?_, ?_, ?_, ?_, ?_, ?_, ?_, ?_, ?_, ?_, ?_, ?_, ?_, ?_, ?_, ?_, ?_, ?_, ?_, ?_, ?_, ?_, ?_, ?_, ?_, ?_, ?_, ?_, ?_, ?_, ?_, ?_, ?_, ?_, ?_, ?_, ?_, ?_, ?_, ?_, ?_, ?_, ?_, ?_, ?_, ?_, ?_, ?_, ?_, ?_, ?_, ?_, ?_, ?_, ?_, ?_, ?_, ?_, ?_, ?_, ?_, ?_, ?_, ?_, ?_, ?_, ?_, ?_, ?_, ?_, ?_, ?_, ?_, ?_, ?_, ?_, ?_, ?_, ?_, ?_, ?_, ?_, ?_, ?_, ?_, ?_, ?_, ?_, ?_, ?_, ?_, ?_, ?_, ?_, ?_, ?_, ?_, ?_, ?_, ?_, ?_, ?_, ?_, ?_, ?_, ?_, ?_, ?_, ?_, ?_, ?_, ?_, ?_, ?_, ?_, ?_, ?_, ?_, ?_, ?_, ?_, ?_, ?_, ?_, ?_, ?_, ?_, ?_, ?_, ?_, ?_, ?_, ?_, ?_, ?_, ?_, ?_, ?_, ?_, ?_, ?_, ?_, ?_, ?_, ?_, ?_, ?_, ?_, ?_, ?_, ?_⟩
  · exact inf_of inf0
  · exact inf_of inf1
  · exact inf_of inf2
  · exact inf_of inf3
  · exact inf_of inf4
  · exact inf_of inf5
  · exact inf_of inf6
  · exact inf_of inf7
  · exact inf_of inf8
  · exact inf_of inf9
  · exact inf_of inf10
  · exact inf_of inf11
  · exact inf_of inf12
  · exact inf_of inf13
  · exact inf_of inf14
  · exact inf_of inf15
  · exact inf_of inf16
  · exact inf_of inf17
  · exact inf_of inf18
  · exact inf_of inf19
  · exact inf_of inf20
  · exact inf_of inf21
  · exact inf_of inf22
  · exact inf_of inf23
  · exact inf_of inf24
  · exact inf_of inf25
  · exact inf_of inf26
  · exact inf_of inf27
  · exact inf_of inf28
  · exact inf_of inf29
  · exact inf_of inf30
  · exact inf_of inf31
  · exact inf_of inf32
  · exact inf_of inf33
  · exact inf_of inf34
  · exact inf_of inf35
  · exact inf_of inf36
  · exact inf_of inf37
  · exact inf_of inf38
  · exact inf_of inf39
  · exact inf_of inf40
  · exact inf_of inf41
  · exact inf_of inf42
  · exact inf_of inf43
  · exact inf_of inf44
  · exact inf_of inf45
  · exact inf_of inf46
  · exact inf_of inf47
  · exact inf_of inf48
  · exact inf_of inf49
  · exact inf_of inf50
  · exact inf_of inf51
  · exact inf_of inf52
  · exact inf_of inf53
  · exact inf_of inf54
  · exact inf_of inf55
  · exact inf_of inf56
  · exact inf_of inf57
  · exact inf_of inf58
  · exact inf_of inf59
  · exact inf_of inf60
  · exact inf_of inf61
  · exact inf_of inf62
  · exact inf_of inf63
  · exact inf_of inf64
  · exact inf_of inf65
  · exact inf_of inf66
  · exact inf_of inf67
  · exact inf_of inf68
  · exact inf_of inf69
  · exact inf_of inf70
  · exact inf_of inf71
  · exact inf_of inf72
  · exact inf_of inf73
  · exact inf_of inf74
  · exact inf_of inf75
  · exact inf_of inf76
  · exact inf_of inf77
  · exact inf_of inf78
  · exact inf_of inf79
  · exact inf_of inf80
  · exact inf_of inf81
  · exact inf_of inf82
  · exact inf_of inf83
  · exact inf_of inf84
  · exact inf_of inf85
  · exact inf_of inf86
  · exact inf_of inf87
  · exact inf_of inf88
  · exact inf_of inf89
  · exact inf_of inf90
  · exact inf_of inf91
  · exact inf_of inf92
  · exact inf_of inf93
  · exact inf_of inf94
  · exact inf_of inf95
  · exact inf_of inf96
  · exact inf_of inf97
  · exact inf_of inf98
  · exact inf_of inf99
  · exact inf_of inf100
  · exact inf_of inf101
  · exact inf_of inf102
  · exact inf_of inf103
  · exact inf_of inf104
  · exact inf_of inf105
  · exact inf_of inf106
  · exact inf_of inf107
  · exact inf_of inf108
  · exact inf_of inf109
  · exact inf_of inf110
  · exact inf_of inf111
  · exact inf_of inf112
  · exact inf_of inf113
  · exact inf_of inf114
  · exact inf_of inf115
  · exact inf_of inf116
  · exact inf_of inf117
  · exact inf_of inf118
  · exact inf_of inf119
  · exact inf_of inf120
  · exact inf_of inf121
  · exact inf_of inf122
  · exact inf_of inf123
  · exact inf_of inf124
  · exact inf_of inf125
  · exact inf_of inf126
  · exact inf_of inf127
  · exact inf_of inf128
  · exact inf_of inf129
  · exact inf_of inf130
  · exact inf_of inf131
  · exact inf_of inf132
  · exact inf_of inf133
  · exact inf_of inf134
  · exact inf_of inf135
  · exact inf_of inf136
  · exact inf_of inf137
  · exact inf_of inf138
  · exact inf_of inf139
  · exact inf_of inf140
  · exact inf_of inf141
  · exact inf_of inf142
  · exact inf_of inf143
  · exact inf_of inf144
  · exact inf_of inf145
  · exact inf_of inf146
  · exact inf_of inf147
  · exact inf_of inf148
  · exact inf_of inf149
  · exact inf_of inf150
  · exact inf_of inf151
  · exact inf_of inf152
  · exact inf_of inf153
  · exact inf_of inf154
  · exact inf_of inf155
  · exact inf_of inf156
  · exact inf_of inf157
  · exact inf_of inf158
  · exact inf_of inf159
  · exact inf_of inf160
  · exact inf_of inf161
  · exact inf_of inf162
  · exact inf_of inf163
  · exact inf_of inf164
  · exact inf_of inf165
  · exact inf_of inf166
  · exact inf_of inf167
  · exact inf_of inf168
  · exact inf_of inf169
  · exact inf_of inf170
  · exact inf_of inf171
  · exact inf_of inf172
  · exact inf_of inf173
  · exact inf_of inf174
  · exact inf_of inf175
  · exact inf_of inf176
  · exact inf_of inf177
  · exact inf_of inf178
  · exact inf_of inf179
  · exact inf_of inf180
  · exact inf_of inf181
  · exact inf_of inf182
  · exact inf_of inf183
theorem fld7 : (Try.prog.underlying 7).bind (fun d => match d with | .struct fs => some (fs.toList.map (fun f => (f.offset, f.type))) | _ => none) = some [(0, 2), (1, 3), (2, 4), (3, 6)] := by kernel_rfl
theorem fld8 : (Try.prog.underlying 8).bind (fun d => match d with | .struct fs => some (fs.toList.map (fun f => (f.offset, f.type))) | _ => none) = some [(0, 2), (1, 3), (2, 4), (3, 6)] := by kernel_rfl
theorem fld13 : (Try.prog.underlying 13).bind (fun d => match d with | .struct fs => some (fs.toList.map (fun f => (f.offset, f.type))) | _ => none) = some [(0, 9), (1, 12)] := by kernel_rfl
theorem fld14 : (Try.prog.underlying 14).bind (fun d => match d with | .struct fs => some (fs.toList.map (fun f => (f.offset, f.type))) | _ => none) = some [(0, 9), (1, 12)] := by kernel_rfl
theorem fld18 : (Try.prog.underlying 18).bind (fun d => match d with | .struct fs => some (fs.toList.map (fun f => (f.offset, f.type))) | _ => none) = some [(0, 17)] := by kernel_rfl
theorem fld19 : (Try.prog.underlying 19).bind (fun d => match d with | .struct fs => some (fs.toList.map (fun f => (f.offset, f.type))) | _ => none) = some [(0, 17)] := by kernel_rfl
theorem fld24 : (Try.prog.underlying 24).bind (fun d => match d with | .struct fs => some (fs.toList.map (fun f => (f.offset, f.type))) | _ => none) = some [(0, 22), (1, 22), (2, 23), (3, 3)] := by kernel_rfl
theorem fld25 : (Try.prog.underlying 25).bind (fun d => match d with | .struct fs => some (fs.toList.map (fun f => (f.offset, f.type))) | _ => none) = some [(0, 22), (1, 22), (2, 23), (3, 3)] := by kernel_rfl
theorem fld43 : (Try.prog.underlying 43).bind (fun d => match d with | .struct fs => some (fs.toList.map (fun f => (f.offset, f.type))) | _ => none) = some [(0, 41), (2, 41), (4, 42)] := by kernel_rfl
theorem fld44 : (Try.prog.underlying 44).bind (fun d => match d with | .struct fs => some (fs.toList.map (fun f => (f.offset, f.type))) | _ => none) = some [(0, 41), (2, 41), (4, 42)] := by kernel_rfl
theorem fld50 : (Try.prog.underlying 50).bind (fun d => match d with | .struct fs => some (fs.toList.map (fun f => (f.offset, f.type))) | _ => none) = some [(0, 3), (1, 3), (2, 23), (3, 3)] := by kernel_rfl
theorem fld51 : (Try.prog.underlying 51).bind (fun d => match d with | .struct fs => some (fs.toList.map (fun f => (f.offset, f.type))) | _ => none) = some [(0, 3), (1, 3), (2, 23), (3, 3)] := by kernel_rfl
theorem fld55 : (Try.prog.underlying 55).bind (fun d => match d with | .struct fs => some (fs.toList.map (fun f => (f.offset, f.type))) | _ => none) = some [(0, 52), (2, 54), (4, 54), (6, 41)] := by kernel_rfl
theorem fld56 : (Try.prog.underlying 56).bind (fun d => match d with | .struct fs => some (fs.toList.map (fun f => (f.offset, f.type))) | _ => none) = some [(0, 52), (2, 54), (4, 54), (6, 41)] := by kernel_rfl
theorem fld61 : (Try.prog.underlying 61).bind (fun d => match d with | .struct fs => some (fs.toList.map (fun f => (f.offset, f.type))) | _ => none) = some [(0, 3), (1, 23)] := by kernel_rfl
theorem fld62 : (Try.prog.underlying 62).bind (fun d => match d with | .struct fs => some (fs.toList.map (fun f => (f.offset, f.type))) | _ => none) = some [(0, 3), (1, 23)] := by kernel_rfl
theorem fld86 : (Try.prog.underlying 86).bind (fun d => match d with | .struct fs => some (fs.toList.map (fun f => (f.offset, f.type))) | _ => none) = some [(0, 3), (1, 3), (2, 3), (3, 85)] := by kernel_rfl
theorem fld87 : (Try.prog.underlying 87).bind (fun d => match d with | .struct fs => some (fs.toList.map (fun f => (f.offset, f.type))) | _ => none) = some [(0, 3), (1, 3), (2, 3), (3, 85)] := by kernel_rfl
theorem fld95 : (Try.prog.underlying 95).bind (fun d => match d with | .struct fs => some (fs.toList.map (fun f => (f.offset, f.type))) | _ => none) = some [(0, 3), (1, 3), (2, 3), (3, 23)] := by kernel_rfl
theorem fld96 : (Try.prog.underlying 96).bind (fun d => match d with | .struct fs => some (fs.toList.map (fun f => (f.offset, f.type))) | _ => none) = some [(0, 3), (1, 3), (2, 3), (3, 23)] := by kernel_rfl
theorem fld100 : (Try.prog.underlying 100).bind (fun d => match d with | .struct fs => some (fs.toList.map (fun f => (f.offset, f.type))) | _ => none) = some [(0, 98), (1, 99), (2, 83), (3, 3)] := by kernel_rfl
theorem fld101 : (Try.prog.underlying 101).bind (fun d => match d with | .struct fs => some (fs.toList.map (fun f => (f.offset, f.type))) | _ => none) = some [(0, 98), (1, 99), (2, 83), (3, 3)] := by kernel_rfl
theorem fld102 : (Try.prog.underlying 102).bind (fun d => match d with | .struct fs => some (fs.toList.map (fun f => (f.offset, f.type))) | _ => none) = some [(0, 3), (1, 3), (2, 23)] := by kernel_rfl
theorem fld103 : (Try.prog.underlying 103).bind (fun d => match d with | .struct fs => some (fs.toList.map (fun f => (f.offset, f.type))) | _ => none) = some [(0, 3), (1, 3), (2, 23)] := by kernel_rfl
theorem fld112 : (Try.prog.underlying 112).bind (fun d => match d with | .struct fs => some (fs.toList.map (fun f => (f.offset, f.type))) | _ => none) = some [(0, 3), (1, 3), (2, 53), (3, 111), (4, 22), (5, 22), (6, 110), (7, 53), (8, 4)] := by kernel_rfl
theorem fld113 : (Try.prog.underlying 113).bind (fun d => match d with | .struct fs => some (fs.toList.map (fun f => (f.offset, f.type))) | _ => none) = some [(0, 3), (1, 3), (2, 53), (3, 111), (4, 22), (5, 22), (6, 110), (7, 53), (8, 4)] := by kernel_rfl
theorem fld117 : (Try.prog.underlying 117).bind (fun d => match d with | .struct fs => some (fs.toList.map (fun f => (f.offset, f.type))) | _ => none) = some [(0, 22), (1, 23), (2, 3), (3, 4)] := by kernel_rfl
theorem fld118 : (Try.prog.underlying 118).bind (fun d => match d with | .struct fs => some (fs.toList.map (fun f => (f.offset, f.type))) | _ => none) = some [(0, 22), (1, 23), (2, 3), (3, 4)] := by kernel_rfl
theorem fld122 : (Try.prog.underlying 122).bind (fun d => match d with | .struct fs => some (fs.toList.map (fun f => (f.offset, f.type))) | _ => none) = some [(0, 3), (1, 3), (2, 53), (3, 121), (4, 121), (5, 53), (6, 22), (7, 22), (8, 4)] := by kernel_rfl
theorem fld123 : (Try.prog.underlying 123).bind (fun d => match d with | .struct fs => some (fs.toList.map (fun f => (f.offset, f.type))) | _ => none) = some [(0, 3), (1, 3), (2, 53), (3, 121), (4, 121), (5, 53), (6, 22), (7, 22), (8, 4)] := by kernel_rfl
theorem fld124 : (Try.prog.underlying 124).bind (fun d => match d with | .struct fs => some (fs.toList.map (fun f => (f.offset, f.type))) | _ => none) = some [(0, 22), (1, 23), (2, 3), (3, 4)] := by kernel_rfl
theorem fld125 : (Try.prog.underlying 125).bind (fun d => match d with | .struct fs => some (fs.toList.map (fun f => (f.offset, f.type))) | _ => none) = some [(0, 22), (1, 23), (2, 3), (3, 4)] := by kernel_rfl
theorem fld131 : (Try.prog.underlying 131).bind (fun d => match d with | .struct fs => some (fs.toList.map (fun f => (f.offset, f.type))) | _ => none) = some [(0, 3), (1, 129), (2, 130), (3, 83)] := by kernel_rfl
theorem fld132 : (Try.prog.underlying 132).bind (fun d => match d with | .struct fs => some (fs.toList.map (fun f => (f.offset, f.type))) | _ => none) = some [(0, 3), (1, 129), (2, 130), (3, 83)] := by kernel_rfl
theorem fld157 : (Try.prog.underlying 157).bind (fun d => match d with | .struct fs => some (fs.toList.map (fun f => (f.offset, f.type))) | _ => none) = some [(0, 23), (1, 3), (2, 3), (3, 3), (4, 3)] := by kernel_rfl
theorem fld158 : (Try.prog.underlying 158).bind (fun d => match d with | .struct fs => some (fs.toList.map (fun f => (f.offset, f.type))) | _ => none) = some [(0, 23), (1, 3), (2, 3), (3, 3), (4, 3)] := by kernel_rfl
theorem fld159 : (Try.prog.underlying 159).bind (fun d => match d with | .struct fs => some (fs.toList.map (fun f => (f.offset, f.type))) | _ => none) = some [(0, 23), (1, 3), (2, 3), (3, 27), (4, 3)] := by kernel_rfl
theorem fld160 : (Try.prog.underlying 160).bind (fun d => match d with | .struct fs => some (fs.toList.map (fun f => (f.offset, f.type))) | _ => none) = some [(0, 23), (1, 3), (2, 3), (3, 27), (4, 3)] := by kernel_rfl
theorem fld166 : (Try.prog.underlying 166).bind (fun d => match d with | .struct fs => some (fs.toList.map (fun f => (f.offset, f.type))) | _ => none) = some [(0, 27)] := by kernel_rfl
theorem fld167 : (Try.prog.underlying 167).bind (fun d => match d with | .struct fs => some (fs.toList.map (fun f => (f.offset, f.type))) | _ => none) = some [(0, 27)] := by kernel_rfl
theorem fld170 : (Try.prog.underlying 170).bind (fun d => match d with | .struct fs => some (fs.toList.map (fun f => (f.offset, f.type))) | _ => none) = some [(0, 17), (1, 17), (2, 17), (3, 9)] := by kernel_rfl
theorem fld171 : (Try.prog.underlying 171).bind (fun d => match d with | .struct fs => some (fs.toList.map (fun f => (f.offset, f.type))) | _ => none) = some [(0, 17), (1, 17), (2, 17), (3, 9)] := by kernel_rfl
theorem fld173 : (Try.prog.underlying 173).bind (fun d => match d with | .struct fs => some (fs.toList.map (fun f => (f.offset, f.type))) | _ => none) = some [(0, 172)] := by kernel_rfl
theorem fld174 : (Try.prog.underlying 174).bind (fun d => match d with | .struct fs => some (fs.toList.map (fun f => (f.offset, f.type))) | _ => none) = some [(0, 172)] := by kernel_rfl
theorem fld181 : (Try.prog.underlying 181).bind (fun d => match d with | .struct fs => some (fs.toList.map (fun f => (f.offset, f.type))) | _ => none) = some [(0, 12), (1, 12), (2, 142), (3, 175), (4, 5), (5, 5), (6, 176), (7, 177), (8, 178), (9, 179), (10, 180)] := by kernel_rfl
theorem fld182 : (Try.prog.underlying 182).bind (fun d => match d with | .struct fs => some (fs.toList.map (fun f => (f.offset, f.type))) | _ => none) = some [(0, 12), (1, 12), (2, 142), (3, 175), (4, 5), (5, 5), (6, 176), (7, 177), (8, 178), (9, 179), (10, 180)] := by kernel_rfl
theorem tFld_ok : ∀ p ∈ tFld, ∃ fs, Try.prog.underlying p.1 = some (.struct fs) ∧ fs.toList.map (fun f => (f.offset, f.type)) = p.2 := by
  simp only [tUnd, tInf, tFld, tFn, List.forall_mem_cons, List.not_mem_nil, false_imp_iff, implies_true, and_true]
  refine ⟨?_, ?_, ?_, ?_, ?_, ?_, ?_, ?_, ?_, ?_, ?_, ?_, ?_, ?_, ?_, ?_, ?_, ?_, ?_, ?_, ?_, ?_, ?_, ?_, ?_, ?_, ?_, ?_, ?_, ?_, ?_, ?_, ?_, ?_, ?_, ?_, ?_, ?_, ?_, ?_, ?_, ?_, ?_, ?_, ?_, ?_⟩
  · exact fld_of fld7
  · exact fld_of fld8
  · exact fld_of fld13
  · exact fld_of fld14
  · exact fld_of fld18
  · exact fld_of fld19
  · exact fld_of fld24
  · exact fld_of fld25
  · exact fld_of fld43
  · exact fld_of fld44
  · exact fld_of fld50
  · exact fld_of fld51
  · exact fld_of fld55
  · exact fld_of fld56
  · exact fld_of fld61
  · exact fld_of fld62
  · exact fld_of fld86
  · exact fld_of fld87
  · exact fld_of fld95
  · exact fld_of fld96
  · exact fld_of fld100
  · exact fld_of fld101
  · exact fld_of fld102
  · exact fld_of fld103
  · exact fld_of fld112
  · exact fld_of fld113
  · exact fld_of fld117
  · exact fld_of fld118
  · exact fld_of fld122
  · exact fld_of fld123
  · exact fld_of fld124
  · exact fld_of fld125
  · exact fld_of fld131
  · exact fld_of fld132
  · exact fld_of fld157
  · exact fld_of fld158
  · exact fld_of fld159
  · exact fld_of fld160
  · exact fld_of fld166
  · exact fld_of fld167
  · exact fld_of fld170
  · exact fld_of fld171
  · exact fld_of fld173
  · exact fld_of fld174
  · exact fld_of fld181
  · exact fld_of fld182
theorem tFn_ok : ∀ p ∈ tFn, ∀ args w, (callFunc p.1 args).run Try.prog w = .ok (.enter p.1 args) w := by
  simp only [tUnd, tInf, tFld, tFn, List.forall_mem_cons, List.not_mem_nil, false_imp_iff, implies_true, and_true]
  refine ⟨?_, ?_, ?_, ?_, ?_, ?_, ?_, ?_, ?_, ?_, ?_, ?_, ?_, ?_, ?_, ?_, ?_, ?_, ?_, ?_, ?_, ?_, ?_, ?_, ?_, ?_, ?_, ?_, ?_, ?_, ?_, ?_, ?_, ?_, ?_, ?_, ?_, ?_, ?_, ?_, ?_, ?_, ?_, ?_, ?_, ?_, ?_, ?_, ?_, ?_, ?_, ?_, ?_, ?_, ?_, ?_, ?_, ?_, ?_, ?_, ?_, ?_, ?_, ?_, ?_, ?_, ?_, ?_, ?_, ?_, ?_, ?_, ?_, ?_, ?_, ?_, ?_, ?_, ?_, ?_, ?_, ?_, ?_, ?_, ?_, ?_, ?_, ?_, ?_, ?_, ?_, ?_, ?_, ?_, ?_, ?_, ?_, ?_, ?_, ?_, ?_, ?_, ?_, ?_, ?_, ?_, ?_, ?_, ?_, ?_, ?_, ?_, ?_, ?_, ?_, ?_⟩
  · exact run_enter Try.func2 (by kernel_rfl) rfl
  · exact run_enter Try.func3 (by kernel_rfl) rfl
  · exact run_enter Try.func4 (by kernel_rfl) rfl
  · exact run_enter Try.func5 (by kernel_rfl) rfl
  · exact run_enter Try.func6 (by kernel_rfl) rfl
  · exact run_enter Try.func7 (by kernel_rfl) rfl
  · exact run_enter Try.func8 (by kernel_rfl) rfl
  · exact run_enter Try.func9 (by kernel_rfl) rfl
  · exact run_enter Try.func10 (by kernel_rfl) rfl
  · exact run_enter Try.func11 (by kernel_rfl) rfl
  · exact run_enter Try.func12 (by kernel_rfl) rfl
  · exact run_enter Try.func13 (by kernel_rfl) rfl
  · exact run_enter Try.func14 (by kernel_rfl) rfl
  · exact run_enter Try.func15 (by kernel_rfl) rfl
  · exact run_enter Try.func16 (by kernel_rfl) rfl
  · exact run_enter Try.func17 (by kernel_rfl) rfl
  · exact run_enter Try.func18 (by kernel_rfl) rfl
  · exact run_enter Try.func19 (by kernel_rfl) rfl
  · exact run_enter Try.func20 (by kernel_rfl) rfl
  · exact run_enter Try.func21 (by kernel_rfl) rfl
  · exact run_enter Try.func22 (by kernel_rfl) rfl
  · exact run_enter Try.func23 (by kernel_rfl) rfl
  · exact run_enter Try.func24 (by kernel_rfl) rfl
  · exact run_enter Try.func25 (by kernel_rfl) rfl
  · exact run_enter Try.func26 (by kernel_rfl) rfl
  · exact run_enter Try.func27 (by kernel_rfl) rfl
  · exact run_enter Try.func28 (by kernel_rfl) rfl
  · exact run_enter Try.func29 (by kernel_rfl) rfl
  · exact run_enter Try.func30 (by kernel_rfl) rfl
  · exact run_enter Try.func31 (by kernel_rfl) rfl
  · exact run_enter Try.func32 (by kernel_rfl) rfl
  · exact run_enter Try.func33 (by kernel_rfl) rfl
  · exact run_enter Try.func34 (by kernel_rfl) rfl
  · exact run_enter Try.func35 (by kernel_rfl) rfl
  · exact run_enter Try.func36 (by kernel_rfl) rfl
  · exact run_enter Try.func37 (by kernel_rfl) rfl
  · exact run_enter Try.func38 (by kernel_rfl) rfl
  · exact run_enter Try.func39 (by kernel_rfl) rfl
  · exact run_enter Try.func40 (by kernel_rfl) rfl
  · exact run_enter Try.func41 (by kernel_rfl) rfl
  · exact run_enter Try.func42 (by kernel_rfl) rfl
  · exact run_enter Try.func43 (by kernel_rfl) rfl
  · exact run_enter Try.func44 (by kernel_rfl) rfl
  · exact run_enter Try.func45 (by kernel_rfl) rfl
  · exact run_enter Try.func46 (by kernel_rfl) rfl
  · exact run_enter Try.func47 (by kernel_rfl) rfl
  · exact run_enter Try.func48 (by kernel_rfl) rfl
  · exact run_enter Try.func49 (by kernel_rfl) rfl
  · exact run_enter Try.func50 (by kernel_rfl) rfl
  · exact run_enter Try.func51 (by kernel_rfl) rfl
  · exact run_enter Try.func52 (by kernel_rfl) rfl
  · exact run_enter Try.func53 (by kernel_rfl) rfl
  · exact run_enter Try.func54 (by kernel_rfl) rfl
  · exact run_enter Try.func55 (by kernel_rfl) rfl
  · exact run_enter Try.func56 (by kernel_rfl) rfl
  · exact run_enter Try.func57 (by kernel_rfl) rfl
  · exact run_enter Try.func58 (by kernel_rfl) rfl
  · exact run_enter Try.func59 (by kernel_rfl) rfl
  · exact run_enter Try.func60 (by kernel_rfl) rfl
  · exact run_enter Try.func61 (by kernel_rfl) rfl
  · exact run_enter Try.func62 (by kernel_rfl) rfl
  · exact run_enter Try.func63 (by kernel_rfl) rfl
  · exact run_enter Try.func64 (by kernel_rfl) rfl
  · exact run_enter Try.func65 (by kernel_rfl) rfl
  · exact run_enter Try.func66 (by kernel_rfl) rfl
  · exact run_enter Try.func67 (by kernel_rfl) rfl
  · exact run_enter Try.func68 (by kernel_rfl) rfl
  · exact run_enter Try.func69 (by kernel_rfl) rfl
  · exact run_enter Try.func70 (by kernel_rfl) rfl
  · exact run_enter Try.func71 (by kernel_rfl) rfl
  · exact run_enter Try.func72 (by kernel_rfl) rfl
  · exact run_enter Try.func73 (by kernel_rfl) rfl
  · exact run_enter Try.func74 (by kernel_rfl) rfl
  · exact run_enter Try.func75 (by kernel_rfl) rfl
  · exact run_enter Try.func76 (by kernel_rfl) rfl
  · exact run_enter Try.func77 (by kernel_rfl) rfl
  · exact run_enter Try.func78 (by kernel_rfl) rfl
  · exact run_enter Try.func79 (by kernel_rfl) rfl
  · exact run_enter Try.func80 (by kernel_rfl) rfl
  · exact run_enter Try.func81 (by kernel_rfl) rfl
  · exact run_enter Try.func82 (by kernel_rfl) rfl
  · exact run_enter Try.func83 (by kernel_rfl) rfl
  · exact run_enter Try.func84 (by kernel_rfl) rfl
  · exact run_enter Try.func85 (by kernel_rfl) rfl
  · exact run_enter Try.func86 (by kernel_rfl) rfl
  · exact run_enter Try.func87 (by kernel_rfl) rfl
  · exact run_enter Try.func88 (by kernel_rfl) rfl
  · exact run_enter Try.func89 (by kernel_rfl) rfl
  · exact run_enter Try.func90 (by kernel_rfl) rfl
  · exact run_enter Try.func91 (by kernel_rfl) rfl
  · exact run_enter Try.func92 (by kernel_rfl) rfl
  · exact run_enter Try.func93 (by kernel_rfl) rfl
  · exact run_enter Try.func94 (by kernel_rfl) rfl
  · exact run_enter Try.func95 (by kernel_rfl) rfl
  · exact run_enter Try.func96 (by kernel_rfl) rfl
  · exact run_enter Try.func97 (by kernel_rfl) rfl
  · exact run_enter Try.func98 (by kernel_rfl) rfl
  · exact run_enter Try.func99 (by kernel_rfl) rfl
  · exact run_enter Try.func100 (by kernel_rfl) rfl
  · exact run_enter Try.func101 (by kernel_rfl) rfl
  · exact run_enter Try.func102 (by kernel_rfl) rfl
  · exact run_enter Try.func103 (by kernel_rfl) rfl
  · exact run_enter Try.func104 (by kernel_rfl) rfl
  · exact run_enter Try.func105 (by kernel_rfl) rfl
  · exact run_enter Try.func106 (by kernel_rfl) rfl
  · exact run_enter Try.func107 (by kernel_rfl) rfl
  · exact run_enter Try.func108 (by kernel_rfl) rfl
  · exact run_enter Try.func109 (by kernel_rfl) rfl
  · exact run_enter Try.func110 (by kernel_rfl) rfl
  · exact run_enter Try.func111 (by kernel_rfl) rfl
  · exact run_enter Try.func112 (by kernel_rfl) rfl
  · exact run_enter Try.func113 (by kernel_rfl) rfl
  · exact run_enter Try.func114 (by kernel_rfl) rfl
  · exact run_enter Try.func115 (by kernel_rfl) rfl
  · exact run_enter Try.func116 (by kernel_rfl) rfl
  · exact run_enter Try.func117 (by kernel_rfl) rfl
theorem ifc20 : (match Try.prog.underlying 20 with | some (.interface _) => true | _ => false) = true := by kernel_rfl
def tIfc : List (Nat × Bool) := [(20, true)]
theorem tIfc_ok : ∀ p ∈ tIfc, ∃ ms, Try.prog.underlying p.1 = some (.interface ms) := by
  simp only [tUnd, tInf, tFld, tFn, tIfc, List.forall_mem_cons, List.not_mem_nil, false_imp_iff, implies_true, and_true]
  · exact ifc_of ifc20
theorem follows_mixed : Try.prog.follows .mixedOrders = true := by kernel_rfl
def TE : Env Try.prog where
  und := look2 tUnd
  und_ok := look2_ok (Q := fun t d => Try.prog.underlying t = some d) tUnd tUnd_ok
  inf := look2 tInf
  inf_ok := fun t s b z h => look2_ok (Q := fun t (x : Nat × Nat × Value) => ∃ i, Try.prog.info? t = some i ∧ i.size = x.1 ∧ i.bytes = x.2.1 ∧ i.zero = some x.2.2) tInf tInf_ok t (s, b, z) h
  fld := look2 tFld
  fld_ok := look2_ok (Q := fun t l => ∃ fs, Try.prog.underlying t = some (.struct fs) ∧ fs.toList.map (fun f => (f.offset, f.type)) = l) tFld tFld_ok
  fn := fun g => (look2 tFn g).isSome
  fn_ok := fun g h => by
    obtain ⟨b, hb⟩ := Option.isSome_iff_exists.1 h
    exact look2_ok (Q := fun g _ => ∀ args w, (callFunc g args).run Try.prog w = .ok (.enter g args) w) tFn tFn_ok g b hb
  mixed := follows_mixed
  ifc := fun t => (look2 tIfc t).isSome
  ifc_ok := fun t h => by
    obtain ⟨b, hb⟩ := Option.isSome_iff_exists.1 h
    exact look2_ok (Q := fun t _ => ∃ ms, Try.prog.underlying t = some (.interface ms)) tIfc tIfc_ok t b hb
end Go.Proofs.Ytjjgojgahibpgaa

/- Plain facts on numbers' bytes: no program in sight. -/
namespace Go.Proofs.Codec
open Go.Proofs.Eng
/-- The bytes of a number. -/
def encU (n : Nat) : List UInt8 := if n < 128 then [UInt8.ofNat n] else UInt8.ofNat (n % 128 + 128) :: encU (n / 128)
termination_by n
decreasing_by omega
theorem encU_lt {n : Nat} (h : n < 128) : encU n = [UInt8.ofNat n] := by rw [encU, if_pos h]
theorem encU_ge {n : Nat} (h : ¬ n < 128) : encU n = UInt8.ofNat (n % 128 + 128) :: encU (n / 128) := by rw [encU, if_neg h]
theorem encU_len (k : Nat) : ∀ n, n < 2 ^ (7 * k + 7) → (encU n).length ≤ k + 1 := by
  induction k with
  | zero => intro n h; rw [encU_lt (by simpa using h)]; simp
  | succ k ih =>
    intro n h
    by_cases h1 : n < 128
    · rw [encU_lt h1]; simp
    · rw [encU_ge h1, List.length_cons]
      have := ih (n / 128) (by
        rw [Nat.div_lt_iff_lt_mul (by decide)]
        have : 2 ^ (7 * (k + 1) + 7) = 2 ^ (7 * k + 7) * 128 := by rw [show 7 * (k + 1) + 7 = (7 * k + 7) + 7 from by omega, Nat.pow_add]
        omega)
      omega
theorem encU_len64 {n : Nat} (h : n < 2 ^ 64) : (encU n).length ≤ 10 := encU_len 9 n (Nat.lt_of_lt_of_le h (by decide))
theorem encU_pos (n : Nat) : 0 < (encU n).length := by rw [encU]; split <;> simp
theorem or128 : ∀ b, b < 256 → b ||| 128 = b % 128 + 128 := by decide +kernel
theorem ofNat_u8 {n : Nat} (h : n < 256) : ((UInt8.ofNat n).toNat : Int) = (n : Int) := by
  rw [UInt8.toNat_ofNat']; omega
theorem bv_snoc (l : List UInt8) (n : Nat) (h : n < 256) : bv l ++ [.int .u8 (n : Int)] = bv (l ++ [UInt8.ofNat n]) := by
  rw [bv_append]; simp only [bv, List.map_cons, List.map_nil, ofNat_u8 h]
/-- An int as a number. -/
def zig (i : Int) : Nat := if 0 ≤ i then 2 * i.toNat else 2 * (-(i + 1)).toNat + 1
/-- A number of four bytes. -/
def four (n : Nat) : List UInt8 := [UInt8.ofNat (n % 256), UInt8.ofNat (n / 2 ^ 8 % 256), UInt8.ofNat (n / 2 ^ 16 % 256), UInt8.ofNat (n / 2 ^ 24 % 256)]
def le4 (l : List UInt8) : Nat := ((gb l 0 ||| gb l 1 * 2 ^ 8 % 2 ^ 32) ||| gb l 2 * 2 ^ 16 % 2 ^ 32) ||| gb l 3 * 2 ^ 24 % 2 ^ 32
theorem le4_lt (l : List UInt8) : le4 l < 2 ^ 32 := by
  have := gb_lt l 0
  unfold le4
  exact Nat.or_lt_two_pow (Nat.or_lt_two_pow (Nat.or_lt_two_pow (by omega) (by omega)) (by omega)) (by omega)
/-- The sum. -/
def crcStep (c : Nat) : Nat := if c % 2 = 1 then (c / 2) ^^^ 3988292384 else c / 2
def crc8 : Nat → Nat → Nat
  | 0, c => c
  | j + 1, c => crc8 j (crcStep c)
def crcAll : List UInt8 → Nat → Nat
  | [], c => c
  | b :: l, c => crcAll l (crc8 8 (c ^^^ b.toNat))
def crc (l : List UInt8) : Nat := 4294967295 ^^^ crcAll l 4294967295
theorem crc8_succ (j c : Nat) : crc8 (j + 1) c = crc8 j (crcStep c) := rfl
theorem crcStep_odd {c : Nat} (h : c % 2 = 1) : crcStep c = (c / 2 ^ 1) ^^^ 3988292384 := by unfold crcStep; rw [if_pos h]
theorem crcStep_even {c : Nat} (h : ¬ c % 2 = 1) : crcStep c = c / 2 ^ 1 := by unfold crcStep; rw [if_neg h]
theorem crcStep_lt {c : Nat} (h : c < 2 ^ 32) : crcStep c < 2 ^ 32 := by
  unfold crcStep
  split
  · exact Nat.xor_lt_two_pow (by omega) (by decide)
  · omega
theorem crc8_lt : ∀ (j : Nat) {c : Nat}, c < 2 ^ 32 → crc8 j c < 2 ^ 32
  | 0, _, h => h
  | j + 1, _, h => crc8_lt j (crcStep_lt h)
theorem crcAll_lt : ∀ (l : List UInt8) {c : Nat}, c < 2 ^ 32 → crcAll l c < 2 ^ 32
  | [], _, h => h
  | b :: l, _, h => crcAll_lt l (crc8_lt 8 (Nat.xor_lt_two_pow h (Nat.lt_of_lt_of_le (UInt8.toNat_lt b) (by decide))))
theorem crc_lt (l : List UInt8) : crc l < 2 ^ 32 := Nat.xor_lt_two_pow (by decide) (crcAll_lt l (by decide))
theorem crcAll_take (l : List UInt8) (c k : Nat) (h : k < l.length) : crcAll (l.drop k) c = crcAll (l.drop (k + 1)) (crc8 8 (c ^^^ gb l k)) := by
  rw [List.drop_eq_getElem_cons h]
  simp only [crcAll, gb, List.getD_eq_getElem?_getD, List.getElem?_eq_getElem h, Option.getD_some]
end Go.Proofs.Codec

namespace Go.Proofs.Ytjjgojgahibpgaa
open Go.RowKit Go.Proofs.Eng Go.Proofs.Codec
set_option linter.unusedSimpArgs false
set_option linter.unusedVariables false set_option maxRecDepth 10000
attribute [local irreducible] T TL LV TH TA

theorem Clone_c (A : Option Addr) (n c : Nat) (l : List UInt8) (w : World) (h : Rd w A n 1 (bv l)) (hn : n ≤ 70368744177664) :
    Ret Try.prog 71 [.slice A n c] w (fun v w' => ∃ A' c', v = .slice A' n c' ∧ Ext w w' ∧ Own w' w.heap.size 5 1 A' n c' (bv l)) := by
  cases A with
  | none =>
    obtain ⟨rfl, hl⟩ := h.none
    rw [hl]
    refine ret_T (n := 8) Try.func71 rfl rfl ?_
    repeat (first | refine T_seq ?_ | refine T_region ?_ | refine T_cond_true rfl ?_ | refine TL_nil_t TE (hk := ?_) | refine TL_nil ?_ | refine TL_move (hk := ?_) | refine TL_assign (hk := ?_))
    exact T_ret1 rfl rfl ⟨none, 0, rfl, Mod.refl _ _, Own.nil _ _ _ _⟩
  | some a =>
    refine ret_T (n := 8) Try.func71 rfl rfl ?_
    repeat (first | refine T_seq ?_ | refine T_region ?_ | refine T_cond_false rfl ?_ | refine T_skip ?_ | refine TL_nil_f TE (hk := ?_) | refine TL_nil ?_ | refine TL_move (hk := ?_) | refine TL_assign (hk := ?_))
    refine TL_buildSlice TE (hk := ?_); intro b1 w1 e1 h1 h2 k1
    have o1 : Own w1 w.heap.size 5 1 (some ⟨b1, 0, none⟩) 0 0 [] := Own.of_blk k1 h1 rfl (by decide)
    have s1 := e1.size
    repeat (refine TL_move (hk := ?_))
    refine TL_append TE (hk := ?_); intro A2 c2 w2 o2 m2 n2
    repeat (first | refine TL_nil ?_ | refine TL_assign (hk := ?_))
    refine T_ret1 rfl rfl ⟨A2, c2, by simp, e1.step m2 (fun x hx => .inr (by simp [blkL] at hx; omega)), ?_⟩
    simpa using o2

theorem PutUint_c (A : Option Addr) (n c : Nat) (l : List UInt8) (x : Nat) (w : World) {z : Int} (hz : z = (x : Int)) (h : Rd w A n 1 (bv l)) (hn : n ≤ 70368744177000) (hx : x < 2 ^ 64) :
    Ret Try.prog 65 [.slice A n c, .int .u64 z] w (fun v w' => ∃ A' n' c', v = .slice A' n' c' ∧ Ext w w' ∧ Own w' w.heap.size 5 1 A' n' c' (bv (l ++ encU x))) := by
  subst hz
  have hlen : l.length = n := by simpa using h.1
  refine ret_T (n := 23) Try.func65 rfl rfl ?_
  repeat (first | refine T_seq ?_ | refine T_region ?_ | refine TL_nil ?_ | refine TL_move (hk := ?_) | refine TL_assign (hk := ?_))
  refine TL_call TE (hc := Clone_c A n c l w h (by omega)) (hk := ?_)
  rintro _ w1 ⟨A1, c1, rfl, e1, o1⟩
  have s1 := e1.size
  repeat (first | refine T_seq ?_ | refine T_block ?_ | refine TL_nil ?_ | refine TL_assign (hk := ?_))
  refine T_loop (ι := (Option Addr × Nat × Nat) × List UInt8 × Nat) (fun i => [(5, .slice i.1.1 i.1.2.1 i.1.2.2), (1, .int .u64 (i.2.2 : Int))])
    (fun i w' => Ext w w' ∧ Own w' w.heap.size 5 1 i.1.1 i.1.2.1 i.1.2.2 (bv (l ++ i.2.1)) ∧ i.2.1 ++ encU i.2.2 = encU x ∧ i.2.2 < 2 ^ 64) (fun i => i.2.2) ((A1, n, c1), [], x) (.c rfl (.c rfl (.n))) ⟨e1, by simpa using o1, rfl, hx⟩ ?_
  rintro ⟨⟨A2, n2, c2⟩, pre, m⟩ w2 ⟨e2, o2, hpre, hm⟩ ih
  simp only at e2 o2 hpre hm ih ⊢
  have s2 := e2.size
  have hn2 := o2.len
  have hl10 := encU_len64 hx
  rw [← hpre] at hl10
  simp only [bv_length, List.length_append, Nat.mul_one] at hn2 hl10
  have hp := encU_pos m
  by_cases h128 : m < 128
  · repeat (first | refine T_seq ?_ | refine T_region ?_ | refine T_cond_false rfl ?_ | refine T_exit rfl ?_ | refine TL_ge_f (hk := ?_) | refine TL_nil ?_ | refine TL_move (hk := ?_) | refine TL_conv TE (hk := ?_))
    refine TL_buildSlice TE (hk := ?_); intro b3 w3 e3 h31 h32 k3
    have s3 := e3.size
    --
    refine TL_append TE (hk := ?_); intro A4 c4 w4 o4 m4 n4
    repeat (first | refine TL_nil ?_ | refine TL_assign (hk := ?_))
    refine T_ret1 rfl rfl ⟨A4, _, c4, rfl, (e2.ext e3).step m4 (fun y hy => .inr ?_), ?_⟩
    · cases A2 with
      | none => simp [blkL] at hy
      | some ad => simp [blkL] at hy; rw [hy]; exact o2.hi ad rfl
    · rw [bv_snoc _ _ (by omega), List.append_assoc] at o4
      rw [← hpre, encU_lt h128]
      exact o4
  · repeat (first | refine T_seq ?_ | refine T_region ?_ | refine T_cond_true rfl ?_ | refine T_block ?_ | refine T_skip ?_ | refine TL_ge_t (hk := ?_) | (refine TL_or (hk := ?_); intro _) | refine TL_nil ?_ | refine TL_move (hk := ?_) | refine TL_conv_nat TE (hk := ?_))
    refine TL_buildSlice TE (hk := ?_); intro b3 w3 e3 h31 h32 k3
    have s3 := e3.size
    --
    refine TL_append TE (hk := ?_); intro A4 c4 w4 o4 m4 n4
    repeat (first | refine T_region ?_ | refine T_inBlock ?_ | refine TL_shr (hk := ?_) | refine TL_nil ?_ | refine TL_move (hk := ?_) | refine TL_assign (hk := ?_))
    have ho : Own w4 w.heap.size 5 1 A4 (n2 + 1) c4 (bv (l ++ (pre ++ [UInt8.ofNat (m % 128 + 128)]))) := by
      have e : m % 2 ^ 8 ||| 128 = m % 128 + 128 := by rw [or128 _ (by omega)]; omega
      have o5 : Own w4 w.heap.size 5 1 A4 (n2 + 1) c4 (bv (l ++ pre) ++ [.int .u8 ((m % 2 ^ 8 ||| 128 : Nat) : Int)]) := o4
      rw [e, bv_snoc _ _ (by omega), List.append_assoc] at o5
      exact o5
    refine ih ⟨(A4, n2 + 1, c4), pre ++ [UInt8.ofNat (m % 128 + 128)], m / 128⟩ w4 _ (by simp only; omega) ⟨(e2.ext e3).step m4 (fun y hy => .inr ?_), ho, ?_, by simp only; omega⟩ (.c rfl (.c rfl (.n)))
    · cases A2 with
      | none => simp [blkL] at hy
      | some ad => simp [blkL] at hy; rw [hy]; exact o2.hi ad rfl
    · rw [← hpre, encU_ge h128]; simp
end Go.Proofs.Ytjjgojgahibpgaa

/- What a reading answers: plain functions on bytes. -/
namespace Go.Proofs.Codec
open Go.Proofs.Eng
/-- A number from the front: how many bytes are left to it, the place, what has been read. -/
def numF : Nat → Nat → Nat → List UInt8 → Except Int (Nat × Nat)
  | 0, _, _, _ => .error 11
  | f + 1, i, n, l => match l with
    | [] => .error 3
    | c :: t =>
      if i = 9 ∧ 1 < c.toNat then .error 11 else
      if c.toNat < 128 then (if 0 < i ∧ c.toNat = 0 then .error 10 else .ok (n + c.toNat % 128 * 2 ^ (7 * i), i + 1))
      else numF f (i + 1) (n + c.toNat % 128 * 2 ^ (7 * i)) t
def num0 (l : List UInt8) : Except Int (Nat × Nat) := numF 10 0 0 l
theorem numF_ok : ∀ (f i n : Nat) (l : List UInt8) (r k : Nat), f + i = 10 → n < 2 ^ (7 * i) → numF f i n l = .ok (r, k) → r < 2 ^ 64 ∧ i < k ∧ k ≤ i + l.length
  | 0, _, _, _, _, _, _, _, h => by simp [numF] at h
  | f + 1, i, n, [], _, _, _, _, h => by simp [numF] at h
  | f + 1, i, n, c :: t, r, k, hi, hn, h => by
    have hc := UInt8.toNat_lt c
    have hp : 2 ^ (7 * (i + 1)) = 2 ^ (7 * i) * 128 := by rw [show 7 * (i + 1) = 7 * i + 7 from by omega, Nat.pow_add]
    have hm : n + c.toNat % 128 * 2 ^ (7 * i) < 2 ^ (7 * (i + 1)) := by
      rw [hp]
      have : c.toNat % 128 * 2 ^ (7 * i) ≤ 127 * 2 ^ (7 * i) := Nat.mul_le_mul_right _ (by omega)
      omega
    simp only [numF] at h
    by_cases h9 : i = 9 ∧ 1 < c.toNat
    · rw [if_pos h9] at h; cases h
    · rw [if_neg h9] at h
      by_cases h1 : c.toNat < 128
      · rw [if_pos h1] at h
        by_cases h0 : 0 < i ∧ c.toNat = 0
        · rw [if_pos h0] at h; cases h
        · rw [if_neg h0] at h
          cases h
          refine ⟨?_, by omega, by simp⟩
          by_cases hi9 : i = 9
          · subst hi9
            have : c.toNat % 128 ≤ 1 := by omega
            have : c.toNat % 128 * 2 ^ (7 * 9) ≤ 1 * 2 ^ (7 * 9) := Nat.mul_le_mul_right _ this
            omega
          · have : 2 ^ (7 * (i + 1)) ≤ 2 ^ 63 := Nat.pow_le_pow_right (by decide) (by omega)
            omega
      · rw [if_neg h1] at h
        have := numF_ok f (i + 1) _ t r k (by omega) hm h
        simp only [List.length_cons]
        omega
theorem num0_ok {l : List UInt8} {r k : Nat} (h : num0 l = .ok (r, k)) : r < 2 ^ 64 ∧ 0 < k ∧ k ≤ l.length := by
  have := numF_ok 10 0 0 l r k rfl (by decide) h
  omega
/-- An int of a number. -/
def zag (n : Nat) : Int := if n % 2 = 0 then (n / 2 : Nat) else -((n / 2 : Nat) : Int) - 1
/-! The takings: of what stands behind the place: the value and how many bytes, or the error. -/
def tByte (l : List UInt8) : Except Int (Nat × Nat) := match l with
  | [] => .error 3
  | c :: _ => .ok (c.toNat, 1)
def tInt (l : List UInt8) : Except Int (Int × Nat) := match num0 l with
  | .ok (n, k) => .ok (zag n, k)
  | .error e => .error e
def tLim (most : Int) (e : Int) (l : List UInt8) : Except Int (Nat × Nat) := match num0 l with
  | .ok (n, k) => if most < 0 ∨ most < (n : Int) then .error e else .ok (n, k)
  | .error e => .error e
def tText (most : Int) (l : List UInt8) : Except Int (List UInt8 × Nat) := match tLim most 1 l with
  | .ok (n, k) => if l.length < k + n then .error 3 else .ok ((l.drop k).take n, k + n)
  | .error e => .error e
/-- A reader's state. -/
structure RS where
  b : List UInt8
  pos : Nat
  last : Nat
  err : Int
  spot : Nat
def RS.take {α : Type} (s : RS) (zero : α) (t : List UInt8 → Except Int (α × Nat)) : α × RS :=
  if s.err = 0 then match t (s.b.drop s.pos) with
    | .ok (v, k) => (v, { s with pos := s.pos + k, last := s.pos })
    | .error e => (zero, { s with err := e, spot := s.pos })
  else (zero, s)
def RS.fail (s : RS) (e : Int) : RS := if s.err = 0 ∧ e ≠ 0 then { s with err := e, spot := s.last } else s
def RS.fin (s : RS) : RS := if s.err = 0 ∧ s.pos < s.b.length then { s with err := 4, spot := s.pos } else s
def RS.rest (s : RS) : Nat := if s.err = 0 then s.b.length - s.pos else 0
end Go.Proofs.Codec

namespace Go.Proofs.Ytjjgojgahibpgaa
open Go.RowKit Go.Proofs.Eng Go.Proofs.Codec
set_option linter.unusedSimpArgs false
set_option linter.unusedVariables false set_option maxRecDepth 10000
attribute [local irreducible] T TL LV TH TA
set_option maxHeartbeats 1000000

/-- A Reader (of either package: t is its type's number). -/
structure Rdr (w : World) (t : TypeId) (b : Nat) (s : RS) (A : Option Addr) (n c : Nat) : Prop where
  blk : Blk w b t [.slice A n c, .int .i64 (s.pos : Int), .int .i64 (s.last : Int), .int .i64 s.err, .int .i64 (s.spot : Int)]
  rd : Rd w A n 1 (bv s.b)
  off : Off A [b]
  len : s.b.length = n
  pos : s.pos ≤ n
  last : s.last ≤ n
  big : n ≤ 7036874417
  cap : n ≤ c
theorem Rdr.mod {w w' : World} {t : TypeId} {b : Nat} {s : RS} {A : Option Addr} {n c : Nat} {S : List Nat} (h : Rdr w t b s A n c) (hm : Mod S w w') (hb : b ∉ S) (hA : Off A S) : Rdr w' t b s A n c :=
  ⟨h.blk.mod hm hb, h.rd.mod hm hA, h.off, h.len, h.pos, h.last, h.big, h.cap⟩
theorem Rdr.ext {w w' : World} {t : TypeId} {b : Nat} {s : RS} {A : Option Addr} {n c : Nat} (h : Rdr w t b s A n c) (hm : Ext w w') : Rdr w' t b s A n c := h.mod hm (by simp) (.nil A)
def gave (e : Int) : List PanicEntry := [{ v := .iface 167 (.agg #[.int .i64 e]), recovered := false }]
abbrev ptr (b : Nat) : Value := .pointer (some ⟨b, 0, none⟩)
/-- What an inner reading does: it answers v and moves the place on; or it gives up. -/
def Took (w : World) (b : Nat) (s : RS) (A : Option Addr) (n c : Nat) {α : Type} (V : α → Value) (r : Except Int (α × Nat)) : Ending → World → Prop
  | .returned v, w' => ∃ x k, r = .ok (x, k) ∧ v = V x ∧ Mod [b] w w' ∧ Rdr w' 160 b { s with pos := s.pos + k } A n c
  | .panicked ch, w' => ∃ e p, r = .error e ∧ ch = gave e ∧ Mod [b] w w' ∧ Rdr w' 160 b { s with pos := p } A n c
  | .outgrown, _ => False

theorem gb_get (l : List UInt8) (i : Nat) (h : i < l.length) : gb l i = (l[i]).toNat := by simp [gb, h]
theorem Took.ok {w w' : World} {b : Nat} {s : RS} {A : Option Addr} {n c : Nat} {α : Type} {V : α → Value} {r : Except Int (α × Nat)} {v : Value} (x : α) (k : Nat) (hr : r = .ok (x, k)) (hv : v = V x) (hm : Mod [b] w w')
    (h : Rdr w' 160 b { s with pos := s.pos + k } A n c) : Took w b s A n c V r (.returned v) w' := ⟨x, k, hr, hv, hm, h⟩
theorem Took.no {w w' : World} {b : Nat} {s : RS} {A : Option Addr} {n c : Nat} {α : Type} {V : α → Value} {r : Except Int (α × Nat)} (e : Int) (p : Nat) (hr : r = .error e) (hm : Mod [b] w w')
    (h : Rdr w' 160 b { s with pos := p } A n c) : Took w b s A n c V r (.panicked (gave e)) w' := ⟨e, p, hr, rfl, hm, h⟩

theorem byte_c (b : Nat) (s : RS) (A : Option Addr) (n c : Nat) (w : World) (h : Rdr w 160 b s A n c) :
    Calls Try.prog 109 #[ptr b] w (Took w b s A n c (fun x : Nat => .int .u8 (x : Int)) (tByte (s.b.drop s.pos))) := by
  have h0 := h
  obtain ⟨hb, hr, ho, hl, hp, hla, hbig, hcap⟩ := h
  refine calls_T (n := 33) (args := [ptr b]) Try.func109 rfl rfl ?_
  by_cases g : s.pos < n
  · repeat (first | refine T_seq ?_ | refine T_region ?_ | refine T_region_q TE.mixed (by kernel_rfl) ?_ | refine TL_ge_f (hk := ?_) | refine TL_nil ?_ | refine TL_move (hk := ?_) | refine TL_assign (hk := ?_) | refine TL_load TE (hk := ?_) | refine TL_fieldAddr TE (hk := ?_) | refine TL_len TE (hk := ?_) | refine TL_nilCheck (hk := ?_))
    refine TL_nil_q ?_; intro w1 e1
    repeat (first | refine T_seq ?_ | refine T_region ?_ | refine T_cond_false rfl ?_ | refine T_skip ?_ | refine TL_add (hk := ?_) | refine TL_move (hk := ?_) | refine TL_load TE (hk := ?_) | refine TL_fieldAddr TE (hk := ?_) | refine TL_nilCheck (hk := ?_))
    refine TL_store TE (hk := ?_); intro w2 m2 s2 k2
    repeat (first | refine T_seq ?_ | refine T_region_q TE.mixed (by kernel_rfl) ?_ | refine TL_sub (hk := ?_) | refine TL_nil ?_ | refine TL_move (hk := ?_) | refine TL_assign (hk := ?_) | refine TL_load TE (hk := ?_) | (refine TL_load_b TE (hk := ?_); intro _) | refine TL_fieldAddr TE (hk := ?_) | refine TL_indexAddr1 TE (hk := ?_) | refine TL_nilCheck (hk := ?_))
    refine TL_nil_q ?_; intro w3 e3
    refine T_ret1' rfl rfl ?_
    have hd : s.b.drop s.pos = s.b[s.pos] :: s.b.drop (s.pos + 1) := List.drop_eq_getElem_cons _
    have hm : Mod [b] w w3 := (e1.mod.trans m2).ext e3
    refine Took.ok (s.b[s.pos]).toNat 1 (by rw [hd]; rfl) ?_ hm ?_
    · show Value.int .u8 (gb s.b ((s.pos : Int) + 1 - 1).toNat : Nat) = _
      rw [show ((s.pos : Int) + 1 - 1).toNat = s.pos by omega, gb_get _ _ (by omega)]
    · exact ⟨k2.be e3, hr.mod hm (by focus ((repeat (first | assumption | (apply Own.rd; assumption) | (apply Rd.blk; assumption; exact rfl) | (apply Blk.be; assumption) | (apply Rd.be; assumption) | (apply Own.be; assumption) | (apply Blk.bm; assumption; focus (first | assumption | (simp only [List.mem_cons, List.not_mem_nil, or_false]; omega))) | (apply Rd.bm; assumption; focus assumption) | (apply Own.bm; assumption; focus assumption))); done)), ho, hl, g, hla, hbig, hcap⟩
  · repeat (first | refine T_seq ?_ | refine T_region ?_ | refine T_region_q TE.mixed (by kernel_rfl) ?_ | refine TL_ge_t (hk := ?_) | refine TL_nil ?_ | refine TL_move (hk := ?_) | refine TL_assign (hk := ?_) | refine TL_load TE (hk := ?_) | refine TL_fieldAddr TE (hk := ?_) | refine TL_len TE (hk := ?_) | refine TL_nilCheck (hk := ?_))
    refine TL_nil_q ?_; intro w1 e1
    repeat (first | refine T_region ?_ | refine T_cond_true rfl ?_ | refine TL_makeIface_s TE (hk := ?_) | refine TL_build TE (hk := ?_))
    refine TL_panic rfl ?_
    refine LV_panic ?_
    exact Took.no 3 s.pos (by rw [List.drop_of_length_le (by omega)]; rfl) e1.mod (h0.ext e1)

theorem lor_add {a b i : Nat} (h : a < 2 ^ i) : a ||| (b * 2 ^ i) = a + b * 2 ^ i := by
  rw [Nat.or_comm, Nat.mul_comm b, ← Nat.two_pow_add_eq_or_of_lt h, Nat.add_comm]
theorem tByte_ok {l : List UInt8} {x k : Nat} (h : tByte l = .ok (x, k)) : ∃ c t, l = c :: t ∧ x = c.toNat ∧ k = 1 := by
  cases l with
  | nil => cases h
  | cons c t => cases h; exact ⟨c, t, rfl, rfl, rfl⟩
theorem tByte_no {l : List UInt8} {e : Int} (h : tByte l = .error e) : l = [] ∧ e = 3 := by
  cases l with
  | nil => cases h; exact ⟨rfl, rfl⟩
  | cons c t => cases h

theorem uint_c (b : Nat) (s : RS) (A : Option Addr) (n c : Nat) (w : World) (h : Rdr w 160 b s A n c) :
    Calls Try.prog 111 #[ptr b] w (Took w b s A n c (fun x : Nat => .int .u64 (x : Int)) (num0 (s.b.drop s.pos))) := by
  refine calls_T (n := 39) (args := [ptr b]) Try.func111 rfl rfl ?_
  repeat (first | refine T_seq ?_ | refine T_region ?_ | refine T_block ?_ | refine TL_nil ?_ | refine TL_move (hk := ?_) | refine TL_assign (hk := ?_))
  refine T_loop (ι := Nat × Nat) (fun i => [(6, .int .i64 (i.1 : Int)), (3, .int .u64 (i.2 : Int)), (0, ptr b)])
    (fun i w' => Rdr w' 160 b { s with pos := s.pos + i.1 } A n c ∧ Mod [b] w w' ∧ i.1 ≤ 9 ∧ i.2 < 2 ^ (7 * i.1) ∧ numF (10 - i.1) i.1 i.2 (s.b.drop (s.pos + i.1)) = num0 (s.b.drop s.pos)) (fun i => 10 - i.1) (0, 0) (.c rfl (.c rfl (.c rfl (.n)))) ⟨h, Mod.refl _ _, by decide, by decide, rfl⟩ ?_
  rintro ⟨i, N⟩ w1 ⟨h1, m1, hi, hN, hF⟩ ih
  simp only at h1 hi hN hF ih ⊢
  obtain ⟨f, hf⟩ : ∃ f, 10 - i = f + 1 := ⟨9 - i, by omega⟩
  have hp9 : 2 ^ (7 * i) ≤ 2 ^ 63 := Nat.pow_le_pow_right (by decide) (by omega)
  rw [hf] at hF
  repeat (first | refine T_seq ?_ | refine T_region ?_ | refine T_cond_true rfl ?_ | refine T_block ?_ | refine T_skip ?_ | refine TL_lt_t (hk := ?_) | refine TL_nil ?_ | refine TL_move (hk := ?_) | refine TL_assign (hk := ?_))
  refine TL_callc TE (fst := []) (cap := []) rfl rfl rfl rfl (byte_c b _ A n c _ h1) ?_ ?_ (fun _ h => h)
  · rintro _ w2 ⟨x, k, hx, rfl, m2, h2⟩
    obtain ⟨ch, t, hl, rfl, rfl⟩ := tByte_ok hx
    simp only at hl h2
    have hl2 : s.b.drop (s.pos + (i + 1)) = t := by
      have := congrArg List.tail hl
      simpa [List.tail_drop, Nat.add_assoc] using this
    have hc := UInt8.toNat_lt ch
    have m3 := m1.trans m2
    rw [hl] at hF
    simp only [numF] at hF
    by_cases h9 : i = 9 ∧ 1 < ch.toNat
    · rw [if_pos h9] at hF
      obtain ⟨rfl, h91⟩ := h9
      repeat (first | refine T_seq ?_ | refine T_region ?_ | refine T_cond_true rfl ?_ | refine TL_gt_t (hk := ?_) | refine TL_eq_t (hk := ?_) | refine TL_nil ?_ | refine TL_move (hk := ?_) | refine TL_assign (hk := ?_) | refine TL_yes (hk := ?_) | refine TL_pick_t (hk := ?_) | refine TL_makeIface_s TE (hk := ?_) | refine TL_build TE (hk := ?_))
      refine TL_panic rfl ?_
      exact LV_panic (Took.no 11 _ hF.symm m3 h2)
    · rw [if_neg h9] at hF
      have hp : 2 ^ (7 * (i + 1)) = 2 ^ (7 * i) * 128 := by rw [show 7 * (i + 1) = 7 * i + 7 from by omega, Nat.pow_add]
      have hm : N + ch.toNat % 128 * 2 ^ (7 * i) < 2 ^ (7 * (i + 1)) := by
        rw [hp]
        have : ch.toNat % 128 * 2 ^ (7 * i) ≤ 127 * 2 ^ (7 * i) := Nat.mul_le_mul_right _ (by omega)
        omega
      have hb : ch.toNat % 128 * 2 ^ (7 * i) < 2 ^ 64 := by
        by_cases h9' : i = 9
        · have : ch.toNat % 128 * 2 ^ (7 * i) ≤ 1 * 2 ^ (7 * i) := Nat.mul_le_mul_right _ (by omega)
          omega
        · have : 2 ^ (7 * (i + 1)) ≤ 2 ^ 63 := Nat.pow_le_pow_right (by decide) (by omega)
          omega
      have hor : N ||| (ch.toNat % 128 * 2 ^ (7 * i) % 2 ^ 64) = N + ch.toNat % 128 * 2 ^ (7 * i) := by rw [Nat.mod_eq_of_lt hb, lor_add hN]
      have hN64 : N < 2 ^ 64 := by omega
      have hpl := h2.pos
      by_cases i9 : i = 9
      · repeat (first | refine T_seq ?_ | refine T_region ?_ | refine T_cond_false rfl ?_ | refine T_skip ?_ | refine TL_mul (hk := ?_) | refine TL_gt_f (hk := ?_) | refine TL_eq_t (hk := ?_) | (refine TL_andNot80 (hk := ?_); intro _) | refine TL_nil ?_ | refine TL_move (hk := ?_) | refine TL_assign (hk := ?_) | refine TL_yes (hk := ?_) | refine TL_pick_t (hk := ?_) | refine TL_conv TE (hk := ?_))
        refine TL_shl rfl rfl (a := ch.toNat % 128) (c := 7 * i) rfl (by omega) rfl (by omega) rfl ?_
        repeat (first | refine T_seq ?_ | refine T_region ?_ | refine T_cond_true rfl ?_ | refine TL_lt_t (hk := ?_) | refine TL_gt_t (hk := ?_) | (refine TL_or (hk := ?_); intro _) | refine TL_nil ?_ | refine TL_move (hk := ?_) | refine TL_assign (hk := ?_) | refine TL_yes (hk := ?_))
        by_cases hlt : ch.toNat < 128
        · rw [if_pos hlt] at hF
          by_cases h0 : 0 < i
          · by_cases hz : ch.toNat = 0
            · rw [if_pos ⟨h0, hz⟩] at hF
              repeat (first | refine T_region ?_ | refine T_cond_true rfl ?_ | refine TL_eq_t (hk := ?_) | refine TL_nil ?_ | refine TL_pick_t (hk := ?_) | refine TL_makeIface_s TE (hk := ?_) | refine TL_build TE (hk := ?_))
              refine TL_panic rfl ?_
              exact LV_panic (Took.no 10 _ hF.symm m3 h2)
            · rw [if_neg (by omega)] at hF
              repeat (first | refine T_seq ?_ | refine T_region ?_ | refine T_cond_false rfl ?_ | refine T_skip ?_ | refine T_exit rfl ?_ | refine TL_eq_f (hk := ?_) | refine TL_nil ?_ | refine TL_move (hk := ?_) | refine TL_assign (hk := ?_) | refine TL_pick_t (hk := ?_))
              exact T_ret1' rfl rfl (Took.ok _ (i + 1) hF.symm (by rw [← hor]) m3 h2)
          · first
            | (exfalso; omega)
            | skip
              rw [if_neg (by omega)] at hF
              --
              exact T_ret1' rfl rfl (Took.ok _ (i + 1) hF.symm (by rw [← hor]) m3 h2)
        · first
          | (exfalso; omega)
          | skip
            rw [if_neg hlt] at hF
            --
            refine ih (i + 1, N + ch.toNat % 128 * 2 ^ (7 * i)) _ _ (by simp only; omega) ⟨h2, m3, by simp only; omega, hm, ?_⟩ ?_
            · simp only
              rw [hl2, show 10 - (i + 1) = f by omega]
              exact hF
            · rw [← hor]
              exact (.c rfl (.c rfl (.c rfl (.n))))
      · repeat (first | refine T_seq ?_ | refine T_region ?_ | refine T_cond_false rfl ?_ | refine T_skip ?_ | refine TL_mul (hk := ?_) | refine TL_eq_f (hk := ?_) | (refine TL_andNot80 (hk := ?_); intro _) | refine TL_nil ?_ | refine TL_move (hk := ?_) | refine TL_assign (hk := ?_) | refine TL_no (hk := ?_) | refine TL_pick_f (hk := ?_) | refine TL_conv TE (hk := ?_))
        refine TL_shl rfl rfl (a := ch.toNat % 128) (c := 7 * i) rfl (by omega) rfl (by omega) rfl ?_
        repeat (first | refine T_seq ?_ | refine T_region ?_ | (refine TL_or (hk := ?_); intro _) | refine TL_nil ?_ | refine TL_move (hk := ?_) | refine TL_assign (hk := ?_))
        by_cases hlt : ch.toNat < 128
        · rw [if_pos hlt] at hF
          by_cases h0 : 0 < i
          · by_cases hz : ch.toNat = 0
            · rw [if_pos ⟨h0, hz⟩] at hF
              repeat (first | refine T_seq ?_ | refine T_region ?_ | refine T_cond_true rfl ?_ | refine TL_lt_t (hk := ?_) | refine TL_gt_t (hk := ?_) | refine TL_eq_t (hk := ?_) | refine TL_nil ?_ | refine TL_move (hk := ?_) | refine TL_yes (hk := ?_) | refine TL_pick_t (hk := ?_) | refine TL_makeIface_s TE (hk := ?_) | refine TL_build TE (hk := ?_))
              refine TL_panic rfl ?_
              exact LV_panic (Took.no 10 _ hF.symm m3 h2)
            · rw [if_neg (by omega)] at hF
              repeat (first | refine T_seq ?_ | refine T_region ?_ | refine T_cond_true rfl ?_ | refine T_cond_false rfl ?_ | refine T_skip ?_ | refine T_exit rfl ?_ | refine TL_lt_t (hk := ?_) | refine TL_gt_t (hk := ?_) | refine TL_eq_f (hk := ?_) | refine TL_nil ?_ | refine TL_move (hk := ?_) | refine TL_assign (hk := ?_) | refine TL_yes (hk := ?_) | refine TL_pick_t (hk := ?_))
              exact T_ret1' rfl rfl (Took.ok _ (i + 1) hF.symm (by rw [← hor]) m3 h2)
          · first
            | (exfalso; omega)
            | skip
              rw [if_neg (by omega)] at hF
              repeat (first | refine T_seq ?_ | refine T_region ?_ | refine T_cond_true rfl ?_ | refine T_cond_false rfl ?_ | refine T_skip ?_ | refine T_exit rfl ?_ | refine TL_lt_t (hk := ?_) | refine TL_gt_f (hk := ?_) | refine TL_nil ?_ | refine TL_move (hk := ?_) | refine TL_assign (hk := ?_) | refine TL_no (hk := ?_) | refine TL_pick_f (hk := ?_))
              exact T_ret1' rfl rfl (Took.ok _ (i + 1) hF.symm (by rw [← hor]) m3 h2)
        · first
          | (exfalso; omega)
          | skip
            rw [if_neg hlt] at hF
            repeat (first | refine T_region ?_ | refine T_cond_false rfl ?_ | refine T_inBlock ?_ | refine T_skip ?_ | refine TL_add (hk := ?_) | refine TL_lt_f (hk := ?_) | refine TL_nil ?_ | refine TL_move (hk := ?_))
            refine ih (i + 1, N + ch.toNat % 128 * 2 ^ (7 * i)) _ _ (by simp only; omega) ⟨h2, m3, by simp only; omega, hm, ?_⟩ ?_
            · simp only
              rw [hl2, show 10 - (i + 1) = f by omega]
              exact hF
            · rw [← hor]
              exact (.c rfl (.c rfl (.c rfl (.n))))
  · rintro ch w2 ⟨e, p, he, rfl, m2, h2⟩
    obtain ⟨hl, rfl⟩ := tByte_no he
    simp only at hl h2
    rw [hl] at hF
    exact LV_panic (Took.no 3 p hF.symm (m1.trans m2) h2)
end Go.Proofs.Ytjjgojgahibpgaa

namespace Go.Proofs.Ytjjgojgahibpgaa
open Go.RowKit Go.Proofs.Eng Go.Proofs.Codec
set_option linter.unusedSimpArgs false
set_option linter.unusedVariables false set_option maxRecDepth 10000
attribute [local irreducible] T TL LV TH TA
set_option maxHeartbeats 1000000
























































end Go.Proofs.Ytjjgojgahibpgaa

namespace Go.Proofs.Ytjjgojgahibpgaa
open Go.RowKit Go.Proofs.Eng Go.Proofs.Codec
set_option linter.unusedSimpArgs false
set_option linter.unusedVariables false set_option maxRecDepth 10000
attribute [local irreducible] T TL LV TH TA
set_option maxHeartbeats 1000000
theorem st_params (args : List Value) (n m : Nat) : ∀ a : Act, a.tmps = args.toArray ++ Array.replicate (n - args.length) undef → ∀ i v, Eng.look (params 0 args) i = some v → a.tmps.getD i undef = v := by
  intro a ha i v hv
  obtain ⟨_, hi⟩ := look_params args 0 i v hv
  have h1 : args[i]? = some v := by simpa using hi
  have h2 : i < args.length := (List.getElem?_eq_some_iff.1 h1).1
  rw [ha, Array.getD_eq_getD_getElem?, Array.getElem?_append_left (by simpa using h2)]
  simp [h1]
theorem Rd.mod0 {w w' : World} {A : Option Addr} {n s : Nat} {xs : List Value} {S : List Nat} (h : Rd w A n s xs) (hm : Mod S w w') (hS : 0 < n → Off A S) : Rd w' A n s xs := by
  rcases Nat.eq_zero_or_pos n with rfl | hn
  · exact ⟨h.1, fun hn => by omega⟩
  · exact h.mod hm (hS hn)
theorem Rd.offNew {w : World} {A : Option Addr} {n s x : Nat} {xs : List Value} (h : Rd w A n s xs) (hx : w.heap.size ≤ x) (hn : 0 < n) : Off A [x] := by
  obtain ⟨b, off, rfl, hb, _⟩ := h.2 (by omega)
  intro ad e hq
  cases e
  simp only [List.mem_singleton] at hq
  omega
theorem take_ok {α : Type} {s : RS} {z0 v : α} {k : Nat} {t : List UInt8 → Except Int (α × Nat)} (he : s.err = 0) (h : t (s.b.drop s.pos) = .ok (v, k)) : s.take z0 t = (v, { s with pos := s.pos + k, last := s.pos }) := by
  unfold RS.take; rw [if_pos he, h]
theorem take_err {α : Type} {s : RS} {z0 : α} {e : Int} {t : List UInt8 → Except Int (α × Nat)} (he : s.err = 0) (h : t (s.b.drop s.pos) = .error e) : s.take z0 t = (z0, { s with err := e, spot := s.pos }) := by
  unfold RS.take; rw [if_pos he, h]
theorem rdd0_uint64 (w : World) (x y z : Nat) : CallsD Try.prog 117 #[ptr x, ptr y, ptr z] .returning w (fun e u w' => u = .returning ∧ e = .returned (.tuple #[]) ∧ w' = w) := by
  refine callsD_recover (n := 32) (args := [ptr x, ptr y, ptr z]) (st := params 0 [ptr x, ptr y, ptr z]) Try.func117 rfl rfl (st_params _ _ 0) rfl (.inl ⟨rfl, rfl, rfl⟩) ?_
  repeat (first | refine T_seq ?_ | refine T_region ?_ | refine T_cond_false rfl ?_ | refine T_skip ?_ | refine TL_ine_f TE (hk := ?_) | refine TL_nil ?_ | refine TL_move (hk := ?_) | refine TL_assign (hk := ?_))
  refine T_end0' rfl ⟨rfl, rfl⟩
theorem rdd1_uint64 (b : Nat) (s : RS) (A : Option Addr) (n c : Nat) (e : Int) (w : World) (x y z : Nat) (tx ty tz : TypeId) (p : Nat) (v0 : Value) (h : Rdr w 160 b s A n c) (hx : Blk w x tx [.int .i64 (p : Int)]) (hy : Blk w y ty [v0]) (hz : Blk w z tz [ptr b])
    (hyb : y ≠ b) (hxb : x ≠ b) (hzb : z ≠ b) (hxy : x ≠ y) (hzy : z ≠ y) (hyA : 0 < n → Off A [y]) (hp : p ≤ n) :
    CallsD Try.prog 117 #[ptr x, ptr y, ptr z] (.panicking (gave e)) w (fun e' u w' => u = .panicking [{ v := .iface 167 (.agg #[.int .i64 e]), recovered := true }] ∧ e' = .returned (.tuple #[]) ∧ Mod [y, b] w w' ∧ Rdr w' 160 b { s with pos := p, err := e, spot := p } A n c ∧ Blk w' y ty [.int .u64 0]) := by
  refine callsD_recover (n := 32) (args := [ptr x, ptr y, ptr z]) (st := params 0 [ptr x, ptr y, ptr z]) Try.func117 rfl rfl (st_params _ _ 0) rfl (.inr ⟨_, _, rfl, rfl, rfl⟩) ?_
  obtain ⟨hb, hr, ho, hl, hpp, hla, hbig, hcap⟩ := h
  repeat (first | refine T_seq ?_ | refine T_region ?_ | refine T_cond_true rfl ?_ | refine TL_ine_t TE (hk := ?_) | refine TL_nil ?_ | refine TL_move (hk := ?_) | refine TL_assign (hk := ?_) | refine TL_extract (hk := ?_) | refine TL_assert_t TE (hk := ?_))
  refine TL_alloc TE (hk := ?_); intro g w1 e1 g1 g2 kg
  --
  refine TL_store1 TE rfl rfl rfl rfl rfl (by exact kg) (by decide) (hk := ?_); intro w2 m2 s2 k2
  have e2 : Ext w w2 := Mod.step e1 m2 (fun y hy => .inr (by simp only [List.mem_singleton] at hy; omega))
  repeat (first | refine T_seq ?_ | refine T_region ?_ | refine T_cond_false rfl ?_ | refine T_skip ?_ | refine TL_nil ?_ | refine TL_move (hk := ?_) | refine TL_assign (hk := ?_) | refine TL_not (hk := ?_))
  have hxl := hx.be e2
  have hzl := hz.be e2
  have hyl := hy.be e2
  have hbl := hb.be e2
  refine T_region_h TE (fun w' => Blk w' x tx [.int .i64 (p : Int)] ∧ Blk w' z tz [ptr b] ∧ Blk w' g 167 [.int .i64 e]) (fun w3 e3 s3 => ⟨⟨hxl.be e3, hzl.be e3, k2.be e3⟩, ?_⟩)
  have hx3 := hxl.be e3
  have hz3 := hzl.be e3
  have hy3 := hyl.be e3
  have hb3 := hbl.be e3
  have hg3 := k2.be e3
  refine TH_load 0 TE rfl (by kernel_rfl) (by kernel_rfl) (by kernel_rfl) rfl rfl rfl rfl (by rintro w' ⟨h1, h2, h3⟩; first | exact h1 | exact h2 | exact h3) (by exact rfl) ?_; refine TH_load 1 TE rfl (by kernel_rfl) (by kernel_rfl) (by kernel_rfl) rfl rfl rfl rfl (by rintro w' ⟨h1, h2, h3⟩; first | exact h1 | exact h2 | exact h3) (by exact rfl) ?_; refine TH_load 2 TE rfl (by kernel_rfl) (by kernel_rfl) (by kernel_rfl) rfl rfl rfl rfl (by rintro w' ⟨h1, h2, h3⟩; first | exact h1 | exact h2 | exact h3) (by exact rfl) ?_
  refine TH_move 3 rfl (by kernel_rfl) (by kernel_rfl) (by kernel_rfl) rfl rfl ?_
  refine TH_load 4 TE rfl (by kernel_rfl) (by kernel_rfl) (by kernel_rfl) rfl rfl rfl rfl (by rintro w' ⟨h1, h2, h3⟩; first | exact h1 | exact h2 | exact h3) (by exact rfl) ?_
  refine TH_fieldAddr 5 TE rfl (by kernel_rfl) (by kernel_rfl) (by kernel_rfl) rfl rfl rfl rfl rfl rfl ?_
  refine TH_load 6 TE rfl (by kernel_rfl) (by kernel_rfl) (by kernel_rfl) rfl rfl rfl rfl (by rintro w' ⟨h1, h2, h3⟩; first | exact h1 | exact h2 | exact h3) (by exact rfl) ?_; refine TH_load 7 TE rfl (by kernel_rfl) (by kernel_rfl) (by kernel_rfl) rfl rfl rfl rfl (by rintro w' ⟨h1, h2, h3⟩; first | exact h1 | exact h2 | exact h3) (by exact rfl) ?_
  have yg : y < g := Nat.lt_of_lt_of_le hy.lt g1
  have bg : b < g := Nat.lt_of_lt_of_le hb.lt g1
  refine TH_store 8 TE rfl (by kernel_rfl) rfl rfl rfl rfl (by focus ((repeat (first | assumption | (apply Own.rd; assumption) | (apply Rd.blk; assumption; exact rfl) | (apply Blk.be; assumption) | (apply Rd.be; assumption) | (apply Own.be; assumption) | (apply Blk.bm; assumption; focus (first | assumption | (simp only [List.mem_cons, List.not_mem_nil, or_false]; omega))) | (apply Rd.bm; assumption; focus assumption) | (apply Own.bm; assumption; focus assumption))); done)) (by first | decide | (simp; done) | (simp; omega)) ?_; intro w4 m4 s4 k4
  have hx4 := hx3.mod m4 (by simpa using hxy)
  have hz4 := hz3.mod m4 (by simpa using hzy)
  have hg4 := hg3.mod m4 (by simp; omega)
  have hb4 := hb3.mod m4 (by simpa using Ne.symm hyb)
  refine ⟨⟨hx4, hz4, hg4⟩, ?_⟩
  refine TH_nilCheck 9 rfl (by kernel_rfl) (by kernel_rfl) (by kernel_rfl) rfl rfl ?_
  refine TH_fieldAddr 10 TE rfl (by kernel_rfl) (by kernel_rfl) (by kernel_rfl) rfl rfl rfl rfl rfl rfl ?_
  refine TH_store 11 TE rfl (by kernel_rfl) rfl rfl rfl rfl (by focus ((repeat (first | assumption | (apply Own.rd; assumption) | (apply Rd.blk; assumption; exact rfl) | (apply Blk.be; assumption) | (apply Rd.be; assumption) | (apply Own.be; assumption) | (apply Blk.bm; assumption; focus (first | assumption | (simp only [List.mem_cons, List.not_mem_nil, or_false]; omega))) | (apply Rd.bm; assumption; focus assumption) | (apply Own.bm; assumption; focus assumption))); done)) (by first | decide | (simp; done) | (simp; omega)) ?_; intro w5 m5 s5 k5
  have hx5 := hx4.mod m5 (by simpa using hxb)
  have hz5 := hz4.mod m5 (by simpa using hzb)
  have hg5 := hg4.mod m5 (by simp; omega)
  have hy5 := k4.mod m5 (by simpa using hyb)
  refine ⟨⟨hx5, hz5, hg5⟩, ?_⟩
  refine TH_nilCheck 12 rfl (by kernel_rfl) (by kernel_rfl) (by kernel_rfl) rfl rfl ?_
  refine TH_fieldAddr 13 TE rfl (by kernel_rfl) (by kernel_rfl) (by kernel_rfl) rfl rfl rfl rfl rfl rfl ?_
  refine TH_store 14 TE rfl (by kernel_rfl) rfl rfl rfl rfl (by focus ((repeat (first | assumption | (apply Own.rd; assumption) | (apply Rd.blk; assumption; exact rfl) | (apply Blk.be; assumption) | (apply Rd.be; assumption) | (apply Own.be; assumption) | (apply Blk.bm; assumption; focus (first | assumption | (simp only [List.mem_cons, List.not_mem_nil, or_false]; omega))) | (apply Rd.bm; assumption; focus assumption) | (apply Own.bm; assumption; focus assumption))); done)) (by first | decide | (simp; done) | (simp; omega)) ?_; intro w6 m6 s6 k6
  have hx6 := hx5.mod m6 (by simpa using hxb)
  have hz6 := hz5.mod m6 (by simpa using hzb)
  have hg6 := hg5.mod m6 (by simp; omega)
  have hy6 := hy5.mod m6 (by simpa using hyb)
  refine ⟨⟨hx6, hz6, hg6⟩, ?_⟩
  refine TH_nilCheck 15 rfl (by kernel_rfl) (by kernel_rfl) (by kernel_rfl) rfl rfl ?_
  refine TH_fieldAddr 16 TE rfl (by kernel_rfl) (by kernel_rfl) (by kernel_rfl) rfl rfl rfl rfl rfl rfl ?_
  refine TH_store 17 TE rfl (by kernel_rfl) rfl rfl rfl rfl (by focus ((repeat (first | assumption | (apply Own.rd; assumption) | (apply Rd.blk; assumption; exact rfl) | (apply Blk.be; assumption) | (apply Rd.be; assumption) | (apply Own.be; assumption) | (apply Blk.bm; assumption; focus (first | assumption | (simp only [List.mem_cons, List.not_mem_nil, or_false]; omega))) | (apply Rd.bm; assumption; focus assumption) | (apply Own.bm; assumption; focus assumption))); done)) (by first | decide | (simp; done) | (simp; omega)) ?_; intro w7 m7 s7 k7
  have hx7 := hx6.mod m7 (by simpa using hxb)
  have hz7 := hz6.mod m7 (by simpa using hzb)
  have hg7 := hg6.mod m7 (by simp; omega)
  have hy7 := hy6.mod m7 (by simpa using hyb)
  refine ⟨⟨hx7, hz7, hg7⟩, ?_⟩
  refine TH_done (by kernel_rfl) ?_
  have hm : Mod [y, b] w w7 := by
    have a1 : Mod [y, b] w w3 := Ext.mod (Mod.ext e2 e3)
    have a2 := a1.step m4 (fun q hq => .inl (by simp only [List.mem_cons, List.not_mem_nil, or_false] at hq ⊢; omega))
    have a3 := a2.step m5 (fun q hq => .inl (by simp only [List.mem_cons, List.not_mem_nil, or_false] at hq ⊢; omega))
    have a4 := a3.step m6 (fun q hq => .inl (by simp only [List.mem_cons, List.not_mem_nil, or_false] at hq ⊢; omega))
    exact a4.step m7 (fun q hq => .inl (by simp only [List.mem_cons, List.not_mem_nil, or_false] at hq ⊢; omega))
  refine T_end0' rfl ⟨rfl, hm, ⟨k7, Rd.mod0 hr hm ?_, ho, hl, hp, hla, hbig, hcap⟩, hy7⟩
  intro hn0 ad ea hq
  simp only [List.mem_cons, List.not_mem_nil, or_false] at hq
  rcases hq with hq | hq
  · exact hyA hn0 ad ea (by simpa using hq)
  · exact ho ad ea (by simpa using hq)
theorem rd_uint64 {α : Type} (b : Nat) (s : RS) (A : Option Addr) (n c : Nat) (w : World) (g : Nat) (fst cap : List Value) (V : α → Value) (z0 : α) (hV : V z0 = .int .u64 0) (hV1 : ∀ x, (V x).oneCell' = true) (t : List UInt8 → Except Int (α × Nat)) (hE : TE.fn g = true) (h : Rdr w 160 b s A n c)
    (hc : ∀ w', Ext w w' → Calls Try.prog g (fst ++ cap).toArray w' (Took w' b s A n c V (t (s.b.drop s.pos)))) :
    Ret Try.prog 110 [ptr b, .func (.func g) fst.toArray cap.toArray] w (fun v w' => v = V (s.take z0 t).1 ∧ Mod [b] w w' ∧ Rdr w' 160 b (s.take z0 t).2 A n c) := by
  have h0 := h
  obtain ⟨hb, hr, ho, hl, hpp, hla, hbig, hcap⟩ := h
  refine ret_T (n := 28) Try.func110 rfl rfl ?_
  repeat (first | refine T_seq ?_ | refine T_region ?_)
  refine TL_box (hk := ?_); intro x1 w1 e1 g1 g1' k1
  --
  refine TL_alloc TE (hk := ?_); intro x2 w2 e2 g2 g2' k2
  have e02 : Ext w w2 := e1.ext e2
  have hb2 := hb.be e02
  have k12 : Blk w2 x1 _ [ptr b] := k1.be e2
  have k22 : Blk w2 x2 _ [.int .u64 0] := k2
  have lb := hb.lt
  have ls1 := e1.size
  by_cases he : s.err = 0
  · rw [he] at hb2
    repeat (first | refine T_seq ?_ | refine T_region ?_ | refine T_cond_false rfl ?_ | refine T_skip ?_ | refine TL_ne_f (hk := ?_) | refine TL_pnil_f TE (hk := ?_) | refine TL_nil ?_ | refine TL_move (hk := ?_) | refine TL_load TE (hk := ?_) | refine TL_fieldAddr TE (hk := ?_) | refine TL_yes (hk := ?_) | refine TL_pick_f (hk := ?_) | refine TL_nilCheck (hk := ?_))
    refine TL_alloc TE (hk := ?_); intro x3 w3 e3 g3 g3' k3
    --
    refine TL_store TE (hk := ?_); intro w4 m4 s4 k4
    have e34 : Ext w2 w4 := Mod.step e3 m4 (fun y hy => .inr (by simp only [List.mem_singleton] at hy; omega))
    have e04 : Ext w w4 := e02.ext e34
    have k14 := k12.be e34
    have k24 := k22.be e34
    have k34 : Blk w4 x3 _ [.int .i64 (s.pos : Int)] := k4
    have hc4 := hc w4 e04
    have l12 : x1 < x2 := by omega
    have ls2 := e2.size
    have l23 : x2 < x3 := by omega
    repeat (first | refine T_seq ?_ | refine T_region ?_ | refine TL_nil ?_ | refine TL_makeFunc (hk := ?_))
    refine TL_defer rfl rfl rfl ?_
    repeat (first | refine T_seq ?_ | refine T_region ?_ | refine TL_nil ?_ | refine TL_move (hk := ?_))
    refine TL_callc TE (fst := fst) (cap := cap) (vs := []) rfl rfl hE rfl (by simpa using hc4) ?_ ?_ (fun _ h => h)
    · rintro _ w5 ⟨x, k, hx, rfl, m5, h5⟩
      rw [take_ok he hx]
      have k15 := k14.mod m5 (by simp; omega)
      have k25 := k24.mod m5 (by simp; omega)
      have k35 := k34.mod m5 (by simp; omega)
      obtain ⟨hb5, hr5, _, _, hp5, _, _, _⟩ := h5
      simp only at hb5 hr5 hp5
      refine TL_store TE rfl rfl (hV1 x) rfl (by exact k25) (by decide) (hk := ?_); intro w6 m6 s6 k6
      have k16 := k15.mod m6 (by simp; omega)
      have k36 := k35.mod m6 (by simp; omega)
      have hb6 := hb5.mod m6 (by simp; omega)
      have hr6 := Rd.mod0 hr5 m6 (Rd.offNew hr (by omega))
      repeat (first | refine T_seq ?_ | refine T_region ?_ | refine TL_nil ?_ | refine TL_load TE (hk := ?_) | refine TL_fieldAddr TE (hk := ?_) | refine TL_nilCheck (hk := ?_))
      refine TL_store TE (hk := ?_); intro w7 m7 s7 k7
      have k17 := k16.mod m7 (by simp; omega)
      have k37 := k36.mod m7 (by simp; omega)
      have k27 : Blk w7 x2 _ [V x] := k6.mod m7 (by simp; omega)
      have hr7 := hr6.mod m7 ho
      repeat (first | refine T_seq ?_ | refine T_region ?_ | refine TL_nil ?_ | refine TL_load TE (hk := ?_))
      refine TL_store TE rfl rfl (hV1 x) rfl (by exact k27) (by simp) (hk := ?_); intro w8 m8 s8 k8
      have hb8 := k7.mod m8 (by simp; omega)
      have hr8 := Rd.mod0 hr7 m8 (Rd.offNew hr (by omega))
      have hm : Mod [b] w w8 := by
        have a1 : Mod [b] w w5 := (Ext.mod e04).trans m5
        have a2 := a1.step m6 (fun q hq => .inr (by simp only [List.mem_singleton] at hq; omega))
        have a3 := a2.trans m7
        exact a3.step m8 (fun q hq => .inr (by simp only [List.mem_singleton] at hq; omega))
      repeat (refine TL_nil ?_)
      refine T_leave ?_
      refine LV_defer TE (args := []) (cap := [ptr x3, ptr x2, ptr x1]) rfl (by simp) (rdd0_uint64 w8 x3 x2 x1) ?_ ?_ ?_
      · rintro v u' w9 ⟨rfl, hv, rfl⟩
        refine LV_ret rfl (res1c TE rfl rfl rfl rfl k8 rfl) ?_
        exact ⟨rfl, hm, ⟨hb8, hr8, ho, hl, hp5, hpp, hbig, hcap⟩⟩
      · rintro ch u' w9 ⟨_, hv, _⟩; cases hv
      · rintro u' w9 ⟨_, hv, _⟩; cases hv
    · rintro ch w5 ⟨e, p, hx, rfl, m5, h5⟩
      rw [take_err he hx]
      have k15 := k14.mod m5 (by simp; omega)
      have k25 := k24.mod m5 (by simp; omega)
      have k35 := k34.mod m5 (by simp; omega)
      refine LV_defer TE (args := []) (cap := [ptr x3, ptr x2, ptr x1]) rfl (by simp) (rdd1_uint64 b _ A n c e w5 x3 x2 x1 _ _ _ s.pos _ h5 k35 k25 k15 (by omega) (by omega) (by omega) (by omega) (by omega) (Rd.offNew hr (by omega)) hpp) ?_ ?_ ?_
      · rintro v u' w9 ⟨rfl, hv, m9, h9, k9⟩
        refine LV_ret rfl (res1c TE rfl rfl rfl rfl k9 rfl) ?_
        refine ⟨hV.symm, ?_, h9⟩
        exact ((Ext.mod e04).trans m5).step m9 (fun q hq => by simp only [List.mem_cons, List.not_mem_nil, or_false] at hq ⊢; omega)
      · rintro ch u' w9 ⟨_, hv, _⟩; cases hv
      · rintro u' w9 ⟨_, hv, _⟩; cases hv
  · have hs0 : s.take z0 t = (z0, s) := by unfold RS.take; rw [if_neg he]
    rw [hs0]
    repeat (first | refine T_seq ?_ | refine T_region ?_ | refine T_cond_true rfl ?_ | refine TL_ne_t (hk := ?_) | refine TL_pnil_f TE (hk := ?_) | refine TL_nil ?_ | refine TL_move (hk := ?_) | refine TL_load TE (hk := ?_) | refine TL_fieldAddr TE (hk := ?_) | refine TL_yes (hk := ?_) | refine TL_pick_f (hk := ?_) | refine TL_nilCheck (hk := ?_))
    refine TL_store TE (hk := ?_); intro w3 m3 s3 k3
    have hm : Ext w w3 := Mod.step e02 m3 (fun y hy => .inr (by simp only [List.mem_singleton] at hy; omega))
    repeat (refine TL_nil ?_)
    exact T_ret1c TE rfl rfl rfl rfl k3 rfl ⟨hV.symm, Ext.mod hm, h0.ext hm⟩








































































































































































































































































































































theorem rdd0_byte (w : World) (x y z : Nat) : CallsD Try.prog 116 #[ptr x, ptr y, ptr z] .returning w (fun e u w' => u = .returning ∧ e = .returned (.tuple #[]) ∧ w' = w) := by
  refine callsD_recover (n := 32) (args := [ptr x, ptr y, ptr z]) (st := params 0 [ptr x, ptr y, ptr z]) Try.func116 rfl rfl (st_params _ _ 0) rfl (.inl ⟨rfl, rfl, rfl⟩) ?_
  repeat (first | refine T_seq ?_ | refine T_region ?_ | refine T_cond_false rfl ?_ | refine T_skip ?_ | refine TL_ine_f TE (hk := ?_) | refine TL_nil ?_ | refine TL_move (hk := ?_) | refine TL_assign (hk := ?_))
  refine T_end0' rfl ⟨rfl, rfl⟩
theorem rdd1_byte (b : Nat) (s : RS) (A : Option Addr) (n c : Nat) (e : Int) (w : World) (x y z : Nat) (tx ty tz : TypeId) (p : Nat) (v0 : Value) (h : Rdr w 160 b s A n c) (hx : Blk w x tx [.int .i64 (p : Int)]) (hy : Blk w y ty [v0]) (hz : Blk w z tz [ptr b])
    (hyb : y ≠ b) (hxb : x ≠ b) (hzb : z ≠ b) (hxy : x ≠ y) (hzy : z ≠ y) (hyA : 0 < n → Off A [y]) (hp : p ≤ n) :
    CallsD Try.prog 116 #[ptr x, ptr y, ptr z] (.panicking (gave e)) w (fun e' u w' => u = .panicking [{ v := .iface 167 (.agg #[.int .i64 e]), recovered := true }] ∧ e' = .returned (.tuple #[]) ∧ Mod [y, b] w w' ∧ Rdr w' 160 b { s with pos := p, err := e, spot := p } A n c ∧ Blk w' y ty [.int .u8 0]) := by
  refine callsD_recover (n := 32) (args := [ptr x, ptr y, ptr z]) (st := params 0 [ptr x, ptr y, ptr z]) Try.func116 rfl rfl (st_params _ _ 0) rfl (.inr ⟨_, _, rfl, rfl, rfl⟩) ?_
  obtain ⟨hb, hr, ho, hl, hpp, hla, hbig, hcap⟩ := h
  repeat (first | refine T_seq ?_ | refine T_region ?_ | refine T_cond_true rfl ?_ | refine TL_ine_t TE (hk := ?_) | refine TL_nil ?_ | refine TL_move (hk := ?_) | refine TL_assign (hk := ?_) | refine TL_extract (hk := ?_) | refine TL_assert_t TE (hk := ?_))
  refine TL_alloc TE (hk := ?_); intro g w1 e1 g1 g2 kg
  --
  refine TL_store1 TE rfl rfl rfl rfl rfl (by exact kg) (by decide) (hk := ?_); intro w2 m2 s2 k2
  have e2 : Ext w w2 := Mod.step e1 m2 (fun y hy => .inr (by simp only [List.mem_singleton] at hy; omega))
  repeat (first | refine T_seq ?_ | refine T_region ?_ | refine T_cond_false rfl ?_ | refine T_skip ?_ | refine TL_nil ?_ | refine TL_move (hk := ?_) | refine TL_assign (hk := ?_) | refine TL_not (hk := ?_))
  have hxl := hx.be e2
  have hzl := hz.be e2
  have hyl := hy.be e2
  have hbl := hb.be e2
  refine T_region_h TE (fun w' => Blk w' x tx [.int .i64 (p : Int)] ∧ Blk w' z tz [ptr b] ∧ Blk w' g 167 [.int .i64 e]) (fun w3 e3 s3 => ⟨⟨hxl.be e3, hzl.be e3, k2.be e3⟩, ?_⟩)
  have hx3 := hxl.be e3
  have hz3 := hzl.be e3
  have hy3 := hyl.be e3
  have hb3 := hbl.be e3
  have hg3 := k2.be e3
  refine TH_load 0 TE rfl (by kernel_rfl) (by kernel_rfl) (by kernel_rfl) rfl rfl rfl rfl (by rintro w' ⟨h1, h2, h3⟩; first | exact h1 | exact h2 | exact h3) (by exact rfl) ?_; refine TH_load 1 TE rfl (by kernel_rfl) (by kernel_rfl) (by kernel_rfl) rfl rfl rfl rfl (by rintro w' ⟨h1, h2, h3⟩; first | exact h1 | exact h2 | exact h3) (by exact rfl) ?_; refine TH_load 2 TE rfl (by kernel_rfl) (by kernel_rfl) (by kernel_rfl) rfl rfl rfl rfl (by rintro w' ⟨h1, h2, h3⟩; first | exact h1 | exact h2 | exact h3) (by exact rfl) ?_
  refine TH_move 3 rfl (by kernel_rfl) (by kernel_rfl) (by kernel_rfl) rfl rfl ?_
  refine TH_load 4 TE rfl (by kernel_rfl) (by kernel_rfl) (by kernel_rfl) rfl rfl rfl rfl (by rintro w' ⟨h1, h2, h3⟩; first | exact h1 | exact h2 | exact h3) (by exact rfl) ?_
  refine TH_fieldAddr 5 TE rfl (by kernel_rfl) (by kernel_rfl) (by kernel_rfl) rfl rfl rfl rfl rfl rfl ?_
  refine TH_load 6 TE rfl (by kernel_rfl) (by kernel_rfl) (by kernel_rfl) rfl rfl rfl rfl (by rintro w' ⟨h1, h2, h3⟩; first | exact h1 | exact h2 | exact h3) (by exact rfl) ?_; refine TH_load 7 TE rfl (by kernel_rfl) (by kernel_rfl) (by kernel_rfl) rfl rfl rfl rfl (by rintro w' ⟨h1, h2, h3⟩; first | exact h1 | exact h2 | exact h3) (by exact rfl) ?_
  have yg : y < g := Nat.lt_of_lt_of_le hy.lt g1
  have bg : b < g := Nat.lt_of_lt_of_le hb.lt g1
  refine TH_store 8 TE rfl (by kernel_rfl) rfl rfl rfl rfl (by focus ((repeat (first | assumption | (apply Own.rd; assumption) | (apply Rd.blk; assumption; exact rfl) | (apply Blk.be; assumption) | (apply Rd.be; assumption) | (apply Own.be; assumption) | (apply Blk.bm; assumption; focus (first | assumption | (simp only [List.mem_cons, List.not_mem_nil, or_false]; omega))) | (apply Rd.bm; assumption; focus assumption) | (apply Own.bm; assumption; focus assumption))); done)) (by first | decide | (simp; done) | (simp; omega)) ?_; intro w4 m4 s4 k4
  have hx4 := hx3.mod m4 (by simpa using hxy)
  have hz4 := hz3.mod m4 (by simpa using hzy)
  have hg4 := hg3.mod m4 (by simp; omega)
  have hb4 := hb3.mod m4 (by simpa using Ne.symm hyb)
  refine ⟨⟨hx4, hz4, hg4⟩, ?_⟩
  refine TH_nilCheck 9 rfl (by kernel_rfl) (by kernel_rfl) (by kernel_rfl) rfl rfl ?_
  refine TH_fieldAddr 10 TE rfl (by kernel_rfl) (by kernel_rfl) (by kernel_rfl) rfl rfl rfl rfl rfl rfl ?_
  refine TH_store 11 TE rfl (by kernel_rfl) rfl rfl rfl rfl (by focus ((repeat (first | assumption | (apply Own.rd; assumption) | (apply Rd.blk; assumption; exact rfl) | (apply Blk.be; assumption) | (apply Rd.be; assumption) | (apply Own.be; assumption) | (apply Blk.bm; assumption; focus (first | assumption | (simp only [List.mem_cons, List.not_mem_nil, or_false]; omega))) | (apply Rd.bm; assumption; focus assumption) | (apply Own.bm; assumption; focus assumption))); done)) (by first | decide | (simp; done) | (simp; omega)) ?_; intro w5 m5 s5 k5
  have hx5 := hx4.mod m5 (by simpa using hxb)
  have hz5 := hz4.mod m5 (by simpa using hzb)
  have hg5 := hg4.mod m5 (by simp; omega)
  have hy5 := k4.mod m5 (by simpa using hyb)
  refine ⟨⟨hx5, hz5, hg5⟩, ?_⟩
  refine TH_nilCheck 12 rfl (by kernel_rfl) (by kernel_rfl) (by kernel_rfl) rfl rfl ?_
  refine TH_fieldAddr 13 TE rfl (by kernel_rfl) (by kernel_rfl) (by kernel_rfl) rfl rfl rfl rfl rfl rfl ?_
  refine TH_store 14 TE rfl (by kernel_rfl) rfl rfl rfl rfl (by focus ((repeat (first | assumption | (apply Own.rd; assumption) | (apply Rd.blk; assumption; exact rfl) | (apply Blk.be; assumption) | (apply Rd.be; assumption) | (apply Own.be; assumption) | (apply Blk.bm; assumption; focus (first | assumption | (simp only [List.mem_cons, List.not_mem_nil, or_false]; omega))) | (apply Rd.bm; assumption; focus assumption) | (apply Own.bm; assumption; focus assumption))); done)) (by first | decide | (simp; done) | (simp; omega)) ?_; intro w6 m6 s6 k6
  have hx6 := hx5.mod m6 (by simpa using hxb)
  have hz6 := hz5.mod m6 (by simpa using hzb)
  have hg6 := hg5.mod m6 (by simp; omega)
  have hy6 := hy5.mod m6 (by simpa using hyb)
  refine ⟨⟨hx6, hz6, hg6⟩, ?_⟩
  refine TH_nilCheck 15 rfl (by kernel_rfl) (by kernel_rfl) (by kernel_rfl) rfl rfl ?_
  refine TH_fieldAddr 16 TE rfl (by kernel_rfl) (by kernel_rfl) (by kernel_rfl) rfl rfl rfl rfl rfl rfl ?_
  refine TH_store 17 TE rfl (by kernel_rfl) rfl rfl rfl rfl (by focus ((repeat (first | assumption | (apply Own.rd; assumption) | (apply Rd.blk; assumption; exact rfl) | (apply Blk.be; assumption) | (apply Rd.be; assumption) | (apply Own.be; assumption) | (apply Blk.bm; assumption; focus (first | assumption | (simp only [List.mem_cons, List.not_mem_nil, or_false]; omega))) | (apply Rd.bm; assumption; focus assumption) | (apply Own.bm; assumption; focus assumption))); done)) (by first | decide | (simp; done) | (simp; omega)) ?_; intro w7 m7 s7 k7
  have hx7 := hx6.mod m7 (by simpa using hxb)
  have hz7 := hz6.mod m7 (by simpa using hzb)
  have hg7 := hg6.mod m7 (by simp; omega)
  have hy7 := hy6.mod m7 (by simpa using hyb)
  refine ⟨⟨hx7, hz7, hg7⟩, ?_⟩
  refine TH_done (by kernel_rfl) ?_
  have hm : Mod [y, b] w w7 := by
    have a1 : Mod [y, b] w w3 := Ext.mod (Mod.ext e2 e3)
    have a2 := a1.step m4 (fun q hq => .inl (by simp only [List.mem_cons, List.not_mem_nil, or_false] at hq ⊢; omega))
    have a3 := a2.step m5 (fun q hq => .inl (by simp only [List.mem_cons, List.not_mem_nil, or_false] at hq ⊢; omega))
    have a4 := a3.step m6 (fun q hq => .inl (by simp only [List.mem_cons, List.not_mem_nil, or_false] at hq ⊢; omega))
    exact a4.step m7 (fun q hq => .inl (by simp only [List.mem_cons, List.not_mem_nil, or_false] at hq ⊢; omega))
  refine T_end0' rfl ⟨rfl, hm, ⟨k7, Rd.mod0 hr hm ?_, ho, hl, hp, hla, hbig, hcap⟩, hy7⟩
  intro hn0 ad ea hq
  simp only [List.mem_cons, List.not_mem_nil, or_false] at hq
  rcases hq with hq | hq
  · exact hyA hn0 ad ea (by simpa using hq)
  · exact ho ad ea (by simpa using hq)
theorem rd_byte {α : Type} (b : Nat) (s : RS) (A : Option Addr) (n c : Nat) (w : World) (g : Nat) (fst cap : List Value) (V : α → Value) (z0 : α) (hV : V z0 = .int .u8 0) (hV1 : ∀ x, (V x).oneCell' = true) (t : List UInt8 → Except Int (α × Nat)) (hE : TE.fn g = true) (h : Rdr w 160 b s A n c)
    (hc : ∀ w', Ext w w' → Calls Try.prog g (fst ++ cap).toArray w' (Took w' b s A n c V (t (s.b.drop s.pos)))) :
    Ret Try.prog 108 [ptr b, .func (.func g) fst.toArray cap.toArray] w (fun v w' => v = V (s.take z0 t).1 ∧ Mod [b] w w' ∧ Rdr w' 160 b (s.take z0 t).2 A n c) := by
  have h0 := h
  obtain ⟨hb, hr, ho, hl, hpp, hla, hbig, hcap⟩ := h
  refine ret_T (n := 28) Try.func108 rfl rfl ?_
  repeat (first | refine T_seq ?_ | refine T_region ?_)
  refine TL_box (hk := ?_); intro x1 w1 e1 g1 g1' k1
  --
  refine TL_alloc TE (hk := ?_); intro x2 w2 e2 g2 g2' k2
  have e02 : Ext w w2 := e1.ext e2
  have hb2 := hb.be e02
  have k12 : Blk w2 x1 _ [ptr b] := k1.be e2
  have k22 : Blk w2 x2 _ [.int .u8 0] := k2
  have lb := hb.lt
  have ls1 := e1.size
  by_cases he : s.err = 0
  · rw [he] at hb2
    repeat (first | refine T_seq ?_ | refine T_region ?_ | refine T_cond_false rfl ?_ | refine T_skip ?_ | refine TL_ne_f (hk := ?_) | refine TL_pnil_f TE (hk := ?_) | refine TL_nil ?_ | refine TL_move (hk := ?_) | refine TL_load TE (hk := ?_) | refine TL_fieldAddr TE (hk := ?_) | refine TL_yes (hk := ?_) | refine TL_pick_f (hk := ?_) | refine TL_nilCheck (hk := ?_))
    refine TL_alloc TE (hk := ?_); intro x3 w3 e3 g3 g3' k3
    --
    refine TL_store TE (hk := ?_); intro w4 m4 s4 k4
    have e34 : Ext w2 w4 := Mod.step e3 m4 (fun y hy => .inr (by simp only [List.mem_singleton] at hy; omega))
    have e04 : Ext w w4 := e02.ext e34
    have k14 := k12.be e34
    have k24 := k22.be e34
    have k34 : Blk w4 x3 _ [.int .i64 (s.pos : Int)] := k4
    have hc4 := hc w4 e04
    have l12 : x1 < x2 := by omega
    have ls2 := e2.size
    have l23 : x2 < x3 := by omega
    repeat (first | refine T_seq ?_ | refine T_region ?_ | refine TL_nil ?_ | refine TL_makeFunc (hk := ?_))
    refine TL_defer rfl rfl rfl ?_
    repeat (first | refine T_seq ?_ | refine T_region ?_ | refine TL_nil ?_ | refine TL_move (hk := ?_))
    refine TL_callc TE (fst := fst) (cap := cap) (vs := []) rfl rfl hE rfl (by simpa using hc4) ?_ ?_ (fun _ h => h)
    · rintro _ w5 ⟨x, k, hx, rfl, m5, h5⟩
      rw [take_ok he hx]
      have k15 := k14.mod m5 (by simp; omega)
      have k25 := k24.mod m5 (by simp; omega)
      have k35 := k34.mod m5 (by simp; omega)
      obtain ⟨hb5, hr5, _, _, hp5, _, _, _⟩ := h5
      simp only at hb5 hr5 hp5
      refine TL_store TE rfl rfl (hV1 x) rfl (by exact k25) (by decide) (hk := ?_); intro w6 m6 s6 k6
      have k16 := k15.mod m6 (by simp; omega)
      have k36 := k35.mod m6 (by simp; omega)
      have hb6 := hb5.mod m6 (by simp; omega)
      have hr6 := Rd.mod0 hr5 m6 (Rd.offNew hr (by omega))
      repeat (first | refine T_seq ?_ | refine T_region ?_ | refine TL_nil ?_ | refine TL_load TE (hk := ?_) | refine TL_fieldAddr TE (hk := ?_) | refine TL_nilCheck (hk := ?_))
      refine TL_store TE (hk := ?_); intro w7 m7 s7 k7
      have k17 := k16.mod m7 (by simp; omega)
      have k37 := k36.mod m7 (by simp; omega)
      have k27 : Blk w7 x2 _ [V x] := k6.mod m7 (by simp; omega)
      have hr7 := hr6.mod m7 ho
      repeat (first | refine T_seq ?_ | refine T_region ?_ | refine TL_nil ?_ | refine TL_load TE (hk := ?_))
      refine TL_store TE rfl rfl (hV1 x) rfl (by exact k27) (by simp) (hk := ?_); intro w8 m8 s8 k8
      have hb8 := k7.mod m8 (by simp; omega)
      have hr8 := Rd.mod0 hr7 m8 (Rd.offNew hr (by omega))
      have hm : Mod [b] w w8 := by
        have a1 : Mod [b] w w5 := (Ext.mod e04).trans m5
        have a2 := a1.step m6 (fun q hq => .inr (by simp only [List.mem_singleton] at hq; omega))
        have a3 := a2.trans m7
        exact a3.step m8 (fun q hq => .inr (by simp only [List.mem_singleton] at hq; omega))
      repeat (refine TL_nil ?_)
      refine T_leave ?_
      refine LV_defer TE (args := []) (cap := [ptr x3, ptr x2, ptr x1]) rfl (by simp) (rdd0_byte w8 x3 x2 x1) ?_ ?_ ?_
      · rintro v u' w9 ⟨rfl, hv, rfl⟩
        refine LV_ret rfl (res1c TE rfl rfl rfl rfl k8 rfl) ?_
        exact ⟨rfl, hm, ⟨hb8, hr8, ho, hl, hp5, hpp, hbig, hcap⟩⟩
      · rintro ch u' w9 ⟨_, hv, _⟩; cases hv
      · rintro u' w9 ⟨_, hv, _⟩; cases hv
    · rintro ch w5 ⟨e, p, hx, rfl, m5, h5⟩
      rw [take_err he hx]
      have k15 := k14.mod m5 (by simp; omega)
      have k25 := k24.mod m5 (by simp; omega)
      have k35 := k34.mod m5 (by simp; omega)
      refine LV_defer TE (args := []) (cap := [ptr x3, ptr x2, ptr x1]) rfl (by simp) (rdd1_byte b _ A n c e w5 x3 x2 x1 _ _ _ s.pos _ h5 k35 k25 k15 (by omega) (by omega) (by omega) (by omega) (by omega) (Rd.offNew hr (by omega)) hpp) ?_ ?_ ?_
      · rintro v u' w9 ⟨rfl, hv, m9, h9, k9⟩
        refine LV_ret rfl (res1c TE rfl rfl rfl rfl k9 rfl) ?_
        refine ⟨hV.symm, ?_, h9⟩
        exact ((Ext.mod e04).trans m5).step m9 (fun q hq => by simp only [List.mem_cons, List.not_mem_nil, or_false] at hq ⊢; omega)
      · rintro ch u' w9 ⟨_, hv, _⟩; cases hv
      · rintro u' w9 ⟨_, hv, _⟩; cases hv
  · have hs0 : s.take z0 t = (z0, s) := by unfold RS.take; rw [if_neg he]
    rw [hs0]
    repeat (first | refine T_seq ?_ | refine T_region ?_ | refine T_cond_true rfl ?_ | refine TL_ne_t (hk := ?_) | refine TL_pnil_f TE (hk := ?_) | refine TL_nil ?_ | refine TL_move (hk := ?_) | refine TL_load TE (hk := ?_) | refine TL_fieldAddr TE (hk := ?_) | refine TL_yes (hk := ?_) | refine TL_pick_f (hk := ?_) | refine TL_nilCheck (hk := ?_))
    refine TL_store TE (hk := ?_); intro w3 m3 s3 k3
    have hm : Ext w w3 := Mod.step e02 m3 (fun y hy => .inr (by simp only [List.mem_singleton] at hy; omega))
    repeat (refine TL_nil ?_)
    exact T_ret1c TE rfl rfl rfl rfl k3 rfl ⟨hV.symm, Ext.mod hm, h0.ext hm⟩




































































































































































end Go.Proofs.Ytjjgojgahibpgaa

namespace Go.Proofs.Ytjjgojgahibpgaa
open Go.RowKit Go.Proofs.Eng Go.Proofs.Codec
set_option linter.unusedSimpArgs false
set_option linter.unusedVariables false set_option maxRecDepth 10000
attribute [local irreducible] T TL LV TH TA
set_option maxHeartbeats 1000000
end Go.Proofs.Ytjjgojgahibpgaa

namespace Go.Proofs.Ytjjgojgahibpgaa
open Go.RowKit Go.Proofs.Eng Go.Proofs.Codec
set_option linter.unusedSimpArgs false
set_option linter.unusedVariables false set_option maxRecDepth 10000
attribute [local irreducible] T TL LV TH TA
set_option maxHeartbeats 1000000
theorem Byte_c (b : Nat) (s : RS) (A : Option Addr) (n c : Nat) (w : World) (h : Rdr w 160 b s A n c) :
    Ret Try.prog 92 [ptr b] w (fun v w' => v = (fun x : Nat => Value.int .u8 (x : Int)) (s.take (0 : Nat) tByte).1 ∧ Mod [b] w w' ∧ Rdr w' 160 b (s.take (0 : Nat) tByte).2 A n c) := by
  refine ret_T (n := 7) Try.func92 rfl rfl ?_
  repeat (first | refine T_seq ?_ | refine T_region ?_ | refine TL_nil ?_ | refine TL_move (hk := ?_) | refine TL_assign (hk := ?_) | refine TL_makeFunc (hk := ?_))
  refine TL_call TE (hc := rd_byte b s A n c w 109 [ptr b] [] (fun x : Nat => Value.int .u8 (x : Int)) (0 : Nat) rfl (fun _ => rfl) tByte rfl h (fun w' e => byte_c b s A n c w' (h.ext e))) (hk := ?_)
  rintro _ w1 ⟨rfl, m1, h1⟩
  repeat (first | refine TL_nil ?_ | refine TL_assign (hk := ?_))
  exact T_ret1 rfl rfl ⟨rfl, m1, h1⟩
theorem Uint_c (b : Nat) (s : RS) (A : Option Addr) (n c : Nat) (w : World) (h : Rdr w 160 b s A n c) :
    Ret Try.prog 93 [ptr b] w (fun v w' => v = (fun x : Nat => Value.int .u64 (x : Int)) (s.take (0 : Nat) num0).1 ∧ Mod [b] w w' ∧ Rdr w' 160 b (s.take (0 : Nat) num0).2 A n c) := by
  refine ret_T (n := 7) Try.func93 rfl rfl ?_
  repeat (first | refine T_seq ?_ | refine T_region ?_ | refine TL_nil ?_ | refine TL_move (hk := ?_) | refine TL_assign (hk := ?_) | refine TL_makeFunc (hk := ?_))
  refine TL_call TE (hc := rd_uint64 b s A n c w 111 [ptr b] [] (fun x : Nat => Value.int .u64 (x : Int)) (0 : Nat) rfl (fun _ => rfl) num0 rfl h (fun w' e => uint_c b s A n c w' (h.ext e))) (hk := ?_)
  rintro _ w1 ⟨rfl, m1, h1⟩
  repeat (first | refine TL_nil ?_ | refine TL_assign (hk := ?_))
  exact T_ret1 rfl rfl ⟨rfl, m1, h1⟩
theorem End_c (b : Nat) (s : RS) (A : Option Addr) (n c : Nat) (w : World) (h : Rdr w 160 b s A n c) :
    Ret Try.prog 96 [ptr b] w (fun v w' => v = .int .i64 s.fin.err ∧ Mod [b] w w' ∧ Rdr w' 160 b s.fin A n c) := by
  have h0 := h
  obtain ⟨hb, hr, ho, hl, hp, hla, hbig, hcap⟩ := h
  refine ret_T (n := 36) Try.func96 rfl rfl ?_
  by_cases he : s.err = 0
  · by_cases he2 : s.pos < n
    · have hs : s.fin = { s with err := 4, spot := s.pos } := by unfold RS.fin; rw [if_pos ⟨he, by omega⟩]
      rw [hs]
      repeat (first | refine T_seq ?_ | refine T_region ?_ | refine T_region_q TE.mixed (by kernel_rfl) ?_ | refine T_cond_false rfl ?_ | refine T_skip ?_ | refine TL_lt_t (hk := ?_) | refine TL_eq_t (hk := ?_) | refine TL_pnil_f TE (hk := ?_) | refine TL_nil ?_ | refine TL_move (hk := ?_) | refine TL_assign (hk := ?_) | refine TL_load TE (hk := ?_) | refine TL_fieldAddr TE (hk := ?_) | refine TL_len TE (hk := ?_) | refine TL_yes (hk := ?_) | refine TL_pick_t (hk := ?_) | refine TL_nilCheck (hk := ?_))
      refine TL_nil_q ?_; intro w1 e1
      repeat (first | refine T_region ?_ | refine T_cond_true rfl ?_ | refine TL_move (hk := ?_) | refine TL_load TE (hk := ?_) | refine TL_fieldAddr TE (hk := ?_) | refine TL_nilCheck (hk := ?_))
      refine TL_store TE (hk := ?_); intro w2 m2 s2 k2
      repeat (first | refine TL_fieldAddr TE (hk := ?_) | refine TL_nilCheck (hk := ?_))
      refine TL_store TE (hk := ?_); intro w3 m3 s3 k3
      repeat (first | refine T_seq ?_ | refine T_region ?_ | refine TL_nil ?_ | refine TL_move (hk := ?_) | refine TL_assign (hk := ?_) | refine TL_load TE (hk := ?_) | refine TL_fieldAddr TE (hk := ?_) | refine TL_nilCheck (hk := ?_))
      have hm := ((Ext.mod e1).trans m2).trans m3
      exact T_ret1 rfl rfl ⟨rfl, hm, ⟨k3, hr.mod hm ho, ho, hl, hp, hla, hbig, hcap⟩⟩
    · have hs : s.fin = s := by unfold RS.fin; rw [if_neg (by omega)]
      rw [hs]
      repeat (first | refine T_seq ?_ | refine T_region ?_ | refine T_region_q TE.mixed (by kernel_rfl) ?_ | refine T_cond_false rfl ?_ | refine T_skip ?_ | refine TL_lt_f (hk := ?_) | refine TL_eq_t (hk := ?_) | refine TL_pnil_f TE (hk := ?_) | refine TL_nil ?_ | refine TL_move (hk := ?_) | refine TL_assign (hk := ?_) | refine TL_load TE (hk := ?_) | refine TL_fieldAddr TE (hk := ?_) | refine TL_len TE (hk := ?_) | refine TL_yes (hk := ?_) | refine TL_pick_t (hk := ?_) | refine TL_nilCheck (hk := ?_))
      refine TL_nil_q ?_; intro w1 e1
      repeat (first | refine T_seq ?_ | refine T_region ?_ | refine T_cond_false rfl ?_ | refine T_skip ?_ | refine TL_nil ?_ | refine TL_move (hk := ?_) | refine TL_assign (hk := ?_) | refine TL_load TE (hk := ?_) | refine TL_fieldAddr TE (hk := ?_) | refine TL_nilCheck (hk := ?_))
      exact T_ret1 rfl rfl ⟨rfl, Ext.mod e1, h0.ext e1⟩
  · have hs : s.fin = s := by unfold RS.fin; rw [if_neg (by omega)]
    rw [hs]
    repeat (first | refine T_seq ?_ | refine T_region ?_ | refine T_region_q TE.mixed (by kernel_rfl) ?_ | refine T_cond_false rfl ?_ | refine T_skip ?_ | refine TL_eq_f (hk := ?_) | refine TL_pnil_f TE (hk := ?_) | refine TL_nil ?_ | refine TL_move (hk := ?_) | refine TL_assign (hk := ?_) | refine TL_load TE (hk := ?_) | refine TL_fieldAddr TE (hk := ?_) | refine TL_no (hk := ?_) | refine TL_pick_f (hk := ?_) | refine TL_nilCheck (hk := ?_))
    refine TL_nil_q ?_; intro w1 e1
    repeat (first | refine T_seq ?_ | refine T_region ?_ | refine T_cond_false rfl ?_ | refine T_skip ?_ | refine TL_nil ?_ | refine TL_move (hk := ?_) | refine TL_assign (hk := ?_) | refine TL_load TE (hk := ?_) | refine TL_fieldAddr TE (hk := ?_) | refine TL_nilCheck (hk := ?_))
    exact T_ret1 rfl rfl ⟨rfl, Ext.mod e1, h0.ext e1⟩
theorem Why_c (b : Nat) (s : RS) (A : Option Addr) (n c : Nat) (w : World) (h : Rdr w 160 b s A n c) :
    Ret Try.prog 94 [ptr b] w (fun v w' => v = .tuple #[.int .i64 s.err, .int .i64 ((if s.err = 0 then 0 else s.spot : Nat) : Int)] ∧ Ext w w') := by
  have h0 := h
  obtain ⟨hb, hr, ho, hl, hp, hla, hbig, hcap⟩ := h
  refine ret_T (n := 21) Try.func94 rfl rfl ?_
  by_cases he : s.err = 0
  · rw [if_pos he, he]
    repeat (first | refine T_seq ?_ | refine T_region ?_ | refine T_cond_true rfl ?_ | refine TL_eq_t (hk := ?_) | refine TL_pnil_f TE (hk := ?_) | refine TL_nil ?_ | refine TL_move (hk := ?_) | refine TL_assign (hk := ?_) | refine TL_load TE (hk := ?_) | refine TL_fieldAddr TE (hk := ?_) | refine TL_yes (hk := ?_) | refine TL_pick_f (hk := ?_) | refine TL_nilCheck (hk := ?_))
    exact T_ret2 rfl rfl rfl ⟨rfl, Mod.refl _ _⟩
  · rw [if_neg he]
    repeat (first | refine T_seq ?_ | refine T_region ?_ | refine T_region_q TE.mixed (by kernel_rfl) ?_ | refine T_cond_false rfl ?_ | refine T_skip ?_ | refine TL_eq_f (hk := ?_) | refine TL_pnil_f TE (hk := ?_) | refine TL_nil ?_ | refine TL_move (hk := ?_) | refine TL_assign (hk := ?_) | refine TL_load TE (hk := ?_) | refine TL_fieldAddr TE (hk := ?_) | refine TL_yes (hk := ?_) | refine TL_pick_f (hk := ?_) | refine TL_nilCheck (hk := ?_))
    refine TL_nil_q ?_; intro w1 e1
    exact T_ret2 rfl rfl rfl ⟨rfl, e1⟩
theorem Rest_c (b : Nat) (s : RS) (A : Option Addr) (n c : Nat) (w : World) (h : Rdr w 160 b s A n c) :
    Ret Try.prog 95 [ptr b] w (fun v w' => v = .int .i64 (s.rest : Int) ∧ Ext w w') := by
  have h0 := h
  obtain ⟨hb, hr, ho, hl, hp, hla, hbig, hcap⟩ := h
  refine ret_T (n := 22) Try.func95 rfl rfl ?_
  by_cases he : s.err = 0
  · have hs : s.rest = n - s.pos := by unfold RS.rest; rw [if_pos he, hl]
    rw [hs]
    repeat (first | refine T_seq ?_ | refine T_region ?_ | refine T_region_q TE.mixed (by kernel_rfl) ?_ | refine T_cond_false rfl ?_ | refine T_skip ?_ | refine TL_sub (hk := ?_) | refine TL_ne_f (hk := ?_) | refine TL_pnil_f TE (hk := ?_) | refine TL_nil ?_ | refine TL_move (hk := ?_) | refine TL_assign (hk := ?_) | refine TL_load TE (hk := ?_) | refine TL_fieldAddr TE (hk := ?_) | refine TL_len TE (hk := ?_) | refine TL_yes (hk := ?_) | refine TL_pick_f (hk := ?_) | refine TL_nilCheck (hk := ?_))
    refine TL_nil_q ?_; intro w1 e1
    refine T_ret1 rfl rfl ⟨?_, e1⟩
    show Value.int .i64 ((n : Int) - (s.pos : Int)) = _
    rw [show ((n - s.pos : Nat) : Int) = (n : Int) - (s.pos : Int) by omega]
  · have hs : s.rest = 0 := by unfold RS.rest; rw [if_neg he]
    rw [hs]
    repeat (first | refine T_seq ?_ | refine T_region ?_ | refine T_cond_true rfl ?_ | refine TL_ne_t (hk := ?_) | refine TL_pnil_f TE (hk := ?_) | refine TL_nil ?_ | refine TL_move (hk := ?_) | refine TL_assign (hk := ?_) | refine TL_load TE (hk := ?_) | refine TL_fieldAddr TE (hk := ?_) | refine TL_yes (hk := ?_) | refine TL_pick_f (hk := ?_) | refine TL_nilCheck (hk := ?_))
    exact T_ret1 rfl rfl ⟨rfl, Mod.refl _ _⟩
end Go.Proofs.Ytjjgojgahibpgaa

/- Maps whose keys are texts or numbers: as lists of pairs, no key twice. -/
namespace Go.Proofs.Eng
open Go.RowKit
open Go.MapKept
set_option linter.unusedSimpArgs false
set_option linter.unusedVariables false
set_option linter.unusedSectionVars false
section
variable {κ α : Type} [DecidableEq κ]
def mget : List (κ × α) → κ → Option α
  | [], _ => none
  | p :: t, k => if p.1 = k then some p.2 else mget t k
def mput : List (κ × α) → κ → α → List (κ × α)
  | [], k, v => [(k, v)]
  | p :: t, k, v => if p.1 = k then (k, v) :: t else p :: mput t k v
def mdel : List (κ × α) → κ → List (κ × α)
  | [], _ => []
  | p :: t, k => if p.1 = k then t else p :: mdel t k
/-- As 'm[k] op= v' lays the key first. -/
def mtouch (l : List (κ × α)) (k : κ) (z : α) : List (κ × α) := match mget l k with
  | some _ => l
  | none => l ++ [(k, z)]
variable {K : κ → Value} {V : α → Value}
def MRel (K : κ → Value) (V : α → Value) (L : List MapEntry) (l : List (κ × α)) : Prop := L.map (fun e => (e.key, e.val)) = l.map (fun p => (K p.1, V p.2))
theorem MRel.cons {e : MapEntry} {L : List MapEntry} {l : List (κ × α)} (h : MRel K V (e :: L) l) : ∃ p t, l = p :: t ∧ e.key = K p.1 ∧ e.val = V p.2 ∧ MRel K V L t := by
  cases l with
  | nil => simp [MRel] at h
  | cons p t =>
    simp only [MRel, List.map_cons, List.cons.injEq, Prod.mk.injEq] at h
    exact ⟨p, t, rfl, h.1.1, h.1.2, h.2⟩
theorem mrel_none : ∀ {L : List MapEntry} {l : List (κ × α)} {k : κ}, MRel K V L l → (∀ x ∈ L, x.key ≠ K k) → mget l k = none ∧ (∀ v, mput l k v = l ++ [(k, v)]) ∧ mdel l k = l
  | [], l, k, h, _ => by
    cases l with
    | nil => exact ⟨rfl, fun _ => rfl, rfl⟩
    | cons => simp [MRel] at h
  | e :: L, l, k, h, hk => by
    obtain ⟨p, t, rfl, h1, h2, h3⟩ := h.cons
    have hne : p.1 ≠ k := fun q => hk e (by simp) (by rw [h1, q])
    obtain ⟨g1, g2, g3⟩ := mrel_none h3 (fun x hx => hk x (by simp [hx]))
    exact ⟨by simp only [mget, if_neg hne, g1], fun v => by simp only [mput, if_neg hne, g2, List.cons_append], by simp only [mdel, if_neg hne, g3]⟩
theorem mrel_some (hK : ∀ a b, K a = K b → a = b) : ∀ {L : List MapEntry} {l : List (κ × α)} {k : κ} {j : Nat} {e : MapEntry}, MRel K V L l → L[j]? = some e → e.key = K k → L.Pairwise (fun x y => x.key ≠ y.key) →
    (∃ u, mget l k = some u ∧ V u = e.val) ∧ (∀ v, MRel K V (L.modify j (fun e => { e with key := K k, val := V v })) (mput l k v)) ∧ (∀ v, MRel K V (L.modify j (fun e => { e with val := V v })) (mput l k v)) ∧
      MRel K V (L.modify j (fun e => { e with key := K k })) l ∧ MRel K V (L.eraseIdx j) (mdel l k)
  | [], l, k, j, e, _, h, _, _ => by simp at h
  | x :: L, l, k, 0, e, h, hj, hk, hp => by
    obtain ⟨p, t, rfl, h1, h2, h3⟩ := h.cons
    simp at hj
    subst hj
    have he : p.1 = k := hK _ _ (by rw [← h1, hk])
    have h3' := h3
    unfold MRel at h3'
    refine ⟨⟨p.2, by simp [mget, he], h2.symm⟩, fun v => ?_, fun v => ?_, ?_, ?_⟩
    · simp [MRel, mput, he, h3']
    · simp [MRel, mput, he, h3', hk]
    · simp [MRel, h3', h2, he]
    · simp only [mdel, if_pos he, List.eraseIdx_cons_zero]; exact h3
  | x :: L, l, k, j + 1, e, h, hj, hk, hp => by
    obtain ⟨p, t, rfl, h1, h2, h3⟩ := h.cons
    have hj' : L[j]? = some e := by simpa using hj
    have hne : p.1 ≠ k := fun q => by
      have := (List.pairwise_cons.1 hp).1 e (List.mem_of_getElem? hj')
      exact this (by rw [h1, hk, q])
    obtain ⟨⟨u, g1, g2⟩, g3, g4, g5, g6⟩ := mrel_some hK h3 hj' hk (List.pairwise_cons.1 hp).2
    refine ⟨⟨u, by simp [mget, hne, g1], g2⟩, fun v => ?_, fun v => ?_, ?_, ?_⟩
    · have := g3 v
      unfold MRel at this ⊢
      simp [mput, hne, this, h1, h2]
    · have := g4 v
      unfold MRel at this ⊢
      simp [mput, hne, this, h1, h2]
    · unfold MRel at g5 ⊢
      simp [g5, h1, h2]
    · unfold MRel at g6 ⊢
      simp [mdel, hne, g6, h1, h2]
end
/-- Keys. -/
structure Keys {κ : Type} (d : TypeDesc) (K : κ → Value) : Prop where
  is : ∀ a, IsKey d (K a)
  inj : ∀ a b, K a = K b → a = b
theorem keys_str : Keys .string (fun s : ByteArray => Value.string s) := ⟨fun _ => trivial, fun a b h => by cases h; rfl⟩
theorem keys_int (k : IntKind) : Keys (.int k) (fun z : Int => Value.int k z) := ⟨fun _ => rfl, fun a b h => by cases h; rfl⟩
theorem ofL_inj {a b : List UInt8} (h : ofL a = ofL b) : a = b := by
  have := congrArg (fun x : ByteArray => x.data.toList) h
  simpa [ofL] using this
theorem keys_tx : Keys .string (fun l : List UInt8 => Value.string (ofL l)) := ⟨fun _ => trivial, fun a b h => ofL_inj (Value.string.inj h)⟩
def Mp {κ α : Type} (w : World) (d : TypeDesc) (b : Nat) (K : κ → Value) (V : α → Value) (l : List (κ × α)) : Prop :=
  ∃ es clk, w.heap[b]? = some (.map es clk) ∧ Stamped es clk ∧ MRel K V es.toList l
def MAt (w : World) (b : Nat) (key : Value) (st : Nat) : Prop := ∃ es clk, w.heap[b]? = some (.map es clk) ∧ ∃ e ∈ es.toList, e.key = key ∧ e.born = st
section
variable {κ α : Type} {d : TypeDesc} {K : κ → Value} {V : α → Value} {w w' : World} {b : Nat} {l : List (κ × α)} {S : List Nat}
theorem Mp.lt (h : Mp w d b K V l) : b < w.heap.size := by obtain ⟨_, _, h, _⟩ := h; exact heap_lt h
theorem Mp.mod (h : Mp w d b K V l) (hm : Mod S w w') (hb : b ∉ S) : Mp w' d b K V l := by
  obtain ⟨es, clk, h1, h2⟩ := h
  exact ⟨es, clk, (hm.block b (heap_lt h1) hb).trans h1, h2⟩
theorem Mp.ext (h : Mp w d b K V l) (hm : Ext w w') : Mp w' d b K V l := h.mod hm (by simp)
theorem MAt.mod {key : Value} {st : Nat} (h : MAt w b key st) (hm : Mod S w w') (hb : b ∉ S) : MAt w' b key st := by
  obtain ⟨es, clk, h1, h2⟩ := h
  exact ⟨es, clk, (hm.block b (heap_lt h1) hb).trans h1, h2⟩
end
/-! ### The operations -/
section
variable {q : Qm} {P : Program} {fn : Func} {R : Ending → World → Prop} {M : Md} {n : Nat} {st : Slots} {k : List Item} {w : World} {ops rest : List Oper}
  {d : Nat} {ty : TypeId} {ps : String} {af : Array Edge} {X Y Z : Operand} {t kt et : TypeId} {by_ s : Nat} {z : Value} {dsc : TypeDesc}
variable {κ α : Type} [DecidableEq κ] {K : κ → Value} {V : α → Value} {b : Nat} {l : List (κ × α)} {key : κ} {v : α}
theorem find_map {es : Array MapEntry} {clk : Nat} (hK : Keys dsc K) (hs : Stamped es clk) (hr : MRel K V es.toList l) :
    (mget l key = none ∧ Instr.findNow dsc (K key) es.toList 0 = some none ∧ ∀ x ∈ es.toList, x.key ≠ K key) ∨
    ∃ j e u, mget l key = some u ∧ V u = e.val ∧ Instr.findNow dsc (K key) es.toList 0 = some (some (j, e.val)) ∧ es[j]? = some e ∧ e.key = K key ∧ es.toList[j]? = some e := by
  have hks : ∀ x ∈ es.toList, IsKey dsc x.key := fun x hx => by
    have h1 : (x.key, x.val) ∈ es.toList.map (fun e => (e.key, e.val)) := List.mem_map.2 ⟨x, hx, rfl⟩
    rw [hr] at h1
    obtain ⟨p, _, hp⟩ := List.mem_map.1 h1
    have hp1 : K p.1 = x.key := congrArg Prod.fst hp
    rw [← hp1]
    exact hK.is _
  rcases findNow_spec (hK.is key) es.toList 0 hks with ⟨h1, h2⟩ | ⟨j, e, h1, h2, h3⟩
  · exact .inl ⟨(mrel_none hr h2).1, h1, h2⟩
  · obtain ⟨⟨u, g1, g2⟩, _⟩ := mrel_some hK.inj hr h2 h3 ((stamped_iff _ _).1 hs).2.2
    exact .inr ⟨j, e, u, g1, g2, by simpa using h1, by simpa using h2, h3, h2⟩
theorem Mod.heapSet {w : World} {b : Nat} {o o' : Obj} (h : w.heap[b]? = some o) : Mod [b] w { w with heap := w.heap.setIfInBounds b o' } :=
  ⟨rfl, rfl, rfl, by simp, fun k _ hn => (heap_set h).2 k (by simpa using hn)⟩
theorem TL_makeMap (dsc : TypeDesc) (K : κ → Value) (V : α → Value) (hd : Nat.blt d n = true := by exact rfl) (hf : Fl q (rest.length + 1) := by first | exact trivial | exact rfl) (hq : ∀ w', Ext w w' → Kp q w' := by exact fun _ _ => trivial)
    (hk : ∀ b w', Ext w w' → w.heap.size ≤ b → b < w'.heap.size → Mp w' dsc b K V ([] : List (κ × α)) → TL q P fn R M n ((d, .map (some b)) :: st) ops rest k w') :
    TL q P fn R M n st ops (⟨some d, .makeMap t none, ty, ps, af, none⟩ :: rest) k w :=
  TL_new (w' := w.alloc (.map #[] 0)) hd (fun ρ h => by simp [execOp, Instr.makeMap]) hf (hq _ (Ext.alloc _ _))
    (hk w.heap.size _ (Ext.alloc _ _) (Nat.le_refl _) (by simp) ⟨#[], 0, (heap_alloc w _).1, stamped_empty 0, rfl⟩)
theorem run_lookup (E : Env P) (ht : E.und t = some (.map kt et)) (hkt : E.und kt = some dsc) (he : E.inf et = some (s, by_, z)) (hK : Keys dsc K) (hm : Mp w dsc b K V l) (ok : Bool) :
    (Instr.lookup t (.map (some b)) (K key) ok).run P w = .ok (if ok then .tuple #[(mget l key).elim z V, .bool (mget l key).isSome] else (mget l key).elim z V) w := by
  obtain ⟨es, clk, h1, h2, h3⟩ := hm
  rcases find_map (key := key) hK h2 h3 with ⟨g1, g2, _⟩ | ⟨j, e, u, g1, g2, g3, _⟩
  · cases ok <;> simp [Instr.lookup, run_underlying (E.und_ok _ _ ht), Go.MapKept.run_getObj_map h1, run_checkKey (E.und_ok _ _ hkt) (hK.is key), run_findKey (E.und_ok _ _ hkt) g2, run_zero' (E.inf_ok _ _ _ _ he), g1]
  · cases ok <;> simp [Instr.lookup, run_underlying (E.und_ok _ _ ht), Go.MapKept.run_getObj_map h1, run_checkKey (E.und_ok _ _ hkt) (hK.is key), run_findKey (E.und_ok _ _ hkt) g3, g1, g2]
theorem MRel.push {κ α : Type} {K : κ → Value} {V : α → Value} {L : List MapEntry} {l : List (κ × α)} {k : κ} {v : α} {bn : Nat} (h : MRel K V L l) : MRel K V (L ++ [⟨K k, V v, bn⟩]) (l ++ [(k, v)]) := by
  unfold MRel at *
  simp [h]
/-- An update turns the map's own block, and no other. -/
theorem run_mapUpdate (E : Env P) (ht : E.und t = some (.map kt et)) (hkt : E.und kt = some dsc) (hK : Keys dsc K) (hm : Mp w dsc b K V l) (v : α) :
    ∃ w', (Instr.mapUpdate t (.map (some b)) (K key) (V v)).run P w = .ok () w' ∧ Mod [b] w w' ∧ w'.heap.size = w.heap.size ∧ Mp w' dsc b K V (mput l key v) := by
  obtain ⟨es, clk, h1, h2, h3⟩ := hm
  rcases find_map (key := key) hK h2 h3 with ⟨g1, g2, g3⟩ | ⟨j, e, u, g1, g2, g3, g4, g5, g6⟩
  · refine ⟨{ w with heap := w.heap.setIfInBounds b (.map (es.push { key := K key, val := V v, born := clk }) (clk + 1)) }, ?_, .heapSet h1, by simp, ?_⟩
    · simp [Instr.mapUpdate, run_underlying (E.und_ok _ _ ht), Go.MapKept.run_getObj_map h1, run_checkKey (E.und_ok _ _ hkt) (hK.is key), run_findKey (E.und_ok _ _ hkt) g2, run_setObj_map _ h1]
    · refine ⟨_, _, (heap_set h1).1, stamped_push h2 g3, ?_⟩
      rw [(mrel_none h3 g3).2.1 v, Array.toList_push]
      exact h3.push
  · refine ⟨{ w with heap := w.heap.setIfInBounds b (.map (es.modify j fun e => { e with key := K key, val := V v }) clk) }, ?_, .heapSet h1, by simp, ?_⟩
    · simp [Instr.mapUpdate, run_underlying (E.und_ok _ _ ht), Go.MapKept.run_getObj_map h1, run_checkKey (E.und_ok _ _ hkt) (hK.is key), run_findKey (E.und_ok _ _ hkt) g3, g4, g5, run_keyThatStays (hK.is key), run_setObj_map _ h1]
    · refine ⟨_, _, (heap_set h1).1, stamped_modify h2 _ _ (fun _ _ => rfl) (fun e' _ he' => by rw [g4] at he'; cases he'; exact g5.symm), ?_⟩
      rw [Array.toList_modify]
      exact (mrel_some hK.inj h3 g6 g5 ((stamped_iff _ _).1 h2).2.2).2.1 v
theorem run_delete (E : Env P) (ht : E.und t = some (.map kt et)) (hkt : E.und kt = some dsc) (hK : Keys dsc K) (hm : Mp w dsc b K V l) (ty : TypeId) :
    ∃ w', (Builtin.delete_ #[t, kt] ty #[.map (some b), K key]).run P w = .ok (.tuple #[]) w' ∧ Mod [b] w w' ∧ w'.heap.size = w.heap.size ∧ Mp w' dsc b K V (mdel l key) := by
  obtain ⟨es, clk, h1, h2, h3⟩ := hm
  rcases find_map (key := key) hK h2 h3 with ⟨g1, g2, g3⟩ | ⟨j, e, u, g1, g2, g3, g4, g5, g6⟩
  · refine ⟨{ w with heap := w.heap.setIfInBounds b (.map es clk) }, ?_, .heapSet h1, by simp, ?_⟩
    · simp [Builtin.delete_, run_underlying (E.und_ok _ _ ht), Go.MapKept.run_getObj_map h1, run_checkKey (E.und_ok _ _ hkt) (hK.is key), run_findKey (E.und_ok _ _ hkt) g2, run_setObj_map _ h1, Result.andThen]
    · rw [(mrel_none h3 g3).2.2]
      exact ⟨_, _, (heap_set h1).1, h2, h3⟩
  · refine ⟨{ w with heap := w.heap.setIfInBounds b (.map (es.eraseIdxIfInBounds j) clk) }, ?_, .heapSet h1, by simp, ?_⟩
    · simp [Builtin.delete_, run_underlying (E.und_ok _ _ ht), Go.MapKept.run_getObj_map h1, run_checkKey (E.und_ok _ _ hkt) (hK.is key), run_findKey (E.und_ok _ _ hkt) g3, run_setObj_map _ h1, Result.andThen]
    · refine ⟨_, _, (heap_set h1).1, stamped_erase h2 _, ?_⟩
      have hj : j < es.size := (Array.getElem?_eq_some_iff.1 g4).1
      have e1 : (es.eraseIdxIfInBounds j).toList = es.toList.eraseIdx j := by
        unfold Array.eraseIdxIfInBounds
        rw [dif_pos hj, Array.toList_eraseIdx]
      rw [e1]
      exact (mrel_some hK.inj h3 g6 g5 ((stamped_iff _ _).1 h2).2.2).2.2.2.2
/-! ### The walk over a map that no round turns -/
/-- The walk r over the map b: 'l' is what the map holds, 'r0' what has not been handed out. -/
def It {κ α : Type} (w : World) (r b : Nat) (K : κ → Value) (V : α → Value) (l r0 : List (κ × α)) : Prop :=
  ∃ es clk seen since c0, w.heap[b]? = some (.map es clk) ∧ Stamped es clk ∧ MRel K V es.toList l ∧ w.heap[r]? = some (.mapIter (some b) since seen c0) ∧ (∀ x ∈ es.toList, x.born < since) ∧ since ≤ c0 ∧ since ≤ clk ∧ MRel K V (leftOf es seen).toList r0
/-- The pair that was handed out last. -/
def Cur {κ α : Type} (w : World) (r b : Nat) (K : κ → Value) (V : α → Value) (p : κ × α) : Prop :=
  ∃ (es : Array MapEntry) (clk : Nat) (seen : Array Nat) (since : Nat) (e : MapEntry), w.heap[b]? = some (.map es clk) ∧ Stamped es clk ∧ w.heap[r]? = some (.mapIter (some b) since (seen.push e.born) clk) ∧ e ∈ es.toList ∧ e.key = K p.1 ∧ e.val = V p.2
theorem It.mod {r : Nat} {l r0 : List (κ × α)} {S : List Nat} {w' : World} (h : It w r b K V l r0) (hm : Mod S w w') (hr : r ∉ S) (hb : b ∉ S) : It w' r b K V l r0 := by
  obtain ⟨es, clk, seen, since, c0, h1, h2, h3, h4, h5⟩ := h
  exact ⟨es, clk, seen, since, c0, (hm.block b (heap_lt h1) hb).trans h1, h2, h3, (hm.block r (heap_lt h4) hr).trans h4, h5⟩
theorem Cur.mod {r : Nat} {p : κ × α} {S : List Nat} {w' : World} (h : Cur w r b K V p) (hm : Mod S w w') (hr : r ∉ S) (hb : b ∉ S) : Cur w' r b K V p := by
  obtain ⟨es, clk, seen, since, e, h1, h2, h4, h5⟩ := h
  exact ⟨es, clk, seen, since, e, (hm.block b (heap_lt h1) hb).trans h1, h2, (hm.block r (heap_lt h4) hr).trans h4, h5⟩
theorem It.lt {r : Nat} {l r0 : List (κ × α)} (h : It w r b K V l r0) : r < w.heap.size ∧ b < w.heap.size ∧ b ≠ r := by
  obtain ⟨es, clk, seen, since, c0, h1, h2, h3, h4, h5⟩ := h
  exact ⟨heap_lt h4, heap_lt h1, fun e => by rw [e, h4] at h1; cases h1⟩
theorem It.mp {r : Nat} {l r0 : List (κ × α)} (h : It w r b K V l r0) : Mp w dsc b K V l := by
  obtain ⟨es, clk, seen, since, c0, h1, h2, h3, h4, h5⟩ := h
  exact ⟨es, clk, h1, h2, h3⟩
theorem MRel.split {l : List (κ × α)} {e : MapEntry} : ∀ {L1 L2 : List MapEntry}, MRel K V (L1 ++ e :: L2) l → ∃ l1 p l2, l = l1 ++ p :: l2 ∧ e.key = K p.1 ∧ e.val = V p.2 ∧ MRel K V (L1 ++ L2) (l1 ++ l2) := by
  intro L1
  induction L1 generalizing l with
  | nil =>
    intro L2 h
    obtain ⟨p, t, rfl, h1, h2, h3⟩ := h.cons
    exact ⟨[], p, t, rfl, h1, h2, h3⟩
  | cons x L1 ih =>
    intro L2 h
    obtain ⟨p, t, rfl, h1, h2, h3⟩ := MRel.cons (L := L1 ++ e :: L2) h
    obtain ⟨l1, p', l2, rfl, g1, g2, g3⟩ := ih h3
    refine ⟨p :: l1, p', l2, rfl, g1, g2, ?_⟩
    unfold MRel at g3 ⊢
    simp only [List.cons_append, List.map_cons, h1, h2, g3]
theorem Mp.be {w' : World} (hm : Ext w w') (h : Mp w dsc b K V l) : Mp w' dsc b K V l := h.ext hm
theorem Mp.bm {w' : World} {S : List Nat} (hm : Mod S w w') (hS : b ∉ S) (h : Mp w dsc b K V l) : Mp w' dsc b K V l := h.mod hm hS
theorem It.be {w' : World} {r : Nat} {r0 : List (κ × α)} (hm : Ext w w') (h : It w r b K V l r0) : It w' r b K V l r0 := h.mod hm (by simp) (by simp)
theorem It.bm {w' : World} {r : Nat} {r0 : List (κ × α)} {S : List Nat} (hm : Mod S w w') (hr : r ∉ S) (hb : b ∉ S) (h : It w r b K V l r0) : It w' r b K V l r0 := h.mod hm hr hb
theorem Cur.be {w' : World} {r : Nat} {p : κ × α} (hm : Ext w w') (h : Cur w r b K V p) : Cur w' r b K V p := h.mod hm (by simp) (by simp)
theorem Cur.bm {w' : World} {r : Nat} {p : κ × α} {S : List Nat} (hm : Mod S w w') (hr : r ∉ S) (hb : b ∉ S) (h : Cur w r b K V p) : Cur w' r b K V p := h.mod hm hr hb
theorem TL_lookup_ok (E : Env P) (u0 : α) (hx : ev st X = some (.map (some b)) := by exact rfl) (ht : E.und t = some (.map kt et) := by exact rfl) (hkt : E.und kt = some dsc := by exact rfl) (he : E.inf et = some (s, by_, z) := by exact rfl) (hd : Nat.blt d n = true := by exact rfl) (hpl : q.plain = true := by exact rfl)
    (hm : Mp w dsc b K V l := by focus ((repeat (first | assumption | (apply It.mp; assumption) | (apply Mp.be; assumption) | (apply Mp.bm; assumption; focus (first | assumption | (simp only [List.mem_cons, List.not_mem_nil, or_false]; omega))))); done)) (hK : Keys dsc K := by first | exact keys_tx | exact keys_str | exact keys_int _) (hy : ev st Y = some (K key) := by exact rfl) (hz : z = V u0 := by exact rfl)
    (hk : TL q P fn R M n ((d, .tuple #[V ((mget l key).getD u0), .bool (mget l key).isSome]) :: st) ops rest k w) : TL q P fn R M n st ops (⟨some d, .lookup t X Y true, ty, ps, af, none⟩ :: rest) k w :=
  TL_val hd (fun w' hw ρ h => by
    have h1 := run_lookup (key := key) E ht hkt he hK (hm.ext (hw.ext hpl)) true
    have h2 : (mget l key).elim z V = V ((mget l key).getD u0) := by cases mget l key <;> simp [hz]
    simp only [if_true, h2] at h1
    simp [execOp, h _ _ hx, h _ _ hy, h1]) hk
theorem TL_mapUpdate (E : Env P) (v : α) (hx : ev st X = some (.map (some b)) := by exact rfl) (ht : E.und t = some (.map kt et) := by exact rfl) (hkt : E.und kt = some dsc := by exact rfl)
    (hm : Mp w dsc b K V l := by focus ((repeat (first | assumption | (apply It.mp; assumption) | (apply Mp.be; assumption) | (apply Mp.bm; assumption; focus (first | assumption | (simp only [List.mem_cons, List.not_mem_nil, or_false]; omega))))); done)) (hK : Keys dsc K := by first | exact keys_tx | exact keys_str | exact keys_int _) (hy : ev st Y = some (K key) := by exact rfl) (hv : ev st Z = some (V v) := by exact rfl)
    (hf : Fl q (rest.length + 1) := by first | exact trivial | exact rfl) (hq : ∀ w', Mod [b] w w' → w'.heap.size = w.heap.size → Kp q w' := by exact fun _ _ _ => trivial)
    (hk : ∀ w', Mod [b] w w' → w'.heap.size = w.heap.size → Mp w' dsc b K V (mput l key v) → TL q P fn R M n st ops rest k w') : TL q P fn R M n st ops (⟨none, .mapUpdate t X Y Z, ty, ps, af, none⟩ :: rest) k w := by
  obtain ⟨w', h1, h2, h3, h4⟩ := run_mapUpdate (key := key) E ht hkt hK hm v
  exact TL_do (w' := w') (fun ρ h => by simp [execOp, h _ _ hx, h _ _ hy, h _ _ hv, h1]) hf (hq _ h2 h3) (hk _ h2 h3 h4)
theorem TL_delete (E : Env P) (hx : ev st X = some (.map (some b)) := by exact rfl) (ht : E.und t = some (.map kt et) := by exact rfl) (hkt : E.und kt = some dsc := by exact rfl)
    (hm : Mp w dsc b K V l := by focus ((repeat (first | assumption | (apply It.mp; assumption) | (apply Mp.be; assumption) | (apply Mp.bm; assumption; focus (first | assumption | (simp only [List.mem_cons, List.not_mem_nil, or_false]; omega))))); done)) (hK : Keys dsc K := by first | exact keys_tx | exact keys_str | exact keys_int _) (hy : ev st Y = some (K key) := by exact rfl)
    (hf : Fl q (rest.length + 1) := by first | exact trivial | exact rfl) (hq : ∀ w', Mod [b] w w' → w'.heap.size = w.heap.size → Kp q w' := by exact fun _ _ _ => trivial)
    (hk : ∀ w', Mod [b] w w' → w'.heap.size = w.heap.size → Mp w' dsc b K V (mdel l key) → TL q P fn R M n st ops rest k w') : TL q P fn R M n st ops (⟨none, .call { callee := .builtin .delete, args := #[X, Y], argTypes := #[t, kt] }, ty, ps, af, none⟩ :: rest) k w := by
  obtain ⟨w', h1, h2, h3, h4⟩ := run_delete (key := key) E ht hkt hK hm ty
  exact TL_do_v (w' := w') (v := .tuple #[]) (fun ρ h => by simp [execOp, resolve, invoke, builtin, h _ _ hx, h _ _ hy, h1]) hf (hq _ h2 h3) (hk _ h2 h3 h4)
end
end Go.Proofs.Eng

/- Texts as lists of bytes: the byte at a place; which of two is less. -/
namespace Go.Proofs.Eng
open Go.RowKit
set_option linter.unusedSimpArgs false
set_option linter.unusedVariables false
set_option linter.unusedSectionVars false
/-- A list of texts as cells. -/
def sv (l : List (List UInt8)) : List Value := l.map fun t => .string (ofL t)
@[simp] theorem sv_length (l : List (List UInt8)) : (sv l).length = l.length := by simp [sv]
section
variable {q : Qm} {P : Program} {fn : Func} {R : Ending → World → Prop} {M : Md} {n : Nat} {st : Slots} {k : List Item} {w : World} {ops rest : List Oper}
  {d : Nat} {ty : TypeId} {ps : String} {af : Array Edge} {X Y Z : Operand} {t t2 : TypeId} {S S2 : List UInt8}
/-- Two yes-or-noes. -/
theorem TL_beq (E : Env P) {a b : Bool} (hx : ev st X = some (.bool a) := by exact rfl) (hy : ev st Y = some (.bool b) := by exact rfl) (ht : E.und t = some .bool := by exact rfl) (hd : Nat.blt d n = true := by exact rfl)
    (hk : TL q P fn R M n ((d, .bool (a == b)) :: st) ops rest k w) : TL q P fn R M n st ops (⟨some d, .binOp .eql t X Y t2, ty, ps, af, none⟩ :: rest) k w :=
  TL_val_w hd (fun w ρ h => by simp [execOp, h _ _ hx, h _ _ hy, eqGuard, binOp, run_equal_bool _ _ _ _ (E.und_ok _ _ ht)]) hk
end
end Go.Proofs.Eng

/- A struct that is laid into its place; a struct that is handed back out of its place. -/
namespace Go.Proofs.Eng
open Go.RowKit
set_option linter.unusedSimpArgs false
set_option linter.unusedVariables false
set_option linter.unusedSectionVars false
section
variable {q : Qm} {P : Program} {fn : Func} {R : Ending → World → Prop} {Φ : Value → World → Prop} {M : Md} {dd : Bool} {n : Nat} {st : Slots} {k : List Item} {w : World} {ops rest : List Oper}
  {d : Nat} {v : Value} {ty : TypeId} {ps : String} {af : Array Edge} {X V : Operand} {t e : TypeId} {by_ s m c base : Nat} {z : Value}
theorem run_storeAll {b o : Nat} {bt : TypeId} : ∀ (vs cs : List Value) (i : Nat) (w : World), Blk w b bt cs → o + i + vs.length ≤ cs.length → (∀ u ∈ vs, u.oneCell' = true) →
    ∃ w', (storeCells ⟨b, o, none⟩ vs i).run P w = .ok () w' ∧ Mod [b] w w' ∧ w'.heap.size = w.heap.size ∧ Blk w' b bt (setAll cs (o + i) vs)
  | [], cs, i, w, hb, _, _ => ⟨w, rfl, Mod.refl _ _, rfl, hb⟩
  | u :: vs, cs, i, w, hb, hl, h1 => by
    have hi : o + i < cs.length := by simp at hl; omega
    have hadd : (⟨b, o, none⟩ : Addr).add i = ⟨b, o + i, none⟩ := by unfold Addr.add; split <;> simp_all
    have hc : w.cell? ⟨b, o + i, none⟩ = some (cs[o + i]) := by rw [hb.cell]; exact List.getElem?_eq_getElem hi
    obtain ⟨w', g1, g2, g3, g4⟩ := run_storeAll (o := o) vs (cs.set (o + i) u) (i + 1) (w.setCell ⟨b, o + i, none⟩ u) (hb.set _ _) (by simp at hl ⊢; omega) (fun x hx => h1 x (by simp [hx]))
    refine ⟨w', ?_, (Mod.setCell w ⟨b, o + i, none⟩ u).trans g2, by rw [g3]; simp [World.setCell], ?_⟩
    · simp [storeCells, hadd, run_store _ _ _ _ _ (h1 u (by simp)), hc, hb.thawed, g1]
    · exact g4
theorem TL_storea {b o : Nat} {bt : TypeId} {cs vs : List Value} (E : Env P) (hx : ev st X = some (.pointer (some ⟨b, o, none⟩)) := by exact rfl) (hv : ev st V = some (.agg vs.toArray) := by exact rfl) (h1 : vs.all (fun u => u.oneCell') = true := by exact rfl) (hi : E.inf t = some (vs.length, by_, z) := by exact rfl) (hb : Blk w b bt cs := by focus ((repeat (first | assumption | (apply Own.rd; assumption) | (apply Rd.blk; assumption; exact rfl) | (apply Blk.be; assumption) | (apply Rd.be; assumption) | (apply Own.be; assumption) | (apply Blk.bm; assumption; focus (first | assumption | (simp only [List.mem_cons, List.not_mem_nil, or_false]; omega))) | (apply Rd.bm; assumption; focus assumption) | (apply Own.bm; assumption; focus assumption))); done)) (ho : o + vs.length ≤ cs.length := by first | exact Nat.le_refl _ | decide | (simp; done) | (simp; omega))
    (hf : Fl q (rest.length + 1) := by first | exact trivial | exact rfl) (hq : ∀ w', Mod [b] w w' → w'.heap.size = w.heap.size → Kp q w' := by exact fun _ _ _ => trivial)
    (hk : ∀ w', Mod [b] w w' → w'.heap.size = w.heap.size → Blk w' b bt (setAll cs o vs) → TL q P fn R M n st ops rest k w') :
    TL q P fn R M n st ops (⟨none, .store t X V, ty, ps, af, none⟩ :: rest) k w := by
  obtain ⟨w', g1, g2, g3, g4⟩ := run_storeAll (P := P) vs cs 0 w hb (by omega) (fun u hu => List.all_eq_true.1 h1 u hu)
  refine TL_do (w' := w') (fun ρ h => ?_) hf (hq _ g2 g3) (hk _ g2 g3 g4)
  simp [execOp, Instr.storeAt, h _ _ hx, h _ _ hv, Instr.sureAddr, storeVar, Value.cells, run_sizeOf' (E.inf_ok _ _ _ _ hi), g1]
end
end Go.Proofs.Eng

/- A slice that is written out, its elements structs. -/
namespace Go.Proofs.Eng
open Go.RowKit
set_option linter.unusedSimpArgs false
set_option linter.unusedVariables false
set_option linter.unusedSectionVars false
section
variable {q : Qm} {P : Program} {fn : Func} {R : Ending → World → Prop} {M : Md} {n : Nat} {st : Slots} {k : List Item} {w : World} {ops rest : List Oper}
  {d : Nat} {ty : TypeId} {ps : String} {af : Array Edge} {t e : TypeId} {by_ s : Nat} {z : Value}
def elems (e s len : Nat) : List (Nat × TypeId) := (List.range len).map fun i => (i * s, e)
def zeros (z : List Value) (s len : Nat) : List Value := (List.range (len * s)).map fun i => z[i % s]!
theorem TL_buildSliceA {len : Nat} {parts : Array (Nat × Operand)} {cs : List Value} (E : Env P) (ht : E.und t = some (.slice e) := by exact rfl) (he : E.inf e = some (s, by_, z) := by exact rfl) (hz : z.cells.size = s := by exact rfl)
    (hb : bldF E.inf st (elems e s len) parts.toList (zeros z.cells.toList s len) = some cs := by exact rfl) (hs : Nat.blt 0 s = true := by exact rfl) (hl : Nat.blt 0 len = true := by exact rfl) (hm : Nat.ble (len * s) 16777216 = true := by exact rfl) (hd : Nat.blt d n = true := by exact rfl)
    (hf : Fl q (rest.length + 1) := by first | exact trivial | exact rfl) (hq : ∀ w', Ext w w' → Kp q w' := by exact fun _ _ => trivial)
    (hk : ∀ b w', Ext w w' → w.heap.size ≤ b → b < w'.heap.size → Blk w' b e cs → TL q P fn R M n ((d, .slice (some ⟨b, 0, none⟩) len len) :: st) ops rest k w') :
    TL q P fn R M n st ops (⟨some d, .buildSlice t len parts, ty, ps, af, none⟩ :: rest) k w :=
  TL_new (w' := w.alloc (.cells cs.toArray e)) hd (fun ρ h => by
    have hm' : ¬ len * s > 2 ^ 24 := by have := Nat.le_of_ble_eq_true hm; omega
    have hl' : 0 < len := Nat.le_of_ble_eq_true hl
    have hs' : 0 < s := Nat.le_of_ble_eq_true hs
    have h0 : ¬ len * s = 0 := by have := Nat.mul_pos hl' hs'; omega
    have hp : (parts.map fun p => (p.1, ρ p.2)).toList = parts.toList.map fun p => (p.1, ρ p.2) := by simp
    have hplace : ∀ (i off : Nat) (ft : TypeId) (s' b : Nat) (z : Value), (elems e s len)[i]? = some (off, ft) → E.inf ft = some (s', b, z) → (fun i => some (i * s, s)) i = some (off, s') := by
      intro i off ft s' b z' g1 g2
      unfold elems at g1
      simp only [List.getElem?_map, Option.map_eq_some_iff] at g1
      obtain ⟨x, g3, g4⟩ := g1
      cases g4
      rw [he] at g2
      cases g2
      have : x = i := by
        have := (List.getElem?_eq_some_iff.1 g3)
        obtain ⟨_, g5⟩ := this
        simpa using g5.symm
      rw [this]
    have hfill := fill_bld (E := E) (fl := elems e s len) h hplace parts.toList (zeros z.cells.toList s len) cs hb
    have hzz : (zeros z.cells.toList s len).toArray = (Array.range (len * s)).map (z.cells[· % z.cells.size]!) := by
      unfold zeros
      apply Array.ext'
      simp [hz, Array.toList_range]
      intro a _
      rw [getElem!_def]
      cases z.cells[a % s]? <;> rfl
    rw [hzz] at hfill
    simp only [execOp, Instr.buildSlice, Sem.run_bind, run_underlying (E.und_ok _ _ ht), Result.andThen_ok, run_sizeOf' (E.inf_ok _ _ _ _ he), hm', if_false, h0, run_zero' (E.inf_ok _ _ _ _ he), Sem.run_pure, Sem.run_ite]
    simp only [hp, hfill, newRow, Sem.run_bind, run_newObj, Sem.run_pure, Result.andThen_ok]
    rfl) hf (hq _ (Ext.alloc _ _))
    (hk w.heap.size _ (Ext.alloc _ _) (Nat.le_refl _) (by simp) (by simpa using Blk.new w e cs.toArray))
end
end Go.Proofs.Eng

/- copy into an own row. -/
namespace Go.Proofs.Eng
open Go.RowKit
set_option linter.unusedSimpArgs false
set_option linter.unusedVariables false
set_option linter.unusedSectionVars false
theorem setAll_eq : ∀ (vs cs : List Value) (o : Nat), o + vs.length ≤ cs.length → setAll cs o vs = cs.take o ++ vs ++ cs.drop (o + vs.length)
  | [], cs, o, _ => by simp [setAll]
  | v :: vs, cs, o, h => by
    simp only [List.length_cons] at h
    simp only [setAll]
    rw [setAll_eq vs _ _ (by simp; omega)]
    have h1 : o < cs.length := by omega
    have e1 : (cs.set o v).take (o + 1) = cs.take o ++ [v] := by
      rw [List.take_add_one, List.getElem?_set_self h1, List.take_set_of_le (Nat.le_refl _)]
      simp
    have e2 : (cs.set o v).drop (o + 1 + vs.length) = cs.drop (o + (v :: vs).length) := by
      rw [List.drop_set_of_lt (by omega)]
      congr 1
      simp; omega
    rw [e1, e2]
    simp
section
variable {q : Qm} {P : Program} {fn : Func} {R : Ending → World → Prop} {M : Md} {n : Nat} {st : Slots} {k : List Item} {w : World} {ops rest : List Oper}
  {d : Nat} {ty : TypeId} {ps : String} {af : Array Edge} {X Y : Operand} {t e : TypeId} {by_ base : Nat} {z : Value} {A B : Option Addr}
theorem Own.shrink {w : World} {base s : Nat} {e : TypeId} {A : Option Addr} {n c n' : Nat} {xs : List Value} (h : Own w base e s A n c xs) (hn : n' ≤ n) : Own w base e s A n' c (xs.take (n' * s)) := by
  obtain ⟨hl, ⟨hv, h0⟩ | ⟨g, cap, cur, hv, hg, hh, hnc, hcm, hcs, htk⟩⟩ := h
  · cases hv
    have : n' = 0 := by omega
    subst this
    exact ⟨by simp, .inl ⟨rfl, rfl⟩⟩
  · cases hv
    have h1 : n' * s ≤ n * s := Nat.mul_le_mul_right _ hn
    refine ⟨by rw [List.length_take, hl]; omega, .inr ⟨g, _, cur, rfl, hg, hh, by omega, hcm, hcs, ?_⟩⟩
    rw [← htk, List.take_take, Nat.min_eq_left h1]
end
section
variable {w0 : World} {D : List Nat} {plan : List (Nat × Bool)} {P : Program} {fn : Func} {R : Ending → World → Prop} {M : Md} {n : Nat} {st : Slots} {k : List Item} {w : World} {ops rest : List Oper}
  {d : Nat} {ty : TypeId} {ps : String} {af : Array Edge} {X Y : Operand} {t e : TypeId} {by_ base : Nat} {z : Value} {A B : Option Addr} {zz : Option Nat} {bb : Array Bool} {pp : Nat} {fr : Bool} {fuel : Nat}
end
end Go.Proofs.Eng

/- Maps in a region that draws its order, move by move. -/
namespace Go.Proofs.Eng
open Go.RowKit
set_option linter.unusedSimpArgs false
set_option linter.unusedVariables false
set_option linter.unusedSectionVars false
section
variable {κ α : Type} [DecidableEq κ] {K : κ → Value} {V : α → Value} {l : List (κ × α)} {key : κ} {w0 : World} {D : List Nat} {zz : Option Nat} {bb : Array Bool} {pp : Nat} {fr : Bool} {fuel : Nat}
  {P : Program} {fn : Func} {R : Ending → World → Prop} {M : Md} {n : Nat} {st : Slots} {k : List Item} {w : World} {ops rest : List Oper}
  {d b s by_ : Nat} {ty : TypeId} {ps : String} {af : Array Edge} {X Y : Operand} {t kt et : TypeId} {z : Value} {dsc : TypeDesc}
end
section
variable {q : Qm} {P : Program} {fn : Func} {R : Ending → World → Prop} {M : Md} {n : Nat} {st : Slots} {k : List Item} {w : World} {ops rest : List Oper}
  {d : Nat} {ty : TypeId} {ps : String} {af : Array Edge} {X Y : Operand} {t t2 : TypeId} {K : IntKind} {x y : Int} {S S2 : List UInt8}
end
/-- Where two ways meet: what holds behind them is said once. -/
theorem T_join {ι : Type} {P : Program} {fn : Func} {R : Ending → World → Prop} {M : Md} {n : Nat} {st : Slots} {k : List Item} {w : World} {x : Code} (st' : ι → Slots) (J : ι → World → Prop)
    (hx : ∀ k', (∀ i w', J i w' → T P fn R M n (st' i) k' w') → T P fn R M n st (.code x :: k') w) (hk : ∀ i w', J i w' → T P fn R M n (st' i) k w') : T P fn R M n st (.code x :: k) w := hx k hk
theorem Ext.un {D : List Nat} {a b : World} (h : Ext a b) : Mod D a b := h.mono (fun x hx => by cases hx)
end Go.Proofs.Eng

/- Two structs that are compared. -/
namespace Go.Proofs.Eng
open Go.RowKit
set_option linter.unusedSimpArgs false
set_option linter.unusedVariables false
set_option linter.unusedSectionVars false
section
variable {q : Qm} {P : Program} {fn : Func} {R : Ending → World → Prop} {M : Md} {n : Nat} {st : Slots} {k : List Item} {w : World} {ops rest : List Oper}
  {d : Nat} {ty : TypeId} {ps : String} {af : Array Edge} {X Y : Operand} {t t2 : TypeId} {xs ys : Array Value} {r : Bool}
/-- A struct is laid into an element of an own row. -/
theorem TL_storea_own {A : Option Addr} {j m c s base by_ : Nat} {e : TypeId} {xs vs : List Value} {z : Value} {V : Operand} (E : Env P) (ho : Own w base e s A m c xs) (hj : j + vs.length ≤ xs.length) (h0 : 0 < vs.length := by exact Nat.succ_pos _) (hx : ev st X = some (.pointer (some (adr A j))) := by exact rfl) (hv : ev st V = some (.agg vs.toArray) := by exact rfl) (h1 : vs.all (fun u => u.oneCell') = true := by exact rfl) (hi : E.inf t = some (vs.length, by_, z) := by exact rfl)
    (hf : Fl q (rest.length + 1) := by first | exact trivial | exact rfl) (hq : ∀ w', Mod (blkL A) w w' → w'.heap.size = w.heap.size → Kp q w' := by exact fun _ _ _ => trivial)
    (hk : ∀ w', Mod (blkL A) w w' → w'.heap.size = w.heap.size → Own w' base e s A m c (setAll xs j vs) → TL q P fn R M n st ops rest k w') :
    TL q P fn R M n st ops (⟨none, .store t X V, ty, ps, af, none⟩ :: rest) k w := by
  obtain ⟨hl, h0' | ⟨g, cap, cur, hs, hg, hh, hnc, hcm, hcs, htk⟩⟩ := id ho
  · obtain ⟨_, hm⟩ := h0'
    subst hm
    rw [hl, Nat.zero_mul] at hj
    omega
  · cases hs
    have hb : Blk w g e cur.toList := by unfold Blk; simpa using hh
    have hcl : xs.length ≤ cur.toList.length := by rw [← htk]; simp; omega
    have hadr : adr (some ⟨g, 0, none⟩) j = ⟨g, j, none⟩ := by simp [adr]
    rw [hadr] at hx
    refine TL_storea E hx hv h1 hi hb (by omega) hf hq fun w' m1 z1 k1 => hk w' m1 z1 ?_
    refine ⟨by rw [setAll_length]; exact hl, .inr ⟨g, c, (setAll cur.toList j vs).toArray, rfl, hg, k1, hnc, hcm, by simp [setAll_length]; simpa using hcs, ?_⟩⟩
    simp only [List.toList_toArray]
    rw [setAll_eq _ _ _ hj, setAll_eq _ _ _ (by omega), ← htk]
    rw [← htk] at hj
    simp only [List.length_take] at hj
    apply List.ext_getElem?
    intro y
    simp only [List.getElem?_take, List.getElem?_append, List.length_append, List.length_take, List.getElem?_drop]
    grind
end
end Go.Proofs.Eng

/- A stretch of an own row: what is cut off its front, what is laid behind it. -/
namespace Go.Proofs.Eng
open Go.RowKit
set_option linter.unusedSimpArgs false
set_option linter.unusedVariables false
set_option linter.unusedSectionVars false
def Seg (w : World) (base : Nat) (e : TypeId) (s : Nat) (A : Option Addr) (n c : Nat) (xs : List Value) : Prop :=
  xs.length = n * s ∧ ((A = none ∧ n = 0 ∧ c = 0) ∨ ∃ g o cur, A = some ⟨g, o, none⟩ ∧ base ≤ g ∧ w.heap[g]? = some (.cells cur e (0, 0)) ∧ n ≤ c ∧ c ≤ maxLen ∧ o + c * s ≤ cur.size ∧ (cur.toList.drop o).take (n * s) = xs)
section
variable {w w' : World} {base s n c : Nat} {e : TypeId} {A : Option Addr} {xs : List Value}
theorem Seg.nil (w : World) (base : Nat) (e : TypeId) (s : Nat) : Seg w base e s none 0 0 [] := ⟨by simp, .inl ⟨rfl, rfl, rfl⟩⟩
theorem Own.seg (h : Own w base e s A n c xs) : Seg w base e s A n c xs := by
  obtain ⟨hl, ⟨hv, h0⟩ | ⟨g, cap, cur, hv, hg, hh, hnc, hcm, hcs, htk⟩⟩ := h
  · cases hv
    exact ⟨hl, .inl ⟨rfl, rfl, rfl⟩⟩
  · cases hv
    exact ⟨hl, .inr ⟨g, 0, cur, rfl, hg, hh, hnc, hcm, by omega, by simpa using htk⟩⟩
theorem Seg.len (h : Seg w base e s A n c xs) : xs.length = n * s := h.1
theorem Seg.cap (h : Seg w base e s A n c xs) : n ≤ c ∧ c ≤ maxLen := by
  obtain ⟨_, ⟨_, h0, h1⟩ | ⟨g, o, cur, _, _, _, hnc, hcm, _⟩⟩ := h
  · subst h0 h1; exact ⟨Nat.le_refl _, by decide⟩
  · exact ⟨hnc, hcm⟩
theorem Seg.hi (h : Seg w base e s A n c xs) : Hi A base := fun ad ea => by
  obtain ⟨_, ⟨h0, _⟩ | ⟨g, o, cur, h0, hg, _⟩⟩ := h
  · rw [h0] at ea; cases ea
  · rw [h0] at ea; cases ea; exact hg
theorem Seg.lo (h : Seg w base e s A n c xs) : Lo A w.heap.size := fun ad ea => by
  obtain ⟨_, ⟨h0, _⟩ | ⟨g, o, cur, h0, hg, hh, _⟩⟩ := h
  · rw [h0] at ea; cases ea
  · rw [h0] at ea; cases ea; exact heap_lt hh
theorem Seg.mod {S : List Nat} (h : Seg w base e s A n c xs) (hm : Mod S w w') (hS : Off A S) : Seg w' base e s A n c xs := by
  obtain ⟨hl, h | ⟨g, o, cur, rfl, hg, hh, r⟩⟩ := h
  · exact ⟨hl, .inl h⟩
  · exact ⟨hl, .inr ⟨g, o, cur, rfl, hg, by rw [hm.block g (heap_lt hh) (hS _ rfl)]; exact hh, r⟩⟩
theorem Seg.ext (h : Seg w base e s A n c xs) (hm : Ext w w') : Seg w' base e s A n c xs := h.mod hm (.nil A)
theorem Seg.be (hm : Ext w w') (h : Seg w base e s A n c xs) : Seg w' base e s A n c xs := h.ext hm
theorem Seg.weaken {base' : Nat} (h : Seg w base e s A n c xs) (hb : base' ≤ base) : Seg w base' e s A n c xs := by
  obtain ⟨hl, h | ⟨g, o, cur, h1, hg, r⟩⟩ := h
  · exact ⟨hl, .inl h⟩
  · exact ⟨hl, .inr ⟨g, o, cur, h1, by omega, r⟩⟩
theorem Seg.rd (h : Seg w base e s A n c xs) : Rd w A n s xs := by
  obtain ⟨hl, ⟨_, h0, _⟩ | ⟨g, o, cur, rfl, hg, hh, hnc, hcm, hcs, htk⟩⟩ := h
  · exact ⟨hl, fun hn => by omega⟩
  · refine ⟨hl, fun hn => ⟨g, o, rfl, heap_lt hh, fun j u hu => ?_⟩⟩
    rw [← htk] at hu
    rw [List.getElem?_take] at hu
    split at hu
    · rw [List.getElem?_drop] at hu
      simp only [World.cell?, hh]
      simpa using hu
    · cases hu
theorem Seg.cut {l : Nat} (h : Seg w base e s A n c xs) (hl : l ≤ n) : Seg w base e s (cutA A c l s) (n - l) (c - l) (xs.drop (l * s)) := by
  have hlen : (xs.drop (l * s)).length = (n - l) * s := by rw [List.length_drop, h.1, Nat.sub_mul]
  obtain ⟨hx, ⟨rfl, h0, h1⟩ | ⟨g, o, cur, rfl, hg, hh, hnc, hcm, hcs, htk⟩⟩ := h
  · refine ⟨hlen, .inl ⟨?_, by omega, by omega⟩⟩
    unfold cutA; split <;> rfl
  · refine ⟨hlen, .inr ?_⟩
    by_cases hcl : c = l
    · refine ⟨g, o, cur, by simp [cutA, hcl], hg, hh, by omega, by omega, by simp [hcl]; omega, ?_⟩
      have : n - l = 0 := by omega
      rw [this, Nat.zero_mul, List.take_zero, List.drop_of_length_le]
      rw [hx]
      exact Nat.mul_le_mul_right _ (by omega)
    · refine ⟨g, o + l * s, cur, ?_, hg, hh, by omega, by omega, ?_, ?_⟩
      · simp only [cutA, hcl, if_false, Option.map_some, Addr.add]
        by_cases h0 : l * s = 0 <;> simp [h0]
      · rw [Nat.add_assoc, ← Nat.add_mul, show l + (c - l) = c by omega]
        exact hcs
      · rw [← htk, List.drop_take, List.drop_drop]
        congr 1
        rw [Nat.sub_mul]
end
section
variable {q : Qm} {P : Program} {fn : Func} {R : Ending → World → Prop} {M : Md} {n : Nat} {st : Slots} {k : List Item} {w : World} {ops rest : List Oper}
  {d : Nat} {ty : TypeId} {ps : String} {af : Array Edge} {X Y : Operand} {t e : TypeId} {by_ s base m c m2 c2 : Nat} {z : Value} {A A2 : Option Addr} {xs ys : List Value}
theorem run_append_seg (ht : P.underlying t = some (.slice e)) (hi : ∃ i, P.info? e = some i ∧ i.size = s ∧ i.bytes = by_ ∧ i.zero = some z) (hzs : z.cells.size = s) (hsz : 0 < s)
    (ho : Seg w base e s A m c xs) (hr : Rd w A2 m2 s ys) (h1 : ∀ u ∈ ys, u.oneCell' = true) (hb1 : m + m2 ≤ maxLen) (hb2 : (m + m2) * by_ ≤ 140737488355328) (hb : base ≤ w.heap.size) (tt : TypeId) :
    ∃ A' c' w', (Builtin.append_ #[t, t] tt #[.slice A m c, .slice A2 m2 c2]).run P w = .ok (.slice A' (m + m2) c') w' ∧ Seg w' base e s A' (m + m2) c' (xs ++ ys) ∧ Mod (blkL A) w w' ∧ Near A A' w := by
  obtain ⟨hxl, ⟨rfl, h0, h1'⟩ | ⟨g, o, cur, rfl, hg, hh, hnc, hcm, hcs, htk⟩⟩ := id ho
  · subst h0 h1'
    have hx : xs = [] := List.eq_nil_of_length_eq_zero (by simpa using hxl)
    subst hx
    obtain ⟨A', c', w', g1, g2, g3, g4⟩ := run_append_any (c2 := c2) ht hi hzs hsz (Own.nil w base e s) hr h1 hb1 hb2 hb tt
    exact ⟨A', c', w', g1, g2.seg, g3, g4⟩
  · obtain ⟨i, i1, i2, i3, i4⟩ := id hi
    by_cases hm0 : m2 = 0
    · subst hm0
      have hy : ys = [] := List.eq_nil_of_length_eq_zero (by simpa using hr.1)
      subst hy
      refine ⟨some ⟨g, o, none⟩, c, w, ?_, by simpa using ho, Mod.refl _ _, fun ad e => .inl e⟩
      have hl : ∀ (x : Addr), (loadCells x 0).run P w = .ok #[] w := fun x => by simpa using run_loadCells_list (P := P) w x [] (by simp)
      cases A2 <;> simp [Builtin.append_, run_underlying ht, sizeOf, typeInfo, i1, Builtin.lenOf, Builtin.firstCells, hnc, storeCells, hl]
    · obtain ⟨b2, o2, rfl, hb2', hc2⟩ := hr.2 (by omega)
      have hsrc : ∀ j u, ys[j]? = some u → w.cell? ((⟨b2, o2, none⟩ : Addr).add j) = some u := fun j u hu => by
        rw [← hc2 j u hu]
        congr 1
        unfold Addr.add
        by_cases h : j = 0 <;> simp [h]
      by_cases hroom : m + m2 ≤ c
      · have hk : Blk w g e cur.toList := by unfold Blk; simpa using hh
        have hfit : o + m * s + 0 + ys.length ≤ cur.toList.length := by
          rw [hr.1]
          have h9 : (m + m2) * s ≤ c * s := Nat.mul_le_mul_right _ hroom
          rw [Nat.add_mul] at h9
          have : cur.toList.length = cur.size := Array.length_toList
          omega
        obtain ⟨w', g1, g2, g3, g4⟩ := run_storeAll (P := P) (b := g) (o := o + m * s) ys cur.toList 0 w hk hfit h1
        rw [Nat.add_zero] at g4 hfit
        have hfc := run_firstCells_some (P := P) w i.size m2 ⟨b2, o2, none⟩ m2 c2 ys (by rw [i2]; exact hr.1) hsrc
        refine ⟨some ⟨g, o, none⟩, c, w', ?_, ⟨by rw [List.length_append, hxl, hr.1, Nat.add_mul], .inr ⟨g, o, (setAll cur.toList (o + m * s) ys).toArray, rfl, hg, g4, hroom, hcm, by simp [setAll_length]; exact hcs, ?_⟩⟩, g2, fun ad ea => .inl ea⟩
        · rw [i2] at hfc
          simp [Builtin.append_, run_underlying ht, sizeOf, typeInfo, i1, i2, Builtin.lenOf, hroom, hfc, Addr.add_lit, g1]
        · simp only [List.toList_toArray]
          rw [setAll_eq _ _ _ hfit, ← htk]
          have hl1 : (cur.toList.take (o + m * s)).length = o + m * s := by rw [List.length_take]; omega
          have hys := hr.1
          have hcl : cur.toList.length = cur.size := Array.length_toList
          have h8 : (m + m2) * s = m * s + m2 * s := Nat.add_mul _ _ _
          rw [h8]
          apply List.ext_getElem?
          intro j
          simp only [List.getElem?_take, List.getElem?_append, List.getElem?_drop, List.length_append, List.length_take, List.length_drop, hys]
          grind
      · have holds : ∀ j u, xs[j]? = some u → w.cell? ((⟨g, o, none⟩ : Addr).add j) = some u := fun j u hu => by
          have h9 := ho.rd.cell hu
          rw [← h9]
          congr 1
          unfold Addr.add adr
          by_cases h : j = 0 <;> simp [h]
        obtain ⟨v', w', g1, g2, g3⟩ := run_append_arg_grows (P := P) w t tt e i z s by_ ht i1 i4 i2 i3 hzs hsz ⟨g, o, none⟩ m c xs hxl holds ⟨b2, o2, none⟩ m2 c2 ys hr.1 hsrc (by omega) hb1 hb2
        obtain ⟨A', c', rfl, ho'⟩ := own_form g2
        have hext : Ext w w' := by have := Mod.of_grown g3; simpa using this
        refine ⟨A', c', w', g1, (Own.seg ho').weaken hb, hext.mono (fun x hx => by cases hx), fun ad ea => .inr (ho'.hi ad ea)⟩
theorem TL_append_g (E : Env P) (ho : Seg w base e s A m c xs) (hr : Rd w A2 m2 s ys) (h1 : ∀ u ∈ ys, u.oneCell' = true) (hx : ev st X = some (.slice A m c) := by exact rfl) (hy : ev st Y = some (.slice A2 m2 c2) := by exact rfl) (ht : E.und t = some (.slice e) := by exact rfl) (he : E.inf e = some (s, by_, z) := by exact rfl) (hzs : z.cells.size = s := by exact rfl) (hsz : Nat.blt 0 s = true := by exact rfl) (hd : Nat.blt d n = true := by exact rfl)
    (hb1 : m + m2 ≤ 140737488355328 := by omega) (hb2 : (m + m2) * by_ ≤ 140737488355328 := by omega) (hb : base ≤ w.heap.size := by first | assumption | omega)
    (hf : Fl q (rest.length + 1) := by first | exact trivial | exact rfl) (hq : ∀ w', Mod (blkL A) w w' → Kp q w' := by exact fun _ _ => trivial)
    (hk : ∀ A' c' w', Seg w' base e s A' (m + m2) c' (xs ++ ys) → Mod (blkL A) w w' → Near A A' w → TL q P fn R M n ((d, .slice A' (m + m2) c') :: st) ops rest k w') :
    TL q P fn R M n st ops (⟨some d, .call { callee := .builtin .append, args := #[X, Y], argTypes := #[t, t] }, ty, ps, af, none⟩ :: rest) k w := by
  obtain ⟨A', c', w', hrun, h2, h3, h4⟩ := run_append_seg (E.und_ok _ _ ht) (E.inf_ok _ _ _ _ he) hzs (by simpa [Nat.blt_eq] using hsz) ho hr h1 (by unfold maxLen; omega) hb2 hb (c2 := c2) ty
  refine TL_new (w' := w') hd (fun ρ h => ?_) hf (hq _ h3) (hk A' c' w' h2 h3 h4)
  simp only [execOp, resolve, invoke, builtin, Sem.run_bind, Sem.run_pure, Result.andThen_ok, List.map_toArray, List.map_cons, List.map_nil, h _ _ hx, h _ _ hy, hrun]
end
end Go.Proofs.Eng

/- In a region walked move by move: bytes as a text. -/
namespace Go.Proofs.Eng
open Go.RowKit
set_option linter.unusedSimpArgs false
set_option linter.unusedVariables false
section
variable {P : Program} {fn : Func} {R : Ending → World → Prop} {M : Md} {n : Nat} {st : Slots} {k : List Item} {w w0 : World} {ops rest : List Oper} {D : List Nat}
  {d : Nat} {ty : TypeId} {ps : String} {af : Array Edge} {X : Operand} {t t2 e : TypeId} {m c : Nat} {A : Option Addr} {zz : Option Nat} {bb : Array Bool} {pp : Nat} {fr : Bool} {fuel : Nat}
end
end Go.Proofs.Eng

/- max of two numbers; a new row of zeros. -/
namespace Go.Proofs.Eng
open Go.RowKit
set_option linter.unusedSimpArgs false
set_option linter.unusedVariables false
section
variable {q : Qm} {P : Program} {fn : Func} {R : Ending → World → Prop} {M : Md} {n : Nat} {st : Slots} {k : List Item} {w : World} {ops rest : List Oper}
  {d : Nat} {ty : TypeId} {ps : String} {af : Array Edge} {X Y : Operand} {t t2 e : TypeId} {by_ m : Nat} {z u : Value} {K K2 : IntKind} {x y : Int}
theorem TL_makeSlice (E : Env P) (hx : ev st X = some (.int K x) := by exact rfl) (hy : ev st Y = some (.int K2 x) := by exact rfl) (hxa : x = (m : Int) := by first | exact rfl | omega) (ht : E.und t = some (.slice e) := by exact rfl) (he : E.inf e = some (1, by_, z) := by exact rfl) (hz : z.cells = #[u] := by exact rfl) (hbm : by_ * m ≤ 70368744177664 := by omega) (hm : m ≤ 70368744177664 := by omega) (hd : Nat.blt d n = true := by exact rfl)
    (hf : Fl q (rest.length + 1) := by first | exact trivial | exact rfl) (hq : ∀ w', Ext w w' → Kp q w' := by exact fun _ _ => trivial)
    (hk : ∀ b w', Ext w w' → w.heap.size ≤ b → b < w'.heap.size → Blk w' b e (List.replicate m u) → TL q P fn R M n ((d, .slice (some ⟨b, 0, none⟩) m m) :: st) ops rest k w') :
    TL q P fn R M n st ops (⟨some d, .makeSlice t X Y, ty, ps, af, none⟩ :: rest) k w :=
  TL_new (w' := w.alloc (.cells (Array.replicate m u) e)) hd (fun ρ h => by
    subst hxa
    obtain ⟨i, i1, i2, i3, i4⟩ := E.inf_ok _ _ _ _ he
    have wl : IntKind.i64.wrap (m : Int) = m := by rw [IntKind.wrap_i64]; omega
    have n1 : ¬ ((m : Int) < 0) := by omega
    have n2 : ¬ (281474976710656 < (by_ : Int) * (m : Int)) := by
      have : ((by_ * m : Nat) : Int) = (by_ : Int) * (m : Int) := by simp
      omega
    have hti : ∀ w, (typeInfo e).run P w = .ok i w := fun w => by
      show (do let p ← program; match p.info? e with | some i => pure i | none => stuck "no such type" : Sem TypeInfo).run P w = _
      simp only [Sem.run_bind]
      show (match P.info? e with | some i => pure i | none => stuck "no such type" : Sem TypeInfo).run P w = _
      rw [i1]
      rfl
    have wl0 : IntKind.i64.wrap 0 = 0 := by decide
    have hs := run_sizeOf' (P := P) (E.inf_ok _ _ _ _ he)
    have hzr := run_zero' (P := P) (E.inf_ok _ _ _ _ he)
    have hrow : (Array.range m).map (fun x => ([u] : List Value)[x % 1]?.getD default) = Array.replicate m u := by
      apply Array.ext
      · simp
      · intro a h1 h2
        simp [Nat.mod_one]
    have hr0 : Array.range 0 = #[] := by apply Array.ext <;> simp
    rcases Nat.eq_zero_or_pos m with h0 | h0
    · subst h0
      simp [execOp, Instr.makeSlice, run_underlying (E.und_ok _ _ ht), asInt, asIntOf, h _ _ hx, h _ _ hy, hti, i3, wl0, run_askRoom, hs, newRow, hr0]
    · have h0' : ¬ m * 1 = 0 := by omega
      simp [execOp, Instr.makeSlice, run_underlying (E.und_ok _ _ ht), asInt, asIntOf, h _ _ hx, h _ _ hy, hti, i3, wl, n1, n2, run_askRoom, hs, hzr, h0', newRow, hz]
      rw [if_neg (by omega), hrow]) hf (hq _ (Ext.alloc _ _))
    (hk w.heap.size _ (Ext.alloc _ _) (Nat.le_refl _) (by simp) (by simpa using Blk.new w e (Array.replicate m u)))
end
end Go.Proofs.Eng

/- In a region walked move by move: a whole out of a row. -/
namespace Go.Proofs.Eng
open Go.RowKit
set_option linter.unusedSimpArgs false
set_option linter.unusedVariables false
section
variable {P : Program} {fn : Func} {R : Ending → World → Prop} {M : Md} {n : Nat} {st : Slots} {k : List Item} {w w0 : World} {ops rest : List Oper} {D : List Nat}
  {d : Nat} {ty : TypeId} {ps : String} {af : Array Edge} {X : Operand} {t : TypeId} {m s j by_ : Nat} {z : Value} {A : Option Addr} {zz : Option Nat} {bb : Array Bool} {pp : Nat} {fr : Bool} {fuel : Nat}
end
end Go.Proofs.Eng

namespace Go.Proofs.Ytjjgojgahibpgaa
open Go.RowKit Go.Proofs.Eng Go.Proofs.Codec
set_option linter.unusedSimpArgs false
set_option linter.unusedVariables false set_option maxRecDepth 10000
attribute [local irreducible] T TL LV TH TA




































theorem get4_c (A : Option Addr) (n c : Nat) (l : List UInt8) (w : World) (h : Rd w A n 1 (bv l)) (hn : 4 ≤ n) :
    Ret Try.prog 107 [.slice A n c] w (fun v w' => v = .int .u32 (le4 l : Nat) ∧ Ext w w') := by
  refine ret_T (n := 25) Try.func107 rfl rfl ?_
  repeat (first | refine T_seq ?_ | refine T_region ?_ | refine T_region_q TE.mixed (by kernel_rfl) ?_ | (refine TL_or (hk := ?_); intro _) | refine TL_shl (hk := ?_) | refine TL_nil ?_ | refine TL_move (hk := ?_) | refine TL_assign (hk := ?_) | (refine TL_load_b TE (hk := ?_); intro _) | refine TL_indexAddr1n TE (hk := ?_) | refine TL_conv TE (hk := ?_))
  refine TL_nil_q ?_; intro w1 e1
  --
  exact T_ret1 rfl rfl ⟨rfl, e1⟩
theorem put4_c (A : Option Addr) (n c x base : Nat) (l : List UInt8) (w : World) (h : Own w base 5 1 A n c (bv l)) (hb : base ≤ w.heap.size) (hn : n ≤ 70368744177000) (hx : x < 2 ^ 32) :
    Ret Try.prog 105 [.slice A n c, .int .u32 (x : Int)] w (fun v w' => ∃ A' c', v = .slice A' (n + 4) c' ∧ Mod (blkL A) w w' ∧ Near A A' w ∧ Own w' base 5 1 A' (n + 4) c' (bv (l ++ four x))) := by
  refine ret_T (n := 19) Try.func105 rfl rfl ?_
  repeat (first | refine T_seq ?_ | refine T_region ?_ | refine TL_shr (hk := ?_) | refine TL_nil ?_ | refine TL_move (hk := ?_) | refine TL_assign (hk := ?_) | refine TL_conv TE (hk := ?_) | refine TL_conv_nat TE (hk := ?_))
  refine TL_buildSlice TE (hk := ?_); intro b1 w1 e1 h1 h2 k1
  have s1 := e1.size
  refine TL_append TE (hk := ?_); intro A4 c4 w4 o4 m4 n4
  repeat (first | refine TL_nil ?_ | refine TL_assign (hk := ?_))
  refine T_ret1 rfl rfl ⟨A4, c4, rfl, Mod.step (Mod.mono e1 (fun _ h => by cases h)) m4 (fun y hy => .inl hy), fun ad ea => (n4 ad ea).imp id (fun h => by omega), ?_⟩
  have e : bv (four x) = [.int .u8 ((x % 2 ^ 8 : Nat) : Int), .int .u8 ((x / 2 ^ 8 % 2 ^ 8 : Nat) : Int), .int .u8 ((x / 2 ^ 16 % 2 ^ 8 : Nat) : Int), .int .u8 ((x / 2 ^ 24 : Nat) : Int)] := by
    have e4 : x / 2 ^ 24 % 256 = x / 2 ^ 24 := by omega
    simp only [four, bv, List.map_cons, List.map_nil, e4]
    rw [ofNat_u8 (by omega), ofNat_u8 (by omega), ofNat_u8 (by omega), ofNat_u8 (by omega)]
  rw [bv_append, e]
  exact o4
end Go.Proofs.Ytjjgojgahibpgaa

namespace Go.Proofs.Ytjjgojgahibpgaa
open Go.RowKit Go.Proofs.Eng Go.Proofs.Codec
set_option linter.unusedSimpArgs false
set_option linter.unusedVariables false set_option maxRecDepth 10000
attribute [local irreducible] T TL LV TH TA
set_option maxHeartbeats 1000000


theorem Sum_c (A : Option Addr) (n c : Nat) (l : List UInt8) (w : World) (h : Rd w A n 1 (bv l)) (hn : n ≤ 70368744177664) :
    Ret Try.prog 106 [.slice A n c] w (fun v w' => v = .int .u32 (crc l : Nat) ∧ w' = w) := by
  have hlen : l.length = n := by simpa using h.1
  refine ret_T (n := 30) Try.func106 rfl rfl ?_
  repeat (first | refine T_seq ?_ | refine T_region ?_ | refine T_block ?_ | refine TL_nil ?_ | refine TL_move (hk := ?_) | refine TL_assign (hk := ?_) | refine TL_len TE (hk := ?_))
  refine T_loop (ι := Nat × Nat) (fun i => [(6, .slice A n c), (7, .int .i64 (n : Int)), (8, .int .i64 (i.1 : Int)), (3, .int .u32 (i.2 : Int))])
    (fun i w' => w' = w ∧ i.1 ≤ n ∧ i.2 < 2 ^ 32 ∧ crcAll (l.drop i.1) i.2 = crcAll l 4294967295) (fun i => n - i.1) (0, 4294967295) (.c rfl (.c rfl (.c rfl (.c rfl (.n))))) ⟨rfl, by simp, by simp, rfl⟩ ?_
  rintro ⟨k, z⟩ w1 ⟨rfl, hk, hz, hinv⟩ ih
  simp only at hk hz hinv ih ⊢
  by_cases hkn : k < n
  · repeat (first | refine T_seq ?_ | refine T_region ?_ | refine T_cond_true rfl ?_ | refine T_block ?_ | refine T_skip ?_ | refine TL_lt_t (hk := ?_) | (refine TL_xor (hk := ?_); intro _) | refine TL_nil ?_ | refine TL_move (hk := ?_) | refine TL_assign (hk := ?_) | (refine TL_load_b TE (hk := ?_); intro _) | refine TL_indexAddr1n TE (hk := ?_) | refine TL_conv TE (hk := ?_))
    refine T_loop (ι := Nat × Nat) (fun i => [(16, .int .i64 (i.1 : Int)), (3, .int .u32 (i.2 : Int)), (6, .slice A n c), (7, .int .i64 (n : Int)), (8, .int .i64 (k : Int))])
      (fun i w' => w' = w1 ∧ i.1 ≤ 8 ∧ i.2 < 2 ^ 32 ∧ crc8 (8 - i.1) i.2 = crc8 8 (z ^^^ gb l k)) (fun i => 8 - i.1) (0, z ^^^ gb l k) (.c rfl (.c rfl (.c rfl (.c rfl (.c rfl (.n)))))) ⟨rfl, by simp, by assumption, rfl⟩ ?_
    rintro ⟨j, y⟩ w2 ⟨rfl, hj, hy, hinv2⟩ ih2
    simp only at hj hy hinv2 ih2 ⊢
    by_cases hj8 : j < 8
    · have ey : y &&& 1 = y % 2 := Nat.and_one_is_mod y
      have e8 : 8 - j = (8 - (j + 1)) + 1 := by omega
      rw [e8, crc8_succ] at hinv2
      have hlt := crcStep_lt hy
      by_cases hy2 : y % 2 = 1
      · rw [crcStep_odd hy2] at hinv2 hlt
        repeat (first | refine T_seq ?_ | refine T_region ?_ | refine T_cond_true rfl ?_ | refine T_block ?_ | refine T_inBlock ?_ | refine T_skip ?_ | refine TL_add (hk := ?_) | refine TL_lt_t (hk := ?_) | refine TL_eq_t (hk := ?_) | (refine TL_and (hk := ?_); intro _) | (refine TL_xor (hk := ?_); intro _) | refine TL_shr (hk := ?_) | refine TL_nil ?_ | refine TL_move (hk := ?_) | refine TL_assign (hk := ?_))
        exact ih2 (j + 1, y / 2 ^ 1 ^^^ 3988292384) _ _ (by simp only; omega) ⟨rfl, by simp only; omega, hlt, hinv2⟩ (.c rfl (.c rfl (.c rfl (.c rfl (.c rfl (.n))))))
      · rw [crcStep_even hy2] at hinv2 hlt
        repeat (first | refine T_seq ?_ | refine T_region ?_ | refine T_cond_true rfl ?_ | refine T_cond_false rfl ?_ | refine T_block ?_ | refine T_inBlock ?_ | refine T_skip ?_ | refine TL_add (hk := ?_) | refine TL_lt_t (hk := ?_) | refine TL_eq_f (hk := ?_) | (refine TL_and (hk := ?_); intro _) | refine TL_shr (hk := ?_) | refine TL_nil ?_ | refine TL_move (hk := ?_) | refine TL_assign (hk := ?_))
        exact ih2 (j + 1, y / 2 ^ 1) _ _ (by simp only; omega) ⟨rfl, by simp only; omega, hlt, hinv2⟩ (.c rfl (.c rfl (.c rfl (.c rfl (.c rfl (.n))))))
    · have : j = 8 := by omega
      subst this
      repeat (first | refine T_seq ?_ | refine T_region ?_ | refine T_cond_false rfl ?_ | refine T_inBlock ?_ | refine T_exit rfl ?_ | refine TL_add (hk := ?_) | refine TL_lt_f (hk := ?_) | refine TL_nil ?_ | refine TL_move (hk := ?_))
      refine ih (k + 1, y) _ _ (by simp only; omega) ⟨rfl, by simp only; omega, hy, ?_⟩ (.c rfl (.c rfl (.c rfl (.c rfl (.n)))))
      rw [← hinv, crcAll_take l z k (by omega), ← hinv2]
      rfl
  · have : k = n := by omega
    subst this
    repeat (first | refine T_seq ?_ | refine T_region ?_ | refine T_cond_false rfl ?_ | refine T_exit rfl ?_ | refine TL_lt_f (hk := ?_) | refine TL_nil ?_ | refine TL_move (hk := ?_) | refine TL_assign (hk := ?_) | (refine TL_compl (hk := ?_); intro _))
    refine T_ret1 rfl rfl ⟨?_, rfl⟩
    have e : z = crcAll l 4294967295 := by rw [← hinv, List.drop_of_length_le (by omega)]; rfl
    unfold crc
    rw [← e]
end Go.Proofs.Ytjjgojgahibpgaa

namespace Go.Proofs.Ytjjgojgahibpgaa
open Go.RowKit Go.Proofs.Eng Go.Proofs.Codec
set_option linter.unusedSimpArgs false
set_option linter.unusedVariables false set_option maxRecDepth 10000
attribute [local irreducible] T TL LV TH TA
set_option maxHeartbeats 1000000
























/-- A frame. -/
def frame (l : List UInt8) : List UInt8 := (four l.length ++ l) ++ four (crc (four l.length ++ l))
theorem Seal_c (A : Option Addr) (n c : Nat) (l : List UInt8) (w : World) (h : Rd w A n 1 (bv l)) (hn : n ≤ 65536) :
    Ret Try.prog 87 [.slice A n c] w (fun v w' => ∃ A' c', v = .tuple #[.slice A' (n + 8) c', .int .i64 0] ∧ Ext w w' ∧ Own w' w.heap.size 5 1 A' (n + 8) c' (bv (frame l))) := by
  have hlen : l.length = n := by simpa using h.1
  refine ret_T (n := 18) Try.func87 rfl rfl ?_
  repeat (first | refine T_seq ?_ | refine T_region ?_ | refine T_cond_false rfl ?_ | refine T_skip ?_ | refine TL_gt_f (hk := ?_) | refine TL_nil ?_ | refine TL_move (hk := ?_) | refine TL_assign (hk := ?_) | refine TL_len TE (hk := ?_) | refine TL_conv TE (hk := ?_))
  refine TL_call TE (hc := put4_c none 0 0 n w.heap.size [] w (Own.nil _ _ _ _) (Nat.le_refl _) (by omega) (by omega)) (hk := ?_)
  rintro _ w1 ⟨A1, c1, rfl, m1, n1, o1⟩
  have e1 : Ext w w1 := m1
  have s1 := m1.size
  repeat (refine TL_move (hk := ?_))
  refine TL_append TE (hk := ?_); intro A2 c2 w2 o2 m2 n2
  have e2 : Ext w w2 := e1.own m2 o1.hi
  have s2 := m2.size
  have o2' : Own w2 w.heap.size 5 1 A2 (0 + 4 + n) c2 (bv (four n ++ l)) := by rw [bv_append]; exact o2
  repeat (first | refine T_seq ?_ | refine T_region ?_ | refine TL_nil ?_ | refine TL_move (hk := ?_) | refine TL_assign (hk := ?_))
  refine TL_call TE (hc := Sum_c A2 (0 + 4 + n) c2 (four n ++ l) w2 o2'.rd (by omega)) (hk := ?_)
  rintro _ w3 ⟨rfl, rfl⟩
  refine TL_call TE (hc := put4_c A2 (0 + 4 + n) c2 (crc (four n ++ l)) w.heap.size (four n ++ l) _ o2' (by omega) (by omega) (crc_lt _)) (hk := ?_)
  rintro _ w4 ⟨A4, c4, rfl, m4, n4, o4⟩
  repeat (first | refine TL_nil ?_ | refine TL_assign (hk := ?_))
  refine T_ret2 rfl rfl rfl ⟨A4, c4, ?_, e2.own m4 o2'.hi, ?_⟩
  · rw [show 0 + 4 + n + 4 = n + 8 from by omega]
  · rw [show n + 8 = 0 + 4 + n + 4 from by omega]
    unfold frame
    rw [hlen]
    exact o4
/-- What Open answers: the load's bytes, how many bytes it takes, the error. -/
def openF (l : List UInt8) : List UInt8 × Nat × Int :=
  if l.length < 4 then ([], 0, 3) else if 65536 < le4 l then ([], 0, 1) else if l.length < le4 l + 8 then ([], 0, 3) else
  if crc (l.take (le4 l + 4)) = le4 (l.drop (le4 l + 4)) then ((l.drop 4).take (le4 l), le4 l + 8, 0) else ([], 0, 12)
theorem Open_c (A : Option Addr) (n c : Nat) (l : List UInt8) (w : World) (h : Rd w A n 1 (bv l)) (hn : n ≤ 7036874417) (hc : n ≤ c) :
    Ret Try.prog 90 [.slice A n c] w (fun v w' => ∃ A' n' c', v = .tuple #[.slice A' n' c', .int .i64 ((openF l).2.1 : Nat), .int .i64 (openF l).2.2] ∧ Ext w w' ∧ Own w' w.heap.size 5 1 A' n' c' (bv (openF l).1)) := by
  have hlen : l.length = n := by simpa using h.1
  have h4 := le4_lt l
  by_cases g0 : n < 4
  · have eo : openF l = ([], 0, 3) := by unfold openF; rw [if_pos (by omega)]
    rw [eo]
    refine ret_T (n := 39) Try.func90 rfl rfl ?_
    repeat (first | refine T_seq ?_ | refine T_region ?_ | refine T_cond_true rfl ?_ | refine TL_lt_t (hk := ?_) | refine TL_nil ?_ | refine TL_move (hk := ?_) | refine TL_assign (hk := ?_) | refine TL_len TE (hk := ?_))
    exact T_ret3 rfl rfl rfl rfl ⟨none, 0, 0, rfl, Mod.refl _ _, Own.nil _ _ _ _⟩
  by_cases g1 : 65536 < le4 l
  · have eo : openF l = ([], 0, 1) := by unfold openF; rw [if_neg (by omega), if_pos g1]
    rw [eo]
    refine ret_T (n := 39) Try.func90 rfl rfl ?_
    repeat (first | refine T_seq ?_ | refine T_region ?_ | refine T_cond_false rfl ?_ | refine T_skip ?_ | refine TL_lt_f (hk := ?_) | refine TL_nil ?_ | refine TL_move (hk := ?_) | refine TL_assign (hk := ?_) | refine TL_len TE (hk := ?_))
    refine TL_call TE (hc := get4_c A n c l w h (by omega)) (hk := ?_)
    rintro _ w1 ⟨rfl, e1⟩
    repeat (first | refine T_seq ?_ | refine T_region ?_ | refine T_cond_true rfl ?_ | refine TL_gt_t (hk := ?_) | refine TL_nil ?_ | refine TL_move (hk := ?_) | refine TL_assign (hk := ?_))
    exact T_ret3 rfl rfl rfl rfl ⟨none, 0, 0, rfl, e1, Own.nil _ _ _ _⟩
  by_cases g2 : n < le4 l + 8
  · have eo : openF l = ([], 0, 3) := by unfold openF; rw [if_neg (by omega), if_neg g1, if_pos (by omega)]
    rw [eo]
    refine ret_T (n := 39) Try.func90 rfl rfl ?_
    repeat (first | refine T_seq ?_ | refine T_region ?_ | refine T_cond_false rfl ?_ | refine T_skip ?_ | refine TL_lt_f (hk := ?_) | refine TL_nil ?_ | refine TL_move (hk := ?_) | refine TL_assign (hk := ?_) | refine TL_len TE (hk := ?_))
    refine TL_call TE (hc := get4_c A n c l w h (by omega)) (hk := ?_)
    rintro _ w1 ⟨rfl, e1⟩
    repeat (first | refine T_seq ?_ | refine T_region ?_ | refine T_cond_true rfl ?_ | refine T_cond_false rfl ?_ | refine T_block ?_ | refine T_skip ?_ | refine TL_add (hk := ?_) | refine TL_lt_t (hk := ?_) | refine TL_gt_f (hk := ?_) | refine TL_nil ?_ | refine TL_move (hk := ?_) | refine TL_assign (hk := ?_) | refine TL_len TE (hk := ?_) | refine TL_conv TE (hk := ?_))
    exact T_ret3 rfl rfl rfl rfl ⟨none, 0, 0, rfl, e1, Own.nil _ _ _ _⟩
  have hcl := crc_lt (l.take (le4 l + 4))
  have hdl := le4_lt (l.drop (le4 l + 4))
  have eo : openF l = if crc (l.take (le4 l + 4)) = le4 (l.drop (le4 l + 4)) then ((l.drop 4).take (le4 l), le4 l + 8, 0) else ([], 0, 12) := by
    unfold openF; rw [if_neg (by omega), if_neg g1, if_neg (by omega)]
  generalize hk : le4 l = k at h4 g1 g2 hcl hdl eo
  have ek : (4 + (k : Int)).toNat = k + 4 := by omega
  have ra : ∀ w', Ext w w' → Rd w' A (k + 4) 1 (bv (l.take (k + 4))) := fun w' e => by
    have := (h.ext e).take (h := k + 4) (by omega)
    simpa [bv] using this
  have rb : ∀ w', Ext w w' → Rd w' (cutA A c (k + 4) 1) (n - (k + 4)) 1 (bv (l.drop (k + 4))) := fun w' e => by
    have := (h.ext e).cut (c := c) (l := k + 4) (h := n) (by omega) (by omega) (by omega)
    have e9 : ((bv l).drop ((k + 4) * 1)).take ((n - (k + 4)) * 1) = bv (l.drop (k + 4)) := by
      rw [List.take_of_length_le (by simp; omega)]; simp [bv]
    rwa [e9] at this
  have rc : ∀ w', Ext w w' → Rd w' (cutA A c 4 1) (k + 4 - 4) 1 (bv ((l.drop 4).take k)) := fun w' e => by
    have := (h.ext e).cut (c := c) (l := 4) (h := k + 4) (by omega) (by omega) (by omega)
    have e9 : ((bv l).drop (4 * 1)).take ((k + 4 - 4) * 1) = bv ((l.drop 4).take k) := by
      rw [show (k + 4 - 4) * 1 = k from by omega]; simp [bv]
    rwa [e9] at this
  by_cases hs : crc (l.take (k + 4)) = le4 (l.drop (k + 4))
  all_goals
    first | rw [if_pos hs] at eo | rw [if_neg hs] at eo
    rw [eo]
    refine ret_T (n := 39) Try.func90 rfl rfl ?_
    repeat (first | refine T_seq ?_ | refine T_region ?_ | refine T_cond_false rfl ?_ | refine T_skip ?_ | refine TL_lt_f (hk := ?_) | refine TL_nil ?_ | refine TL_move (hk := ?_) | refine TL_assign (hk := ?_) | refine TL_len TE (hk := ?_))
    refine TL_call TE (hc := get4_c A n c l w h (by omega)) (hk := ?_)
    rintro _ w1 ⟨rfl, e1⟩
    rw [hk]
    repeat (first | refine T_seq ?_ | refine T_region ?_ | refine T_region_q TE.mixed (by kernel_rfl) ?_ | refine T_cond_false rfl ?_ | refine T_block ?_ | refine T_skip ?_ | refine TL_add (hk := ?_) | refine TL_lt_f (hk := ?_) | refine TL_gt_f (hk := ?_) | refine TL_nil ?_ | refine TL_move (hk := ?_) | refine TL_assign (hk := ?_) | refine TL_len TE (hk := ?_) | refine TL_slice_hi TE (hk := ?_) | refine TL_conv TE (hk := ?_))
    rw [ek]
    refine TL_call_q TE rfl rfl rfl ((fun w' e' => (Sum_c A (k + 4) c _ w' (ra w' (e1.ext e')) (by omega)).mono fun v w'' ⟨a, b⟩ => ⟨a, b ▸ Mod.refl _ _⟩)) ?_
    repeat (first | refine TL_move (hk := ?_) | refine TL_slice_lo TE (hk := ?_))
    rw [ek]
    refine TL_call_q TE rfl rfl rfl ((fun w' e' => get4_c (cutA A c (k + 4) 1) (n - (k + 4)) (c - (k + 4)) _ w' (rb w' (e1.ext e')) (by omega))) ?_
    repeat (first | refine TL_ne_t (hk := ?_) | refine TL_ne_f (hk := ?_) | refine TL_assign (hk := ?_))
    refine TL_nil_q ?_; intro w2 e2
    repeat (first | refine T_seq ?_ | refine T_region ?_ | refine T_cond_true rfl ?_ | refine T_cond_false rfl ?_ | refine T_inBlock ?_ | refine T_skip ?_ | refine TL_nil ?_ | refine TL_move (hk := ?_) | refine TL_assign (hk := ?_) | refine TL_slice_lh TE (hk := ?_))
  · rw [ek]
    refine TL_call TE (hc := Clone_c (cutA A c 4 1) (k + 4 - 4) (c - 4) _ w2 (rc w2 (e1.ext e2)) (by omega)) (hk := ?_)
    rintro _ w3 ⟨A3, c3, rfl, e3, o3⟩
    repeat (first | refine TL_add (hk := ?_) | refine TL_nil ?_ | refine TL_move (hk := ?_) | refine TL_assign (hk := ?_))
    have s2 := (e1.ext e2).size
    refine T_ret3 rfl rfl rfl rfl ⟨A3, _, c3, ?_, (e1.ext e2).ext e3, o3.weaken s2⟩
    rw [show ((k + 8 : Nat) : Int) = 4 + (k : Int) + 4 from by omega]
  · exact T_ret3 rfl rfl rfl rfl ⟨none, 0, 0, rfl, e1.ext e2, Own.nil _ _ _ _⟩
end Go.Proofs.Ytjjgojgahibpgaa

/- One end of a link, in plain words. -/
namespace Go.Proofs.Link
open Go.Proofs.Eng Go.Proofs.Codec Go.Proofs.Ytjjgojgahibpgaa
set_option linter.unusedSimpArgs false
set_option linter.unusedVariables false
abbrev Bs := List UInt8
def dataL (seq ack : Nat) (body : Bs) : Bs := [1] ++ encU seq ++ encU ack ++ body
def ackL (ack : Nat) : Bs := [2] ++ encU ack
theorem dataL_len {seq ack : Nat} {body : Bs} (h1 : seq < 2 ^ 64) (h2 : ack < 2 ^ 64) : (dataL seq ack body).length ≤ 21 + body.length := by
  have := encU_len64 h1
  have := encU_len64 h2
  simp only [dataL, List.length_append, List.length_cons, List.length_nil]
  omega
structure Msg where
  seq : Nat
  body : Bs
  age : Nat
  due : Bool
structure ES where
  win : Nat
  pat : Nat
  new : List Bs
  fly : List Msg
  next : Nat
  exp : Nat
  held : List (Nat × Bs)
  come : List Bs
  owed : Bool
def sendE (es : ES) (b : Bs) : ES × Nat := if 4096 < b.length then (es, 1) else if es.new.length = 1024 then (es, 5) else ({ es with new := es.new ++ [b] }, 0)
def nextE (es : ES) : ES × Option Bs := match es.come with
  | [] => (es, none)
  | b :: t => ({ es with come := t }, some b)
def tickM (pat : Nat) (m : Msg) : Msg := if m.age + 1 = pat then { m with age := 0, due := true } else { m with age := m.age + 1 }
def tickE (es : ES) : ES := { es with fly := es.fly.map (tickM es.pat) }
def fillE : Nat → ES → ES
  | 0, es => es
  | f + 1, es => if es.fly.length < es.win then (match es.new with
    | [] => es
    | b :: t => fillE f { es with fly := es.fly ++ [⟨es.next, b, 0, true⟩], new := t, next := es.next + 1 }) else es
def msgB (exp : Nat) (m : Msg) : Bs := frame (dataL m.seq exp m.body)
def dueB (exp : Nat) (l : List Msg) : List Bs := (l.filter (·.due)).map (msgB exp)
def undue (m : Msg) : Msg := { m with due := false }
def outE (es : ES) : ES × List Bs :=
  let e := fillE es.new.length es
  let o := dueB e.exp e.fly
  ({ e with fly := e.fly.map undue, owed := false }, if e.owed = true ∧ o.length = 0 then [frame (ackL e.exp)] else o)
/-- What a frame says: its kind, its numbers, its bytes, whether it is one. -/
def parseF (b : Bs) : Nat × Nat × Nat × Bs × Bool :=
  let o := openF b
  if ¬ (o.2.2 = 0 ∧ o.2.1 = b.length) then (0, 0, 0, [], false) else
  let t1 := (⟨o.1, 0, 0, 0, 0⟩ : RS).take (0 : Nat) tByte
  if t1.1 = 1 then
    let t2 := t1.2.take (0 : Nat) num0
    let t3 := t2.2.take (0 : Nat) num0
    if t3.2.err = 0 ∧ t3.2.rest ≤ 4096 then (1, t2.1, t3.1, o.1.drop (o.1.length - t3.2.rest), true) else (0, 0, 0, [], false)
  else if t1.1 = 2 then
    let t2 := t1.2.take (0 : Nat) num0
    (2, 0, t2.1, [], decide (t2.2.fin.err = 0))
  else (0, 0, 0, [], false)
def drainE : Nat → ES → ES
  | 0, es => es
  | f + 1, es => match mget es.held es.exp with
    | none => es
    | some b => drainE f { es with held := mdel es.held es.exp, come := es.come ++ [b], exp := es.exp + 1 }
def ackE (es : ES) (ack : Nat) : ES := { es with fly := es.fly.filter fun m => !decide (m.seq < ack) }
def holdE (es : ES) (seq : Nat) (body : Bs) : ES := if es.exp ≤ seq ∧ (mget es.held seq).isSome = false then { es with held := mput es.held seq body } else es
def dataE (es : ES) (seq : Nat) (body : Bs) : ES := let e := holdE { es with owed := true } seq body; drainE e.held.length e
def recvE (es : ES) (b : Bs) : ES × Nat :=
  let p := parseF b
  if p.2.2.2.2 = false then (es, 260) else if es.next < p.2.2.1 then (es, 261) else
  if p.1 = 1 ∧ es.exp ≤ p.2.1 ∧ es.win ≤ p.2.1 - es.exp then (es, 261) else
  if p.1 = 2 then (ackE es p.2.2.1, 0) else (dataE (ackE es p.2.2.1) p.2.1 p.2.2.2.1, 0)
def m0 : Msg := ⟨0, [], 0, false⟩
/-- As far as place i each has turned. -/
def tkU (g : Msg → Msg) (l : List Msg) (i : Nat) : List Msg := (l.take i).map g ++ l.drop i
theorem tkU_zero (g : Msg → Msg) (l : List Msg) : tkU g l 0 = l := by simp [tkU]
theorem tkU_end (g : Msg → Msg) (l : List Msg) : tkU g l l.length = l.map g := by simp [tkU]
theorem tkU_len (g : Msg → Msg) (l : List Msg) (i : Nat) : (tkU g l i).length = l.length := by simp [tkU]; omega
theorem tkU_get (g : Msg → Msg) (l : List Msg) (i : Nat) (h : i < l.length) : (tkU g l i).getD i m0 = l.getD i m0 := by
  unfold tkU
  rw [List.getD_eq_getElem?_getD, List.getD_eq_getElem?_getD, List.getElem?_append_right (by simp; omega)]
  have : i - ((l.take i).map g).length = 0 := by simp; omega
  rw [this, List.getElem?_drop, Nat.add_zero]
theorem tkU_set (g : Msg → Msg) (l : List Msg) (i : Nat) (h : i < l.length) : (tkU g l i).set i (g (l.getD i m0)) = tkU g l (i + 1) := by
  unfold tkU
  have e1 : ((l.take i).map g).length = i := by simp; omega
  rw [List.set_append_right _ _ (by omega), e1, Nat.sub_self, List.drop_eq_getElem_cons h, List.set_cons_zero, List.take_succ_eq_append_getElem h, List.map_append, List.append_assoc]
  simp [List.getD_eq_getElem?_getD, List.getElem?_eq_getElem h]
/-- How much there is: what no run of a statement goes beyond. -/
structure OkE (es : ES) : Prop where
  tot : es.new.length + es.fly.length ≤ 100000
  nx : es.next + es.new.length ≤ 2 ^ 62
  ex : es.exp + es.held.length ≤ 2 ^ 62
  nb : ∀ b ∈ es.new, b.length ≤ 4096
  fb : ∀ q ∈ es.fly, q.body.length ≤ 4096 ∧ q.seq ≤ 2 ^ 62 ∧ q.age ≤ 100000
  hl : es.held.length + es.come.length ≤ 100000
  wi : 1 ≤ es.win ∧ es.win ≤ 256
  pa : 1 ≤ es.pat ∧ es.pat ≤ 1000
def goE (es : ES) : Bool := decide (es.fly.length < es.win ∧ 0 < es.new.length)
theorem fill_stop {es : ES} (h : goE es = false) : ∀ f, fillE f es = es
  | 0 => rfl
  | f + 1 => by
    unfold goE at h
    rw [decide_eq_false_iff_not] at h
    unfold fillE
    by_cases q : es.fly.length < es.win
    · rw [if_pos q]
      cases hn : es.new with
      | nil => rfl
      | cons b t => rw [hn] at h; simp at h; omega
    · rw [if_neg q]
def fill1 (es : ES) (b : Bs) (t : List Bs) : ES := { es with fly := es.fly ++ [⟨es.next, b, 0, true⟩], new := t, next := es.next + 1 }
theorem fillE_succ (f : Nat) (es : ES) : fillE (f + 1) es = if es.fly.length < es.win then (match es.new with
    | [] => es
    | b :: t => fillE f { es with fly := es.fly ++ [⟨es.next, b, 0, true⟩], new := t, next := es.next + 1 }) else es := rfl
theorem fill_go {es : ES} {b : Bs} {t : List Bs} (h : goE es = true) (hn : es.new = b :: t) : fillE es.new.length es = fillE t.length (fill1 es b t) := by
  unfold goE at h
  rw [decide_eq_true_eq] at h
  rw [hn, List.length_cons, fillE_succ, if_pos h.1, hn]
  rfl
theorem OkE.fill1 {es : ES} {b : Bs} {t : List Bs} (h : OkE es) (hn : es.new = b :: t) : OkE (fill1 es b t) := by
  have h1 := h.tot
  have h2 := h.nx
  have h3 := h.nb
  rw [hn] at h1 h2 h3
  simp only [List.length_cons] at h1 h2
  exact { tot := by simp [Link.fill1]; omega, nx := by simp only [Link.fill1]; omega, ex := h.ex, nb := fun x hx => h3 x (List.mem_cons_of_mem _ hx), fb := fun q hq => by
            rcases List.mem_append.1 hq with hq | hq
            · exact h.fb q hq
            · rw [List.mem_singleton.1 hq]
              exact ⟨h3 b List.mem_cons_self, by simp only; omega, by simp⟩, hl := h.hl, wi := h.wi, pa := h.pa }
theorem undue_eq {q : Msg} (h : q.due = false) : undue q = q := by unfold undue; rw [← h]
theorem set_getD {l : List Msg} {i : Nat} {q : Msg} (h : l.getD i m0 = q) (hi : i < l.length) : l.set i q = l := by
  rw [← h, List.getD_eq_getElem?_getD, List.getElem?_eq_getElem hi]
  exact List.set_getElem_self hi
theorem tkU_skip {l : List Msg} {i : Nat} (hi : i < l.length) (h : (l.getD i m0).due = false) : tkU undue l (i + 1) = tkU undue l i := by
  rw [← tkU_set undue l i hi, undue_eq h]
  exact set_getD (tkU_get undue l i hi) (by rw [tkU_len]; exact hi)
theorem dueB_succ (ex : Nat) (l : List Msg) (i : Nat) (h : i < l.length) : dueB ex (l.take (i + 1)) = dueB ex (l.take i) ++ (if (l.getD i m0).due = true then [msgB ex (l.getD i m0)] else []) := by
  unfold dueB
  rw [List.take_succ_eq_append_getElem h, List.filter_append, List.map_append]
  congr 1
  simp only [List.getD_eq_getElem?_getD, List.getElem?_eq_getElem h, Option.getD_some]
  by_cases q : l[i].due = true
  · simp [q]
  · simp [q]
end Go.Proofs.Link

namespace Go.Proofs.Ytjjgojgahibpgaa
open Go.RowKit Go.Proofs.Eng Go.Proofs.Codec
set_option linter.unusedSimpArgs false
set_option linter.unusedVariables false set_option maxRecDepth 10000
attribute [local irreducible] T TL LV TH TA
set_option maxHeartbeats 1000000

end Go.Proofs.Ytjjgojgahibpgaa

namespace Go.Proofs.Ytjjgojgahibpgaa
open Go.RowKit Go.Proofs.Eng Go.Proofs.Codec Go.Proofs.Link
set_option linter.unusedSimpArgs false
set_option linter.unusedVariables false set_option maxRecDepth 10000
attribute [local irreducible] T TL LV TH TA
theorem frame_c (A : Option Addr) (n c : Nat) (l : Bs) (w : World) (h : Rd w A n 1 (bv l)) (hn : n ≤ 65536) :
    Ret Try.prog 64 [.slice A n c] w (fun v w' => ∃ A' c', v = .slice A' (n + 8) c' ∧ Ext w w' ∧ Own w' w.heap.size 5 1 A' (n + 8) c' (bv (frame l))) := by
  refine ret_T (n := 11) Try.func64 rfl rfl ?_
  repeat (first | refine T_seq ?_ | refine T_region ?_ | refine TL_nil ?_ | refine TL_move (hk := ?_) | refine TL_assign (hk := ?_))
  refine TL_call TE (hc := Seal_c A n c l w h hn) (hk := ?_)
  rintro _ w1 ⟨A1, c1, rfl, e1, o1⟩
  repeat (first | refine T_seq ?_ | refine T_region ?_ | refine TL_nil ?_ | refine TL_move (hk := ?_) | refine TL_assign (hk := ?_) | refine TL_extract (hk := ?_))
  exact T_ret1 rfl rfl ⟨A1, c1, rfl, e1, o1⟩
theorem Data_c (A : Option Addr) (n c seq ack : Nat) (l : Bs) (w : World) (h : Rd w A n 1 (bv l)) (hn : n ≤ 70368744177) (hs : seq < 2 ^ 64) (ha : ack < 2 ^ 64) :
    Ret Try.prog 12 [.int .u64 (seq : Int), .int .u64 (ack : Int), .slice A n c] w (fun v w' => ∃ A' n' c', v = .tuple #[.slice A' n' c', .int .i64 (if 4096 < n then 1 else 0)] ∧ Ext w w' ∧ Own w' w.heap.size 5 1 A' n' c' (bv (if 4096 < n then [] else frame (dataL seq ack l)))) := by
  have hlen : l.length = n := by simpa using h.1
  refine ret_T (n := 19) Try.func12 rfl rfl ?_
  by_cases hbig : 4096 < n
  · rw [if_pos hbig, if_pos hbig]
    repeat (first | refine T_seq ?_ | refine T_region ?_ | refine T_cond_true rfl ?_ | refine TL_gt_t (hk := ?_) | refine TL_nil ?_ | refine TL_move (hk := ?_) | refine TL_assign (hk := ?_) | refine TL_len TE (hk := ?_))
    exact T_ret2 rfl rfl rfl ⟨none, 0, 0, rfl, Mod.refl _ _, Own.nil _ _ _ _⟩
  · rw [if_neg hbig, if_neg hbig]
    repeat (first | refine T_seq ?_ | refine T_region ?_ | refine T_cond_false rfl ?_ | refine T_skip ?_ | refine TL_gt_f (hk := ?_) | refine TL_nil ?_ | refine TL_move (hk := ?_) | refine TL_assign (hk := ?_) | refine TL_len TE (hk := ?_))
    refine TL_buildSlice TE (hk := ?_); intro b1 w1 e1 h1 h1' k1
    replace k1 : Blk w1 b1 5 (bv [1]) := k1
    repeat (refine TL_move (hk := ?_))
    refine TL_call TE (hc := PutUint_c (some ⟨b1, 0, none⟩) 1 1 [1] seq w1 rfl (Rd.blk k1 rfl) (by omega) hs) (hk := ?_)
    rintro _ w2 ⟨A2, n2, c2, rfl, e2, o2⟩
    have z1 := e1.size
    have l2 := o2.len
    have q1 := encU_len64 hs
    have q2 := encU_len64 ha
    simp only [bv_length, List.length_append, Nat.mul_one, List.length_cons, List.length_nil] at l2
    repeat (refine TL_move (hk := ?_))
    refine TL_call TE (hc := PutUint_c A2 n2 c2 _ ack w2 rfl o2.rd (by omega) ha) (hk := ?_)
    rintro _ w3 ⟨A3, n3, c3, rfl, e3, o3⟩
    have z2 := e2.size
    have z3 := e3.size
    have e03 := (e1.ext e2).ext e3
    have l3 := o3.len
    simp only [bv_length, List.length_append, Nat.mul_one, List.length_cons, List.length_nil] at l3
    have h3 := h.be e03
    have hone := bv_one l
    repeat (refine TL_move (hk := ?_))
    refine TL_append TE (hk := ?_); intro A4 c4 w4 o4 m4 n4
    have e04 : Ext w w4 := e03.own m4 (o3.hi.mono (by omega))
    rw [← bv_append] at o4
    --
    refine TL_call TE (hc := frame_c A4 (n3 + n) c4 _ w4 o4.rd (by omega)) (hk := ?_)
    rintro _ w5 ⟨A5, c5, rfl, e5, o5⟩
    repeat (first | refine TL_nil ?_ | refine TL_assign (hk := ?_))
    refine T_ret2 rfl rfl rfl ⟨A5, n3 + n + 8, c5, rfl, e04.ext e5, ?_⟩
    exact o5.weaken (by have := e04.size; omega)
theorem Ack_c (ack : Nat) (w : World) (ha : ack < 2 ^ 64) :
    Ret Try.prog 14 [.int .u64 (ack : Int)] w (fun v w' => ∃ A' n' c', v = .slice A' n' c' ∧ Ext w w' ∧ Own w' w.heap.size 5 1 A' n' c' (bv (frame (ackL ack)))) := by
  refine ret_T (n := 7) Try.func14 rfl rfl ?_
  repeat (first | refine T_seq ?_ | refine T_region ?_ | refine TL_nil ?_ | refine TL_assign (hk := ?_))
  refine TL_buildSlice TE (hk := ?_); intro b1 w1 e1 h1 h1' k1
  replace k1 : Blk w1 b1 5 (bv [2]) := k1
  repeat (refine TL_move (hk := ?_))
  refine TL_call TE (hc := PutUint_c (some ⟨b1, 0, none⟩) 1 1 [2] ack w1 rfl (Rd.blk k1 rfl) (by omega) ha) (hk := ?_)
  rintro _ w2 ⟨A2, n2, c2, rfl, e2, o2⟩
  have z1 := e1.size
  have l2 := o2.len
  have q2 := encU_len64 ha
  simp only [bv_length, List.length_append, Nat.mul_one, List.length_cons, List.length_nil] at l2
  --
  refine TL_call TE (hc := frame_c A2 n2 c2 _ w2 o2.rd (by omega)) (hk := ?_)
  rintro _ w5 ⟨A5, c5, rfl, e5, o5⟩
  have z2 := e2.size
  repeat (first | refine TL_nil ?_ | refine TL_assign (hk := ?_))
  exact T_ret1 rfl rfl ⟨A5, n2 + 8, c5, rfl, (e1.ext e2).ext e5, o5.weaken (by omega)⟩
end Go.Proofs.Ytjjgojgahibpgaa

/- How one end lies in memory. -/
namespace Go.Proofs.Ytjjgojgahibpgaa
open Go.RowKit Go.Proofs.Eng Go.Proofs.Codec Go.Proofs.Link
set_option linter.unusedSimpArgs false
set_option linter.unusedVariables false set_option maxRecDepth 10000
attribute [local irreducible] T TL LV TH TA
/-- A slice: where, how long, how much room. -/
abbrev SV := Option Addr × Nat × Nat
def slV (x : SV) : Value := .slice x.1 x.2.1 x.2.2
def slVs (l : List SV) : List Value := l.map slV
@[simp] theorem slVs_length (l : List SV) : (slVs l).length = l.length := by simp [slVs]
theorem slVs_append (a b : List SV) : slVs (a ++ b) = slVs a ++ slVs b := by simp [slVs]
theorem slVs_one (l : List SV) : ∀ u ∈ slVs l, u.oneCell' = true := by
  intro u hu
  obtain ⟨b, _, rfl⟩ := List.mem_map.1 hu
  rfl
theorem slVs_get (l : List SV) (k : Nat) (h : k < l.length) : (slVs l)[k]? = some (slV (l.getD k (none, 0, 0))) := by
  simp [slVs, List.getD_eq_getElem?_getD, List.getElem?_eq_getElem h]
/-- A row of bytes of one's own. -/
def Body (w : World) (base : Nat) (x : SV) (l : Bs) : Prop := Own w base 5 1 x.1 x.2.1 x.2.2 (bv l)
def Bods (w : World) (base : Nat) : List SV → List Bs → Prop
  | [], [] => True
  | x :: xs, l :: ls => Body w base x l ∧ Bods w base xs ls
  | _, _ => False
def blkS (xs : List SV) : List Nat := xs.flatMap fun x => blkL x.1
theorem blkS_append (a b : List SV) : blkS (a ++ b) = blkS a ++ blkS b := by simp [blkS]
theorem blkS_cons (a : SV) (b : List SV) : blkS (a :: b) = blkL a.1 ++ blkS b := by simp [blkS]
@[simp] theorem blkS_nil : blkS [] = [] := rfl
theorem off_of {A : Option Addr} {S : List Nat} (h : ∀ b ∈ blkL A, b ∉ S) : Off A S := fun ad e hm => h ad.block (by rw [e]; simp [blkL]) hm
theorem Hi.blk {A : Option Addr} {B : Nat} (h : Hi A B) : ∀ b ∈ blkL A, B ≤ b := fun b hb => by
  cases A with
  | none => simp [blkL] at hb
  | some ad => simp [blkL] at hb; rw [hb]; exact h ad rfl
theorem Lo.blk {A : Option Addr} {B : Nat} (h : Lo A B) : ∀ b ∈ blkL A, b < B := fun b hb => by
  cases A with
  | none => simp [blkL] at hb
  | some ad => simp [blkL] at hb; rw [hb]; exact h ad rfl
theorem Near.blk {A A' : Option Addr} {w : World} (h : Near A A' w) : ∀ b ∈ blkL A', b ∈ blkL A ∨ w.heap.size ≤ b := fun b hb => by
  cases A' with
  | none => simp [blkL] at hb
  | some ad =>
    simp [blkL] at hb
    rcases h ad rfl with q | q
    · rw [q]; left; simp [blkL, hb]
    · right; omega
theorem blkL_nodup (A : Option Addr) : (blkL A).Nodup := by cases A <;> simp [blkL]
theorem blkL_cut {A : Option Addr} {c l s : Nat} : ∀ b ∈ blkL (cutA A c l s), b ∈ blkL A := fun b hb => by
  unfold cutA at hb
  split at hb
  · exact hb
  · cases A with
    | none => exact hb
    | some a =>
      simp only [Option.map_some, blkL, List.mem_singleton] at hb ⊢
      rw [hb]
      unfold Addr.add
      split <;> rfl
section
variable {w w' : World} {base : Nat}
theorem Body.mod {S : List Nat} {x : SV} {l : Bs} (h : Body w base x l) (hm : Eng.Mod S w w') (hS : ∀ b ∈ blkL x.1, b ∉ S) : Body w' base x l := Own.mod h hm (off_of hS)
theorem Body.len {x : SV} {l : Bs} (h : Body w base x l) : l.length = x.2.1 := by have := Own.len h; simpa using this
theorem Body.lt {x : SV} {l : Bs} (h : Body w base x l) : ∀ b ∈ blkL x.1, base ≤ b ∧ b < w.heap.size := fun b hb => ⟨Hi.blk (Own.hi h) b hb, Lo.blk (Own.lo h) b hb⟩
theorem Bods.mod {S : List Nat} : ∀ {xs : List SV} {ls : List Bs}, Bods w base xs ls → Eng.Mod S w w' → (∀ b ∈ blkS xs, b ∉ S) → Bods w' base xs ls
  | [], [], _, _, _ => trivial
  | x :: xs, l :: ls, h, hm, hS => ⟨h.1.mod hm (fun b hb => hS b (by rw [blkS_cons]; exact List.mem_append_left _ hb)), Bods.mod h.2 hm (fun b hb => hS b (by rw [blkS_cons]; exact List.mem_append_right _ hb))⟩
  | [], _ :: _, h, _, _ => h.elim
  | _ :: _, [], h, _, _ => h.elim
theorem Bods.len : ∀ {xs : List SV} {ls : List Bs}, Bods w base xs ls → xs.length = ls.length
  | [], [], _ => rfl
  | x :: xs, l :: ls, h => by simp [Bods.len h.2]
  | [], _ :: _, h => h.elim
  | _ :: _, [], h => h.elim
theorem Bods.append : ∀ {xs ys : List SV} {ls ms : List Bs}, Bods w base xs ls → Bods w base ys ms → Bods w base (xs ++ ys) (ls ++ ms)
  | [], ys, [], ms, _, g => g
  | x :: xs, ys, l :: ls, ms, h, g => ⟨h.1, Bods.append h.2 g⟩
  | [], _, _ :: _, _, h, _ => h.elim
  | _ :: _, _, [], _, h, _ => h.elim
theorem Bods.snoc {xs : List SV} {ls : List Bs} {x : SV} {l : Bs} (h : Bods w base xs ls) (g : Body w base x l) : Bods w base (xs ++ [x]) (ls ++ [l]) := h.append ⟨g, trivial⟩
theorem Bods.lt : ∀ {xs : List SV} {ls : List Bs}, Bods w base xs ls → ∀ b ∈ blkS xs, base ≤ b ∧ b < w.heap.size
  | [], [], _, b, hb => by simp [blkS] at hb
  | x :: xs, l :: ls, h, b, hb => by
    rw [blkS_cons, List.mem_append] at hb
    rcases hb with hb | hb
    · exact h.1.lt b hb
    · exact Bods.lt h.2 b hb
  | [], _ :: _, h, _, _ => h.elim
  | _ :: _, [], h, _, _ => h.elim
theorem Bods.get : ∀ {xs : List SV} {ls : List Bs} (i : Nat), Bods w base xs ls → i < xs.length → Body w base (xs.getD i (none, 0, 0)) (ls.getD i [])
  | x :: xs, l :: ls, 0, h, _ => h.1
  | x :: xs, l :: ls, i + 1, h, hi => by simpa using Bods.get i h.2 (by simpa using hi)
  | [], _, _, _, hi => by simp at hi
  | _ :: _, [], _, h, _ => h.elim
end
/-- What flies, as it lies. -/
structure FE where
  seq : Nat
  sv : SV
  age : Nat
  due : Bool
def f4 (x : FE) : List Value := [.int .u64 (x.seq : Int), slV x.sv, .int .i64 (x.age : Int), .bool x.due]
def fv (l : List FE) : List Value := (l.map f4).flatten
def fe0 : FE := ⟨0, (none, 0, 0), 0, false⟩
theorem fv_append (a b : List FE) : fv (a ++ b) = fv a ++ fv b := by simp [fv]
theorem fv_cons (x : FE) (l : List FE) : fv (x :: l) = f4 x ++ fv l := by simp [fv]
theorem fv_len (l : List FE) : (fv l).length = l.length * 4 := by
  induction l with
  | nil => rfl
  | cons p l ih => rw [fv_cons, List.length_append, ih]; simp [f4]; omega
theorem f4_one (x : FE) : ∀ u ∈ f4 x, u.oneCell' = true := by
  intro u hu
  simp only [f4, List.mem_cons, List.not_mem_nil, or_false] at hu
  rcases hu with rfl | rfl | rfl | rfl <;> rfl
theorem fv_one (l : List FE) : ∀ u ∈ fv l, u.oneCell' = true := by
  induction l with
  | nil => simp [fv]
  | cons p l ih =>
    intro u hu
    rw [fv_cons, List.mem_append] at hu
    rcases hu with hu | hu
    · exact f4_one p u hu
    · exact ih u hu
theorem fv_four (l : List FE) (i : Nat) (hi : i < l.length) : ((fv l).drop (i * 4)).take 4 = f4 (l.getD i fe0) := by
  induction l generalizing i with
  | nil => simp at hi
  | cons p l ih =>
    cases i with
    | zero => rw [fv_cons]; simp [f4]
    | succ i =>
      have := ih i (by simpa using hi)
      rw [fv_cons, show (i + 1) * 4 = (f4 p).length + i * 4 by simp [f4]; omega, ← List.drop_drop, List.drop_left]
      simpa using this
theorem fv_at (l : List FE) (i j : Nat) (hi : i < l.length) (hj : j < 4) : (fv l)[i * 4 + j]? = (f4 (l.getD i fe0))[j]? := by
  have h := fv_four l i hi
  have := congrArg (fun x : List Value => x[j]?) h
  simp only [List.getElem?_take, List.getElem?_drop, hj, if_true] at this
  exact this
theorem fv_set (l : List FE) (i : Nat) (x : FE) (hi : i < l.length) : setAll (fv l) (i * 4) (f4 x) = fv (l.set i x) := by
  rw [setAll_eq _ _ _ (by rw [fv_len]; simp [f4]; omega)]
  induction l generalizing i with
  | nil => simp at hi
  | cons p l ih =>
    cases i with
    | zero => rw [fv_cons, List.set_cons_zero, fv_cons]; simp [f4]
    | succ i =>
      have := ih i (by simpa using hi)
      rw [fv_cons, List.set_cons_succ, fv_cons, ← this]
      have e : (i + 1) * 4 = (f4 p).length + i * 4 := by simp [f4]; omega
      rw [e, List.take_append, List.take_of_length_le (by omega), List.drop_append, List.drop_of_length_le (l := f4 p) (by omega)]
      simp [Nat.add_sub_cancel_left, List.append_assoc]
      congr 2
      omega
theorem fv_set1 (l : List FE) (i j : Nat) (u : Value) (x : FE) (hi : i < l.length) (hj : j < 4) (he : (f4 (l.getD i fe0)).set j u = f4 x) : (fv l).set (i * 4 + j) u = fv (l.set i x) := by
  induction l generalizing i with
  | nil => simp at hi
  | cons p l ih =>
    cases i with
    | zero =>
      simp only [List.getD_cons_zero] at he
      rw [fv_cons, List.set_cons_zero, fv_cons, ← he, Nat.zero_mul, Nat.zero_add, List.set_append_left _ _ (by simp [f4]; omega)]
    | succ i =>
      have := ih i (by simpa using hi) (by simpa using he)
      rw [fv_cons, List.set_cons_succ, fv_cons, ← this]
      have e : (i + 1) * 4 + j = (f4 p).length + (i * 4 + j) := by simp [f4]; omega
      rw [e, List.set_append_right _ _ (by omega), Nat.add_sub_cancel_left]
def FB (w : World) (base : Nat) : List FE → List Msg → Prop
  | [], [] => True
  | x :: xs, m :: ms => (x.seq = m.seq ∧ x.age = m.age ∧ x.due = m.due ∧ Body w base x.sv m.body) ∧ FB w base xs ms
  | _, _ => False
def blkF (l : List FE) : List Nat := blkS (l.map (·.sv))
theorem blkF_cons (a : FE) (b : List FE) : blkF (a :: b) = blkL a.sv.1 ++ blkF b := by unfold blkF; rw [List.map_cons, blkS_cons]
theorem blkF_append (a b : List FE) : blkF (a ++ b) = blkF a ++ blkF b := by unfold blkF; rw [List.map_append, blkS_append]
def HB (w : World) (base : Nat) : List (Nat × SV) → List (Nat × Bs) → Prop
  | [], [] => True
  | x :: xs, m :: ms => (x.1 = m.1 ∧ Body w base x.2 m.2) ∧ HB w base xs ms
  | _, _ => False
def blkH (l : List (Nat × SV)) : List Nat := blkS (l.map (·.2))
theorem blkH_cons (a : Nat × SV) (b : List (Nat × SV)) : blkH (a :: b) = blkL a.2.1 ++ blkH b := by unfold blkH; rw [List.map_cons, blkS_cons]
theorem blkH_append (a b : List (Nat × SV)) : blkH (a ++ b) = blkH a ++ blkH b := by unfold blkH; rw [List.map_append, blkS_append]
section
variable {w w' : World} {base : Nat}
theorem FB.mod {S : List Nat} : ∀ {xs : List FE} {ls : List Msg}, FB w base xs ls → Eng.Mod S w w' → (∀ b ∈ blkF xs, b ∉ S) → FB w' base xs ls
  | [], [], _, _, _ => trivial
  | x :: xs, l :: ls, h, hm, hS => ⟨⟨h.1.1, h.1.2.1, h.1.2.2.1, h.1.2.2.2.mod hm (fun b hb => hS b (by rw [blkF_cons]; exact List.mem_append_left _ hb))⟩, FB.mod h.2 hm (fun b hb => hS b (by rw [blkF_cons]; exact List.mem_append_right _ hb))⟩
  | [], _ :: _, h, _, _ => h.elim
  | _ :: _, [], h, _, _ => h.elim
theorem FB.len : ∀ {xs : List FE} {ls : List Msg}, FB w base xs ls → xs.length = ls.length
  | [], [], _ => rfl
  | x :: xs, l :: ls, h => by simp [FB.len h.2]
  | [], _ :: _, h => h.elim
  | _ :: _, [], h => h.elim
theorem FB.append : ∀ {xs ys : List FE} {ls ms : List Msg}, FB w base xs ls → FB w base ys ms → FB w base (xs ++ ys) (ls ++ ms)
  | [], ys, [], ms, _, g => g
  | x :: xs, ys, l :: ls, ms, h, g => ⟨h.1, FB.append h.2 g⟩
  | [], _, _ :: _, _, h, _ => h.elim
  | _ :: _, _, [], _, h, _ => h.elim
theorem FB.lt : ∀ {xs : List FE} {ls : List Msg}, FB w base xs ls → ∀ b ∈ blkF xs, base ≤ b ∧ b < w.heap.size
  | [], [], _, b, hb => by simp [blkF] at hb
  | x :: xs, l :: ls, h, b, hb => by
    rw [blkF_cons, List.mem_append] at hb
    rcases hb with hb | hb
    · exact h.1.2.2.2.lt b hb
    · exact FB.lt h.2 b hb
  | [], _ :: _, h, _, _ => h.elim
  | _ :: _, [], h, _, _ => h.elim
theorem FB.get : ∀ {xs : List FE} {ls : List Msg} (i : Nat), FB w base xs ls → i < xs.length → (xs.getD i fe0).seq = (ls.getD i m0).seq ∧ (xs.getD i fe0).age = (ls.getD i m0).age ∧ (xs.getD i fe0).due = (ls.getD i m0).due ∧ Body w base (xs.getD i fe0).sv (ls.getD i m0).body
  | x :: xs, l :: ls, 0, h, _ => h.1
  | x :: xs, l :: ls, i + 1, h, hi => by simpa using FB.get i h.2 (by simpa using hi)
  | [], _, _, _, hi => by simp at hi
  | _ :: _, [], _, h, _ => h.elim
theorem FB.set : ∀ {xs : List FE} {ls : List Msg} (i : Nat) (x : FE) (m : Msg), FB w base xs ls → i < xs.length → x.sv = (xs.getD i fe0).sv → m.body = (ls.getD i m0).body → x.seq = m.seq → x.age = m.age → x.due = m.due → FB w base (xs.set i x) (ls.set i m)
  | y :: xs, l :: ls, 0, x, m, h, _, e1, e2, e3, e4, e5 => ⟨⟨e3, e4, e5, by rw [e1, e2]; exact h.1.2.2.2⟩, h.2⟩
  | y :: xs, l :: ls, i + 1, x, m, h, hi, e1, e2, e3, e4, e5 => ⟨h.1, FB.set i x m h.2 (by simpa using hi) (by simpa using e1) (by simpa using e2) e3 e4 e5⟩
  | [], _, _, _, _, _, hi, _, _, _, _, _ => by simp at hi
  | _ :: _, [], _, _, _, h, _, _, _, _, _, _ => h.elim
theorem FB.filter (p : Nat → Bool) : ∀ {xs : List FE} {ls : List Msg}, FB w base xs ls → FB w base (xs.filter fun x => p x.seq) (ls.filter fun x => p x.seq)
  | [], [], _ => trivial
  | x :: xs, l :: ls, h => by
    have e := h.1.1
    rw [List.filter_cons, List.filter_cons, e]
    split
    · exact ⟨h.1, FB.filter p h.2⟩
    · exact FB.filter p h.2
  | [], _ :: _, h => h.elim
  | _ :: _, [], h => h.elim
theorem HB.mod {S : List Nat} : ∀ {xs : List (Nat × SV)} {ls : List (Nat × Bs)}, HB w base xs ls → Eng.Mod S w w' → (∀ b ∈ blkH xs, b ∉ S) → HB w' base xs ls
  | [], [], _, _, _ => trivial
  | x :: xs, l :: ls, h, hm, hS => ⟨⟨h.1.1, h.1.2.mod hm (fun b hb => hS b (by rw [blkH_cons]; exact List.mem_append_left _ hb))⟩, HB.mod h.2 hm (fun b hb => hS b (by rw [blkH_cons]; exact List.mem_append_right _ hb))⟩
  | [], _ :: _, h, _, _ => h.elim
  | _ :: _, [], h, _, _ => h.elim
theorem HB.len : ∀ {xs : List (Nat × SV)} {ls : List (Nat × Bs)}, HB w base xs ls → xs.length = ls.length
  | [], [], _ => rfl
  | x :: xs, l :: ls, h => by simp [HB.len h.2]
  | [], _ :: _, h => h.elim
  | _ :: _, [], h => h.elim
theorem HB.lt : ∀ {xs : List (Nat × SV)} {ls : List (Nat × Bs)}, HB w base xs ls → ∀ b ∈ blkH xs, base ≤ b ∧ b < w.heap.size
  | [], [], _, b, hb => by simp [blkH] at hb
  | x :: xs, l :: ls, h, b, hb => by
    rw [blkH_cons, List.mem_append] at hb
    rcases hb with hb | hb
    · exact h.1.2.lt b hb
    · exact HB.lt h.2 b hb
  | [], _ :: _, h, _, _ => h.elim
  | _ :: _, [], h, _, _ => h.elim
theorem HB.none : ∀ {xs : List (Nat × SV)} {ls : List (Nat × Bs)} (k : Nat), HB w base xs ls → mget ls k = none → mget xs k = none
  | [], [], _, _, _ => rfl
  | x :: xs, l :: ls, k, h, g => by
    unfold mget at g ⊢
    rw [h.1.1]
    by_cases e : l.1 = k
    · rw [if_pos e] at g; cases g
    · rw [if_neg e] at g ⊢
      exact HB.none k h.2 g
  | [], _ :: _, _, h, _ => h.elim
  | _ :: _, [], _, h, _ => h.elim
theorem HB.some : ∀ {xs : List (Nat × SV)} {ls : List (Nat × Bs)} (k : Nat) (b : Bs), HB w base xs ls → mget ls k = some b → ∃ x, mget xs k = some x ∧ Body w base x b ∧ HB w base (mdel xs k) (mdel ls k) ∧ (blkH xs).Perm (blkL x.1 ++ blkH (mdel xs k))
  | [], [], _, _, _, g => by cases g
  | x :: xs, l :: ls, k, b, h, g => by
    unfold mget at g
    by_cases e : l.1 = k
    · rw [if_pos e] at g
      cases g
      refine ⟨x.2, by unfold mget; rw [if_pos (by rw [h.1.1, e])], h.1.2, ?_, ?_⟩
      · unfold mdel
        rw [if_pos e, if_pos (by rw [h.1.1, e])]
        exact h.2
      · rw [show mdel (x :: xs) k = xs by unfold mdel; rw [if_pos (by rw [h.1.1, e])], blkH_cons]
    · rw [if_neg e] at g
      have e' : ¬ x.1 = k := by rw [h.1.1]; exact e
      obtain ⟨y, h1, h2, h3, h4⟩ := HB.some k b h.2 g
      refine ⟨y, by unfold mget; rw [if_neg e']; exact h1, h2, ?_, ?_⟩
      · unfold mdel
        rw [if_neg e, if_neg e']
        exact ⟨h.1, h3⟩
      · rw [show mdel (x :: xs) k = x :: mdel xs k by simp [mdel, e'], blkH_cons, blkH_cons]
        refine (h4.append_left (blkL x.2.1)).trans ?_
        rw [← List.append_assoc, ← List.append_assoc]
        exact List.perm_append_comm.append_right _
  | [], _ :: _, _, _, h, _ => h.elim
  | _ :: _, [], _, _, h, _ => h.elim
theorem mput_new {α : Type} : ∀ (xs : List (Nat × α)) (k : Nat) (v : α), mget xs k = none → mput xs k v = xs ++ [(k, v)]
  | [], _, _, _ => rfl
  | x :: xs, k, v, g => by
    unfold mget at g
    by_cases e : x.1 = k
    · rw [if_pos e] at g; cases g
    · rw [if_neg e] at g
      unfold mput
      rw [if_neg e, mput_new xs k v g]
      rfl
theorem HB.snoc {x : SV} {b : Bs} {k : Nat} : ∀ {xs : List (Nat × SV)} {ls : List (Nat × Bs)}, HB w base xs ls → Body w base x b → HB w base (xs ++ [(k, x)]) (ls ++ [(k, b)])
  | [], [], _, g => ⟨⟨rfl, g⟩, trivial⟩
  | y :: xs, l :: ls, h, g => ⟨h.1, HB.snoc h.2 g⟩
  | [], _ :: _, h, _ => h.elim
  | _ :: _, [], h, _ => h.elim
end
abbrev kU : Nat → Value := fun n => .int .u64 (n : Int)
theorem keys_u64 : Keys (.int .u64) kU := ⟨fun _ => rfl, fun a b h => by have := Value.int.inj h; omega⟩
structure EM where
  un : SV
  ul : List SV
  fl : SV
  fm : List FE
  hb : Nat
  hm : List (Nat × SV)
  co : SV
  cl : List SV
def EM.bods (m : EM) : List Nat := blkS m.ul ++ (blkF m.fm ++ (blkH m.hm ++ blkS m.cl))
/-- A row of rows of bytes. -/
def RowP (w : World) (base : Nat) (s : SV) (l : List SV) (bs : List Bs) : Prop := Seg w base 23 1 s.1 s.2.1 s.2.2 (slVs l) ∧ Bods w base l bs
def FlP (w : World) (base : Nat) (s : SV) (l : List FE) (ms : List Msg) : Prop := Own w base 118 4 s.1 s.2.1 s.2.2 (fv l) ∧ FB w base l ms
def HeP (w : World) (base : Nat) (b : Nat) (l : List (Nat × SV)) (hs : List (Nat × Bs)) : Prop := Mp w (.int .u64) b kU slV l ∧ HB w base l hs
structure Kinds (base B p : Nat) (m : EM) (f : Nat → Nat) : Prop where
  kp : f p = 1
  khb : f m.hb = 2
  kun : ∀ b ∈ blkL m.un.1, f b = 3
  kfl : ∀ b ∈ blkL m.fl.1, f b = 4
  kco : ∀ b ∈ blkL m.co.1, f b = 5
  kbo : ∀ b ∈ m.bods, f b = 6
  nd : m.bods.Nodup
  old : ∀ b, f b ≠ 0 → base ≤ b ∧ b < B
def endV (m : EM) (es : ES) : List Value := [.int .i64 (es.win : Int), .int .i64 (es.pat : Int), slV m.un, slV m.fl, .int .u64 (es.next : Int), .int .u64 (es.exp : Int), .map (some m.hb), slV m.co, .bool es.owed]
/-- One end: 'f' says of each block what it is to the end; 0: nothing. -/
structure EndM (w : World) (base p : Nat) (m : EM) (f : Nat → Nat) (es : ES) : Prop where
  blk : Blk w p 113 (endV m es)
  pu : RowP w base m.un m.ul es.new
  pf : FlP w base m.fl m.fm es.fly
  ph : HeP w base m.hb m.hm es.held
  pc : RowP w base m.co m.cl es.come
  ki : Kinds base w.heap.size p m f
section
variable {w w' : World} {base : Nat} {S : List Nat}
theorem RowP.mod {s : SV} {l : List SV} {bs : List Bs} (h : RowP w base s l bs) (hm : Eng.Mod S w w') (h1 : ∀ b ∈ blkL s.1, b ∉ S) (h2 : ∀ b ∈ blkS l, b ∉ S) : RowP w' base s l bs := ⟨h.1.mod hm (off_of h1), h.2.mod hm h2⟩
theorem FlP.mod {s : SV} {l : List FE} {bs : List Msg} (h : FlP w base s l bs) (hm : Eng.Mod S w w') (h1 : ∀ b ∈ blkL s.1, b ∉ S) (h2 : ∀ b ∈ blkF l, b ∉ S) : FlP w' base s l bs := ⟨h.1.mod hm (off_of h1), h.2.mod hm h2⟩
theorem HeP.mod {b : Nat} {l : List (Nat × SV)} {bs : List (Nat × Bs)} (h : HeP w base b l bs) (hm : Eng.Mod S w w') (h1 : b ∉ S) (h2 : ∀ b ∈ blkH l, b ∉ S) : HeP w' base b l bs := ⟨h.1.mod hm h1, h.2.mod hm h2⟩
variable {p : Nat} {m : EM} {f : Nat → Nat} {es : ES}
theorem Kinds.un6 {B : Nat} (k : Kinds base B p m f) : ∀ b ∈ blkS m.ul, f b = 6 := fun b hb => k.kbo b (by unfold EM.bods; exact List.mem_append_left _ hb)
theorem Kinds.fl6 {B : Nat} (k : Kinds base B p m f) : ∀ b ∈ blkF m.fm, f b = 6 := fun b hb => k.kbo b (by unfold EM.bods; exact List.mem_append_right _ (List.mem_append_left _ hb))
theorem Kinds.he6 {B : Nat} (k : Kinds base B p m f) : ∀ b ∈ blkH m.hm, f b = 6 := fun b hb => k.kbo b (by unfold EM.bods; exact List.mem_append_right _ (List.mem_append_right _ (List.mem_append_left _ hb)))
theorem Kinds.co6 {B : Nat} (k : Kinds base B p m f) : ∀ b ∈ blkS m.cl, f b = 6 := fun b hb => k.kbo b (by unfold EM.bods; exact List.mem_append_right _ (List.mem_append_right _ (List.mem_append_right _ hb)))
theorem nin_of {k : Nat} {L : List Nat} (hL : ∀ b ∈ L, f b = k) (hS : ∀ b ∈ S, f b ≠ k) : ∀ b ∈ L, b ∉ S := fun b hb hq => hS b hq (hL b hb)
theorem EndM.pu_mod (h : EndM w base p m f es) (hm : Eng.Mod S w w') (h3 : ∀ b ∈ S, f b ≠ 3) (h6 : ∀ b ∈ S, f b ≠ 6) : RowP w' base m.un m.ul es.new := h.pu.mod hm (nin_of h.ki.kun h3) (nin_of h.ki.un6 h6)
theorem EndM.pf_mod (h : EndM w base p m f es) (hm : Eng.Mod S w w') (h3 : ∀ b ∈ S, f b ≠ 4) (h6 : ∀ b ∈ S, f b ≠ 6) : FlP w' base m.fl m.fm es.fly := h.pf.mod hm (nin_of h.ki.kfl h3) (nin_of h.ki.fl6 h6)
theorem EndM.ph_mod (h : EndM w base p m f es) (hm : Eng.Mod S w w') (h3 : ∀ b ∈ S, f b ≠ 2) (h6 : ∀ b ∈ S, f b ≠ 6) : HeP w' base m.hb m.hm es.held := h.ph.mod hm (fun hq => h3 _ hq h.ki.khb) (nin_of h.ki.he6 h6)
theorem EndM.pc_mod (h : EndM w base p m f es) (hm : Eng.Mod S w w') (h3 : ∀ b ∈ S, f b ≠ 5) (h6 : ∀ b ∈ S, f b ≠ 6) : RowP w' base m.co m.cl es.come := h.pc.mod hm (nin_of h.ki.kco h3) (nin_of h.ki.co6 h6)
theorem Kinds.mono {B B' : Nat} (k : Kinds base B p m f) (h : B ≤ B') : Kinds base B' p m f := { k with old := fun b hb => ⟨(k.old b hb).1, Nat.lt_of_lt_of_le (k.old b hb).2 h⟩ }
theorem EndM.mod (h : EndM w base p m f es) (hm : Eng.Mod S w w') (hS : ∀ b ∈ S, f b = 0) : EndM w' base p m f es :=
  ⟨h.blk.mod hm (fun hq => by have := hS _ hq; rw [h.ki.kp] at this; cases this), h.pu_mod hm (fun b hb => by rw [hS b hb]; decide) (fun b hb => by rw [hS b hb]; decide), h.pf_mod hm (fun b hb => by rw [hS b hb]; decide) (fun b hb => by rw [hS b hb]; decide), h.ph_mod hm (fun b hb => by rw [hS b hb]; decide) (fun b hb => by rw [hS b hb]; decide), h.pc_mod hm (fun b hb => by rw [hS b hb]; decide) (fun b hb => by rw [hS b hb]; decide), h.ki.mono hm.size⟩
theorem EndM.ext (h : EndM w base p m f es) (hm : Ext w w') : EndM w' base p m f es := h.mod hm (fun b hb => by cases hb)
end
/-- Only what is the end's own is turned; what is new to it is new. -/
def Turns (f f' : Nat → Nat) (w w' : World) : Prop := (∃ S, Eng.Mod S w w' ∧ ∀ b ∈ S, f b ≠ 0) ∧ (∀ b, f' b ≠ 0 → f b ≠ 0 ∨ w.heap.size ≤ b) ∧ w.heap.size ≤ w'.heap.size
theorem Turns.refl (f : Nat → Nat) (w : World) : Turns f f w w := ⟨⟨[], Mod.refl _ _, fun b hb => by cases hb⟩, fun b hb => .inl hb, Nat.le_refl _⟩
theorem Turns.ext {f : Nat → Nat} {w w' : World} (e : Ext w w') : Turns f f w w' := ⟨⟨[], e, fun b hb => by cases hb⟩, fun b hb => .inl hb, e.size⟩
theorem Turns.trans {f g k : Nat → Nat} {a b c : World} (h1 : Turns f g a b) (h2 : Turns g k b c) (hf : ∀ x, f x ≠ 0 → x < a.heap.size) : Turns f k a c := by
  obtain ⟨⟨S, m1, s1⟩, n1, z1⟩ := h1
  obtain ⟨⟨S', m2, s2⟩, n2, z2⟩ := h2
  refine ⟨⟨S ++ S'.filter (fun x => decide (x < a.heap.size)), ?_, ?_⟩, ?_, Nat.le_trans z1 z2⟩
  · refine Mod.step (m1.mono (fun x hx => .inl (List.mem_append_left _ hx))) m2 (fun x hx => ?_)
    by_cases q : x < a.heap.size
    · exact .inl (List.mem_append_right _ (List.mem_filter.2 ⟨hx, by simpa using q⟩))
    · exact .inr (by omega)
  · intro x hx
    rcases List.mem_append.1 hx with hx | hx
    · exact s1 x hx
    · obtain ⟨q1, q2⟩ := List.mem_filter.1 hx
      simp only [decide_eq_true_eq] at q2
      rcases n1 x (s2 x q1) with h | h
      · exact h
      · omega
  · intro x hx
    rcases n2 x hx with h | h
    · exact n1 x h
    · exact .inr (by omega)
end Go.Proofs.Ytjjgojgahibpgaa

/- How one end's memory goes on. -/
namespace Go.Proofs.Ytjjgojgahibpgaa
open Go.RowKit Go.Proofs.Eng Go.Proofs.Codec Go.Proofs.Link
set_option linter.unusedSimpArgs false
set_option linter.unusedVariables false set_option maxRecDepth 10000
attribute [local irreducible] T TL LV TH TA
def updF (f : Nat → Nat) (L : List Nat) (k : Nat) : Nat → Nat := fun b => if b ∈ L then k else f b
theorem updF_in {f : Nat → Nat} {L : List Nat} {k b : Nat} (h : b ∈ L) : updF f L k b = k := if_pos h
theorem updF_out {f : Nat → Nat} {L : List Nat} {k b : Nat} (h : b ∉ L) : updF f L k b = f b := if_neg h
section
variable {w w' : World} {base B p : Nat} {m : EM} {f : Nat → Nat} {es : ES}
theorem Kinds.keep (h : Kinds base B p m f) {L : List Nat} {k : Nat} (hL : ∀ b ∈ L, f b = k ∨ B ≤ b) {b j : Nat} (hb : f b = j) (hj : j ≠ 0) : updF f L k b = j := by
  by_cases q : b ∈ L
  · rw [updF_in q]
    rcases hL b q with h1 | h1
    · omega
    · have := (h.old b (by omega)).2; omega
  · rw [updF_out q, hb]
theorem updF_nz {L : List Nat} {k : Nat} (hk : k ≠ 0) (hL : ∀ b ∈ L, f b = k ∨ B ≤ b) {b : Nat} (hb : updF f L k b ≠ 0) : f b ≠ 0 ∨ B ≤ b := by
  by_cases q : b ∈ L
  · rcases hL b q with h1 | h1
    · left; omega
    · exact .inr h1
  · rw [updF_out q] at hb; exact .inl hb
/-- Kinds when one more list of blocks is k's. -/
theorem Kinds.upd (h : Kinds base B p m f) {L : List Nat} {k : Nat} (hk : k ≠ 0) (hL : ∀ b ∈ L, f b = k ∨ B ≤ b) {B' : Nat} (hB : B ≤ B') (hl : ∀ b ∈ L, base ≤ b ∧ b < B') : Kinds base B' p m (updF f L k) :=
  { kp := h.keep hL h.kp (by decide), khb := h.keep hL h.khb (by decide), kun := fun b hb => h.keep hL (h.kun b hb) (by decide), kfl := fun b hb => h.keep hL (h.kfl b hb) (by decide), kco := fun b hb => h.keep hL (h.kco b hb) (by decide), kbo := fun b hb => h.keep hL (h.kbo b hb) (by decide), nd := h.nd,
    old := fun b hb => by
      by_cases q : b ∈ L
      · exact hl b q
      · rw [updF_out q] at hb
        exact ⟨(h.old b hb).1, Nat.lt_of_lt_of_le (h.old b hb).2 hB⟩ }
theorem Kinds.upd_turn {L : List Nat} {k : Nat} (hk : k ≠ 0) (hL : ∀ b ∈ L, f b = k ∨ w.heap.size ≤ b) {S : List Nat} (hm : Eng.Mod S w w') (hS : ∀ b ∈ S, f b ≠ 0) : Turns f (updF f L k) w w' := ⟨⟨S, hm, hS⟩, fun b hb => updF_nz hk hL hb, hm.size⟩
theorem perm_mid (a b c : List Nat) : (a ++ (b ++ c)).Perm (b ++ (a ++ c)) := by
  rw [← List.append_assoc, ← List.append_assoc]
  exact List.perm_append_comm.append_right _
theorem bods_un (m : EM) (x : SV) (ul : List SV) (h : ul = m.ul ++ [x]) (un : SV) : (EM.bods { m with un := un, ul := ul }).Perm (blkL x.1 ++ m.bods) := by
  subst h
  unfold EM.bods
  simp only [blkS_append, blkS_cons, blkS_nil, List.append_nil]
  rw [List.append_assoc]
  exact perm_mid _ _ _
theorem perm_mem {l l' : List Nat} (h : l.Perm l') {b : Nat} (hb : b ∈ l) : b ∈ l' := h.mem_iff.1 hb
/-- Something is sent. -/
theorem EndM.send (h : EndM w base p m f es) {un' x : SV} {l : Bs} (hm : Eng.Mod (p :: blkL m.un.1) w w') (hb : Blk w' p 113 (endV { m with un := un' } es))
    (hr : RowP w' base un' (m.ul ++ [x]) (es.new ++ [l])) (hu : ∀ b ∈ blkL un'.1, b ∈ blkL m.un.1 ∨ w.heap.size ≤ b) (hx : ∀ b ∈ blkL x.1, w.heap.size ≤ b) (hux : ∀ b ∈ blkL x.1, b ∉ blkL un'.1) :
    ∃ m' f', EndM w' base p m' f' { es with new := es.new ++ [l] } ∧ Turns f f' w w' := by
  have k := h.ki
  have hL : ∀ b ∈ blkL un'.1, f b = 3 ∨ w.heap.size ≤ b := fun b q => (hu b q).imp (k.kun b) id
  have hS : ∀ b ∈ p :: blkL m.un.1, f b = 1 ∨ f b = 3 := fun b q => by
    rcases List.mem_cons.1 q with rfl | q
    · exact .inl k.kp
    · exact .inr (k.kun b q)
  have hS' : ∀ j, j ≠ 1 → j ≠ 3 → ∀ b ∈ p :: blkL m.un.1, f b ≠ j := fun j a1 a2 b q => by rcases hS b q with h | h <;> omega
  have hul : ∀ b ∈ blkL un'.1, base ≤ b ∧ b < w'.heap.size := fun b q => ⟨Hi.blk hr.1.hi b q, Lo.blk hr.1.lo b q⟩
  have hxl : ∀ b ∈ blkL x.1, base ≤ b ∧ b < w'.heap.size := fun b q => hr.2.lt b (by rw [blkS_append, blkS_cons]; exact List.mem_append_right _ (List.mem_append_left _ q))
  have k1 := k.upd (k := 3) (by decide) hL hm.size hul
  have hX : ∀ b ∈ blkL x.1, updF f (blkL un'.1) 3 b = 6 ∨ w.heap.size ≤ b := fun b q => .inr (hx b q)
  have hf0 : ∀ b, w.heap.size ≤ b → f b = 0 := fun b q => by
    by_cases z : f b = 0
    · exact z
    · have := (k.old b z).2; omega
  have keep : ∀ b j, f b = j → j ≠ 0 → updF (updF f (blkL un'.1) 3) (blkL x.1) 6 b = j := fun b j q z => by
    have h1 := k.keep hL q z
    by_cases y : b ∈ blkL x.1
    · have := hf0 b (hx b y); omega
    · rw [updF_out y, h1]
  refine ⟨{ m with un := un', ul := m.ul ++ [x] }, updF (updF f (blkL un'.1) 3) (blkL x.1) 6, ⟨hb, hr, h.pf_mod hm (hS' 4 (by decide) (by decide)) (hS' 6 (by decide) (by decide)), h.ph_mod hm (hS' 2 (by decide) (by decide)) (hS' 6 (by decide) (by decide)), h.pc_mod hm (hS' 5 (by decide) (by decide)) (hS' 6 (by decide) (by decide)), ?_⟩, ?_⟩
  · have hp := bods_un m x _ rfl un'
    refine { kp := keep _ _ k.kp (by decide), khb := keep _ _ k.khb (by decide), kun := fun b q => ?_, kfl := fun b q => keep _ _ (k.kfl b q) (by decide), kco := fun b q => keep _ _ (k.kco b q) (by decide), kbo := fun b q => ?_, nd := ?_, old := fun b q => ?_ }
    · rw [updF_out (fun y => hux b y q), updF_in q]
    · rcases List.mem_append.1 (perm_mem hp q) with y | y
      · exact updF_in y
      · exact keep _ _ (k.kbo b y) (by decide)
    · rw [hp.nodup_iff, List.nodup_append]
      refine ⟨blkL_nodup _, k.nd, fun a ha b hb => ?_⟩
      have h1 := hx a ha
      have h2 := (k.old b (by rw [k.kbo b hb]; decide)).2
      omega
    · by_cases y : b ∈ blkL x.1
      · exact hxl b y
      · rw [updF_out y] at q
        exact k1.old b q
  · refine ⟨⟨_, hm, fun b q => by rcases hS b q with h | h <;> omega⟩, fun b q => ?_, hm.size⟩
    by_cases y : b ∈ blkL x.1
    · exact .inr (hx b y)
    · rw [updF_out y] at q
      exact updF_nz (by decide) hL q
/-- Only the end's own cells turn: its numbers. -/
theorem EndM.nums (h : EndM w base p m f es) {es' : ES} (hm : Eng.Mod [p] w w') (hb : Blk w' p 113 (endV m es')) (h1 : es'.new = es.new) (h2 : es'.fly = es.fly) (h3 : es'.held = es.held) (h4 : es'.come = es.come) :
    EndM w' base p m f es' ∧ Turns f f w w' := by
  have k := h.ki
  have hS : ∀ j, j ≠ 1 → ∀ b ∈ [p], f b ≠ j := fun j a b q => by rw [List.mem_singleton.1 q, k.kp]; exact fun e => a e.symm
  exact ⟨⟨hb, h1 ▸ h.pu_mod hm (hS 3 (by decide)) (hS 6 (by decide)), h2 ▸ h.pf_mod hm (hS 4 (by decide)) (hS 6 (by decide)), h3 ▸ h.ph_mod hm (hS 2 (by decide)) (hS 6 (by decide)), h4 ▸ h.pc_mod hm (hS 5 (by decide)) (hS 6 (by decide)), k.mono hm.size⟩, ⟨⟨_, hm, hS 0 (by decide)⟩, fun b q => .inl q, hm.size⟩⟩
/-- What flies turns, in place. -/
theorem EndM.flies (h : EndM w base p m f es) {fm' : List FE} {fly' : List Msg} (hm : Eng.Mod (blkL m.fl.1) w w') (hr : FlP w' base m.fl fm' fly') (hs : fm'.map (·.sv) = m.fm.map (·.sv)) :
    EndM w' base p { m with fm := fm' } f { es with fly := fly' } ∧ Turns f f w w' := by
  have k := h.ki
  have hS : ∀ j, j ≠ 4 → ∀ b ∈ blkL m.fl.1, f b ≠ j := fun j a b q => by rw [k.kfl b q]; exact fun e => a e.symm
  have hbl : blkF fm' = blkF m.fm := by unfold blkF; rw [hs]
  have hbo : EM.bods { m with fm := fm' } = m.bods := by unfold EM.bods; rw [hbl]
  refine ⟨⟨h.blk.mod hm (fun q => hS 1 (by decide) p q k.kp), h.pu_mod hm (hS 3 (by decide)) (hS 6 (by decide)), hr, h.ph_mod hm (hS 2 (by decide)) (hS 6 (by decide)), h.pc_mod hm (hS 5 (by decide)) (hS 6 (by decide)), ?_⟩, ⟨⟨_, hm, hS 0 (by decide)⟩, fun b q => .inl q, hm.size⟩⟩
  have k' := k.mono hm.size
  exact { kp := k'.kp, khb := k'.khb, kun := k'.kun, kfl := k'.kfl, kco := k'.kco, kbo := by rw [hbo]; exact k'.kbo, nd := by rw [hbo]; exact k'.nd, old := k'.old }
/-- Some of what flies is gone. -/
theorem EndM.acked (h : EndM w base p m f es) {fm' : List FE} {fly' : List Msg} {n' : Nat} (hm : Eng.Mod (p :: blkL m.fl.1) w w') (hb : Blk w' p 113 (endV { m with fl := (m.fl.1, n', m.fl.2.2) } es)) (hr : FlP w' base (m.fl.1, n', m.fl.2.2) fm' fly') (hs : (blkF fm').Sublist (blkF m.fm)) :
    EndM w' base p { m with fl := (m.fl.1, n', m.fl.2.2), fm := fm' } f { es with fly := fly' } ∧ Turns f f w w' := by
  have k := h.ki
  have hS0 : ∀ b ∈ p :: blkL m.fl.1, f b = 1 ∨ f b = 4 := fun b q => by
    rcases List.mem_cons.1 q with rfl | q
    · exact .inl k.kp
    · exact .inr (k.kfl b q)
  have hS : ∀ j, j ≠ 1 → j ≠ 4 → ∀ b ∈ p :: blkL m.fl.1, f b ≠ j := fun j a1 a2 b q => by rcases hS0 b q with h | h <;> omega
  refine ⟨⟨hb, h.pu_mod hm (hS 3 (by decide) (by decide)) (hS 6 (by decide) (by decide)), hr, h.ph_mod hm (hS 2 (by decide) (by decide)) (hS 6 (by decide) (by decide)), h.pc_mod hm (hS 5 (by decide) (by decide)) (hS 6 (by decide) (by decide)), ?_⟩, ⟨⟨_, hm, hS 0 (by decide) (by decide)⟩, fun b q => .inl q, hm.size⟩⟩
  have k' := k.mono hm.size
  have hsub : (EM.bods { m with fl := (m.fl.1, n', m.fl.2.2), fm := fm' }).Sublist m.bods := by
    unfold EM.bods
    exact (List.Sublist.refl _).append (hs.append (List.Sublist.refl _))
  exact { kp := k'.kp, khb := k'.khb, kun := k'.kun, kfl := k'.kfl, kco := k'.kco, kbo := fun b q => k'.kbo b (hsub.subset q), nd := hsub.nodup k'.nd, old := k'.old }
/-- A message gets its number and flies. -/
theorem EndM.fill (h : EndM w base p m f es) {x : SV} {t : List SV} {b0 : Bs} {bt : List Bs} (hul : m.ul = x :: t) (hnew : es.new = b0 :: bt) {fl' : SV} (hm : Eng.Mod (p :: blkL m.fl.1) w w')
    (hb : Blk w' p 113 (endV { m with fl := fl', un := (cutA m.un.1 m.un.2.2 1 1, m.un.2.1 - 1, m.un.2.2 - 1) } { es with next := es.next + 1 }))
    (hr : Own w' base 118 4 fl'.1 fl'.2.1 fl'.2.2 (fv (m.fm ++ [⟨es.next, x, 0, true⟩]))) (hu : ∀ b ∈ blkL fl'.1, b ∈ blkL m.fl.1 ∨ w.heap.size ≤ b) :
    ∃ m' f', EndM w' base p m' f' { es with fly := es.fly ++ [⟨es.next, b0, 0, true⟩], new := bt, next := es.next + 1 } ∧ Turns f f' w w' := by
  have k := h.ki
  have hL : ∀ b ∈ blkL fl'.1, f b = 4 ∨ w.heap.size ≤ b := fun b q => (hu b q).imp (k.kfl b) id
  have hS0 : ∀ b ∈ p :: blkL m.fl.1, f b = 1 ∨ f b = 4 := fun b q => by
    rcases List.mem_cons.1 q with rfl | q
    · exact .inl k.kp
    · exact .inr (k.kfl b q)
  have hS : ∀ j, j ≠ 1 → j ≠ 4 → ∀ b ∈ p :: blkL m.fl.1, f b ≠ j := fun j a1 a2 b q => by rcases hS0 b q with h | h <;> omega
  have hul' : ∀ b ∈ blkL fl'.1, base ≤ b ∧ b < w'.heap.size := fun b q => ⟨Hi.blk hr.hi b q, Lo.blk hr.lo b q⟩
  have k1 := k.upd (k := 4) (by decide) hL hm.size hul'
  have pu := h.pu_mod hm (hS 3 (by decide) (by decide)) (hS 6 (by decide) (by decide))
  have pf := h.pf.2.mod hm (nin_of k.fl6 (hS 6 (by decide) (by decide)))
  rw [hul, hnew] at pu
  have hlen : m.un.2.1 = t.length + 1 := by have := pu.1.len; simpa using this.symm
  have hcut := pu.1.cut (l := 1) (by omega)
  refine ⟨{ m with un := (cutA m.un.1 m.un.2.2 1 1, m.un.2.1 - 1, m.un.2.2 - 1), ul := t, fl := fl', fm := m.fm ++ [⟨es.next, x, 0, true⟩] }, updF f (blkL fl'.1) 4, ⟨hb, ⟨by simpa [slVs] using hcut, pu.2.2⟩, ⟨hr, pf.append ⟨⟨rfl, rfl, rfl, pu.2.1⟩, trivial⟩⟩, h.ph_mod hm (hS 2 (by decide) (by decide)) (hS 6 (by decide) (by decide)), h.pc_mod hm (hS 5 (by decide) (by decide)) (hS 6 (by decide) (by decide)), ?_⟩, Kinds.upd_turn (by decide) hL hm (hS 0 (by decide) (by decide))⟩
  have hp : (EM.bods { m with un := (cutA m.un.1 m.un.2.2 1 1, m.un.2.1 - 1, m.un.2.2 - 1), ul := t, fl := fl', fm := m.fm ++ [⟨es.next, x, 0, true⟩] }).Perm m.bods := by
    unfold EM.bods
    simp only [hul, blkF_append, blkS_cons]
    rw [show blkF [(⟨es.next, x, 0, true⟩ : FE)] = blkL x.1 by simp [blkF, blkS]]
    have e1 : (blkF m.fm ++ blkL x.1 ++ (blkH m.hm ++ blkS m.cl)).Perm (blkL x.1 ++ (blkF m.fm ++ (blkH m.hm ++ blkS m.cl))) := by
      rw [List.append_assoc]
      exact perm_mid _ _ _
    refine (e1.append_left _).trans ?_
    rw [← List.append_assoc, ← List.append_assoc, ← List.append_assoc, ← List.append_assoc, ← List.append_assoc]
    refine List.Perm.append_right _ (List.Perm.append_right _ (List.Perm.append_right _ ?_))
    exact List.perm_append_comm
  exact { kp := k1.kp, khb := k1.khb, kun := fun b q => k1.kun b (blkL_cut b q), kfl := fun b q => updF_in q, kco := k1.kco, kbo := fun b q => k1.kbo b (perm_mem hp q), nd := hp.nodup_iff.2 k.nd, old := k1.old }
/-- The first that came is told. -/
theorem EndM.next (h : EndM w base p m f es) {x : SV} {t : List SV} {b0 : Bs} {bt : List Bs} (hcl : m.cl = x :: t) (hcome : es.come = b0 :: bt) (hm : Eng.Mod [p] w w')
    (hb : Blk w' p 113 (endV { m with co := (cutA m.co.1 m.co.2.2 1 1, m.co.2.1 - 1, m.co.2.2 - 1) } es)) :
    ∃ m' f', EndM w' base p m' f' { es with come := bt } ∧ Turns f f' w w' ∧ Body w' base x b0 ∧ (∀ b ∈ blkL x.1, f' b = 0) ∧ ∀ b ∈ blkL x.1, f b = 6 := by
  have k := h.ki
  have hS : ∀ j, j ≠ 1 → ∀ b ∈ [p], f b ≠ j := fun j a b q => by rw [List.mem_singleton.1 q, k.kp]; exact fun e => a e.symm
  have pc := h.pc_mod hm (hS 5 (by decide)) (hS 6 (by decide))
  rw [hcl, hcome] at pc
  have hlen : m.co.2.1 = t.length + 1 := by have := pc.1.len; simpa using this.symm
  have hcut := pc.1.cut (l := 1) (by omega)
  have hp : m.bods.Perm (blkL x.1 ++ EM.bods { m with co := (cutA m.co.1 m.co.2.2 1 1, m.co.2.1 - 1, m.co.2.2 - 1), cl := t }) := by
    unfold EM.bods
    simp only [hcl, blkS_cons]
    rw [← List.append_assoc, ← List.append_assoc, ← List.append_assoc, ← List.append_assoc, ← List.append_assoc, ← List.append_assoc]
    refine List.Perm.append_right _ ?_
    refine List.perm_append_comm.trans ?_
    simp only [List.append_assoc]
    exact List.Perm.refl _
  have hnd := hp.nodup_iff.1 k.nd
  rw [List.nodup_append] at hnd
  have kx : ∀ b ∈ blkL x.1, f b = 6 := fun b q => k.kbo b (perm_mem hp.symm (List.mem_append_left _ q))
  have hout : ∀ b j, f b = j → j ≠ 6 → updF f (blkL x.1) 0 b = j := fun b j q z => by
    rw [updF_out (fun y => z (by rw [← q, kx b y])), q]
  refine ⟨{ m with co := (cutA m.co.1 m.co.2.2 1 1, m.co.2.1 - 1, m.co.2.2 - 1), cl := t }, updF f (blkL x.1) 0, ⟨hb, h.pu_mod hm (hS 3 (by decide)) (hS 6 (by decide)), h.pf_mod hm (hS 4 (by decide)) (hS 6 (by decide)), h.ph_mod hm (hS 2 (by decide)) (hS 6 (by decide)), ⟨by simpa [slVs] using hcut, pc.2.2⟩, ?_⟩, ⟨⟨_, hm, hS 0 (by decide)⟩, fun b q => ?_, hm.size⟩, pc.2.1, fun b q => updF_in q, kx⟩
  · refine { kp := hout _ _ k.kp (by decide), khb := hout _ _ k.khb (by decide), kun := fun b q => hout _ _ (k.kun b q) (by decide), kfl := fun b q => hout _ _ (k.kfl b q) (by decide), kco := fun b q => hout _ _ (k.kco b (blkL_cut b q)) (by decide), kbo := fun b q => ?_, nd := hnd.2.1, old := fun b q => ?_ }
    · rw [updF_out (fun y => hnd.2.2 b y b q rfl)]
      exact k.kbo b (perm_mem hp.symm (List.mem_append_right _ q))
    · by_cases y : b ∈ blkL x.1
      · rw [updF_in y] at q; exact absurd rfl q
      · rw [updF_out y] at q
        exact ⟨(k.old b q).1, Nat.lt_of_lt_of_le (k.old b q).2 hm.size⟩
  · by_cases y : b ∈ blkL x.1
    · rw [updF_in y] at q; exact absurd rfl q
    · rw [updF_out y] at q; exact .inl q
/-- A message is held. -/
theorem EndM.hold (h : EndM w base p m f es) {x : SV} {l : Bs} {sq : Nat} (hn : mget es.held sq = none) (hm : Eng.Mod [m.hb] w w') (hp : Mp w' (.int .u64) m.hb kU slV (mput m.hm sq x)) (hx : Body w' base x l) (hx0 : ∀ b ∈ blkL x.1, w.heap.size ≤ b) :
    ∃ m' f', EndM w' base p m' f' { es with held := mput es.held sq l } ∧ Turns f f' w w' := by
  have k := h.ki
  have hS : ∀ j, j ≠ 2 → ∀ b ∈ [m.hb], f b ≠ j := fun j a b q => by rw [List.mem_singleton.1 q, k.khb]; exact fun e => a e.symm
  have hL : ∀ b ∈ blkL x.1, f b = 6 ∨ w.heap.size ≤ b := fun b q => .inr (hx0 b q)
  have k1 := k.upd (k := 6) (by decide) hL hm.size (fun b q => hx.lt b q)
  have e1 := mput_new m.hm sq x (HB.none sq h.ph.2 hn)
  have e2 := mput_new es.held sq l hn
  have ph := h.ph.2.mod hm (nin_of k.he6 (hS 6 (by decide)))
  rw [e1] at hp
  refine ⟨{ m with hm := m.hm ++ [(sq, x)] }, updF f (blkL x.1) 6, ⟨h.blk.mod hm (fun q => hS 1 (by decide) p q k.kp), h.pu_mod hm (hS 3 (by decide)) (hS 6 (by decide)), h.pf_mod hm (hS 4 (by decide)) (hS 6 (by decide)), ?_, h.pc_mod hm (hS 5 (by decide)) (hS 6 (by decide)), ?_⟩, Kinds.upd_turn (by decide) hL hm (hS 0 (by decide))⟩
  · show HeP w' base m.hb (m.hm ++ [(sq, x)]) (mput es.held sq l)
    rw [e2]
    exact ⟨hp, ph.snoc hx⟩
  · have hpm : (EM.bods { m with hm := m.hm ++ [(sq, x)] }).Perm (blkL x.1 ++ m.bods) := by
      unfold EM.bods
      simp only [blkH_append]
      rw [show blkH [(sq, x)] = blkL x.1 by simp [blkH, blkS]]
      have q1 : (blkH m.hm ++ blkL x.1 ++ blkS m.cl).Perm (blkL x.1 ++ (blkH m.hm ++ blkS m.cl)) := by
        rw [← List.append_assoc]
        exact List.perm_append_comm.append_right _
      refine ((q1.append_left _).append_left _).trans ?_
      simp only [← List.append_assoc]
      refine List.Perm.append_right _ (List.Perm.append_right _ ?_)
      refine List.perm_append_comm.trans ?_
      simp only [List.append_assoc]
      exact List.Perm.refl _
    refine { kp := k1.kp, khb := k1.khb, kun := k1.kun, kfl := k1.kfl, kco := k1.kco, kbo := fun b q => ?_, nd := ?_, old := k1.old }
    · rcases List.mem_append.1 (perm_mem hpm q) with y | y
      · exact updF_in y
      · exact k1.kbo b y
    · rw [hpm.nodup_iff, List.nodup_append]
      refine ⟨blkL_nodup _, k.nd, fun a ha b hb => ?_⟩
      have h1 := hx0 a ha
      have h2 := (k.old b (by rw [k.kbo b hb]; decide)).2
      omega
/-- The next one, which is held, comes. -/
theorem EndM.drain (h : EndM w base p m f es) {x : SV} {l : Bs} (hg : mget es.held es.exp = some l) (hgx : mget m.hm es.exp = some x) {co' : SV} (hm : Eng.Mod (p :: m.hb :: blkL m.co.1) w w')
    (hp : Mp w' (.int .u64) m.hb kU slV (mdel m.hm es.exp)) (hb : Blk w' p 113 (endV { m with co := co' } { es with exp := es.exp + 1 }))
    (hr : Seg w' base 23 1 co'.1 co'.2.1 co'.2.2 (slVs (m.cl ++ [x]))) (hu : ∀ b ∈ blkL co'.1, b ∈ blkL m.co.1 ∨ w.heap.size ≤ b) :
    ∃ m' f', EndM w' base p m' f' { es with held := mdel es.held es.exp, come := es.come ++ [l], exp := es.exp + 1 } ∧ Turns f f' w w' := by
  have k := h.ki
  have hL : ∀ b ∈ blkL co'.1, f b = 5 ∨ w.heap.size ≤ b := fun b q => (hu b q).imp (k.kco b) id
  have hS0 : ∀ b ∈ p :: m.hb :: blkL m.co.1, f b = 1 ∨ f b = 2 ∨ f b = 5 := fun b q => by
    rcases List.mem_cons.1 q with rfl | q
    · exact .inl k.kp
    · rcases List.mem_cons.1 q with rfl | q
      · exact .inr (.inl k.khb)
      · exact .inr (.inr (k.kco b q))
  have hS : ∀ j, j ≠ 1 → j ≠ 2 → j ≠ 5 → ∀ b ∈ p :: m.hb :: blkL m.co.1, f b ≠ j := fun j a1 a2 a3 b q => by rcases hS0 b q with h | h | h <;> omega
  have hul' : ∀ b ∈ blkL co'.1, base ≤ b ∧ b < w'.heap.size := fun b q => ⟨Hi.blk hr.hi b q, Lo.blk hr.lo b q⟩
  have k1 := k.upd (k := 5) (by decide) hL hm.size hul'
  have ph := h.ph.2.mod hm (nin_of k.he6 (hS 6 (by decide) (by decide) (by decide)))
  have pc := h.pc.2.mod hm (nin_of k.co6 (hS 6 (by decide) (by decide) (by decide)))
  obtain ⟨x', g1, g2, g3, g4⟩ := HB.some es.exp l ph hg
  rw [hgx] at g1
  cases g1
  refine ⟨{ m with hm := mdel m.hm es.exp, co := co', cl := m.cl ++ [x] }, updF f (blkL co'.1) 5, ⟨hb, h.pu_mod hm (hS 3 (by decide) (by decide) (by decide)) (hS 6 (by decide) (by decide) (by decide)), h.pf_mod hm (hS 4 (by decide) (by decide) (by decide)) (hS 6 (by decide) (by decide) (by decide)), ⟨hp, g3⟩, ⟨hr, pc.snoc g2⟩, ?_⟩, Kinds.upd_turn (by decide) hL hm (hS 0 (by decide) (by decide) (by decide))⟩
  have hpm : (EM.bods { m with hm := mdel m.hm es.exp, co := co', cl := m.cl ++ [x] }).Perm m.bods := by
    unfold EM.bods
    simp only [blkS_append, blkS_cons, blkS_nil, List.append_nil]
    refine List.Perm.append_left _ (List.Perm.append_left _ ?_)
    refine List.Perm.trans ?_ (g4.symm.append_right _)
    rw [← List.append_assoc]
    refine List.perm_append_comm.trans ?_
    rw [List.append_assoc]
  exact { kp := k1.kp, khb := k1.khb, kun := k1.kun, kfl := k1.kfl, kco := fun b q => updF_in q, kbo := fun b q => k1.kbo b (perm_mem hpm q), nd := hpm.nodup_iff.2 k.nd, old := k1.old }
end
end Go.Proofs.Ytjjgojgahibpgaa

namespace Go.Proofs.Ytjjgojgahibpgaa
open Go.RowKit Go.Proofs.Eng Go.Proofs.Codec
set_option linter.unusedSimpArgs false
set_option linter.unusedVariables false set_option maxRecDepth 10000
attribute [local irreducible] T TL LV TH TA
set_option maxHeartbeats 1000000
theorem NewReader_c (A : Option Addr) (n c : Nat) (l : List UInt8) (w : World) (h : Rd w A n 1 (bv l)) (hn : n ≤ 7036874417) :
    Ret Try.prog 91 [.slice A n c] w (fun v w' => ∃ b A' n' c', v = ptr b ∧ Ext w w' ∧ w.heap.size ≤ b ∧ Hi A' w.heap.size ∧ Lo A' w'.heap.size ∧ Rdr w' 160 b ⟨l, 0, 0, 0, 0⟩ A' n' c') := by
  refine ret_T (n := 7) Try.func91 rfl rfl ?_
  repeat (first | refine T_seq ?_ | refine T_region ?_ | refine TL_nil ?_ | refine TL_move (hk := ?_) | refine TL_assign (hk := ?_))
  refine TL_call TE (hc := Clone_c A n c l w h (by omega)) (hk := ?_)
  rintro _ w1 ⟨A1, c1, rfl, e1, o1⟩
  repeat (refine TL_build TE (hk := ?_))
  refine TL_box (hk := ?_); intro b w2 e2 h1 h2 k
  repeat (first | refine TL_nil ?_ | refine TL_assign (hk := ?_))
  have hs := e1.size
  refine T_ret1 rfl rfl ⟨b, A1, n, c1, rfl, e1.ext e2, by omega, o1.hi, o1.lo.mono e2.size, ?_⟩
  exact ⟨k, (o1.be e2).rd, Off.lo o1.lo h1, by have := h.1; simpa using this, Nat.zero_le _, Nat.zero_le _, hn, o1.cap.1⟩
end Go.Proofs.Ytjjgojgahibpgaa
