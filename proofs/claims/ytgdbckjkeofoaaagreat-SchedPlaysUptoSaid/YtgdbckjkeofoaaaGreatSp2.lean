import Derived.Test.YtgdbckjkeofoaaaGreatSp1
import Derived.Test.YtgdbckjkeofoaaaGreatRows
import Derived.Lib.Bytealg
import Derived.Shelf.Small.Bits
import Derived.Shelf.Small.Strs
import Derived.Shelf.Strconv.Itoa0
import Derived.Shelf.Strings.Search1
import Derived.Shelf.Sort.Plain
import Derived.Shelf.Slices.Equal
import Derived.Shelf.Slices.In.SortNone
import Derived.Shelf.Slices.Empties2
import Derived.Ground.SlgnProg
import Derived.Shelf.SlicesG.CompactI
import Derived.Ground.SlgmProg
import Derived.Shelf.SortM.Plain
import Derived.Shelf.SortM.SortNone
import Derived.Test.YtgdbckjkeofoaaaGreatProg
import Derived.Shelf.SlIterI.Nil
import Derived.Shelf.SlIterI.Sorted
import Derived.Shelf.SlIterI.Collect
import Derived.Ground.GgzProg
import Derived.Shelf.SlIterI.Keys
import Derived.Lib.SlicesCompact
/- Parts: Tab FSpec FSpec2 KSpec FSpec3 SSpec KMem Eng26 Shelf FW1 KW1 KW2 Eng27 Iter KW3 KW4 Eng28 KLaw1 SK6. -/
/- The table of this translation: types and functions, each entry a closed fact. Written by program. -/
namespace Go.Proofs.YtgdbckjkeofoaaaGreat
open Go.Proofs.Eng
set_option linter.unusedSimpArgs false
set_option maxRecDepth 10000
def tUnd : List (Nat × TypeDesc) := [(1, .func #[] #[] false), (2, .int .i64), (3, .int .i64), (4, .bool), (5, .int .u8), (6, .int .u8), (9, .string), (10, .string), (11, .string), (12, .int .u64), (15, .pointer 191), (16, .pointer 194), (17, .pointer 202), (21, .int .i32), (22, .slice 9), (23, .slice 37), (26, .func #[25] #[4] false), (27, .pointer 77), (28, .pointer 100), (29, .pointer 59), (31, .func #[25] #[27, 28, 29, 4] false), (32, .func #[] #[4] false), (33, .slice 35), (38, .int .i64), (39, .func #[2, 35] #[38] false), (40, .func #[35] #[35] false), (41, .func #[38] #[3] false), (43, .func #[] #[2, 4] false), (44, .func #[2] #[38] false), (45, .func #[27, 33] #[4] false), (46, .func #[] #[3] false), (47, .slice 3), (49, .func #[35] #[35, 3] false), (50, .pointer 89), (52, .func #[3, 3] #[50, 3] false), (54, .func #[25, 3, 33, 47] #[47, 22, 4] false), (55, .func #[22, 22] #[4] false), (56, .func #[25, 33, 3, 47, 47] #[4] false), (57, .slice 92), (60, .func #[2, 35] #[3] false), (61, .func #[35, 35] #[4] false), (62, .func #[35] #[] false), (63, .func #[2] #[3] false), (64, .func #[27, 28, 29] #[4] false), (66, .func #[3, 3] #[28, 38] false), (67, .func #[22] #[22] false), (68, .func #[22] #[38] false), (69, .func #[22] #[3] false), (71, .func #[3, 28] #[27, 38] false), (73, .func #[3, 50] #[29, 3] false), (74, .pointer 126), (75, .slice 82), (79, .func #[35] #[35, 38] false), (80, .int .i64), (83, .slice 2), (84, .func #[] #[83] false), (85, .func #[22, 22] #[22] false), (86, .func #[9] #[4] false), (87, .slice 108), (90, .func #[] #[22] false), (93, .func #[3] #[83] false), (94, .func #[83, 83] #[4] false), (95, .func #[2] #[83] false), (96, .func #[] #[2] false), (97, .map 9 106), (98, .slice 101), (101, .map 9 3), (102, .func #[22, 86] #[4] false), (103, .func #[9, 3] #[3] false), (104, .func #[9] #[101] false), (110, .func #[9] #[3, 4] false), (111, .func #[] #[74] false), (112, .slice 22), (113, .map 9 5), (114, .map 9 5), (115, .func #[35] #[114] false), (116, .func #[5] #[22] false), (117, .pointer 82), (118, .func #[2, 119] #[38] false), (119, .slice 129), (120, .func #[35] #[119] false), (121, .func #[142] #[83] true), (123, .map 9 130), (124, .map 2 119), (127, .func #[2] #[4] false), (130, .slice 134), (131, .func #[130, 2] #[3] false), (132, .func #[130, 3, 3] #[130] false), (135, .func #[22] #[] false), (136, .func #[3] #[4] false), (137, .func #[22, 86] #[3] false), (138, .func #[9, 5] #[3] false), (139, .int .u64), (140, .func #[9] #[139] false), (141, .func #[119] #[119] false), (142, .slice 80), (143, .func #[142, 80] #[4] false), (144, .func #[130] #[3] false), (145, .func #[130, 146] #[3] false), (146, .func #[134] #[4] false), (147, .func #[22, 9] #[4] false), (148, .func #[22, 3, 3, 3] #[] false), (149, .func #[150] #[3] false), (150, .int .u64), (151, .func #[83] #[] false), (152, .func #[83] #[83] false), (153, .func #[155] #[83] false), (154, .func #[127] #[] false), (155, .func #[127] #[] false), (156, .func #[124] #[155] false), (157, .func #[142, 80] #[3] false), (158, .func #[22, 3, 3] #[] false), (159, .int .i64), (161, .func #[22, 3, 3] #[3, 159] false), (162, .func #[22, 3, 3] #[4] false), (163, .func #[9, 9] #[4] false), (164, .func #[22, 3, 3, 3] #[3] false), (165, .func #[22, 3, 3, 3] #[3, 4] false), (166, .func #[167] #[3] false), (167, .int .u32), (168, .func #[139] #[3] false), (169, .func #[83, 3, 3, 3] #[] false), (170, .int .u64), (171, .func #[3] #[150] false), (172, .func #[] #[139] false), (173, .func #[22, 3, 174] #[3] false), (174, .pointer 3), (175, .func #[22, 3, 3, 3, 174] #[3] false), (176, .func #[83, 3, 3] #[] false), (177, .func #[83, 3, 3] #[3, 159] false), (178, .func #[83, 3, 3] #[4] false), (179, .func #[2, 2] #[4] false), (180, .func #[83, 3, 3, 3] #[3] false), (181, .func #[83, 3, 3, 3] #[3, 4] false), (182, .func #[83, 155] #[83] false), (183, .pointer 170), (185, .func #[22, 3, 3, 174] #[3, 3] false), (186, .func #[83, 3, 174] #[3] false), (187, .func #[83, 3, 3, 3, 174] #[3] false), (188, .func #[83, 3, 3, 174] #[3, 3] false), (189, .func #[] #[9] false), (192, .array 0 16), (195, .int .u8), (196, .int .u8), (197, .func #[203, 203] #[4] false), (198, .pointer 5), (199, .int .i32), (200, .int .i32), (203, .unsafePointer)]
def tInf : List (Nat × (Nat × Nat × Value)) := [(0, (1, 0, .tuple #[])), (1, (1, 8, .nilFunc)), (2, (1, 8, .int .i64 0)), (3, (1, 8, .int .i64 0)), (4, (1, 1, .bool false)), (5, (1, 1, .int .u8 0)), (6, (1, 1, .int .u8 0)), (7, (4, 24, .agg #[.int .i64 0, .int .i64 0, .bool false, .int .u8 0])), (8, (4, 24, .agg #[.int .i64 0, .int .i64 0, .bool false, .int .u8 0])), (9, (1, 16, .string ⟨#[]⟩)), (10, (1, 16, .string ⟨#[]⟩)), (11, (1, 16, .string ⟨#[]⟩)), (12, (1, 8, .int .u64 0)), (13, (2, 24, .agg #[.string ⟨#[]⟩, .int .u64 0])), (14, (2, 24, .agg #[.string ⟨#[]⟩, .int .u64 0])), (15, (1, 8, .pointer none)), (16, (1, 8, .pointer none)), (17, (1, 8, .pointer none)), (18, (1, 8, .agg #[.pointer none])), (19, (1, 8, .agg #[.pointer none])), (20, (1, 16, .nilIface)), (21, (1, 4, .int .i32 0)), (22, (1, 24, .slice none 0 0)), (23, (1, 24, .slice none 0 0)), (24, (5, 72, .agg #[.int .i64 0, .int .i64 0, .slice none 0 0, .int .i64 0, .slice none 0 0])), (25, (5, 72, .agg #[.int .i64 0, .int .i64 0, .slice none 0 0, .int .i64 0, .slice none 0 0])), (26, (1, 8, .nilFunc)), (27, (1, 8, .pointer none)), (28, (1, 8, .pointer none)), (29, (1, 8, .pointer none)), (30, (1, 0, .tuple #[.pointer none, .pointer none, .pointer none, .bool false])), (31, (1, 8, .nilFunc)), (32, (1, 8, .nilFunc)), (33, (1, 24, .slice none 0 0)), (34, (2, 48, .agg #[.slice none 0 0, .slice none 0 0])), (35, (2, 48, .agg #[.slice none 0 0, .slice none 0 0])), (36, (4, 64, .agg #[.int .i64 0, .int .i64 0, .slice none 0 0, .slice none 0 0])), (37, (4, 64, .agg #[.int .i64 0, .int .i64 0, .slice none 0 0, .slice none 0 0])), (38, (1, 8, .int .i64 0)), (39, (1, 8, .nilFunc)), (40, (1, 8, .nilFunc)), (41, (1, 8, .nilFunc)), (42, (1, 0, .tuple #[.int .i64 0, .bool false])), (43, (1, 8, .nilFunc)), (44, (1, 8, .nilFunc)), (45, (1, 8, .nilFunc)), (46, (1, 8, .nilFunc)), (47, (1, 24, .slice none 0 0)), (48, (1, 0, .tuple #[.agg #[.slice none 0 0, .slice none 0 0], .int .i64 0])), (49, (1, 8, .nilFunc)), (50, (1, 8, .pointer none)), (51, (1, 0, .tuple #[.pointer none, .int .i64 0])), (52, (1, 8, .nilFunc)), (53, (1, 0, .tuple #[.slice none 0 0, .slice none 0 0, .bool false])), (54, (1, 8, .nilFunc)), (55, (1, 8, .nilFunc)), (56, (1, 8, .nilFunc)), (57, (1, 24, .slice none 0 0)), (58, (3, 40, .agg #[.int .i64 0, .pointer none, .slice none 0 0])), (59, (3, 40, .agg #[.int .i64 0, .pointer none, .slice none 0 0])), (60, (1, 8, .nilFunc)), (61, (1, 8, .nilFunc)), (62, (1, 8, .nilFunc)), (63, (1, 8, .nilFunc)), (64, (1, 8, .nilFunc)), (65, (1, 0, .tuple #[.pointer none, .int .i64 0])), (66, (1, 8, .nilFunc)), (67, (1, 8, .nilFunc)), (68, (1, 8, .nilFunc)), (69, (1, 8, .nilFunc)), (70, (1, 0, .tuple #[.pointer none, .int .i64 0])), (71, (1, 8, .nilFunc)), (72, (1, 0, .tuple #[.pointer none, .int .i64 0])), (73, (1, 8, .nilFunc)), (74, (1, 8, .pointer none)), (75, (1, 24, .slice none 0 0)), (76, (5, 56, .agg #[.int .i64 0, .pointer none, .pointer none, .slice none 0 0, .int .i64 0])), (77, (5, 56, .agg #[.int .i64 0, .pointer none, .pointer none, .slice none 0 0, .int .i64 0])), (78, (1, 0, .tuple #[.agg #[.slice none 0 0, .slice none 0 0], .int .i64 0])), (79, (1, 8, .nilFunc)), (80, (1, 8, .int .i64 0)), (81, (3, 56, .agg #[.slice none 0 0, .slice none 0 0, .int .i64 0])), (82, (3, 56, .agg #[.slice none 0 0, .slice none 0 0, .int .i64 0])), (83, (1, 24, .slice none 0 0)), (84, (1, 8, .nilFunc)), (85, (1, 8, .nilFunc)), (86, (1, 8, .nilFunc)), (87, (1, 24, .slice none 0 0)), (88, (3, 40, .agg #[.int .i64 0, .int .i64 0, .slice none 0 0])), (89, (3, 40, .agg #[.int .i64 0, .int .i64 0, .slice none 0 0])), (90, (1, 8, .nilFunc)), (91, (3, 56, .agg #[.slice none 0 0, .slice none 0 0, .int .i64 0])), (92, (3, 56, .agg #[.slice none 0 0, .slice none 0 0, .int .i64 0])), (93, (1, 8, .nilFunc)), (94, (1, 8, .nilFunc)), (95, (1, 8, .nilFunc)), (96, (1, 8, .nilFunc)), (97, (1, 8, .map none)), (98, (1, 24, .slice none 0 0)), (99, (3, 40, .agg #[.int .i64 0, .slice none 0 0, .map none])), (100, (3, 40, .agg #[.int .i64 0, .slice none 0 0, .map none])), (101, (1, 8, .map none)), (102, (1, 8, .nilFunc)), (103, (1, 8, .nilFunc)), (104, (1, 8, .nilFunc)), (105, (3, 32, .agg #[.int .i64 0, .int .i64 0, .string ⟨#[]⟩])), (106, (3, 32, .agg #[.int .i64 0, .int .i64 0, .string ⟨#[]⟩])), (107, (4, 48, .agg #[.string ⟨#[]⟩, .int .i64 0, .int .i64 0, .string ⟨#[]⟩])), (108, (4, 48, .agg #[.string ⟨#[]⟩, .int .i64 0, .int .i64 0, .string ⟨#[]⟩])), (109, (1, 0, .tuple #[.int .i64 0, .bool false])), (110, (1, 8, .nilFunc)), (111, (1, 8, .nilFunc)), (112, (1, 24, .slice none 0 0)), (113, (1, 8, .map none)), (114, (1, 8, .map none)), (115, (1, 8, .nilFunc)), (116, (1, 8, .nilFunc)), (117, (1, 8, .pointer none)), (118, (1, 8, .nilFunc)), (119, (1, 24, .slice none 0 0)), (120, (1, 8, .nilFunc)), (121, (1, 8, .nilFunc)), (122, (1, 0, .tuple #[.slice none 0 0, .bool false])), (123, (1, 8, .map none)), (124, (1, 8, .map none)), (125, (3, 24, .agg #[.map none, .map none, .int .i64 0])), (126, (3, 24, .agg #[.map none, .map none, .int .i64 0])), (127, (1, 8, .nilFunc)), (128, (2, 24, .agg #[.string ⟨#[]⟩, .bool false])), (129, (2, 24, .agg #[.string ⟨#[]⟩, .bool false])), (130, (1, 24, .slice none 0 0)), (131, (1, 8, .nilFunc)), (132, (1, 8, .nilFunc)), (133, (2, 16, .agg #[.int .i64 0, .bool false])), (134, (2, 16, .agg #[.int .i64 0, .bool false])), (135, (1, 8, .nilFunc)), (136, (1, 8, .nilFunc)), (137, (1, 8, .nilFunc)), (138, (1, 8, .nilFunc)), (139, (1, 8, .int .u64 0)), (140, (1, 8, .nilFunc)), (141, (1, 8, .nilFunc)), (142, (1, 24, .slice none 0 0)), (143, (1, 8, .nilFunc)), (144, (1, 8, .nilFunc)), (145, (1, 8, .nilFunc)), (146, (1, 8, .nilFunc)), (147, (1, 8, .nilFunc)), (148, (1, 8, .nilFunc)), (149, (1, 8, .nilFunc)), (150, (1, 8, .int .u64 0)), (151, (1, 8, .nilFunc)), (152, (1, 8, .nilFunc)), (153, (1, 8, .nilFunc)), (154, (1, 8, .nilFunc)), (155, (1, 8, .nilFunc)), (156, (1, 8, .nilFunc)), (157, (1, 8, .nilFunc)), (158, (1, 8, .nilFunc)), (159, (1, 8, .int .i64 0)), (160, (1, 0, .tuple #[.int .i64 0, .int .i64 0])), (161, (1, 8, .nilFunc)), (162, (1, 8, .nilFunc)), (163, (1, 8, .nilFunc)), (164, (1, 8, .nilFunc)), (165, (1, 8, .nilFunc)), (166, (1, 8, .nilFunc)), (167, (1, 4, .int .u32 0)), (168, (1, 8, .nilFunc)), (169, (1, 8, .nilFunc)), (170, (1, 8, .int .u64 0)), (171, (1, 8, .nilFunc)), (172, (1, 8, .nilFunc)), (173, (1, 8, .nilFunc)), (174, (1, 8, .pointer none)), (175, (1, 8, .nilFunc)), (176, (1, 8, .nilFunc)), (177, (1, 8, .nilFunc)), (178, (1, 8, .nilFunc)), (179, (1, 8, .nilFunc)), (180, (1, 8, .nilFunc)), (181, (1, 8, .nilFunc)), (182, (1, 8, .nilFunc)), (183, (1, 8, .pointer none)), (184, (1, 0, .tuple #[.int .i64 0, .int .i64 0])), (185, (1, 8, .nilFunc)), (186, (1, 8, .nilFunc)), (187, (1, 8, .nilFunc)), (188, (1, 8, .nilFunc)), (189, (1, 8, .nilFunc)), (190, (4, 40, .agg #[.pointer none, .pointer none, .pointer none, .string ⟨#[]⟩])), (191, (4, 40, .agg #[.pointer none, .pointer none, .pointer none, .string ⟨#[]⟩])), (192, (0, 0, .agg #[])), (193, (0, 0, .agg #[])), (194, (0, 0, .agg #[])), (195, (1, 1, .int .u8 0)), (196, (1, 1, .int .u8 0)), (197, (1, 8, .nilFunc)), (198, (1, 8, .pointer none)), (199, (1, 4, .int .i32 0)), (200, (1, 4, .int .i32 0)), (201, (11, 48, .agg #[.int .u64 0, .int .u64 0, .int .u32 0, .int .u8 0, .int .u8 0, .int .u8 0, .int .u8 0, .nilFunc, .pointer none, .int .i32 0, .int .i32 0])), (202, (11, 48, .agg #[.int .u64 0, .int .u64 0, .int .u32 0, .int .u8 0, .int .u8 0, .int .u8 0, .int .u8 0, .nilFunc, .pointer none, .int .i32 0, .int .i32 0])), (203, (1, 8, .pointer none))]
def tFld : List (Nat × (List (Nat × TypeId))) := [(7, [(0, 2), (1, 3), (2, 4), (3, 6)]), (8, [(0, 2), (1, 3), (2, 4), (3, 6)]), (13, [(0, 9), (1, 12)]), (14, [(0, 9), (1, 12)]), (18, [(0, 17)]), (19, [(0, 17)]), (24, [(0, 3), (1, 3), (2, 22), (3, 3), (4, 23)]), (25, [(0, 3), (1, 3), (2, 22), (3, 3), (4, 23)]), (34, [(0, 22), (1, 22)]), (35, [(0, 22), (1, 22)]), (36, [(0, 3), (1, 2), (2, 35)]), (37, [(0, 3), (1, 2), (2, 35)]), (58, [(0, 3), (1, 50), (2, 57)]), (59, [(0, 3), (1, 50), (2, 57)]), (76, [(0, 3), (1, 28), (2, 74), (3, 75), (4, 3)]), (77, [(0, 3), (1, 28), (2, 74), (3, 75), (4, 3)]), (81, [(0, 35), (2, 80)]), (82, [(0, 35), (2, 80)]), (88, [(0, 3), (1, 3), (2, 87)]), (89, [(0, 3), (1, 3), (2, 87)]), (91, [(0, 35), (2, 3)]), (92, [(0, 35), (2, 3)]), (99, [(0, 3), (1, 98), (2, 97)]), (100, [(0, 3), (1, 98), (2, 97)]), (105, [(0, 3), (1, 2), (2, 9)]), (106, [(0, 3), (1, 2), (2, 9)]), (107, [(0, 9), (1, 106)]), (108, [(0, 9), (1, 106)]), (125, [(0, 123), (1, 124), (2, 2)]), (126, [(0, 123), (1, 124), (2, 2)]), (128, [(0, 9), (1, 4)]), (129, [(0, 9), (1, 4)]), (133, [(0, 2), (1, 4)]), (134, [(0, 2), (1, 4)]), (190, [(0, 17), (1, 17), (2, 17), (3, 9)]), (191, [(0, 17), (1, 17), (2, 17), (3, 9)]), (193, [(0, 192)]), (194, [(0, 192)]), (201, [(0, 12), (1, 12), (2, 167), (3, 195), (4, 5), (5, 5), (6, 196), (7, 197), (8, 198), (9, 199), (10, 200)]), (202, [(0, 12), (1, 12), (2, 167), (3, 195), (4, 5), (5, 5), (6, 196), (7, 197), (8, 198), (9, 199), (10, 200)])]
def tFn : List (Nat × Bool) := [(2, true), (3, true), (4, true), (5, true), (6, true), (7, true), (8, true), (9, true), (10, true), (11, true), (12, true), (13, true), (14, true), (15, true), (16, true), (17, true), (18, true), (19, true), (20, true), (21, true), (22, true), (23, true), (24, true), (25, true), (26, true), (27, true), (28, true), (29, true), (30, true), (31, true), (32, true), (33, true), (34, true), (35, true), (36, true), (37, true), (38, true), (39, true), (40, true), (41, true), (42, true), (43, true), (44, true), (45, true), (46, true), (47, true), (48, true), (49, true), (50, true), (51, true), (52, true), (53, true), (54, true), (55, true), (56, true), (57, true), (58, true), (59, true), (60, true), (61, true), (62, true), (63, true), (64, true), (65, true), (66, true), (67, true), (68, true), (69, true), (70, true), (71, true), (72, true), (73, true), (74, true), (75, true), (76, true), (77, true), (78, true), (79, true), (80, true), (81, true), (82, true), (83, true), (84, true), (85, true), (86, true), (87, true), (88, true), (89, true), (90, true), (91, true), (92, true), (93, true), (94, true), (95, true), (96, true), (97, true), (98, true), (99, true), (100, true), (101, true), (102, true), (103, true), (104, true), (105, true), (106, true), (107, true), (108, true), (109, true), (111, true), (112, true), (113, true), (114, true), (115, true), (116, true), (117, true), (118, true), (119, true), (120, true), (121, true), (122, true), (123, true), (124, true), (125, true), (126, true), (127, true), (128, true), (129, true), (130, true), (131, true), (132, true), (133, true), (134, true)]
theorem tUnd_ok : ∀ p ∈ tUnd, Tryz.prog.underlying p.1 = some p.2 := by
  simp only [tUnd, tInf, tFld, tFn, List.forall_mem_cons, List.not_mem_nil, false_imp_iff, implies_true, and_true]
  refine ⟨?_, ?_, ?_, ?_, ?_, ?_, ?_, ?_, ?_, ?_, ?_, ?_, ?_, ?_, ?_, ?_, ?_, ?_, ?_, ?_, ?_, ?_, ?_, ?_, ?_, ?_, ?_, ?_, ?_, ?_, ?_, ?_, ?_, ?_, ?_, ?_, ?_, ?_, ?_, ?_, ?_, ?_, ?_, ?_, ?_, ?_, ?_, ?_, ?_, ?_, ?_, ?_, ?_, ?_, ?_, ?_, ?_, ?_, ?_, ?_, ?_, ?_, ?_, ?_, ?_, ?_, ?_, ?_, ?_, ?_, ?_, ?_, ?_, ?_, ?_, ?_, ?_, ?_, ?_, ?_, ?_, ?_, ?_, ?_, ?_, ?_, ?_, ?_, ?_, ?_, ?_, ?_, ?_, ?_, ?_, ?_, ?_, ?_, ?_, ?_, ?_, ?_, ?_, ?_, ?_, ?_, ?_, ?_, ?_, ?_, ?_, ?_, ?_, ?_, ?_, ?_, ?_, ?_, ?_, ?_, ?_, ?_, ?_, ?_, ?_, ?_, ?_, ?_, ?_, ?_, ?_, ?_, ?_, ?_, ?_, ?_, ?_, ?_, ?_, ?_, ?_, ?_, ?_, ?_, ?_, ?_, ?_, ?_, ?_⟩
  · exact Tryz.underlying1
  · exact Tryz.underlying2
  · exact Tryz.underlying3
  · exact Tryz.underlying4
  · exact Tryz.underlying5
  · exact Tryz.underlying6
  · exact Tryz.underlying9
  · exact Tryz.underlying10
  · exact Tryz.underlying11
  · exact Tryz.underlying12
  · exact Tryz.underlying15
  · exact Tryz.underlying16
  · exact Tryz.underlying17
  · exact Tryz.underlying21
  · exact Tryz.underlying22
  · exact Tryz.underlying23
  · exact Tryz.underlying26
  · exact Tryz.underlying27
  · exact Tryz.underlying28
  · exact Tryz.underlying29
  · exact Tryz.underlying31
  · exact Tryz.underlying32
  · exact Tryz.underlying33
  · exact Tryz.underlying38
  · exact Tryz.underlying39
  · exact Tryz.underlying40
  · exact Tryz.underlying41
  · exact Tryz.underlying43
  · exact Tryz.underlying44
  · exact Tryz.underlying45
  · exact Tryz.underlying46
  · exact Tryz.underlying47
  · exact Tryz.underlying49
  · exact Tryz.underlying50
  · exact Tryz.underlying52
  · exact Tryz.underlying54
  · exact Tryz.underlying55
  · exact Tryz.underlying56
  · exact Tryz.underlying57
  · exact Tryz.underlying60
  · exact Tryz.underlying61
  · exact Tryz.underlying62
  · exact Tryz.underlying63
  · exact Tryz.underlying64
  · exact Tryz.underlying66
  · exact Tryz.underlying67
  · exact Tryz.underlying68
  · exact Tryz.underlying69
  · exact Tryz.underlying71
  · exact Tryz.underlying73
  · exact Tryz.underlying74
  · exact Tryz.underlying75
  · exact Tryz.underlying79
  · exact Tryz.underlying80
  · exact Tryz.underlying83
  · exact Tryz.underlying84
  · exact Tryz.underlying85
  · exact Tryz.underlying86
  · exact Tryz.underlying87
  · exact Tryz.underlying90
  · exact Tryz.underlying93
  · exact Tryz.underlying94
  · exact Tryz.underlying95
  · exact Tryz.underlying96
  · exact Tryz.underlying97
  · exact Tryz.underlying98
  · exact Tryz.underlying101
  · exact Tryz.underlying102
  · exact Tryz.underlying103
  · exact Tryz.underlying104
  · exact Tryz.underlying110
  · exact Tryz.underlying111
  · exact Tryz.underlying112
  · exact Tryz.underlying113
  · exact Tryz.underlying114
  · exact Tryz.underlying115
  · exact Tryz.underlying116
  · exact Tryz.underlying117
  · exact Tryz.underlying118
  · exact Tryz.underlying119
  · exact Tryz.underlying120
  · exact Tryz.underlying121
  · exact Tryz.underlying123
  · exact Tryz.underlying124
  · exact Tryz.underlying127
  · exact Tryz.underlying130
  · exact Tryz.underlying131
  · exact Tryz.underlying132
  · exact Tryz.underlying135
  · exact Tryz.underlying136
  · exact Tryz.underlying137
  · exact Tryz.underlying138
  · exact Tryz.underlying139
  · exact Tryz.underlying140
  · exact Tryz.underlying141
  · exact Tryz.underlying142
  · exact Tryz.underlying143
  · exact Tryz.underlying144
  · exact Tryz.underlying145
  · exact Tryz.underlying146
  · exact Tryz.underlying147
  · exact Tryz.underlying148
  · exact Tryz.underlying149
  · exact Tryz.underlying150
  · exact Tryz.underlying151
  · exact Tryz.underlying152
  · exact Tryz.underlying153
  · exact Tryz.underlying154
  · exact Tryz.underlying155
  · exact Tryz.underlying156
  · exact Tryz.underlying157
  · exact Tryz.underlying158
  · exact Tryz.underlying159
  · exact Tryz.underlying161
  · exact Tryz.underlying162
  · exact Tryz.underlying163
  · exact Tryz.underlying164
  · exact Tryz.underlying165
  · exact Tryz.underlying166
  · exact Tryz.underlying167
  · exact Tryz.underlying168
  · exact Tryz.underlying169
  · exact Tryz.underlying170
  · exact Tryz.underlying171
  · exact Tryz.underlying172
  · exact Tryz.underlying173
  · exact Tryz.underlying174
  · exact Tryz.underlying175
  · exact Tryz.underlying176
  · exact Tryz.underlying177
  · exact Tryz.underlying178
  · exact Tryz.underlying179
  · exact Tryz.underlying180
  · exact Tryz.underlying181
  · exact Tryz.underlying182
  · exact Tryz.underlying183
  · exact Tryz.underlying185
  · exact Tryz.underlying186
  · exact Tryz.underlying187
  · exact Tryz.underlying188
  · exact Tryz.underlying189
  · exact Tryz.underlying192
  · exact Tryz.underlying195
  · exact Tryz.underlying196
  · exact Tryz.underlying197
  · exact Tryz.underlying198
  · exact Tryz.underlying199
  · exact Tryz.underlying200
  · exact Tryz.underlying203
theorem inf0 : (Tryz.prog.info? 0).map (fun i => (i.size, i.bytes, i.zero)) = some (1, 0, some (.tuple #[])) := by kernel_rfl
theorem inf1 : (Tryz.prog.info? 1).map (fun i => (i.size, i.bytes, i.zero)) = some (1, 8, some (.nilFunc)) := by kernel_rfl
theorem inf2 : (Tryz.prog.info? 2).map (fun i => (i.size, i.bytes, i.zero)) = some (1, 8, some (.int .i64 0)) := by kernel_rfl
theorem inf3 : (Tryz.prog.info? 3).map (fun i => (i.size, i.bytes, i.zero)) = some (1, 8, some (.int .i64 0)) := by kernel_rfl
theorem inf4 : (Tryz.prog.info? 4).map (fun i => (i.size, i.bytes, i.zero)) = some (1, 1, some (.bool false)) := by kernel_rfl
theorem inf5 : (Tryz.prog.info? 5).map (fun i => (i.size, i.bytes, i.zero)) = some (1, 1, some (.int .u8 0)) := by kernel_rfl
theorem inf6 : (Tryz.prog.info? 6).map (fun i => (i.size, i.bytes, i.zero)) = some (1, 1, some (.int .u8 0)) := by kernel_rfl
theorem inf7 : (Tryz.prog.info? 7).map (fun i => (i.size, i.bytes, i.zero)) = some (4, 24, some (.agg #[.int .i64 0, .int .i64 0, .bool false, .int .u8 0])) := by kernel_rfl
theorem inf8 : (Tryz.prog.info? 8).map (fun i => (i.size, i.bytes, i.zero)) = some (4, 24, some (.agg #[.int .i64 0, .int .i64 0, .bool false, .int .u8 0])) := by kernel_rfl
theorem inf9 : (Tryz.prog.info? 9).map (fun i => (i.size, i.bytes, i.zero)) = some (1, 16, some (.string ⟨#[]⟩)) := by kernel_rfl
theorem inf10 : (Tryz.prog.info? 10).map (fun i => (i.size, i.bytes, i.zero)) = some (1, 16, some (.string ⟨#[]⟩)) := by kernel_rfl
theorem inf11 : (Tryz.prog.info? 11).map (fun i => (i.size, i.bytes, i.zero)) = some (1, 16, some (.string ⟨#[]⟩)) := by kernel_rfl
theorem inf12 : (Tryz.prog.info? 12).map (fun i => (i.size, i.bytes, i.zero)) = some (1, 8, some (.int .u64 0)) := by kernel_rfl
theorem inf13 : (Tryz.prog.info? 13).map (fun i => (i.size, i.bytes, i.zero)) = some (2, 24, some (.agg #[.string ⟨#[]⟩, .int .u64 0])) := by kernel_rfl
theorem inf14 : (Tryz.prog.info? 14).map (fun i => (i.size, i.bytes, i.zero)) = some (2, 24, some (.agg #[.string ⟨#[]⟩, .int .u64 0])) := by kernel_rfl
theorem inf15 : (Tryz.prog.info? 15).map (fun i => (i.size, i.bytes, i.zero)) = some (1, 8, some (.pointer none)) := by kernel_rfl
theorem inf16 : (Tryz.prog.info? 16).map (fun i => (i.size, i.bytes, i.zero)) = some (1, 8, some (.pointer none)) := by kernel_rfl
theorem inf17 : (Tryz.prog.info? 17).map (fun i => (i.size, i.bytes, i.zero)) = some (1, 8, some (.pointer none)) := by kernel_rfl
theorem inf18 : (Tryz.prog.info? 18).map (fun i => (i.size, i.bytes, i.zero)) = some (1, 8, some (.agg #[.pointer none])) := by kernel_rfl
theorem inf19 : (Tryz.prog.info? 19).map (fun i => (i.size, i.bytes, i.zero)) = some (1, 8, some (.agg #[.pointer none])) := by kernel_rfl
theorem inf20 : (Tryz.prog.info? 20).map (fun i => (i.size, i.bytes, i.zero)) = some (1, 16, some (.nilIface)) := by kernel_rfl
theorem inf21 : (Tryz.prog.info? 21).map (fun i => (i.size, i.bytes, i.zero)) = some (1, 4, some (.int .i32 0)) := by kernel_rfl
theorem inf22 : (Tryz.prog.info? 22).map (fun i => (i.size, i.bytes, i.zero)) = some (1, 24, some (.slice none 0 0)) := by kernel_rfl
theorem inf23 : (Tryz.prog.info? 23).map (fun i => (i.size, i.bytes, i.zero)) = some (1, 24, some (.slice none 0 0)) := by kernel_rfl
theorem inf24 : (Tryz.prog.info? 24).map (fun i => (i.size, i.bytes, i.zero)) = some (5, 72, some (.agg #[.int .i64 0, .int .i64 0, .slice none 0 0, .int .i64 0, .slice none 0 0])) := by kernel_rfl
theorem inf25 : (Tryz.prog.info? 25).map (fun i => (i.size, i.bytes, i.zero)) = some (5, 72, some (.agg #[.int .i64 0, .int .i64 0, .slice none 0 0, .int .i64 0, .slice none 0 0])) := by kernel_rfl
theorem inf26 : (Tryz.prog.info? 26).map (fun i => (i.size, i.bytes, i.zero)) = some (1, 8, some (.nilFunc)) := by kernel_rfl
theorem inf27 : (Tryz.prog.info? 27).map (fun i => (i.size, i.bytes, i.zero)) = some (1, 8, some (.pointer none)) := by kernel_rfl
theorem inf28 : (Tryz.prog.info? 28).map (fun i => (i.size, i.bytes, i.zero)) = some (1, 8, some (.pointer none)) := by kernel_rfl
theorem inf29 : (Tryz.prog.info? 29).map (fun i => (i.size, i.bytes, i.zero)) = some (1, 8, some (.pointer none)) := by kernel_rfl
theorem inf30 : (Tryz.prog.info? 30).map (fun i => (i.size, i.bytes, i.zero)) = some (1, 0, some (.tuple #[.pointer none, .pointer none, .pointer none, .bool false])) := by kernel_rfl
theorem inf31 : (Tryz.prog.info? 31).map (fun i => (i.size, i.bytes, i.zero)) = some (1, 8, some (.nilFunc)) := by kernel_rfl
theorem inf32 : (Tryz.prog.info? 32).map (fun i => (i.size, i.bytes, i.zero)) = some (1, 8, some (.nilFunc)) := by kernel_rfl
theorem inf33 : (Tryz.prog.info? 33).map (fun i => (i.size, i.bytes, i.zero)) = some (1, 24, some (.slice none 0 0)) := by kernel_rfl
theorem inf34 : (Tryz.prog.info? 34).map (fun i => (i.size, i.bytes, i.zero)) = some (2, 48, some (.agg #[.slice none 0 0, .slice none 0 0])) := by kernel_rfl
theorem inf35 : (Tryz.prog.info? 35).map (fun i => (i.size, i.bytes, i.zero)) = some (2, 48, some (.agg #[.slice none 0 0, .slice none 0 0])) := by kernel_rfl
theorem inf36 : (Tryz.prog.info? 36).map (fun i => (i.size, i.bytes, i.zero)) = some (4, 64, some (.agg #[.int .i64 0, .int .i64 0, .slice none 0 0, .slice none 0 0])) := by kernel_rfl
theorem inf37 : (Tryz.prog.info? 37).map (fun i => (i.size, i.bytes, i.zero)) = some (4, 64, some (.agg #[.int .i64 0, .int .i64 0, .slice none 0 0, .slice none 0 0])) := by kernel_rfl
theorem inf38 : (Tryz.prog.info? 38).map (fun i => (i.size, i.bytes, i.zero)) = some (1, 8, some (.int .i64 0)) := by kernel_rfl
theorem inf39 : (Tryz.prog.info? 39).map (fun i => (i.size, i.bytes, i.zero)) = some (1, 8, some (.nilFunc)) := by kernel_rfl
theorem inf40 : (Tryz.prog.info? 40).map (fun i => (i.size, i.bytes, i.zero)) = some (1, 8, some (.nilFunc)) := by kernel_rfl
theorem inf41 : (Tryz.prog.info? 41).map (fun i => (i.size, i.bytes, i.zero)) = some (1, 8, some (.nilFunc)) := by kernel_rfl
theorem inf42 : (Tryz.prog.info? 42).map (fun i => (i.size, i.bytes, i.zero)) = some (1, 0, some (.tuple #[.int .i64 0, .bool false])) := by kernel_rfl
theorem inf43 : (Tryz.prog.info? 43).map (fun i => (i.size, i.bytes, i.zero)) = some (1, 8, some (.nilFunc)) := by kernel_rfl
theorem inf44 : (Tryz.prog.info? 44).map (fun i => (i.size, i.bytes, i.zero)) = some (1, 8, some (.nilFunc)) := by kernel_rfl
theorem inf45 : (Tryz.prog.info? 45).map (fun i => (i.size, i.bytes, i.zero)) = some (1, 8, some (.nilFunc)) := by kernel_rfl
theorem inf46 : (Tryz.prog.info? 46).map (fun i => (i.size, i.bytes, i.zero)) = some (1, 8, some (.nilFunc)) := by kernel_rfl
theorem inf47 : (Tryz.prog.info? 47).map (fun i => (i.size, i.bytes, i.zero)) = some (1, 24, some (.slice none 0 0)) := by kernel_rfl
theorem inf48 : (Tryz.prog.info? 48).map (fun i => (i.size, i.bytes, i.zero)) = some (1, 0, some (.tuple #[.agg #[.slice none 0 0, .slice none 0 0], .int .i64 0])) := by kernel_rfl
theorem inf49 : (Tryz.prog.info? 49).map (fun i => (i.size, i.bytes, i.zero)) = some (1, 8, some (.nilFunc)) := by kernel_rfl
theorem inf50 : (Tryz.prog.info? 50).map (fun i => (i.size, i.bytes, i.zero)) = some (1, 8, some (.pointer none)) := by kernel_rfl
theorem inf51 : (Tryz.prog.info? 51).map (fun i => (i.size, i.bytes, i.zero)) = some (1, 0, some (.tuple #[.pointer none, .int .i64 0])) := by kernel_rfl
theorem inf52 : (Tryz.prog.info? 52).map (fun i => (i.size, i.bytes, i.zero)) = some (1, 8, some (.nilFunc)) := by kernel_rfl
theorem inf53 : (Tryz.prog.info? 53).map (fun i => (i.size, i.bytes, i.zero)) = some (1, 0, some (.tuple #[.slice none 0 0, .slice none 0 0, .bool false])) := by kernel_rfl
theorem inf54 : (Tryz.prog.info? 54).map (fun i => (i.size, i.bytes, i.zero)) = some (1, 8, some (.nilFunc)) := by kernel_rfl
theorem inf55 : (Tryz.prog.info? 55).map (fun i => (i.size, i.bytes, i.zero)) = some (1, 8, some (.nilFunc)) := by kernel_rfl
theorem inf56 : (Tryz.prog.info? 56).map (fun i => (i.size, i.bytes, i.zero)) = some (1, 8, some (.nilFunc)) := by kernel_rfl
theorem inf57 : (Tryz.prog.info? 57).map (fun i => (i.size, i.bytes, i.zero)) = some (1, 24, some (.slice none 0 0)) := by kernel_rfl
theorem inf58 : (Tryz.prog.info? 58).map (fun i => (i.size, i.bytes, i.zero)) = some (3, 40, some (.agg #[.int .i64 0, .pointer none, .slice none 0 0])) := by kernel_rfl
theorem inf59 : (Tryz.prog.info? 59).map (fun i => (i.size, i.bytes, i.zero)) = some (3, 40, some (.agg #[.int .i64 0, .pointer none, .slice none 0 0])) := by kernel_rfl
theorem inf60 : (Tryz.prog.info? 60).map (fun i => (i.size, i.bytes, i.zero)) = some (1, 8, some (.nilFunc)) := by kernel_rfl
theorem inf61 : (Tryz.prog.info? 61).map (fun i => (i.size, i.bytes, i.zero)) = some (1, 8, some (.nilFunc)) := by kernel_rfl
theorem inf62 : (Tryz.prog.info? 62).map (fun i => (i.size, i.bytes, i.zero)) = some (1, 8, some (.nilFunc)) := by kernel_rfl
theorem inf63 : (Tryz.prog.info? 63).map (fun i => (i.size, i.bytes, i.zero)) = some (1, 8, some (.nilFunc)) := by kernel_rfl
theorem inf64 : (Tryz.prog.info? 64).map (fun i => (i.size, i.bytes, i.zero)) = some (1, 8, some (.nilFunc)) := by kernel_rfl
theorem inf65 : (Tryz.prog.info? 65).map (fun i => (i.size, i.bytes, i.zero)) = some (1, 0, some (.tuple #[.pointer none, .int .i64 0])) := by kernel_rfl
theorem inf66 : (Tryz.prog.info? 66).map (fun i => (i.size, i.bytes, i.zero)) = some (1, 8, some (.nilFunc)) := by kernel_rfl
theorem inf67 : (Tryz.prog.info? 67).map (fun i => (i.size, i.bytes, i.zero)) = some (1, 8, some (.nilFunc)) := by kernel_rfl
theorem inf68 : (Tryz.prog.info? 68).map (fun i => (i.size, i.bytes, i.zero)) = some (1, 8, some (.nilFunc)) := by kernel_rfl
theorem inf69 : (Tryz.prog.info? 69).map (fun i => (i.size, i.bytes, i.zero)) = some (1, 8, some (.nilFunc)) := by kernel_rfl
theorem inf70 : (Tryz.prog.info? 70).map (fun i => (i.size, i.bytes, i.zero)) = some (1, 0, some (.tuple #[.pointer none, .int .i64 0])) := by kernel_rfl
theorem inf71 : (Tryz.prog.info? 71).map (fun i => (i.size, i.bytes, i.zero)) = some (1, 8, some (.nilFunc)) := by kernel_rfl
theorem inf72 : (Tryz.prog.info? 72).map (fun i => (i.size, i.bytes, i.zero)) = some (1, 0, some (.tuple #[.pointer none, .int .i64 0])) := by kernel_rfl
theorem inf73 : (Tryz.prog.info? 73).map (fun i => (i.size, i.bytes, i.zero)) = some (1, 8, some (.nilFunc)) := by kernel_rfl
theorem inf74 : (Tryz.prog.info? 74).map (fun i => (i.size, i.bytes, i.zero)) = some (1, 8, some (.pointer none)) := by kernel_rfl
theorem inf75 : (Tryz.prog.info? 75).map (fun i => (i.size, i.bytes, i.zero)) = some (1, 24, some (.slice none 0 0)) := by kernel_rfl
theorem inf76 : (Tryz.prog.info? 76).map (fun i => (i.size, i.bytes, i.zero)) = some (5, 56, some (.agg #[.int .i64 0, .pointer none, .pointer none, .slice none 0 0, .int .i64 0])) := by kernel_rfl
theorem inf77 : (Tryz.prog.info? 77).map (fun i => (i.size, i.bytes, i.zero)) = some (5, 56, some (.agg #[.int .i64 0, .pointer none, .pointer none, .slice none 0 0, .int .i64 0])) := by kernel_rfl
theorem inf78 : (Tryz.prog.info? 78).map (fun i => (i.size, i.bytes, i.zero)) = some (1, 0, some (.tuple #[.agg #[.slice none 0 0, .slice none 0 0], .int .i64 0])) := by kernel_rfl
theorem inf79 : (Tryz.prog.info? 79).map (fun i => (i.size, i.bytes, i.zero)) = some (1, 8, some (.nilFunc)) := by kernel_rfl
theorem inf80 : (Tryz.prog.info? 80).map (fun i => (i.size, i.bytes, i.zero)) = some (1, 8, some (.int .i64 0)) := by kernel_rfl
theorem inf81 : (Tryz.prog.info? 81).map (fun i => (i.size, i.bytes, i.zero)) = some (3, 56, some (.agg #[.slice none 0 0, .slice none 0 0, .int .i64 0])) := by kernel_rfl
theorem inf82 : (Tryz.prog.info? 82).map (fun i => (i.size, i.bytes, i.zero)) = some (3, 56, some (.agg #[.slice none 0 0, .slice none 0 0, .int .i64 0])) := by kernel_rfl
theorem inf83 : (Tryz.prog.info? 83).map (fun i => (i.size, i.bytes, i.zero)) = some (1, 24, some (.slice none 0 0)) := by kernel_rfl
theorem inf84 : (Tryz.prog.info? 84).map (fun i => (i.size, i.bytes, i.zero)) = some (1, 8, some (.nilFunc)) := by kernel_rfl
theorem inf85 : (Tryz.prog.info? 85).map (fun i => (i.size, i.bytes, i.zero)) = some (1, 8, some (.nilFunc)) := by kernel_rfl
theorem inf86 : (Tryz.prog.info? 86).map (fun i => (i.size, i.bytes, i.zero)) = some (1, 8, some (.nilFunc)) := by kernel_rfl
theorem inf87 : (Tryz.prog.info? 87).map (fun i => (i.size, i.bytes, i.zero)) = some (1, 24, some (.slice none 0 0)) := by kernel_rfl
theorem inf88 : (Tryz.prog.info? 88).map (fun i => (i.size, i.bytes, i.zero)) = some (3, 40, some (.agg #[.int .i64 0, .int .i64 0, .slice none 0 0])) := by kernel_rfl
theorem inf89 : (Tryz.prog.info? 89).map (fun i => (i.size, i.bytes, i.zero)) = some (3, 40, some (.agg #[.int .i64 0, .int .i64 0, .slice none 0 0])) := by kernel_rfl
theorem inf90 : (Tryz.prog.info? 90).map (fun i => (i.size, i.bytes, i.zero)) = some (1, 8, some (.nilFunc)) := by kernel_rfl
theorem inf91 : (Tryz.prog.info? 91).map (fun i => (i.size, i.bytes, i.zero)) = some (3, 56, some (.agg #[.slice none 0 0, .slice none 0 0, .int .i64 0])) := by kernel_rfl
theorem inf92 : (Tryz.prog.info? 92).map (fun i => (i.size, i.bytes, i.zero)) = some (3, 56, some (.agg #[.slice none 0 0, .slice none 0 0, .int .i64 0])) := by kernel_rfl
theorem inf93 : (Tryz.prog.info? 93).map (fun i => (i.size, i.bytes, i.zero)) = some (1, 8, some (.nilFunc)) := by kernel_rfl
theorem inf94 : (Tryz.prog.info? 94).map (fun i => (i.size, i.bytes, i.zero)) = some (1, 8, some (.nilFunc)) := by kernel_rfl
theorem inf95 : (Tryz.prog.info? 95).map (fun i => (i.size, i.bytes, i.zero)) = some (1, 8, some (.nilFunc)) := by kernel_rfl
theorem inf96 : (Tryz.prog.info? 96).map (fun i => (i.size, i.bytes, i.zero)) = some (1, 8, some (.nilFunc)) := by kernel_rfl
theorem inf97 : (Tryz.prog.info? 97).map (fun i => (i.size, i.bytes, i.zero)) = some (1, 8, some (.map none)) := by kernel_rfl
theorem inf98 : (Tryz.prog.info? 98).map (fun i => (i.size, i.bytes, i.zero)) = some (1, 24, some (.slice none 0 0)) := by kernel_rfl
theorem inf99 : (Tryz.prog.info? 99).map (fun i => (i.size, i.bytes, i.zero)) = some (3, 40, some (.agg #[.int .i64 0, .slice none 0 0, .map none])) := by kernel_rfl
theorem inf100 : (Tryz.prog.info? 100).map (fun i => (i.size, i.bytes, i.zero)) = some (3, 40, some (.agg #[.int .i64 0, .slice none 0 0, .map none])) := by kernel_rfl
theorem inf101 : (Tryz.prog.info? 101).map (fun i => (i.size, i.bytes, i.zero)) = some (1, 8, some (.map none)) := by kernel_rfl
theorem inf102 : (Tryz.prog.info? 102).map (fun i => (i.size, i.bytes, i.zero)) = some (1, 8, some (.nilFunc)) := by kernel_rfl
theorem inf103 : (Tryz.prog.info? 103).map (fun i => (i.size, i.bytes, i.zero)) = some (1, 8, some (.nilFunc)) := by kernel_rfl
theorem inf104 : (Tryz.prog.info? 104).map (fun i => (i.size, i.bytes, i.zero)) = some (1, 8, some (.nilFunc)) := by kernel_rfl
theorem inf105 : (Tryz.prog.info? 105).map (fun i => (i.size, i.bytes, i.zero)) = some (3, 32, some (.agg #[.int .i64 0, .int .i64 0, .string ⟨#[]⟩])) := by kernel_rfl
theorem inf106 : (Tryz.prog.info? 106).map (fun i => (i.size, i.bytes, i.zero)) = some (3, 32, some (.agg #[.int .i64 0, .int .i64 0, .string ⟨#[]⟩])) := by kernel_rfl
theorem inf107 : (Tryz.prog.info? 107).map (fun i => (i.size, i.bytes, i.zero)) = some (4, 48, some (.agg #[.string ⟨#[]⟩, .int .i64 0, .int .i64 0, .string ⟨#[]⟩])) := by kernel_rfl
theorem inf108 : (Tryz.prog.info? 108).map (fun i => (i.size, i.bytes, i.zero)) = some (4, 48, some (.agg #[.string ⟨#[]⟩, .int .i64 0, .int .i64 0, .string ⟨#[]⟩])) := by kernel_rfl
theorem inf109 : (Tryz.prog.info? 109).map (fun i => (i.size, i.bytes, i.zero)) = some (1, 0, some (.tuple #[.int .i64 0, .bool false])) := by kernel_rfl
theorem inf110 : (Tryz.prog.info? 110).map (fun i => (i.size, i.bytes, i.zero)) = some (1, 8, some (.nilFunc)) := by kernel_rfl
theorem inf111 : (Tryz.prog.info? 111).map (fun i => (i.size, i.bytes, i.zero)) = some (1, 8, some (.nilFunc)) := by kernel_rfl
theorem inf112 : (Tryz.prog.info? 112).map (fun i => (i.size, i.bytes, i.zero)) = some (1, 24, some (.slice none 0 0)) := by kernel_rfl
theorem inf113 : (Tryz.prog.info? 113).map (fun i => (i.size, i.bytes, i.zero)) = some (1, 8, some (.map none)) := by kernel_rfl
theorem inf114 : (Tryz.prog.info? 114).map (fun i => (i.size, i.bytes, i.zero)) = some (1, 8, some (.map none)) := by kernel_rfl
theorem inf115 : (Tryz.prog.info? 115).map (fun i => (i.size, i.bytes, i.zero)) = some (1, 8, some (.nilFunc)) := by kernel_rfl
theorem inf116 : (Tryz.prog.info? 116).map (fun i => (i.size, i.bytes, i.zero)) = some (1, 8, some (.nilFunc)) := by kernel_rfl
theorem inf117 : (Tryz.prog.info? 117).map (fun i => (i.size, i.bytes, i.zero)) = some (1, 8, some (.pointer none)) := by kernel_rfl
theorem inf118 : (Tryz.prog.info? 118).map (fun i => (i.size, i.bytes, i.zero)) = some (1, 8, some (.nilFunc)) := by kernel_rfl
theorem inf119 : (Tryz.prog.info? 119).map (fun i => (i.size, i.bytes, i.zero)) = some (1, 24, some (.slice none 0 0)) := by kernel_rfl
theorem inf120 : (Tryz.prog.info? 120).map (fun i => (i.size, i.bytes, i.zero)) = some (1, 8, some (.nilFunc)) := by kernel_rfl
theorem inf121 : (Tryz.prog.info? 121).map (fun i => (i.size, i.bytes, i.zero)) = some (1, 8, some (.nilFunc)) := by kernel_rfl
theorem inf122 : (Tryz.prog.info? 122).map (fun i => (i.size, i.bytes, i.zero)) = some (1, 0, some (.tuple #[.slice none 0 0, .bool false])) := by kernel_rfl
theorem inf123 : (Tryz.prog.info? 123).map (fun i => (i.size, i.bytes, i.zero)) = some (1, 8, some (.map none)) := by kernel_rfl
theorem inf124 : (Tryz.prog.info? 124).map (fun i => (i.size, i.bytes, i.zero)) = some (1, 8, some (.map none)) := by kernel_rfl
theorem inf125 : (Tryz.prog.info? 125).map (fun i => (i.size, i.bytes, i.zero)) = some (3, 24, some (.agg #[.map none, .map none, .int .i64 0])) := by kernel_rfl
theorem inf126 : (Tryz.prog.info? 126).map (fun i => (i.size, i.bytes, i.zero)) = some (3, 24, some (.agg #[.map none, .map none, .int .i64 0])) := by kernel_rfl
theorem inf127 : (Tryz.prog.info? 127).map (fun i => (i.size, i.bytes, i.zero)) = some (1, 8, some (.nilFunc)) := by kernel_rfl
theorem inf128 : (Tryz.prog.info? 128).map (fun i => (i.size, i.bytes, i.zero)) = some (2, 24, some (.agg #[.string ⟨#[]⟩, .bool false])) := by kernel_rfl
theorem inf129 : (Tryz.prog.info? 129).map (fun i => (i.size, i.bytes, i.zero)) = some (2, 24, some (.agg #[.string ⟨#[]⟩, .bool false])) := by kernel_rfl
theorem inf130 : (Tryz.prog.info? 130).map (fun i => (i.size, i.bytes, i.zero)) = some (1, 24, some (.slice none 0 0)) := by kernel_rfl
theorem inf131 : (Tryz.prog.info? 131).map (fun i => (i.size, i.bytes, i.zero)) = some (1, 8, some (.nilFunc)) := by kernel_rfl
theorem inf132 : (Tryz.prog.info? 132).map (fun i => (i.size, i.bytes, i.zero)) = some (1, 8, some (.nilFunc)) := by kernel_rfl
theorem inf133 : (Tryz.prog.info? 133).map (fun i => (i.size, i.bytes, i.zero)) = some (2, 16, some (.agg #[.int .i64 0, .bool false])) := by kernel_rfl
theorem inf134 : (Tryz.prog.info? 134).map (fun i => (i.size, i.bytes, i.zero)) = some (2, 16, some (.agg #[.int .i64 0, .bool false])) := by kernel_rfl
theorem inf135 : (Tryz.prog.info? 135).map (fun i => (i.size, i.bytes, i.zero)) = some (1, 8, some (.nilFunc)) := by kernel_rfl
theorem inf136 : (Tryz.prog.info? 136).map (fun i => (i.size, i.bytes, i.zero)) = some (1, 8, some (.nilFunc)) := by kernel_rfl
theorem inf137 : (Tryz.prog.info? 137).map (fun i => (i.size, i.bytes, i.zero)) = some (1, 8, some (.nilFunc)) := by kernel_rfl
theorem inf138 : (Tryz.prog.info? 138).map (fun i => (i.size, i.bytes, i.zero)) = some (1, 8, some (.nilFunc)) := by kernel_rfl
theorem inf139 : (Tryz.prog.info? 139).map (fun i => (i.size, i.bytes, i.zero)) = some (1, 8, some (.int .u64 0)) := by kernel_rfl
theorem inf140 : (Tryz.prog.info? 140).map (fun i => (i.size, i.bytes, i.zero)) = some (1, 8, some (.nilFunc)) := by kernel_rfl
theorem inf141 : (Tryz.prog.info? 141).map (fun i => (i.size, i.bytes, i.zero)) = some (1, 8, some (.nilFunc)) := by kernel_rfl
theorem inf142 : (Tryz.prog.info? 142).map (fun i => (i.size, i.bytes, i.zero)) = some (1, 24, some (.slice none 0 0)) := by kernel_rfl
theorem inf143 : (Tryz.prog.info? 143).map (fun i => (i.size, i.bytes, i.zero)) = some (1, 8, some (.nilFunc)) := by kernel_rfl
theorem inf144 : (Tryz.prog.info? 144).map (fun i => (i.size, i.bytes, i.zero)) = some (1, 8, some (.nilFunc)) := by kernel_rfl
theorem inf145 : (Tryz.prog.info? 145).map (fun i => (i.size, i.bytes, i.zero)) = some (1, 8, some (.nilFunc)) := by kernel_rfl
theorem inf146 : (Tryz.prog.info? 146).map (fun i => (i.size, i.bytes, i.zero)) = some (1, 8, some (.nilFunc)) := by kernel_rfl
theorem inf147 : (Tryz.prog.info? 147).map (fun i => (i.size, i.bytes, i.zero)) = some (1, 8, some (.nilFunc)) := by kernel_rfl
theorem inf148 : (Tryz.prog.info? 148).map (fun i => (i.size, i.bytes, i.zero)) = some (1, 8, some (.nilFunc)) := by kernel_rfl
theorem inf149 : (Tryz.prog.info? 149).map (fun i => (i.size, i.bytes, i.zero)) = some (1, 8, some (.nilFunc)) := by kernel_rfl
theorem inf150 : (Tryz.prog.info? 150).map (fun i => (i.size, i.bytes, i.zero)) = some (1, 8, some (.int .u64 0)) := by kernel_rfl
theorem inf151 : (Tryz.prog.info? 151).map (fun i => (i.size, i.bytes, i.zero)) = some (1, 8, some (.nilFunc)) := by kernel_rfl
theorem inf152 : (Tryz.prog.info? 152).map (fun i => (i.size, i.bytes, i.zero)) = some (1, 8, some (.nilFunc)) := by kernel_rfl
theorem inf153 : (Tryz.prog.info? 153).map (fun i => (i.size, i.bytes, i.zero)) = some (1, 8, some (.nilFunc)) := by kernel_rfl
theorem inf154 : (Tryz.prog.info? 154).map (fun i => (i.size, i.bytes, i.zero)) = some (1, 8, some (.nilFunc)) := by kernel_rfl
theorem inf155 : (Tryz.prog.info? 155).map (fun i => (i.size, i.bytes, i.zero)) = some (1, 8, some (.nilFunc)) := by kernel_rfl
theorem inf156 : (Tryz.prog.info? 156).map (fun i => (i.size, i.bytes, i.zero)) = some (1, 8, some (.nilFunc)) := by kernel_rfl
theorem inf157 : (Tryz.prog.info? 157).map (fun i => (i.size, i.bytes, i.zero)) = some (1, 8, some (.nilFunc)) := by kernel_rfl
theorem inf158 : (Tryz.prog.info? 158).map (fun i => (i.size, i.bytes, i.zero)) = some (1, 8, some (.nilFunc)) := by kernel_rfl
theorem inf159 : (Tryz.prog.info? 159).map (fun i => (i.size, i.bytes, i.zero)) = some (1, 8, some (.int .i64 0)) := by kernel_rfl
theorem inf160 : (Tryz.prog.info? 160).map (fun i => (i.size, i.bytes, i.zero)) = some (1, 0, some (.tuple #[.int .i64 0, .int .i64 0])) := by kernel_rfl
theorem inf161 : (Tryz.prog.info? 161).map (fun i => (i.size, i.bytes, i.zero)) = some (1, 8, some (.nilFunc)) := by kernel_rfl
theorem inf162 : (Tryz.prog.info? 162).map (fun i => (i.size, i.bytes, i.zero)) = some (1, 8, some (.nilFunc)) := by kernel_rfl
theorem inf163 : (Tryz.prog.info? 163).map (fun i => (i.size, i.bytes, i.zero)) = some (1, 8, some (.nilFunc)) := by kernel_rfl
theorem inf164 : (Tryz.prog.info? 164).map (fun i => (i.size, i.bytes, i.zero)) = some (1, 8, some (.nilFunc)) := by kernel_rfl
theorem inf165 : (Tryz.prog.info? 165).map (fun i => (i.size, i.bytes, i.zero)) = some (1, 8, some (.nilFunc)) := by kernel_rfl
theorem inf166 : (Tryz.prog.info? 166).map (fun i => (i.size, i.bytes, i.zero)) = some (1, 8, some (.nilFunc)) := by kernel_rfl
theorem inf167 : (Tryz.prog.info? 167).map (fun i => (i.size, i.bytes, i.zero)) = some (1, 4, some (.int .u32 0)) := by kernel_rfl
theorem inf168 : (Tryz.prog.info? 168).map (fun i => (i.size, i.bytes, i.zero)) = some (1, 8, some (.nilFunc)) := by kernel_rfl
theorem inf169 : (Tryz.prog.info? 169).map (fun i => (i.size, i.bytes, i.zero)) = some (1, 8, some (.nilFunc)) := by kernel_rfl
theorem inf170 : (Tryz.prog.info? 170).map (fun i => (i.size, i.bytes, i.zero)) = some (1, 8, some (.int .u64 0)) := by kernel_rfl
theorem inf171 : (Tryz.prog.info? 171).map (fun i => (i.size, i.bytes, i.zero)) = some (1, 8, some (.nilFunc)) := by kernel_rfl
theorem inf172 : (Tryz.prog.info? 172).map (fun i => (i.size, i.bytes, i.zero)) = some (1, 8, some (.nilFunc)) := by kernel_rfl
theorem inf173 : (Tryz.prog.info? 173).map (fun i => (i.size, i.bytes, i.zero)) = some (1, 8, some (.nilFunc)) := by kernel_rfl
theorem inf174 : (Tryz.prog.info? 174).map (fun i => (i.size, i.bytes, i.zero)) = some (1, 8, some (.pointer none)) := by kernel_rfl
theorem inf175 : (Tryz.prog.info? 175).map (fun i => (i.size, i.bytes, i.zero)) = some (1, 8, some (.nilFunc)) := by kernel_rfl
theorem inf176 : (Tryz.prog.info? 176).map (fun i => (i.size, i.bytes, i.zero)) = some (1, 8, some (.nilFunc)) := by kernel_rfl
theorem inf177 : (Tryz.prog.info? 177).map (fun i => (i.size, i.bytes, i.zero)) = some (1, 8, some (.nilFunc)) := by kernel_rfl
theorem inf178 : (Tryz.prog.info? 178).map (fun i => (i.size, i.bytes, i.zero)) = some (1, 8, some (.nilFunc)) := by kernel_rfl
theorem inf179 : (Tryz.prog.info? 179).map (fun i => (i.size, i.bytes, i.zero)) = some (1, 8, some (.nilFunc)) := by kernel_rfl
theorem inf180 : (Tryz.prog.info? 180).map (fun i => (i.size, i.bytes, i.zero)) = some (1, 8, some (.nilFunc)) := by kernel_rfl
theorem inf181 : (Tryz.prog.info? 181).map (fun i => (i.size, i.bytes, i.zero)) = some (1, 8, some (.nilFunc)) := by kernel_rfl
theorem inf182 : (Tryz.prog.info? 182).map (fun i => (i.size, i.bytes, i.zero)) = some (1, 8, some (.nilFunc)) := by kernel_rfl
theorem inf183 : (Tryz.prog.info? 183).map (fun i => (i.size, i.bytes, i.zero)) = some (1, 8, some (.pointer none)) := by kernel_rfl
theorem inf184 : (Tryz.prog.info? 184).map (fun i => (i.size, i.bytes, i.zero)) = some (1, 0, some (.tuple #[.int .i64 0, .int .i64 0])) := by kernel_rfl
theorem inf185 : (Tryz.prog.info? 185).map (fun i => (i.size, i.bytes, i.zero)) = some (1, 8, some (.nilFunc)) := by kernel_rfl
theorem inf186 : (Tryz.prog.info? 186).map (fun i => (i.size, i.bytes, i.zero)) = some (1, 8, some (.nilFunc)) := by kernel_rfl
theorem inf187 : (Tryz.prog.info? 187).map (fun i => (i.size, i.bytes, i.zero)) = some (1, 8, some (.nilFunc)) := by kernel_rfl
theorem inf188 : (Tryz.prog.info? 188).map (fun i => (i.size, i.bytes, i.zero)) = some (1, 8, some (.nilFunc)) := by kernel_rfl
theorem inf189 : (Tryz.prog.info? 189).map (fun i => (i.size, i.bytes, i.zero)) = some (1, 8, some (.nilFunc)) := by kernel_rfl
theorem inf190 : (Tryz.prog.info? 190).map (fun i => (i.size, i.bytes, i.zero)) = some (4, 40, some (.agg #[.pointer none, .pointer none, .pointer none, .string ⟨#[]⟩])) := by kernel_rfl
theorem inf191 : (Tryz.prog.info? 191).map (fun i => (i.size, i.bytes, i.zero)) = some (4, 40, some (.agg #[.pointer none, .pointer none, .pointer none, .string ⟨#[]⟩])) := by kernel_rfl
theorem inf192 : (Tryz.prog.info? 192).map (fun i => (i.size, i.bytes, i.zero)) = some (0, 0, some (.agg #[])) := by kernel_rfl
theorem inf193 : (Tryz.prog.info? 193).map (fun i => (i.size, i.bytes, i.zero)) = some (0, 0, some (.agg #[])) := by kernel_rfl
theorem inf194 : (Tryz.prog.info? 194).map (fun i => (i.size, i.bytes, i.zero)) = some (0, 0, some (.agg #[])) := by kernel_rfl
theorem inf195 : (Tryz.prog.info? 195).map (fun i => (i.size, i.bytes, i.zero)) = some (1, 1, some (.int .u8 0)) := by kernel_rfl
theorem inf196 : (Tryz.prog.info? 196).map (fun i => (i.size, i.bytes, i.zero)) = some (1, 1, some (.int .u8 0)) := by kernel_rfl
theorem inf197 : (Tryz.prog.info? 197).map (fun i => (i.size, i.bytes, i.zero)) = some (1, 8, some (.nilFunc)) := by kernel_rfl
theorem inf198 : (Tryz.prog.info? 198).map (fun i => (i.size, i.bytes, i.zero)) = some (1, 8, some (.pointer none)) := by kernel_rfl
theorem inf199 : (Tryz.prog.info? 199).map (fun i => (i.size, i.bytes, i.zero)) = some (1, 4, some (.int .i32 0)) := by kernel_rfl
theorem inf200 : (Tryz.prog.info? 200).map (fun i => (i.size, i.bytes, i.zero)) = some (1, 4, some (.int .i32 0)) := by kernel_rfl
theorem inf201 : (Tryz.prog.info? 201).map (fun i => (i.size, i.bytes, i.zero)) = some (11, 48, some (.agg #[.int .u64 0, .int .u64 0, .int .u32 0, .int .u8 0, .int .u8 0, .int .u8 0, .int .u8 0, .nilFunc, .pointer none, .int .i32 0, .int .i32 0])) := by kernel_rfl
theorem inf202 : (Tryz.prog.info? 202).map (fun i => (i.size, i.bytes, i.zero)) = some (11, 48, some (.agg #[.int .u64 0, .int .u64 0, .int .u32 0, .int .u8 0, .int .u8 0, .int .u8 0, .int .u8 0, .nilFunc, .pointer none, .int .i32 0, .int .i32 0])) := by kernel_rfl
theorem inf203 : (Tryz.prog.info? 203).map (fun i => (i.size, i.bytes, i.zero)) = some (1, 8, some (.pointer none)) := by kernel_rfl
theorem tInf_ok : ∀ p ∈ tInf, ∃ i, Tryz.prog.info? p.1 = some i ∧ i.size = p.2.1 ∧ i.bytes = p.2.2.1 ∧ i.zero = some p.2.2.2 := by
  simp only [tUnd, tInf, tFld, tFn, List.forall_mem_cons, List.not_mem_nil, false_imp_iff, implies_true, and_true]
  refine ⟨?_, ?_, ?_, ?_, ?_, ?_, ?_, ?_, ?_, ?_, ?_, ?_, ?_, ?_, ?_, ?_, ?_, ?_, ?_, ?_, ?_, ?_, ?_, ?_, ?_, ?_, ?_, ?_, ?_, ?_, ?_, ?_, ?_, ?_, ?_, ?_, ?_, ?_, ?_, ?_, ?_, ?_, ?_, ?_, ?_, ?_, ?_, ?_, ?_, ?_, ?_, ?_, ?_, ?_, ?_, ?_, ?_, ?_, ?_, ?_, ?_, ?_, ?_, ?_, ?_, ?_, ?_, ?_, ?_, ?_, ?_, ?_, ?_, ?_, ?_, ?_, ?_, ?_, ?_, ?_, ?_, ?_, ?_, ?_, ?_, ?_, ?_, ?_, ?_, ?_, ?_, ?_, ?_, ?_, ?_, ?_, ?_, ?_, ?_, ?_, ?_, ?_, ?_, ?_, ?_, ?_, ?_, ?_, ?_, ?_, ?_, ?_, ?_, ?_, ?_, ?_, ?_, ?_, ?_, ?_, ?_, ?_, ?_, ?_, ?_, ?_, ?_, ?_, ?_, ?_, ?_, ?_, ?_, ?_, ?_, ?_, ?_, ?_, ?_, ?_, ?_, ?_, ?_, ?_, ?_, ?_, ?_, ?_, ?_, ?_, ?_, ?_, ?_, ?_, ?_, ?_, ?_, ?_, ?_, ?_, ?_, ?_, ?_, ?_, ?_, ?_, ?_, ?_, ?_, ?_, ?_, ?_, ?_, ?_, ?_, ?_, ?_, ?_, ?_, ?_, ?_, ?_, ?_, ?_, ?_, ?_, ?_, ?_, ?_, ?_, ?_, ?_, ?_, ?_, ?_, ?_, ?_, ?_, ?_, ?_, ?_, ?_, ?_, ?_⟩
  · exact inf_of inf0
  · exact inf_of inf1
  · exact inf_of inf2
  · exact inf_of inf3
  · exact inf_of inf4
  · exact inf_of inf5
  · exact inf_of inf6
  · exact inf_of inf7
  · exact inf_of inf8
  · exact inf_of inf9
  · exact inf_of inf10
  · exact inf_of inf11
  · exact inf_of inf12
  · exact inf_of inf13
  · exact inf_of inf14
  · exact inf_of inf15
  · exact inf_of inf16
  · exact inf_of inf17
  · exact inf_of inf18
  · exact inf_of inf19
  · exact inf_of inf20
  · exact inf_of inf21
  · exact inf_of inf22
  · exact inf_of inf23
  · exact inf_of inf24
  · exact inf_of inf25
  · exact inf_of inf26
  · exact inf_of inf27
  · exact inf_of inf28
  · exact inf_of inf29
  · exact inf_of inf30
  · exact inf_of inf31
  · exact inf_of inf32
  · exact inf_of inf33
  · exact inf_of inf34
  · exact inf_of inf35
  · exact inf_of inf36
  · exact inf_of inf37
  · exact inf_of inf38
  · exact inf_of inf39
  · exact inf_of inf40
  · exact inf_of inf41
  · exact inf_of inf42
  · exact inf_of inf43
  · exact inf_of inf44
  · exact inf_of inf45
  · exact inf_of inf46
  · exact inf_of inf47
  · exact inf_of inf48
  · exact inf_of inf49
  · exact inf_of inf50
  · exact inf_of inf51
  · exact inf_of inf52
  · exact inf_of inf53
  · exact inf_of inf54
  · exact inf_of inf55
  · exact inf_of inf56
  · exact inf_of inf57
  · exact inf_of inf58
  · exact inf_of inf59
  · exact inf_of inf60
  · exact inf_of inf61
  · exact inf_of inf62
  · exact inf_of inf63
  · exact inf_of inf64
  · exact inf_of inf65
  · exact inf_of inf66
  · exact inf_of inf67
  · exact inf_of inf68
  · exact inf_of inf69
  · exact inf_of inf70
  · exact inf_of inf71
  · exact inf_of inf72
  · exact inf_of inf73
  · exact inf_of inf74
  · exact inf_of inf75
  · exact inf_of inf76
  · exact inf_of inf77
  · exact inf_of inf78
  · exact inf_of inf79
  · exact inf_of inf80
  · exact inf_of inf81
  · exact inf_of inf82
  · exact inf_of inf83
  · exact inf_of inf84
  · exact inf_of inf85
  · exact inf_of inf86
  · exact inf_of inf87
  · exact inf_of inf88
  · exact inf_of inf89
  · exact inf_of inf90
  · exact inf_of inf91
  · exact inf_of inf92
  · exact inf_of inf93
  · exact inf_of inf94
  · exact inf_of inf95
  · exact inf_of inf96
  · exact inf_of inf97
  · exact inf_of inf98
  · exact inf_of inf99
  · exact inf_of inf100
  · exact inf_of inf101
  · exact inf_of inf102
  · exact inf_of inf103
  · exact inf_of inf104
  · exact inf_of inf105
  · exact inf_of inf106
  · exact inf_of inf107
  · exact inf_of inf108
  · exact inf_of inf109
  · exact inf_of inf110
  · exact inf_of inf111
  · exact inf_of inf112
  · exact inf_of inf113
  · exact inf_of inf114
  · exact inf_of inf115
  · exact inf_of inf116
  · exact inf_of inf117
  · exact inf_of inf118
  · exact inf_of inf119
  · exact inf_of inf120
  · exact inf_of inf121
  · exact inf_of inf122
  · exact inf_of inf123
  · exact inf_of inf124
  · exact inf_of inf125
  · exact inf_of inf126
  · exact inf_of inf127
  · exact inf_of inf128
  · exact inf_of inf129
  · exact inf_of inf130
  · exact inf_of inf131
  · exact inf_of inf132
  · exact inf_of inf133
  · exact inf_of inf134
  · exact inf_of inf135
  · exact inf_of inf136
  · exact inf_of inf137
  · exact inf_of inf138
  · exact inf_of inf139
  · exact inf_of inf140
  · exact inf_of inf141
  · exact inf_of inf142
  · exact inf_of inf143
  · exact inf_of inf144
  · exact inf_of inf145
  · exact inf_of inf146
  · exact inf_of inf147
  · exact inf_of inf148
  · exact inf_of inf149
  · exact inf_of inf150
  · exact inf_of inf151
  · exact inf_of inf152
  · exact inf_of inf153
  · exact inf_of inf154
  · exact inf_of inf155
  · exact inf_of inf156
  · exact inf_of inf157
  · exact inf_of inf158
  · exact inf_of inf159
  · exact inf_of inf160
  · exact inf_of inf161
  · exact inf_of inf162
  · exact inf_of inf163
  · exact inf_of inf164
  · exact inf_of inf165
  · exact inf_of inf166
  · exact inf_of inf167
  · exact inf_of inf168
  · exact inf_of inf169
  · exact inf_of inf170
  · exact inf_of inf171
  · exact inf_of inf172
  · exact inf_of inf173
  · exact inf_of inf174
  · exact inf_of inf175
  · exact inf_of inf176
  · exact inf_of inf177
  · exact inf_of inf178
  · exact inf_of inf179
  · exact inf_of inf180
  · exact inf_of inf181
  · exact inf_of inf182
  · exact inf_of inf183
  · exact inf_of inf184
  · exact inf_of inf185
  · exact inf_of inf186
  · exact inf_of inf187
  · exact inf_of inf188
  · exact inf_of inf189
  · exact inf_of inf190
  · exact inf_of inf191
  · exact inf_of inf192
  · exact inf_of inf193
  · exact inf_of inf194
  · exact inf_of inf195
  · exact inf_of inf196
  · exact inf_of inf197
  · exact inf_of inf198
  · exact inf_of inf199
  · exact inf_of inf200
  · exact inf_of inf201
  · exact inf_of inf202
  · exact inf_of inf203
theorem fld7 : (Tryz.prog.underlying 7).bind (fun d => match d with | .struct fs => some (fs.toList.map (fun f => (f.offset, f.type))) | _ => none) = some [(0, 2), (1, 3), (2, 4), (3, 6)] := by kernel_rfl
theorem fld8 : (Tryz.prog.underlying 8).bind (fun d => match d with | .struct fs => some (fs.toList.map (fun f => (f.offset, f.type))) | _ => none) = some [(0, 2), (1, 3), (2, 4), (3, 6)] := by kernel_rfl
theorem fld13 : (Tryz.prog.underlying 13).bind (fun d => match d with | .struct fs => some (fs.toList.map (fun f => (f.offset, f.type))) | _ => none) = some [(0, 9), (1, 12)] := by kernel_rfl
theorem fld14 : (Tryz.prog.underlying 14).bind (fun d => match d with | .struct fs => some (fs.toList.map (fun f => (f.offset, f.type))) | _ => none) = some [(0, 9), (1, 12)] := by kernel_rfl
theorem fld18 : (Tryz.prog.underlying 18).bind (fun d => match d with | .struct fs => some (fs.toList.map (fun f => (f.offset, f.type))) | _ => none) = some [(0, 17)] := by kernel_rfl
theorem fld19 : (Tryz.prog.underlying 19).bind (fun d => match d with | .struct fs => some (fs.toList.map (fun f => (f.offset, f.type))) | _ => none) = some [(0, 17)] := by kernel_rfl
theorem fld24 : (Tryz.prog.underlying 24).bind (fun d => match d with | .struct fs => some (fs.toList.map (fun f => (f.offset, f.type))) | _ => none) = some [(0, 3), (1, 3), (2, 22), (3, 3), (4, 23)] := by kernel_rfl
theorem fld25 : (Tryz.prog.underlying 25).bind (fun d => match d with | .struct fs => some (fs.toList.map (fun f => (f.offset, f.type))) | _ => none) = some [(0, 3), (1, 3), (2, 22), (3, 3), (4, 23)] := by kernel_rfl
theorem fld34 : (Tryz.prog.underlying 34).bind (fun d => match d with | .struct fs => some (fs.toList.map (fun f => (f.offset, f.type))) | _ => none) = some [(0, 22), (1, 22)] := by kernel_rfl
theorem fld35 : (Tryz.prog.underlying 35).bind (fun d => match d with | .struct fs => some (fs.toList.map (fun f => (f.offset, f.type))) | _ => none) = some [(0, 22), (1, 22)] := by kernel_rfl
theorem fld36 : (Tryz.prog.underlying 36).bind (fun d => match d with | .struct fs => some (fs.toList.map (fun f => (f.offset, f.type))) | _ => none) = some [(0, 3), (1, 2), (2, 35)] := by kernel_rfl
theorem fld37 : (Tryz.prog.underlying 37).bind (fun d => match d with | .struct fs => some (fs.toList.map (fun f => (f.offset, f.type))) | _ => none) = some [(0, 3), (1, 2), (2, 35)] := by kernel_rfl
theorem fld58 : (Tryz.prog.underlying 58).bind (fun d => match d with | .struct fs => some (fs.toList.map (fun f => (f.offset, f.type))) | _ => none) = some [(0, 3), (1, 50), (2, 57)] := by kernel_rfl
theorem fld59 : (Tryz.prog.underlying 59).bind (fun d => match d with | .struct fs => some (fs.toList.map (fun f => (f.offset, f.type))) | _ => none) = some [(0, 3), (1, 50), (2, 57)] := by kernel_rfl
theorem fld76 : (Tryz.prog.underlying 76).bind (fun d => match d with | .struct fs => some (fs.toList.map (fun f => (f.offset, f.type))) | _ => none) = some [(0, 3), (1, 28), (2, 74), (3, 75), (4, 3)] := by kernel_rfl
theorem fld77 : (Tryz.prog.underlying 77).bind (fun d => match d with | .struct fs => some (fs.toList.map (fun f => (f.offset, f.type))) | _ => none) = some [(0, 3), (1, 28), (2, 74), (3, 75), (4, 3)] := by kernel_rfl
theorem fld81 : (Tryz.prog.underlying 81).bind (fun d => match d with | .struct fs => some (fs.toList.map (fun f => (f.offset, f.type))) | _ => none) = some [(0, 35), (2, 80)] := by kernel_rfl
theorem fld82 : (Tryz.prog.underlying 82).bind (fun d => match d with | .struct fs => some (fs.toList.map (fun f => (f.offset, f.type))) | _ => none) = some [(0, 35), (2, 80)] := by kernel_rfl
theorem fld88 : (Tryz.prog.underlying 88).bind (fun d => match d with | .struct fs => some (fs.toList.map (fun f => (f.offset, f.type))) | _ => none) = some [(0, 3), (1, 3), (2, 87)] := by kernel_rfl
theorem fld89 : (Tryz.prog.underlying 89).bind (fun d => match d with | .struct fs => some (fs.toList.map (fun f => (f.offset, f.type))) | _ => none) = some [(0, 3), (1, 3), (2, 87)] := by kernel_rfl
theorem fld91 : (Tryz.prog.underlying 91).bind (fun d => match d with | .struct fs => some (fs.toList.map (fun f => (f.offset, f.type))) | _ => none) = some [(0, 35), (2, 3)] := by kernel_rfl
theorem fld92 : (Tryz.prog.underlying 92).bind (fun d => match d with | .struct fs => some (fs.toList.map (fun f => (f.offset, f.type))) | _ => none) = some [(0, 35), (2, 3)] := by kernel_rfl
theorem fld99 : (Tryz.prog.underlying 99).bind (fun d => match d with | .struct fs => some (fs.toList.map (fun f => (f.offset, f.type))) | _ => none) = some [(0, 3), (1, 98), (2, 97)] := by kernel_rfl
theorem fld100 : (Tryz.prog.underlying 100).bind (fun d => match d with | .struct fs => some (fs.toList.map (fun f => (f.offset, f.type))) | _ => none) = some [(0, 3), (1, 98), (2, 97)] := by kernel_rfl
theorem fld105 : (Tryz.prog.underlying 105).bind (fun d => match d with | .struct fs => some (fs.toList.map (fun f => (f.offset, f.type))) | _ => none) = some [(0, 3), (1, 2), (2, 9)] := by kernel_rfl
theorem fld106 : (Tryz.prog.underlying 106).bind (fun d => match d with | .struct fs => some (fs.toList.map (fun f => (f.offset, f.type))) | _ => none) = some [(0, 3), (1, 2), (2, 9)] := by kernel_rfl
theorem fld107 : (Tryz.prog.underlying 107).bind (fun d => match d with | .struct fs => some (fs.toList.map (fun f => (f.offset, f.type))) | _ => none) = some [(0, 9), (1, 106)] := by kernel_rfl
theorem fld108 : (Tryz.prog.underlying 108).bind (fun d => match d with | .struct fs => some (fs.toList.map (fun f => (f.offset, f.type))) | _ => none) = some [(0, 9), (1, 106)] := by kernel_rfl
theorem fld125 : (Tryz.prog.underlying 125).bind (fun d => match d with | .struct fs => some (fs.toList.map (fun f => (f.offset, f.type))) | _ => none) = some [(0, 123), (1, 124), (2, 2)] := by kernel_rfl
theorem fld126 : (Tryz.prog.underlying 126).bind (fun d => match d with | .struct fs => some (fs.toList.map (fun f => (f.offset, f.type))) | _ => none) = some [(0, 123), (1, 124), (2, 2)] := by kernel_rfl
theorem fld128 : (Tryz.prog.underlying 128).bind (fun d => match d with | .struct fs => some (fs.toList.map (fun f => (f.offset, f.type))) | _ => none) = some [(0, 9), (1, 4)] := by kernel_rfl
theorem fld129 : (Tryz.prog.underlying 129).bind (fun d => match d with | .struct fs => some (fs.toList.map (fun f => (f.offset, f.type))) | _ => none) = some [(0, 9), (1, 4)] := by kernel_rfl
theorem fld133 : (Tryz.prog.underlying 133).bind (fun d => match d with | .struct fs => some (fs.toList.map (fun f => (f.offset, f.type))) | _ => none) = some [(0, 2), (1, 4)] := by kernel_rfl
theorem fld134 : (Tryz.prog.underlying 134).bind (fun d => match d with | .struct fs => some (fs.toList.map (fun f => (f.offset, f.type))) | _ => none) = some [(0, 2), (1, 4)] := by kernel_rfl
theorem fld190 : (Tryz.prog.underlying 190).bind (fun d => match d with | .struct fs => some (fs.toList.map (fun f => (f.offset, f.type))) | _ => none) = some [(0, 17), (1, 17), (2, 17), (3, 9)] := by kernel_rfl
theorem fld191 : (Tryz.prog.underlying 191).bind (fun d => match d with | .struct fs => some (fs.toList.map (fun f => (f.offset, f.type))) | _ => none) = some [(0, 17), (1, 17), (2, 17), (3, 9)] := by kernel_rfl
theorem fld193 : (Tryz.prog.underlying 193).bind (fun d => match d with | .struct fs => some (fs.toList.map (fun f => (f.offset, f.type))) | _ => none) = some [(0, 192)] := by kernel_rfl
theorem fld194 : (Tryz.prog.underlying 194).bind (fun d => match d with | .struct fs => some (fs.toList.map (fun f => (f.offset, f.type))) | _ => none) = some [(0, 192)] := by kernel_rfl
theorem fld201 : (Tryz.prog.underlying 201).bind (fun d => match d with | .struct fs => some (fs.toList.map (fun f => (f.offset, f.type))) | _ => none) = some [(0, 12), (1, 12), (2, 167), (3, 195), (4, 5), (5, 5), (6, 196), (7, 197), (8, 198), (9, 199), (10, 200)] := by kernel_rfl
theorem fld202 : (Tryz.prog.underlying 202).bind (fun d => match d with | .struct fs => some (fs.toList.map (fun f => (f.offset, f.type))) | _ => none) = some [(0, 12), (1, 12), (2, 167), (3, 195), (4, 5), (5, 5), (6, 196), (7, 197), (8, 198), (9, 199), (10, 200)] := by kernel_rfl
theorem tFld_ok : ∀ p ∈ tFld, ∃ fs, Tryz.prog.underlying p.1 = some (.struct fs) ∧ fs.toList.map (fun f => (f.offset, f.type)) = p.2 := by
  simp only [tUnd, tInf, tFld, tFn, List.forall_mem_cons, List.not_mem_nil, false_imp_iff, implies_true, and_true]
  refine ⟨?_, ?_, ?_, ?_, ?_, ?_, ?_, ?_, ?_, ?_, ?_, ?_, ?_, ?_, ?_, ?_, ?_, ?_, ?_, ?_, ?_, ?_, ?_, ?_, ?_, ?_, ?_, ?_, ?_, ?_, ?_, ?_, ?_, ?_, ?_, ?_, ?_, ?_, ?_, ?_⟩
  · exact fld_of fld7
  · exact fld_of fld8
  · exact fld_of fld13
  · exact fld_of fld14
  · exact fld_of fld18
  · exact fld_of fld19
  · exact fld_of fld24
  · exact fld_of fld25
  · exact fld_of fld34
  · exact fld_of fld35
  · exact fld_of fld36
  · exact fld_of fld37
  · exact fld_of fld58
  · exact fld_of fld59
  · exact fld_of fld76
  · exact fld_of fld77
  · exact fld_of fld81
  · exact fld_of fld82
  · exact fld_of fld88
  · exact fld_of fld89
  · exact fld_of fld91
  · exact fld_of fld92
  · exact fld_of fld99
  · exact fld_of fld100
  · exact fld_of fld105
  · exact fld_of fld106
  · exact fld_of fld107
  · exact fld_of fld108
  · exact fld_of fld125
  · exact fld_of fld126
  · exact fld_of fld128
  · exact fld_of fld129
  · exact fld_of fld133
  · exact fld_of fld134
  · exact fld_of fld190
  · exact fld_of fld191
  · exact fld_of fld193
  · exact fld_of fld194
  · exact fld_of fld201
  · exact fld_of fld202
theorem tFn_ok : ∀ p ∈ tFn, ∀ args w, (callFunc p.1 args).run Tryz.prog w = .ok (.enter p.1 args) w := by
  simp only [tUnd, tInf, tFld, tFn, List.forall_mem_cons, List.not_mem_nil, false_imp_iff, implies_true, and_true]
  refine ⟨?_, ?_, ?_, ?_, ?_, ?_, ?_, ?_, ?_, ?_, ?_, ?_, ?_, ?_, ?_, ?_, ?_, ?_, ?_, ?_, ?_, ?_, ?_, ?_, ?_, ?_, ?_, ?_, ?_, ?_, ?_, ?_, ?_, ?_, ?_, ?_, ?_, ?_, ?_, ?_, ?_, ?_, ?_, ?_, ?_, ?_, ?_, ?_, ?_, ?_, ?_, ?_, ?_, ?_, ?_, ?_, ?_, ?_, ?_, ?_, ?_, ?_, ?_, ?_, ?_, ?_, ?_, ?_, ?_, ?_, ?_, ?_, ?_, ?_, ?_, ?_, ?_, ?_, ?_, ?_, ?_, ?_, ?_, ?_, ?_, ?_, ?_, ?_, ?_, ?_, ?_, ?_, ?_, ?_, ?_, ?_, ?_, ?_, ?_, ?_, ?_, ?_, ?_, ?_, ?_, ?_, ?_, ?_, ?_, ?_, ?_, ?_, ?_, ?_, ?_, ?_, ?_, ?_, ?_, ?_, ?_, ?_, ?_, ?_, ?_, ?_, ?_, ?_, ?_, ?_, ?_, ?_⟩
  · exact run_enter Tryz.func2 (by kernel_rfl) rfl
  · exact run_enter Tryz.func3 (by kernel_rfl) rfl
  · exact run_enter Tryz.func4 (by kernel_rfl) rfl
  · exact run_enter Tryz.func5 (by kernel_rfl) rfl
  · exact run_enter Tryz.func6 (by kernel_rfl) rfl
  · exact run_enter Tryz.func7 (by kernel_rfl) rfl
  · exact run_enter Tryz.func8 (by kernel_rfl) rfl
  · exact run_enter Tryz.func9 (by kernel_rfl) rfl
  · exact run_enter Tryz.func10 (by kernel_rfl) rfl
  · exact run_enter Tryz.func11 (by kernel_rfl) rfl
  · exact run_enter Tryz.func12 (by kernel_rfl) rfl
  · exact run_enter Tryz.func13 (by kernel_rfl) rfl
  · exact run_enter Tryz.func14 (by kernel_rfl) rfl
  · exact run_enter Tryz.func15 (by kernel_rfl) rfl
  · exact run_enter Tryz.func16 (by kernel_rfl) rfl
  · exact run_enter Tryz.func17 (by kernel_rfl) rfl
  · exact run_enter Tryz.func18 (by kernel_rfl) rfl
  · exact run_enter Tryz.func19 (by kernel_rfl) rfl
  · exact run_enter Tryz.func20 (by kernel_rfl) rfl
  · exact run_enter Tryz.func21 (by kernel_rfl) rfl
  · exact run_enter Tryz.func22 (by kernel_rfl) rfl
  · exact run_enter Tryz.func23 (by kernel_rfl) rfl
  · exact run_enter Tryz.func24 (by kernel_rfl) rfl
  · exact run_enter Tryz.func25 (by kernel_rfl) rfl
  · exact run_enter Tryz.func26 (by kernel_rfl) rfl
  · exact run_enter Tryz.func27 (by kernel_rfl) rfl
  · exact run_enter Tryz.func28 (by kernel_rfl) rfl
  · exact run_enter Tryz.func29 (by kernel_rfl) rfl
  · exact run_enter Tryz.func30 (by kernel_rfl) rfl
  · exact run_enter Tryz.func31 (by kernel_rfl) rfl
  · exact run_enter Tryz.func32 (by kernel_rfl) rfl
  · exact run_enter Tryz.func33 (by kernel_rfl) rfl
  · exact run_enter Tryz.func34 (by kernel_rfl) rfl
  · exact run_enter Tryz.func35 (by kernel_rfl) rfl
  · exact run_enter Tryz.func36 (by kernel_rfl) rfl
  · exact run_enter Tryz.func37 (by kernel_rfl) rfl
  · exact run_enter Tryz.func38 (by kernel_rfl) rfl
  · exact run_enter Tryz.func39 (by kernel_rfl) rfl
  · exact run_enter Tryz.func40 (by kernel_rfl) rfl
  · exact run_enter Tryz.func41 (by kernel_rfl) rfl
  · exact run_enter Tryz.func42 (by kernel_rfl) rfl
  · exact run_enter Tryz.func43 (by kernel_rfl) rfl
  · exact run_enter Tryz.func44 (by kernel_rfl) rfl
  · exact run_enter Tryz.func45 (by kernel_rfl) rfl
  · exact run_enter Tryz.func46 (by kernel_rfl) rfl
  · exact run_enter Tryz.func47 (by kernel_rfl) rfl
  · exact run_enter Tryz.func48 (by kernel_rfl) rfl
  · exact run_enter Tryz.func49 (by kernel_rfl) rfl
  · exact run_enter Tryz.func50 (by kernel_rfl) rfl
  · exact run_enter Tryz.func51 (by kernel_rfl) rfl
  · exact run_enter Tryz.func52 (by kernel_rfl) rfl
  · exact run_enter Tryz.func53 (by kernel_rfl) rfl
  · exact run_enter Tryz.func54 (by kernel_rfl) rfl
  · exact run_enter Tryz.func55 (by kernel_rfl) rfl
  · exact run_enter Tryz.func56 (by kernel_rfl) rfl
  · exact run_enter Tryz.func57 (by kernel_rfl) rfl
  · exact run_enter Tryz.func58 (by kernel_rfl) rfl
  · exact run_enter Tryz.func59 (by kernel_rfl) rfl
  · exact run_enter Tryz.func60 (by kernel_rfl) rfl
  · exact run_enter Tryz.func61 (by kernel_rfl) rfl
  · exact run_enter Tryz.func62 (by kernel_rfl) rfl
  · exact run_enter Tryz.func63 (by kernel_rfl) rfl
  · exact run_enter Tryz.func64 (by kernel_rfl) rfl
  · exact run_enter Tryz.func65 (by kernel_rfl) rfl
  · exact run_enter Tryz.func66 (by kernel_rfl) rfl
  · exact run_enter Tryz.func67 (by kernel_rfl) rfl
  · exact run_enter Tryz.func68 (by kernel_rfl) rfl
  · exact run_enter Tryz.func69 (by kernel_rfl) rfl
  · exact run_enter Tryz.func70 (by kernel_rfl) rfl
  · exact run_enter Tryz.func71 (by kernel_rfl) rfl
  · exact run_enter Tryz.func72 (by kernel_rfl) rfl
  · exact run_enter Tryz.func73 (by kernel_rfl) rfl
  · exact run_enter Tryz.func74 (by kernel_rfl) rfl
  · exact run_enter Tryz.func75 (by kernel_rfl) rfl
  · exact run_enter Tryz.func76 (by kernel_rfl) rfl
  · exact run_enter Tryz.func77 (by kernel_rfl) rfl
  · exact run_enter Tryz.func78 (by kernel_rfl) rfl
  · exact run_enter Tryz.func79 (by kernel_rfl) rfl
  · exact run_enter Tryz.func80 (by kernel_rfl) rfl
  · exact run_enter Tryz.func81 (by kernel_rfl) rfl
  · exact run_enter Tryz.func82 (by kernel_rfl) rfl
  · exact run_enter Tryz.func83 (by kernel_rfl) rfl
  · exact run_enter Tryz.func84 (by kernel_rfl) rfl
  · exact run_enter Tryz.func85 (by kernel_rfl) rfl
  · exact run_enter Tryz.func86 (by kernel_rfl) rfl
  · exact run_enter Tryz.func87 (by kernel_rfl) rfl
  · exact run_enter Tryz.func88 (by kernel_rfl) rfl
  · exact run_enter Tryz.func89 (by kernel_rfl) rfl
  · exact run_enter Tryz.func90 (by kernel_rfl) rfl
  · exact run_enter Tryz.func91 (by kernel_rfl) rfl
  · exact run_enter Tryz.func92 (by kernel_rfl) rfl
  · exact run_enter Tryz.func93 (by kernel_rfl) rfl
  · exact run_enter Tryz.func94 (by kernel_rfl) rfl
  · exact run_enter Tryz.func95 (by kernel_rfl) rfl
  · exact run_enter Tryz.func96 (by kernel_rfl) rfl
  · exact run_enter Tryz.func97 (by kernel_rfl) rfl
  · exact run_enter Tryz.func98 (by kernel_rfl) rfl
  · exact run_enter Tryz.func99 (by kernel_rfl) rfl
  · exact run_enter Tryz.func100 (by kernel_rfl) rfl
  · exact run_enter Tryz.func101 (by kernel_rfl) rfl
  · exact run_enter Tryz.func102 (by kernel_rfl) rfl
  · exact run_enter Tryz.func103 (by kernel_rfl) rfl
  · exact run_enter Tryz.func104 (by kernel_rfl) rfl
  · exact run_enter Tryz.func105 (by kernel_rfl) rfl
  · exact run_enter Tryz.func106 (by kernel_rfl) rfl
  · exact run_enter Tryz.func107 (by kernel_rfl) rfl
  · exact run_enter Tryz.func108 (by kernel_rfl) rfl
  · exact run_enter Tryz.func109 (by kernel_rfl) rfl
  · exact run_enter Tryz.func111 (by kernel_rfl) rfl
  · exact run_enter Tryz.func112 (by kernel_rfl) rfl
  · exact run_enter Tryz.func113 (by kernel_rfl) rfl
  · exact run_enter Tryz.func114 (by kernel_rfl) rfl
  · exact run_enter Tryz.func115 (by kernel_rfl) rfl
  · exact run_enter Tryz.func116 (by kernel_rfl) rfl
  · exact run_enter Tryz.func117 (by kernel_rfl) rfl
  · exact run_enter Tryz.func118 (by kernel_rfl) rfl
  · exact run_enter Tryz.func119 (by kernel_rfl) rfl
  · exact run_enter Tryz.func120 (by kernel_rfl) rfl
  · exact run_enter Tryz.func121 (by kernel_rfl) rfl
  · exact run_enter Tryz.func122 (by kernel_rfl) rfl
  · exact run_enter Tryz.func123 (by kernel_rfl) rfl
  · exact run_enter Tryz.func124 (by kernel_rfl) rfl
  · exact run_enter Tryz.func125 (by kernel_rfl) rfl
  · exact run_enter Tryz.func126 (by kernel_rfl) rfl
  · exact run_enter Tryz.func127 (by kernel_rfl) rfl
  · exact run_enter Tryz.func128 (by kernel_rfl) rfl
  · exact run_enter Tryz.func129 (by kernel_rfl) rfl
  · exact run_enter Tryz.func130 (by kernel_rfl) rfl
  · exact run_enter Tryz.func131 (by kernel_rfl) rfl
  · exact run_enter Tryz.func132 (by kernel_rfl) rfl
  · exact run_enter Tryz.func133 (by kernel_rfl) rfl
  · exact run_enter Tryz.func134 (by kernel_rfl) rfl
theorem ifc20 : (match Tryz.prog.underlying 20 with | some (.interface _) => true | _ => false) = true := by kernel_rfl
def tIfc : List (Nat × Bool) := [(20, true)]
theorem tIfc_ok : ∀ p ∈ tIfc, ∃ ms, Tryz.prog.underlying p.1 = some (.interface ms) := by
  simp only [tUnd, tInf, tFld, tFn, tIfc, List.forall_mem_cons, List.not_mem_nil, false_imp_iff, implies_true, and_true]
  · exact ifc_of ifc20
theorem follows_mixed : Tryz.prog.follows .mixedOrders = true := by kernel_rfl
def TE : Env Tryz.prog where
  und := look2 tUnd
  und_ok := look2_ok (Q := fun t d => Tryz.prog.underlying t = some d) tUnd tUnd_ok
  inf := look2 tInf
  inf_ok := fun t s b z h => look2_ok (Q := fun t (x : Nat × Nat × Value) => ∃ i, Tryz.prog.info? t = some i ∧ i.size = x.1 ∧ i.bytes = x.2.1 ∧ i.zero = some x.2.2) tInf tInf_ok t (s, b, z) h
  fld := look2 tFld
  fld_ok := look2_ok (Q := fun t l => ∃ fs, Tryz.prog.underlying t = some (.struct fs) ∧ fs.toList.map (fun f => (f.offset, f.type)) = l) tFld tFld_ok
  fn := fun g => (look2 tFn g).isSome
  fn_ok := fun g h => by
    obtain ⟨b, hb⟩ := Option.isSome_iff_exists.1 h
    exact look2_ok (Q := fun g _ => ∀ args w, (callFunc g args).run Tryz.prog w = .ok (.enter g args) w) tFn tFn_ok g b hb
  mixed := follows_mixed
  ifc := fun t => (look2 tIfc t).isSome
  ifc_ok := fun t h => by
    obtain ⟨b, hb⟩ := Option.isSome_iff_exists.1 h
    exact look2_ok (Q := fun t _ => ∃ ms, Tryz.prog.underlying t = some (.interface ms)) tIfc tIfc_ok t b hb
end Go.Proofs.YtgdbckjkeofoaaaGreat

/- Keys, in plain words. -/
namespace Go.Proofs.Foot
open Go.Proofs.Eng
set_option linter.unusedSimpArgs false
set_option linter.unusedVariables false
/-- A text. -/
abbrev Tx := List UInt8
/-- The bytes of keys. -/
def okc (c : Nat) : Bool := decide ((97 ≤ c ∧ c ≤ 122) ∨ (48 ≤ c ∧ c ≤ 57) ∨ c = 47 ∨ c = 58 ∨ c = 46 ∨ c = 95 ∨ c = 45)
def kbytes : List UInt8 := [97, 98, 99, 100, 101, 102, 103, 104, 105, 106, 107, 108, 109, 110, 111, 112, 113, 114, 115, 116, 117, 118, 119, 120, 121, 122, 48, 49, 50, 51, 52, 53, 54, 55, 56, 57, 47, 58, 46, 95, 45]
set_option maxRecDepth 20000 in
theorem ix_key : ∀ c : Fin 256, (0 ≤ Lib.indexByte kbytes (UInt8.ofNat c.val)) ↔ okc c.val = true := by decide
theorem ix_key' {c : Nat} (h : c < 256) : (0 ≤ Lib.indexByte kbytes ((c : Int).toNat.toUInt8)) ↔ okc c = true := ix_key ⟨c, h⟩
def validT (l : Tx) : Bool := l.all (fun c => okc c.toNat) && decide (1 ≤ l.length ∧ l.length ≤ 32)
def okUpto (l : Tx) (i : Nat) : Prop := ∀ j, j < i → okc (gb l j) = true
theorem valid_no {l : Tx} {i : Nat} (hi : i < l.length) (h : okc (gb l i) = false) : validT l = false := by
  have : l.all (fun c => okc c.toNat) = false := by
    rw [List.all_eq_false]
    refine ⟨l[i], List.getElem_mem hi, ?_⟩
    have e : gb l i = (l[i]).toNat := by simp [gb, List.getD_eq_getElem?_getD, List.getElem?_eq_getElem hi]
    rw [← e, h]
    simp
  simp [validT, this]
theorem valid_end {l : Tx} (h : okUpto l l.length) : validT l = decide (1 ≤ l.length ∧ l.length ≤ 32) := by
  have : l.all (fun c => okc c.toNat) = true := by
    rw [List.all_eq_true]
    intro x hx
    obtain ⟨i, hi, rfl⟩ := List.mem_iff_getElem.1 hx
    have := h i hi
    simpa [gb, List.getD_eq_getElem?_getD, List.getElem?_eq_getElem hi] using this
  simp only [validT, this, Bool.true_and]
def hstep (h c : Nat) : Nat := (h ^^^ c) * 1099511628211 % 2 ^ 64
def hashU (l : Tx) : Nat → Nat
  | 0 => 14695981039346656037
  | i + 1 => hstep (hashU l i) (gb l i)
def hashT (l : Tx) : Nat := hashU l l.length
theorem hashU_lt (l : Tx) (i : Nat) : hashU l i < 2 ^ 64 := by
  cases i with
  | zero => show 14695981039346656037 < 2 ^ 64; decide
  | succ i => exact Nat.mod_lt _ (by decide)
end Go.Proofs.Foot

/- What a footprint's texts are and how each is used; in plain words. -/
namespace Go.Proofs.Foot
open Go.Proofs.Eng
set_option linter.unusedSimpArgs false
set_option linter.unusedVariables false
abbrev tK : Tx → Value := fun l => Value.string (ofL l)
abbrev uV : Nat → Value := fun u => Value.int .u8 (u : Int)
abbrev TM := List (Tx × Nat)
def addM (b : Nat) (m : TM) (t : Tx) : TM := mput m t ((mget m t).getD 0 ||| b)
def addL (b : Nat) (m : TM) (l : List Tx) : TM := l.foldl (addM b) m
def ofM (r w : List Tx) : TM := addL 2 (addL 1 [] r) w
theorem mget_mput (m : TM) (k t : Tx) (v : Nat) : mget (mput m k v) t = if k = t then some v else mget m t := by
  induction m with
  | nil => simp [mput, mget]
  | cons p m ih =>
    by_cases h : p.1 = k
    · simp only [mput, if_pos h, mget]
      by_cases e : k = t
      · simp [e]
      · simp [e, h]
    · simp only [mput, if_neg h, mget]
      by_cases e : p.1 = t
      · have : ¬ k = t := fun q => h (e.trans q.symm)
        simp [e, this]
      · simp [e, ih]
theorem mput_keys (m : TM) (k : Tx) (v : Nat) : (mput m k v).map (·.1) = if k ∈ m.map (·.1) then m.map (·.1) else m.map (·.1) ++ [k] := by
  induction m with
  | nil => simp [mput]
  | cons p m ih =>
    by_cases h : p.1 = k
    · simp [mput, h]
    · simp only [mput, if_neg h, List.map_cons, ih, List.mem_cons]
      have : ¬ k = p.1 := fun q => h q.symm
      simp only [this, false_or]
      split <;> simp
theorem mput_nodup {m : TM} (k : Tx) (v : Nat) (h : (m.map (·.1)).Nodup) : ((mput m k v).map (·.1)).Nodup := by
  rw [mput_keys]
  split
  · exact h
  · rename_i hk
    rw [List.nodup_append]
    refine ⟨h, by simp, fun a ha b hb => ?_⟩
    simp only [List.mem_singleton] at hb
    rintro rfl
    exact hk (hb ▸ ha)
/-- The bits of one text. -/
def bitsM (m : TM) (t : Tx) : Nat := (mget m t).getD 0
theorem bits_addM (b : Nat) (m : TM) (k t : Tx) : bitsM (addM b m k) t = if k = t then bitsM m t ||| b else bitsM m t := by
  unfold bitsM addM
  rw [mget_mput]
  split
  · rename_i e; subst e; rfl
  · rfl
theorem bits_addL (b : Nat) : ∀ (l : List Tx) (m : TM) (t : Tx), bitsM (addL b m l) t = if t ∈ l then bitsM m t ||| b else bitsM m t
  | [], m, t => by simp [addL]
  | k :: l, m, t => by
    show bitsM (addL b (addM b m k) l) t = _
    rw [bits_addL b l, bits_addM]
    by_cases h : t ∈ l
    · by_cases e : k = t
      · simp [h, e, Nat.or_assoc]
      · simp [h, e]
    · by_cases e : k = t
      · subst e; simp [h]
      · have e' : ¬ t = k := fun q => e q.symm
        simp [h, e, e']
theorem bits_of (r w : List Tx) (t : Tx) : bitsM (ofM r w) t = (if t ∈ r then 1 else 0) + (if t ∈ w then 2 else 0) := by
  unfold ofM
  rw [bits_addL, bits_addL]
  have : bitsM [] t = 0 := rfl
  rw [this]
  by_cases h : t ∈ r <;> by_cases g : t ∈ w <;> simp [h, g]
theorem addM_lt {b : Nat} {m : TM} (k : Tx) (hb : b < 4) (h : ∀ t, bitsM m t < 4) : ∀ t, bitsM (addM b m k) t < 4 := fun t => by
  rw [bits_addM]
  split
  · exact Nat.or_lt_two_pow (n := 2) (h t) hb
  · exact h t
theorem addL_lt {b : Nat} (hb : b < 4) : ∀ (l : List Tx) (m : TM), (∀ t, bitsM m t < 4) → ∀ t, bitsM (addL b m l) t < 4
  | [], m, h => h
  | k :: l, m, h => addL_lt hb l (addM b m k) (addM_lt k hb h)
theorem addL_nodup (b : Nat) : ∀ (l : List Tx) (m : TM), (m.map (·.1)).Nodup → ((addL b m l).map (·.1)).Nodup
  | [], m, h => h
  | k :: l, m, h => addL_nodup b l (addM b m k) (mput_nodup _ _ h)
theorem of_nodup (r w : List Tx) : ((ofM r w).map (·.1)).Nodup := addL_nodup 2 _ _ (addL_nodup 1 _ _ (by simp))
/-- What lies in the map is looked up. -/
theorem mget_mem {m : TM} {p : Tx × Nat} (hn : (m.map (·.1)).Nodup) (h : p ∈ m) : mget m p.1 = some p.2 := by
  induction m with
  | nil => simp at h
  | cons q m ih =>
    simp only [List.map_cons, List.nodup_cons] at hn
    rcases List.mem_cons.1 h with e | h
    · simp [mget, ← e]
    · have : ¬ q.1 = p.1 := fun e => hn.1 (e ▸ List.mem_map_of_mem h)
      simp [mget, this, ih hn.2 h]
theorem mem_mget {m : TM} {t : Tx} {v : Nat} (h : mget m t = some v) : (t, v) ∈ m := by
  induction m with
  | nil => simp [mget] at h
  | cons q m ih =>
    by_cases e : q.1 = t
    · simp only [mget, if_pos e, Option.some.injEq] at h
      simp [← e, ← h]
    · simp only [mget, if_neg e] at h
      exact List.mem_cons_of_mem _ (ih h)
theorem addL_take (b : Nat) (m : TM) (l : List Tx) (i : Nat) (hi : i < l.length) : addL b m (l.take (i + 1)) = addM b (addL b m (l.take i)) (l.getD i []) := by
  unfold addL
  rw [List.take_succ_eq_append_getElem hi, List.foldl_append]
  simp [List.getD_eq_getElem?_getD, List.getElem?_eq_getElem hi]
theorem addL_one (r : List Tx) (i : Nat) (t : Tx) : bitsM (addL 1 [] (r.take i)) t < 4 := addL_lt (by decide) _ _ (fun t => by simp [bitsM, mget]) t
theorem addL_two (r k : List Tx) (i : Nat) (t : Tx) : bitsM (addL 2 (addL 1 [] r) (k.take i)) t < 4 := addL_lt (by decide) _ _ (fun t => addL_lt (by decide) _ _ (fun t => by simp [bitsM, mget]) t) t
/-- The texts that are used so, rising. -/
def le2 (x y : Tx) : Bool := decide (x ≤ y)
def used (m : TM) (u : Nat) : List Tx := (m.filter fun p => p.2 &&& u != 0).map (·.1)
def keysM (m : TM) (u : Nat) : List Tx := (used m u).mergeSort le2
end Go.Proofs.Foot

/- The lock table, in plain words. -/
namespace Go.Proofs.Locks
open Go.Proofs.Eng Go.Proofs.Foot
set_option linter.unusedSimpArgs false
set_option linter.unusedVariables false
abbrev Lk := Tx × Bool
abbrev Akk := Int × Bool
abbrev Ent := Int × List Lk
def lkV (p : Lk) : List Value := [.string (ofL p.1), .bool p.2]
def akV (p : Akk) : List Value := [.int .i64 p.1, .bool p.2]
theorem lkV_len (p : Lk) : (lkV p).length = 2 := rfl
theorem akV_len (p : Akk) : (akV p).length = 2 := rfl
theorem lkV_one (p : Lk) : ∀ u ∈ lkV p, u.oneCell' = true := by
  intro u hu
  simp only [lkV, List.mem_cons, List.not_mem_nil, or_false] at hu
  rcases hu with rfl | rfl <;> rfl
theorem akV_one (p : Akk) : ∀ u ∈ akV p, u.oneCell' = true := by
  intro u hu
  simp only [akV, List.mem_cons, List.not_mem_nil, or_false] at hu
  rcases hu with rfl | rfl <;> rfl
def lk0 : Lk := ([], false)
def ak0 : Akk := (0, false)
/-- What one asks of a key. -/
def asks (l : List Lk) (k : Tx) : Option Bool := (l.find? fun x => decide (x.1 = k)).map (·.2)
def qOf (E : List Ent) (k : Tx) : List Akk := E.filterMap fun e => (asks e.2 k).map fun b => (e.1, b)
def grantN (q : List Akk) : Nat :=
  let n := (q.takeWhile fun x => !x.2).length
  if n = 0 ∧ 0 < q.length then 1 else n
def placeI : List Akk → Int → Int
  | [], _ => -1
  | x :: q, s => if x.1 = s then 0 else let r := placeI q s; if r < 0 then -1 else r + 1
def eget (E : List Ent) (s : Int) : Option (List Lk) := (E.find? fun e => decide (e.1 = s)).map (·.2)
def readyL (E : List Ent) (s : Int) (l : List Lk) : Bool := l.all fun x => decide (placeI (qOf E x.1) s < (grantN (qOf E x.1) : Int))
def readyE (E : List Ent) (s : Int) : Bool := match eget E s with
  | none => false
  | some l => readyL E s l
def overT (p : Option Tx) (x : Tx) : Bool := match p with
  | some y => decide (x ≤ y)
  | none => false
def chk : Option Tx → List Lk → Nat
  | _, [] => 0
  | p, x :: t => if validT x.1 = false then 30 else if overT p x.1 = true then 40 else chk (some x.1) t
structure LS where
  E : List Ent
  nx : Int
def bump (s : Int) : Int := IntKind.i64.wrap (s + 1)
theorem bump_lt {s : Int} (h0 : 0 ≤ s) (h : s < 9223372036854775807) : bump s = s + 1 := Fits.wrap (by show _ ∧ _; omega)
theorem bump_max : bump 9223372036854775807 = -9223372036854775808 := by decide
def enqE (t : LS) (s : Int) (l : List Lk) : LS × Nat :=
  if s < t.nx ∨ t.nx < 0 then (t, 140) else if chk none l ≠ 0 then (t, chk none l) else (⟨t.E ++ [(s, l)], bump s⟩, 0)
def relE (t : LS) (s : Int) : LS × Nat := match eget t.E s with
  | none => (t, 7)
  | some _ => if readyE t.E s = true then (⟨t.E.filter fun e => !decide (e.1 = s), t.nx⟩, 0) else (t, 141)
def allE (t : LS) : List Int := t.E.map (·.1)
def readiesE (t : LS) : List Int := (allE t).filter (readyE t.E)
/-- For whom one waits. -/
def clashL (a l : List Lk) : Bool := l.any fun x => match asks a x.1 with
  | none => false
  | some b => b || x.2
def waitsE (t : LS) (s : Int) : List Int := match eget t.E s with
  | none => []
  | some l => ((t.E.takeWhile fun e => !decide (e.1 = s)).filter fun e => clashL e.2 l).map (·.1)
def queueE (t : LS) (k : Tx) : List (Akk × Bool) := (qOf t.E k).zipIdx.map fun x => (x.1, decide (x.2 < grantN (qOf t.E k)))
def heldE (t : LS) (k : Tx) : List Int := ((queueE t k).filter (·.2)).map (·.1.1)
/-- What holds of every table. -/
structure OkT (N : Nat) (t : LS) : Prop where
  srt : (t.E.map (·.1)).Pairwise (· < ·)
  lo : ∀ e ∈ t.E, 0 ≤ e.1 ∧ e.1 ≤ 9223372036854775807
  hi : 0 ≤ t.nx → ∀ e ∈ t.E, e.1 < t.nx
  nx : -9223372036854775808 ≤ t.nx ∧ t.nx ≤ 9223372036854775807
  ky : ∀ e ∈ t.E, chk none e.2 = 0
  ln : t.E.length ≤ N
  lk : ∀ e ∈ t.E, e.2.length ≤ 1000000
theorem OkT.mono {N M : Nat} {t : LS} (h : OkT N t) (hn : N ≤ M) : OkT M t := { h with ln := Nat.le_trans h.ln hn }
theorem OkT.start : OkT 0 ⟨[], 0⟩ := by constructor <;> simp
theorem chk_rise : ∀ {l : List Lk} {p : Option Tx}, chk p l = 0 → (l.map (·.1)).Pairwise (· < ·) ∧ (∀ x ∈ l, validT x.1 = true) ∧ ∀ y, p = some y → ∀ x ∈ l, y < x.1
  | [], p, h => by simp
  | x :: t, p, h => by
    unfold chk at h
    by_cases h1 : validT x.1 = false
    · rw [if_pos h1] at h; cases h
    · rw [if_neg h1] at h
      by_cases h2 : overT p x.1 = true
      · rw [if_pos h2] at h; cases h
      · rw [if_neg h2] at h
        obtain ⟨g1, g2, g3⟩ := chk_rise h
        have g3 := g3 x.1 rfl
        have hp : ∀ y, p = some y → y < x.1 := fun y e => by
          subst e
          simp only [overT, decide_eq_true_eq] at h2
          exact List.not_le.1 h2
        refine ⟨?_, ?_, ?_⟩
        · rw [List.map_cons, List.pairwise_cons]
          refine ⟨fun a ha => ?_, g1⟩
          obtain ⟨z, hz, rfl⟩ := List.mem_map.1 ha
          exact g3 z hz
        · intro z hz
          rcases List.mem_cons.1 hz with rfl | hz
          · simpa using h1
          · exact g2 z hz
        · intro y e z hz
          rcases List.mem_cons.1 hz with rfl | hz
          · exact hp y e
          · exact List.lt_trans (hp y e) (g3 z hz)
theorem chk_nodup {l : List Lk} (h : chk none l = 0) : (l.map (·.1)).Nodup := (chk_rise h).1.imp (fun {a b} h e => by subst e; exact List.lt_irrefl a h)
theorem asks_none {l : List Lk} {k : Tx} : asks l k = none ↔ k ∉ l.map (·.1) := by
  unfold asks
  rw [Option.map_eq_none_iff, List.find?_eq_none]
  simp only [decide_eq_true_eq, List.mem_map, not_exists, not_and]
theorem asks_append (a b : List Lk) (k : Tx) : asks (a ++ b) k = (asks a k).or (asks b k) := by
  unfold asks
  rw [List.find?_append]
  cases List.find? (fun x => decide (x.1 = k)) a <;> simp
theorem asks_single (x : Lk) (k : Tx) : asks [x] k = if x.1 = k then some x.2 else none := by
  unfold asks
  by_cases e : x.1 = k
  · simp [e]
  · simp [e]
theorem qOf_append (A B : List Ent) (k : Tx) : qOf (A ++ B) k = qOf A k ++ qOf B k := by simp [qOf]
theorem qOf_single (s : Int) (l : List Lk) (k : Tx) : qOf [(s, l)] k = (match asks l k with | none => [] | some b => [(s, b)]) := by
  unfold qOf
  cases h : asks l k <;> simp [h]
/-- Behind the first i of the locks. -/
def qMid (E : List Ent) (s : Int) (l : List Lk) (i : Nat) (k : Tx) : List Akk := qOf (E ++ [(s, l.take i)]) k
theorem qMid_zero (E : List Ent) (s : Int) (l : List Lk) (k : Tx) : qMid E s l 0 k = qOf E k := by simp [qMid, qOf_append, qOf_single, asks]
theorem qMid_end (E : List Ent) (s : Int) (l : List Lk) (k : Tx) : qMid E s l l.length k = qOf (E ++ [(s, l)]) k := by simp [qMid]
theorem qMid_succ (E : List Ent) (s : Int) (l : List Lk) (i : Nat) (hi : i < l.length) (hn : (l.map (·.1)).Nodup) (k : Tx) :
    qMid E s l (i + 1) k = if k = (l.getD i lk0).1 then qMid E s l i k ++ [(s, (l.getD i lk0).2)] else qMid E s l i k := by
  unfold qMid
  rw [qOf_append, qOf_append, qOf_single, qOf_single, List.take_succ_eq_append_getElem hi, asks_append, asks_single]
  have hg : l.getD i lk0 = l[i] := by rw [List.getD_eq_getElem?_getD, List.getElem?_eq_getElem hi]; rfl
  rw [hg]
  by_cases e : k = l[i].1
  · subst e
    rw [if_pos rfl, if_pos rfl]
    have : asks (l.take i) l[i].1 = none := by
      rw [asks_none]
      intro hm
      rw [List.mem_map] at hm
      obtain ⟨x, hx, he⟩ := hm
      obtain ⟨j, hj, rfl⟩ := List.mem_iff_getElem.1 hx
      rw [List.getElem_take] at he
      have hj' : j < i := by simp at hj; omega
      have h2 := List.pairwise_iff_getElem.1 (List.nodup_iff_pairwise_ne.1 hn) j i (by simp; omega) (by simpa using hi) hj'
      simp only [List.getElem_map] at h2
      exact h2 he
    rw [this]
    simp
  · rw [if_neg e, if_neg (fun q => e q.symm)]
    cases asks (l.take i) k <;> simp
end Go.Proofs.Locks

/- The normal form of a footprint. -/
namespace Go.Proofs.Foot
open Go.Proofs.Eng
set_option linter.unusedSimpArgs false
set_option linter.unusedVariables false
theorem of_lt4 (r k : List Tx) : ∀ p ∈ ofM r k, p.2 < 4 := fun p hp => by
  have h1 := mget_mem (of_nodup r k) hp
  have h2 := bits_of r k p.1
  unfold bitsM at h2
  rw [h1] at h2
  simp only [Option.getD_some] at h2
  rw [h2]
  split <;> split <;> omega
def normF (r k : List Tx) : (List Tx × List Tx) × Int :=
  if r.all validT && k.all validT then (if 64 < (ofM r k).length then (([], []), 6) else ((keysM (ofM r k) 1, keysM (ofM r k) 2), 0)) else (([], []), 30)
/-- No text is longer than an int can tell. -/
def Short (l : List Tx) : Prop := ∀ i, i < l.length → (l.getD i []).length ≤ 9223372036854775807
theorem all_upto {l : List Tx} (h : ∀ j, j < l.length → validT (l.getD j []) = true) : l.all validT = true := by
  rw [List.all_eq_true]
  intro x hx
  obtain ⟨i, hi, rfl⟩ := List.mem_iff_getElem.1 hx
  have := h i hi
  simpa [List.getD_eq_getElem?_getD, List.getElem?_eq_getElem hi] using this
theorem all_not {l : List Tx} {i : Nat} (hi : i < l.length) (h : validT (l.getD i []) = false) : l.all validT = false := by
  rw [List.all_eq_false]
  refine ⟨l[i], List.getElem_mem hi, ?_⟩
  rw [List.getD_eq_getElem?_getD, List.getElem?_eq_getElem hi] at h
  simpa using h
end Go.Proofs.Foot

/- The scheduler and its store, in plain words. -/
namespace Go.Proofs.Sched
open Go.Proofs.Eng Go.Proofs.Foot Go.Proofs.Locks
set_option linter.unusedSimpArgs false
set_option linter.unusedVariables false
abbrev CL := List (Tx × Int)
structure StE where
  room : Nat
  C : List CL
def partT (k : Tx) (n : Nat) : Nat := hashT k % n
def ofE (C : List CL) (k : Tx) : CL := C.getD (partT k C.length) []
def hasE (C : List CL) (k : Tx) : Bool := decide ((mget (ofE C k) k).getD 0 = 1)
def riseB (l : List Tx) : Bool := (List.range (l.length - 1)).all fun j => decide (l.getD j [] < l.getD (j + 1) [])
def moreB (C : List CL) (i : Nat) (k : Tx) : Bool := !hasE C k && decide (partT k C.length = i)
def moreN (C : List CL) (ks : List Tx) (i : Nat) : Nat := (ks.filter (moreB C i)).length
def fullB (s : StE) (ks : List Tx) (i : Nat) : Bool := decide (0 < moreN s.C ks i) && decide (s.room < (s.C.getD i []).length + moreN s.C ks i)
def putE (C : List CL) (k : Tx) : List CL := C.set (partT k C.length) (mput (ofE C k) k 1)
def claimE (s : StE) (ks : List Tx) : StE × Nat :=
  if ks.any (fun k => !validT k) = true then (s, 30) else if riseB ks = false then (s, 40)
  else if (List.range s.C.length).any (fullB s ks) = true then (s, 5) else ({ s with C := ks.foldl putE s.C }, 0)
def newSt (parts room : Nat) : StE := ⟨room, List.replicate parts []⟩
structure EnE where
  rd : List Tx
  wr : List Tx
  st : Nat
structure SS where
  win : Nat
  S : StE
  t : LS
  E : List EnE
  nxt : Nat
def en0 : EnE := ⟨[], [], 0⟩
def setSt (E : List EnE) (i z : Nat) : List EnE := E.set i { E.getD i en0 with st := z }
def locksT (r k : List Tx) : List Lk := (keysM (ofM r k) 3).map fun t => (t, bitsM (ofM r k) t &&& 2 != 0)
def lockS (s : SS) : SS :=
  let x := s.E.getD s.nxt en0
  if (claimE s.S x.wr).2 = 5 then { s with E := setSt s.E s.nxt 6, nxt := s.nxt + 1 }
  else { s with S := (claimE s.S x.wr).1, t := (enqE s.t (s.nxt : Int) (locksT x.rd x.wr)).1, E := setSt s.E s.nxt 2, nxt := s.nxt + 1 }
def lockL : Nat → SS → SS
  | 0, s => s
  | f + 1, s => if s.nxt < s.E.length ∧ s.t.E.length < s.win then lockL f (lockS s) else s
def rdyS (E : List EnE) (q : Int) : List EnE := if (E.getD q.toNat en0).st = 2 then setSt E q.toNat 3 else E
def lockU (s : SS) : SS := lockL (s.E.length - s.nxt) s
def lockE (s : SS) : SS := { lockU s with E := (readiesE (lockU s).t).foldl rdyS (lockU s).E }
def addE (s : SS) (q : Int) (r k : List Tx) : SS × Int :=
  if q ≠ (s.E.length : Int) then (s, 150) else if (normF r k).2 ≠ 0 then (s, (normF r k).2) else if ¬ ((normF r k).1.1 = r ∧ (normF r k).1.2 = k) then (s, 31)
  else (lockE { s with E := s.E ++ [⟨(normF r k).1.1, (normF r k).1.2, 1⟩] }, 0)
def withS (E : List EnE) (l : List Nat) : List Nat := (List.range E.length).filter fun i => decide ((E.getD i en0).st ∈ l)
def takeS (s : SS) : SS × Option Nat := match withS s.E [3] with
  | [] => (s, none)
  | q :: _ => ({ s with E := setSt s.E q 4 }, some q)
def stS (s : SS) (q : Int) : Nat := if q < 0 ∨ (s.E.length : Int) ≤ q then 0 else (s.E.getD q.toNat en0).st
def doneE (s : SS) (q : Int) : SS × Nat := if stS s q ≠ 4 then (s, 151) else (lockE { s with E := setSt s.E q.toNat 5, t := (relE s.t q).1 }, 0)
def newSS (win : Nat) (S : StE) : SS := ⟨win, S, ⟨[], 0⟩, [], 0⟩
end Go.Proofs.Sched

/- How a lock table lies in memory. -/
namespace Go.Proofs.YtgdbckjkeofoaaaGreat
open Go.RowKit Go.Proofs.Eng Go.Proofs.Foot Go.Proofs.Locks
set_option linter.unusedSimpArgs false
set_option linter.unusedVariables false set_option maxRecDepth 10000
attribute [local irreducible] T TL LV TH TA
/-- Whose a block is: 0 nobody's, 1 the table, 2 and 3 its maps, 4 a key's queue, 5 what a number asked for. -/
abbrev Ow := Nat × Tx × Int
abbrev kI : Int → Value := fun z => .int .i64 z
def ow (f : Nat → Ow) : Nat → Nat := fun b => (f b).1
structure LM where
  p : Nat
  qb : Nat
  ab : Nat
  lq : List (Tx × SL)
  la : List (Int × SL)
def tabV (m : LM) (nx : Int) : List Value := [.map (some m.qb), .map (some m.ab), .int .i64 nx]
abbrev QRow (w : World) (base : Nat) (x : SL) (q : List Akk) : Prop := Own w base 134 2 x.1 x.2.1 x.2.2 (rowV akV q)
abbrev LRow (w : World) (base : Nat) (x : SL) (l : List Lk) : Prop := Own w base 129 2 x.1 x.2.1 x.2.2 (rowV lkV l)
structure TabM (w : World) (base : Nat) (m : LM) (f : Nat → Ow) (Q : Tx → List Akk) (E : List Ent) (nx : Int) : Prop where
  blk : Blk w m.p 126 (tabV m nx)
  mq : Mp w .string m.qb tK sL m.lq
  ma : Mp w (.int .i64) m.ab kI sL m.la
  kp : f m.p = (1, [], 0)
  kq : f m.qb = (2, [], 0)
  ka : f m.ab = (3, [], 0)
  qn : ∀ k, mget m.lq k = none → Q k = []
  qs : ∀ k x, mget m.lq k = some x → QRow w base x (Q k) ∧ ∀ b ∈ blkL x.1, f b = (4, k, 0)
  an : ∀ s, mget m.la s = none ↔ eget E s = none
  sa : ∀ s x, mget m.la s = some x → ∃ l, eget E s = some l ∧ LRow w base x l ∧ ∀ b ∈ blkL x.1, f b = (5, [], s)
  al : m.la.length = E.length
  ld : (m.la.map (·.1)).Nodup
  qd : (m.lq.map (·.1)).Nodup
  old : ∀ b, ow f b ≠ 0 → base ≤ b ∧ b < w.heap.size
section
variable {w w' : World} {base : Nat} {m : LM} {f : Nat → Ow} {Q Q' : Tx → List Akk} {E E' : List Ent} {nx nx' : Int} {S : List Nat}
theorem Rd.tn {A : Option Addr} {n s : Nat} {xs : List Value} {o o' : Nat → Nat} (h : Rd w A n s xs) (t : Tn o o' w w') (h1 : ∀ b ∈ blkL A, o b = 0) : Rd w' A n s xs ∧ (0 < n → ∀ b ∈ blkL A, o' b = 0) := by
  refine ⟨?_, fun hn b hb => t.old (h1 b hb) (Lo.mem (h.lo hn) b hb)⟩
  obtain ⟨⟨S, m1, s1⟩, n1, z1⟩ := t
  exact h.mod m1 (off_ofL fun b q q' => s1 b q' (h1 b q))
theorem TabM.bw (h : TabM w base m f Q E nx) : base ≤ w.heap.size ∧ m.p < w.heap.size := by
  have := h.old m.p (by unfold ow; rw [h.kp]; exact Nat.succ_ne_zero _)
  omega
theorem TabM.congr (h : TabM w base m f Q E nx) (hq : ∀ k, Q k = Q' k) : TabM w base m f Q' E nx := { h with qn := fun k a => by rw [← hq]; exact h.qn k a, qs := fun k x a => by rw [← hq]; exact h.qs k x a }
theorem TabM.off (hS : ∀ b ∈ S, ow f b = 0) {b : Nat} (hb : (f b).1 ≠ 0) : b ∉ S := fun q => hb (hS b q)
theorem TabM.mod (h : TabM w base m f Q E nx) (hm : Eng.Mod S w w') (hS : ∀ b ∈ S, ow f b = 0) : TabM w' base m f Q E nx :=
  { h with
    blk := h.blk.mod hm (TabM.off hS (by rw [h.kp]; exact Nat.succ_ne_zero _))
    mq := h.mq.mod hm (TabM.off hS (by rw [h.kq]; exact Nat.succ_ne_zero _))
    ma := h.ma.mod hm (TabM.off hS (by rw [h.ka]; exact Nat.succ_ne_zero _))
    qs := fun k x a => by
      obtain ⟨h1, h2⟩ := h.qs k x a
      exact ⟨h1.modL hm (fun b q => TabM.off hS (by rw [h2 b q]; exact Nat.succ_ne_zero _)), h2⟩
    sa := fun s x a => by
      obtain ⟨l, h1, h2, h3⟩ := h.sa s x a
      exact ⟨l, h1, h2.modL hm (fun b q => TabM.off hS (by rw [h3 b q]; exact Nat.succ_ne_zero _)), h3⟩
    old := fun b q => by have := h.old b q; have := hm.size; omega }
theorem TabM.ext (h : TabM w base m f Q E nx) (hm : Ext w w') : TabM w' base m f Q E nx := h.mod hm (fun b q => by cases q)
theorem TabM.tn {o o' : Nat → Nat} (h : TabM w base m f Q E nx) (t : Tn o o' w w') (hd : ∀ b, o b = 0 ∨ ow f b = 0) : TabM w' base m f Q E nx ∧ ∀ b, o' b = 0 ∨ ow f b = 0 := by
  obtain ⟨⟨S, m1, s1⟩, n1, z1⟩ := t
  refine ⟨h.mod m1 (fun b hb => (hd b).resolve_left (s1 b hb)), fun b => ?_⟩
  by_cases q : o' b = 0
  · exact .inl q
  · right
    rcases n1 b q with h1 | h1
    · exact (hd b).resolve_left h1
    · by_cases y : ow f b = 0
      · exact y
      · have := (h.old b y).2; omega
/-- The owners behind: the row A is an owner's. -/
def owU (f : Nat → Ow) (A : Option Addr) (z : Ow) : Nat → Ow := fun b => if b ∈ blkL A then z else f b
theorem owU_in {A : Option Addr} {z : Ow} {b : Nat} (h : b ∈ blkL A) : owU f A z b = z := if_pos h
theorem owU_out {A : Option Addr} {z : Ow} {b : Nat} (h : b ∉ blkL A) : owU f A z b = f b := if_neg h
theorem owU_keep {A : Option Addr} {z : Ow} {B : Nat} (hA : ∀ b ∈ blkL A, f b = z ∨ B ≤ b) (hf : ∀ b, ow f b ≠ 0 → b < B) {b : Nat} (hb : ow f b ≠ 0) : owU f A z b = f b := by
  by_cases q : b ∈ blkL A
  · rw [owU_in q]
    rcases hA b q with e | e
    · exact e.symm
    · have := hf b hb; omega
  · exact owU_out q
theorem owU_nz {A : Option Addr} {z : Ow} {B : Nat} (hA : ∀ b ∈ blkL A, f b = z ∨ B ≤ b) (hz : z.1 ≠ 0) {b : Nat} (hb : ow (owU f A z) b ≠ 0) : ow f b ≠ 0 ∨ B ≤ b := by
  by_cases q : b ∈ blkL A
  · rcases hA b q with e | e
    · left; unfold ow; rw [e]; exact hz
    · exact .inr e
  · left
    unfold ow at hb ⊢
    rwa [owU_out q] at hb
theorem mget_put {κ α : Type} [DecidableEq κ] (k : κ) (v : α) : ∀ (l : List (κ × α)) (j : κ), mget (mput l k v) j = if j = k then some v else mget l j
  | [], j => by
    by_cases e : j = k
    · subst e; simp [mput, mget]
    · have : ¬ k = j := fun q => e q.symm
      simp [mput, mget, e, this]
  | x :: l, j => by
    unfold mput
    by_cases h : x.1 = k
    · rw [if_pos h]
      by_cases e : j = k
      · subst e; simp [mget]
      · have : ¬ k = j := fun q => e q.symm
        have h2 : ¬ x.1 = j := fun q => e (q ▸ h)
        simp [mget, e, this, h2]
    · rw [if_neg h]
      have ih := mget_put k v l j
      by_cases e2 : x.1 = j
      · have : ¬ j = k := fun q => h (e2.trans q)
        simp [mget, e2, this]
      · simp only [mget, e2, if_false]
        exact ih
theorem mget_del {κ α : Type} [DecidableEq κ] (k : κ) : ∀ (l : List (κ × α)), (l.map (·.1)).Nodup → ∀ j, mget (mdel l k) j = if j = k then none else mget l j
  | [], _, j => by simp [mdel, mget]
  | x :: l, hn, j => by
    rw [List.map_cons, List.nodup_cons] at hn
    unfold mdel
    by_cases h : x.1 = k
    · rw [if_pos h]
      by_cases e : j = k
      · rw [if_pos e, e, ← h]
        clear h e
        have hx := hn.1
        clear hn
        induction l with
        | nil => rfl
        | cons y l ih =>
          have hy : ¬ y.1 = x.1 := fun q => hx (by rw [List.map_cons, q]; exact List.mem_cons_self)
          simp only [mget, hy, if_false]
          exact ih (fun q => hx (by rw [List.map_cons]; exact List.mem_cons_of_mem _ q))
      · rw [if_neg e]
        have h2 : ¬ x.1 = j := fun q => e (q ▸ h)
        simp [mget, h2]
    · rw [if_neg h]
      have ih := mget_del k l hn.2 j
      by_cases e2 : x.1 = j
      · have : ¬ j = k := fun q => h (e2.trans q)
        simp [mget, e2, this]
      · simp only [mget, e2, if_false]
        exact ih
theorem mget_keys {κ α : Type} [DecidableEq κ] : ∀ (l : List (κ × α)) (k : κ), mget l k = none ↔ k ∉ l.map (·.1)
  | [], k => by simp [mget]
  | x :: l, k => by
    unfold mget
    by_cases e : x.1 = k
    · rw [if_pos e]; simp [e]
    · rw [if_neg e, mget_keys l k]
      have : ¬ k = x.1 := fun q => e q.symm
      simp [this]
theorem mput_fresh {κ α : Type} [DecidableEq κ] : ∀ (xs : List (κ × α)) (k : κ) (v : α), mget xs k = none → mput xs k v = xs ++ [(k, v)]
  | [], _, _, _ => rfl
  | x :: xs, k, v, g => by
    unfold mget at g
    by_cases e : x.1 = k
    · rw [if_pos e] at g; cases g
    · rw [if_neg e] at g
      unfold mput
      rw [if_neg e, mput_fresh xs k v g]
      rfl
theorem mdel_nodup {κ α : Type} [DecidableEq κ] : ∀ (l : List (κ × α)) (k : κ), ((mdel l k).map (·.1)).Sublist (l.map (·.1))
  | [], k => by simp [mdel]
  | x :: l, k => by
    unfold mdel
    by_cases e : x.1 = k
    · rw [if_pos e]; rw [List.map_cons]; exact List.sublist_cons_self _ _
    · rw [if_neg e, List.map_cons, List.map_cons]; exact (mdel_nodup l k).cons_cons _
theorem mdel_length {κ α : Type} [DecidableEq κ] : ∀ (l : List (κ × α)) (k : κ) (v : α), mget l k = some v → (mdel l k).length + 1 = l.length
  | [], k, v, h => by cases h
  | x :: l, k, v, h => by
    unfold mget at h
    unfold mdel
    by_cases e : x.1 = k
    · rw [if_pos e]; simp
    · rw [if_neg e] at h ⊢
      simp only [List.length_cons]
      rw [mdel_length l k v h]
theorem mput_nodup {κ α : Type} [DecidableEq κ] (l : List (κ × α)) (k : κ) (v : α) (h : (l.map (·.1)).Nodup) : ((mput l k v).map (·.1)).Nodup := by
  by_cases hq : mget l k = none
  · rw [mput_fresh _ _ _ hq]
    simp only [List.map_append, List.map_cons, List.map_nil]
    rw [List.nodup_append]
    refine ⟨h, by simp, fun a ha b hb e => ?_⟩
    simp only [List.mem_singleton] at hb
    rw [e, hb] at ha
    exact (mget_keys _ _).1 hq ha
  · have : (mput l k v).map (·.1) = l.map (·.1) := by
      clear h
      induction l with
      | nil => exact absurd rfl hq
      | cons x l ih =>
        unfold mput
        by_cases e : x.1 = k
        · rw [if_pos e]; simp [e]
        · rw [if_neg e, List.map_cons, List.map_cons, ih (fun q => hq (by unfold mget; rw [if_neg e]; exact q))]
    rw [this]; exact h
/-- A key's queue is another one. -/
theorem TabM.setQ (h : TabM w base m f Q E nx) {k : Tx} {x : SL} {q : List Akk} {S : List Nat} (hm : Eng.Mod S w w') (hS : ∀ b ∈ S, f b = (2, [], 0) ∨ f b = (4, k, 0)) (hp : Mp w' .string m.qb tK sL (mput m.lq k x))
    (hr : QRow w' base x q) (hx : ∀ b ∈ blkL x.1, f b = (4, k, 0) ∨ w.heap.size ≤ b) :
    ∃ f', TabM w' base { m with lq := mput m.lq k x } f' (fun j => if j = k then q else Q j) E nx ∧ Tn (ow f) (ow f') w w' := by
  have hsz := hm.size
  have keep := fun {b} hb => owU_keep (f := f) (A := x.1) (z := (4, k, 0)) (b := b) hx (fun b q => (h.old b q).2) hb
  have hn : ∀ j z, (f j).1 = z → z ≠ 2 → z ≠ 4 → j ∉ S := fun j z e a1 a2 hj => by rcases hS j hj with q | q <;> rw [q] at e <;> simp at e <;> omega
  refine ⟨owU f x.1 (4, k, 0), ⟨h.blk.mod hm (hn _ _ (by rw [h.kp]) (by decide) (by decide)), hp, h.ma.mod hm (hn _ _ (by rw [h.ka]) (by decide) (by decide)), ?_, ?_, ?_, fun j hj => ?_, fun j y hj => ?_, h.an, fun s y hy => ?_, h.al, h.ld, mput_nodup _ _ _ h.qd, fun b hb => ?_⟩, ⟨S, hm, fun b hb => ?_⟩, fun b hb => owU_nz hx (Nat.succ_ne_zero _) hb, hsz⟩
  · rw [keep (by unfold ow; rw [h.kp]; exact Nat.succ_ne_zero _), h.kp]
  · rw [keep (by unfold ow; rw [h.kq]; exact Nat.succ_ne_zero _), h.kq]
  · rw [keep (by unfold ow; rw [h.ka]; exact Nat.succ_ne_zero _), h.ka]
  · rw [mget_put] at hj
    by_cases e : j = k
    · rw [if_pos e] at hj; cases hj
    · rw [if_neg e] at hj ⊢; exact h.qn j hj
  · rw [mget_put] at hj
    by_cases e : j = k
    · rw [if_pos e] at hj
      cases hj
      rw [if_pos e, e]
      exact ⟨hr, fun b hb => owU_in hb⟩
    · rw [if_neg e] at hj ⊢
      obtain ⟨h1, h2⟩ := h.qs j y hj
      refine ⟨h1.modL hm (fun b hb hbS => ?_), fun b hb => by rw [keep (by unfold ow; rw [h2 b hb]; exact Nat.succ_ne_zero _), h2 b hb]⟩
      have h3 := h2 b hb
      rcases hS b hbS with q | q
      · rw [q] at h3; simp at h3
      · rw [q] at h3; simp at h3; exact e h3.symm
  · obtain ⟨l, h1, h2, h3⟩ := h.sa s y hy
    exact ⟨l, h1, h2.modL hm (fun b hb => hn b 5 (by rw [h3 b hb]) (by decide) (by decide)), fun b hb => by rw [keep (by unfold ow; rw [h3 b hb]; exact Nat.succ_ne_zero _), h3 b hb]⟩
  · rcases owU_nz hx (Nat.succ_ne_zero _) hb with q | q
    · have := h.old b q; omega
    · by_cases y : b ∈ blkL x.1
      · exact hr.bl b y
      · unfold ow at hb
        rw [owU_out y] at hb
        have := h.old b hb; omega
  · unfold ow; rcases hS b hb with q | q <;> rw [q] <;> exact Nat.succ_ne_zero _
/-- A key's queue is gone. -/
theorem TabM.delQ (h : TabM w base m f Q E nx) {k : Tx} (hk : Q k = []) (hm : Eng.Mod [m.qb] w w') (hp : Mp w' .string m.qb tK sL (mdel m.lq k)) :
    TabM w' base { m with lq := mdel m.lq k } f Q E nx ∧ Tn (ow f) (ow f) w w' := by
  have hsz := hm.size
  have hn : ∀ j z, (f j).1 = z → z ≠ 2 → j ∉ [m.qb] := fun j z e a hj => by rw [List.mem_singleton.1 hj, h.kq] at e; simp at e; omega
  refine ⟨{ h with blk := h.blk.mod hm (hn _ _ (by rw [h.kp]) (by decide)), mq := hp, ma := h.ma.mod hm (hn _ _ (by rw [h.ka]) (by decide)), qn := fun j hj => ?_, qs := fun j y hj => ?_, sa := fun s y hy => ?_, qd := (mdel_nodup _ _).nodup h.qd, old := fun b hb => ?_ }, ⟨[m.qb], hm, fun b hb => ?_⟩, fun b hb => .inl hb, hsz⟩
  · rw [mget_del _ _ h.qd] at hj
    by_cases e : j = k
    · rw [e]; exact hk
    · rw [if_neg e] at hj; exact h.qn j hj
  · rw [mget_del _ _ h.qd] at hj
    by_cases e : j = k
    · rw [if_pos e] at hj; cases hj
    · rw [if_neg e] at hj
      obtain ⟨h1, h2⟩ := h.qs j y hj
      exact ⟨h1.modL hm (fun b hb => hn b 4 (by rw [h2 b hb]) (by decide)), h2⟩
  · obtain ⟨l, h1, h2, h3⟩ := h.sa s y hy
    exact ⟨l, h1, h2.modL hm (fun b hb => hn b 5 (by rw [h3 b hb]) (by decide)), h3⟩
  · have := h.old b hb; omega
  · unfold ow; rw [List.mem_singleton.1 hb, h.kq]; exact Nat.succ_ne_zero _
theorem eget_append (A B : List Ent) (s : Int) : eget (A ++ B) s = (eget A s).or (eget B s) := by
  unfold eget
  rw [List.find?_append]
  cases List.find? (fun e => decide (e.1 = s)) A <;> simp
theorem eget_single (s j : Int) (l : List Lk) : eget [(s, l)] j = if s = j then some l else none := by
  unfold eget
  by_cases e : s = j
  · simp [e]
  · simp [e]
/-- A number asks. -/
theorem TabM.putA (h : TabM w base m f Q E nx) {s : Int} {l : List Lk} {x : SL} (hs : eget E s = none) (hm : Eng.Mod [m.ab] w w') (hp : Mp w' (.int .i64) m.ab kI sL (mput m.la s x))
    (hr : LRow w' base x l) (hx : ∀ b ∈ blkL x.1, ow f b = 0) :
    ∃ f', TabM w' base { m with la := mput m.la s x } f' Q (E ++ [(s, l)]) nx ∧ (∀ b, ow f' b ≠ 0 → ow f b ≠ 0 ∨ b ∈ blkL x.1) ∧ (∀ b, ow f b ≠ 0 → f' b = f b) := by
  have hsz := hm.size
  have keep : ∀ {b}, ow f b ≠ 0 → owU f x.1 (5, [], s) b = f b := fun {b} hb => by
    by_cases q : b ∈ blkL x.1
    · exact absurd (hx b q) hb
    · exact owU_out q
  have hn : ∀ j z, (f j).1 = z → z ≠ 3 → j ∉ [m.ab] := fun j z e a hj => by rw [List.mem_singleton.1 hj, h.ka] at e; simp at e; omega
  have hfr : mget m.la s = none := (h.an s).2 hs
  refine ⟨owU f x.1 (5, [], s), ⟨h.blk.mod hm (hn _ _ (by rw [h.kp]) (by decide)), h.mq.mod hm (hn _ _ (by rw [h.kq]) (by decide)), hp, ?_, ?_, ?_, h.qn, fun j y hj => ?_, fun j => ?_, fun j y hy => ?_, ?_, ?_, h.qd, fun b hb => ?_⟩, fun b hb => ?_, fun b hb => keep hb⟩
  · rw [keep (by unfold ow; rw [h.kp]; exact Nat.succ_ne_zero _), h.kp]
  · rw [keep (by unfold ow; rw [h.kq]; exact Nat.succ_ne_zero _), h.kq]
  · rw [keep (by unfold ow; rw [h.ka]; exact Nat.succ_ne_zero _), h.ka]
  · obtain ⟨h1, h2⟩ := h.qs j y hj
    exact ⟨h1.modL hm (fun b hb => hn b 4 (by rw [h2 b hb]) (by decide)), fun b hb => by rw [keep (by unfold ow; rw [h2 b hb]; exact Nat.succ_ne_zero _), h2 b hb]⟩
  · rw [mget_put, eget_append, eget_single]
    by_cases e : j = s
    · rw [if_pos e, e, hs, if_pos rfl]; simp
    · rw [if_neg e, if_neg (fun q => e q.symm), Option.or_none]; exact h.an j
  · rw [mget_put] at hy
    rw [eget_append, eget_single]
    by_cases e : j = s
    · rw [if_pos e] at hy
      cases hy
      rw [e, hs, if_pos rfl]
      exact ⟨l, rfl, hr, fun b hb => owU_in hb⟩
    · rw [if_neg e] at hy
      obtain ⟨l', h1, h2, h3⟩ := h.sa j y hy
      refine ⟨l', by rw [h1]; rfl, h2.modL hm (fun b hb => hn b 5 (by rw [h3 b hb]) (by decide)), fun b hb => by rw [keep (by unfold ow; rw [h3 b hb]; exact Nat.succ_ne_zero _), h3 b hb]⟩
  · rw [mput_fresh _ _ _ hfr]; simp [h.al]
  · rw [mput_fresh _ _ _ hfr]
    simp only [List.map_append, List.map_cons, List.map_nil]
    rw [List.nodup_append]
    refine ⟨h.ld, by simp, fun a ha b hb e => ?_⟩
    simp only [List.mem_singleton] at hb
    rw [e, hb] at ha
    exact (mget_keys _ _).1 hfr ha
  · by_cases y : b ∈ blkL x.1
    · exact hr.bl b y
    · unfold ow at hb
      rw [owU_out y] at hb
      have := h.old b hb; omega
  · by_cases y : b ∈ blkL x.1
    · exact .inr y
    · unfold ow at hb ⊢
      rw [owU_out y] at hb
      exact .inl hb
theorem eget_filter (E : List Ent) (s j : Int) : eget (E.filter fun e => !decide (e.1 = s)) j = if j = s then none else eget E j := by
  unfold eget
  induction E with
  | nil => simp
  | cons e E ih =>
    rw [List.filter_cons]
    by_cases h1 : e.1 = s
    · simp only [h1, decide_true, Bool.not_true, Bool.false_eq_true, if_false]
      rw [ih, List.find?_cons]
      by_cases h2 : j = s
      · simp [h2]
      · have : ¬ e.1 = j := fun q => h2 (q ▸ h1)
        simp [h2, this]
    · simp only [h1, decide_false, Bool.not_false, if_true]
      rw [List.find?_cons, List.find?_cons]
      by_cases h3 : e.1 = j
      · have : ¬ j = s := fun q => h1 (h3.trans q)
        simp [h3, this]
      · simp only [h3, decide_false]
        exact ih
/-- A number is gone. -/
theorem TabM.delA (h : TabM w base m f Q E nx) {s : Int} {l : List Lk} (hs : eget E s = some l) (hd : (E.map (·.1)).Nodup) (hm : Eng.Mod [m.ab] w w') (hp : Mp w' (.int .i64) m.ab kI sL (mdel m.la s)) :
    TabM w' base { m with la := mdel m.la s } f Q (E.filter fun e => !decide (e.1 = s)) nx ∧ Tn (ow f) (ow f) w w' := by
  have hsz := hm.size
  have hn : ∀ j z, (f j).1 = z → z ≠ 3 → j ∉ [m.ab] := fun j z e a hj => by rw [List.mem_singleton.1 hj, h.ka] at e; simp at e; omega
  have hsome : ∃ v, mget m.la s = some v := by
    cases hq : mget m.la s with
    | none => rw [(h.an s).1 hq] at hs; cases hs
    | some v => exact ⟨v, rfl⟩
  obtain ⟨v, hv⟩ := hsome
  refine ⟨{ h with blk := h.blk.mod hm (hn _ _ (by rw [h.kp]) (by decide)), mq := h.mq.mod hm (hn _ _ (by rw [h.kq]) (by decide)), ma := hp, qs := fun j y hj => ?_, an := fun j => ?_, sa := fun j y hy => ?_, al := ?_, ld := (mdel_nodup _ _).nodup h.ld, old := fun b hb => ?_ }, ⟨[m.ab], hm, fun b hb => ?_⟩, fun b hb => .inl hb, hsz⟩
  · obtain ⟨h1, h2⟩ := h.qs j y hj
    exact ⟨h1.modL hm (fun b hb => hn b 4 (by rw [h2 b hb]) (by decide)), h2⟩
  · rw [mget_del _ _ h.ld, eget_filter]
    by_cases e : j = s
    · rw [if_pos e, if_pos e]; simp
    · rw [if_neg e, if_neg e]; exact h.an j
  · rw [mget_del _ _ h.ld] at hy
    rw [eget_filter]
    by_cases e : j = s
    · rw [if_pos e] at hy; cases hy
    · rw [if_neg e] at hy ⊢
      obtain ⟨l', h1, h2, h3⟩ := h.sa j y hy
      exact ⟨l', h1, h2.modL hm (fun b hb => hn b 5 (by rw [h3 b hb]) (by decide)), h3⟩
  · have h1 := mdel_length _ _ _ hv
    have h2 := h.al
    have h3 : (E.filter fun e => !decide (e.1 = s)).length + 1 = E.length := by
      clear h h1 h2 hm hp hn hv
      induction E with
      | nil => cases hs
      | cons e E ih =>
        rw [List.map_cons, List.nodup_cons] at hd
        rw [List.filter_cons]
        by_cases h1 : e.1 = s
        · simp only [h1, decide_true, Bool.not_true, Bool.false_eq_true, if_false, List.length_cons]
          rw [List.filter_eq_self.2 (fun a ha => ?_)]
          have : ¬ a.1 = s := fun q => hd.1 (by rw [h1, ← q]; exact List.mem_map.2 ⟨a, ha, rfl⟩)
          simp [this]
        · simp only [h1, decide_false, Bool.not_false, if_true, List.length_cons]
          rw [ih ?_ hd.2]
          unfold eget at hs ⊢
          rw [List.find?_cons] at hs
          simpa [h1] using hs
    simp only
    omega
  · have := h.old b hb; omega
  · unfold ow; rw [List.mem_singleton.1 hb, h.ka]; exact Nat.succ_ne_zero _
/-- The next number. -/
theorem TabM.num (h : TabM w base m f Q E nx) (hm : Eng.Mod [m.p] w w') (hb : Blk w' m.p 126 (tabV m nx')) : TabM w' base m f Q E nx' ∧ Tn (ow f) (ow f) w w' := by
  have hsz := hm.size
  have hn : ∀ j z, (f j).1 = z → z ≠ 1 → j ∉ [m.p] := fun j z e a hj => by rw [List.mem_singleton.1 hj, h.kp] at e; simp at e; omega
  refine ⟨{ h with blk := hb, mq := h.mq.mod hm (hn _ _ (by rw [h.kq]) (by decide)), ma := h.ma.mod hm (hn _ _ (by rw [h.ka]) (by decide)), qs := fun j y hj => ?_, sa := fun j y hy => ?_, old := fun b hb => ?_ }, ⟨[m.p], hm, fun b hb => ?_⟩, fun b hb => .inl hb, hsz⟩
  · obtain ⟨h1, h2⟩ := h.qs j y hj
    exact ⟨h1.modL hm (fun b hb => hn b 4 (by rw [h2 b hb]) (by decide)), h2⟩
  · obtain ⟨l', h1, h2, h3⟩ := h.sa j y hy
    exact ⟨l', h1, h2.modL hm (fun b hb => hn b 5 (by rw [h3 b hb]) (by decide)), h3⟩
  · have := h.old b hb; omega
  · unfold ow; rw [List.mem_singleton.1 hb, h.kp]; exact Nat.succ_ne_zero _
end
end Go.Proofs.YtgdbckjkeofoaaaGreat

/- s[i:j:k]; an append that stays within its own row. -/
namespace Go.Proofs.Eng
open Go.RowKit
set_option linter.unusedSimpArgs false
set_option linter.unusedVariables false
set_option linter.unusedSectionVars false
section
variable {q : Qm} {P : Program} {fn : Func} {R : Ending → World → Prop} {M : Md} {n : Nat} {st : Slots} {k : List Item} {w : World} {ops rest : List Oper}
  {d : Nat} {ty : TypeId} {ps : String} {af : Array Edge} {X Y V Z : Operand} {t e : TypeId} {by_ s base m c m2 c2 i : Nat} {z : Value} {A A2 : Option Addr} {xs ys : List Value} {L L2 L3 : IntKind}
theorem TL_slice3 {j j2 j3 : Int} (E : Env P) (hx : ev st X = some (.slice A m c) := by exact rfl) (hy : ev st Y = some (.int L j) := by exact rfl) (hV : ev st V = some (.int L2 j2) := by exact rfl) (hZ : ev st Z = some (.int L3 j3) := by exact rfl) (ht : E.und t = some (.slice e) := by exact rfl) (he : E.inf e = some (s, by_, z) := by exact rfl) (hd : Nat.blt d n = true := by exact rfl) (h0 : 0 ≤ j := by first | assumption | omega) (h1 : j ≤ j2 := by first | assumption | omega) (h2 : j2 ≤ j3 := by first | assumption | omega) (h3 : j3 ≤ (c : Int) := by first | assumption | omega)
    (hk : TL q P fn R M n ((d, .slice (if j3.toNat = j.toNat then A else A.map (·.add (j.toNat * s))) (j2.toNat - j.toNat) (j3.toNat - j.toNat)) :: st) ops rest k w) : TL q P fn R M n st ops (⟨some d, .slice t X (some Y) (some V) (some Z), ty, ps, af, none⟩ :: rest) k w :=
  TL_val_w hd (fun w ρ h => by
    have a1 : 0 ≤ j2 := by omega
    have a2 : 0 ≤ j3 := by omega
    have a3 : j ≤ (j2.toNat : Int) := by omega
    have a4 : j2 ≤ (j3.toNat : Int) := by omega
    have a5 : j2 ≤ max j3 0 := by omega
    have a6 : j ≤ max j2 0 := by omega
    simp [execOp, Instr.sliceAt, Instr.slice, Instr.sliceBounds, Instr.sliceBound, asIntOf, run_underlying (E.und_ok _ _ ht), h _ _ hx, h _ _ hy, h _ _ hV, h _ _ hZ, h0, h1, h2, h3, a1, a2, a3, a4, a5, a6, run_sizeOf' (E.inf_ok _ _ _ _ he)]) hk
theorem run_append_within (ht : P.underlying t = some (.slice e)) (hi : ∃ i, P.info? e = some i ∧ i.size = s ∧ i.bytes = by_ ∧ i.zero = some z) (hsz : 0 < s)
    (ho : Own w base e s A m c xs) (hr : Rd w A2 m2 s ys) (h1 : ∀ u ∈ ys, u.oneCell' = true) (hroom : i + m2 ≤ m) (tt : TypeId) :
    ∃ w', (Builtin.append_ #[t, t] tt #[.slice A i c, .slice A2 m2 c2]).run P w = .ok (.slice A (i + m2) c) w' ∧ Mod (blkL A) w w' ∧ w'.heap.size = w.heap.size ∧ Own w' base e s A m c (xs.take (i * s) ++ ys ++ xs.drop ((i + m2) * s)) := by
  obtain ⟨it, i1, i2, i3, i4⟩ := id hi
  rcases Nat.eq_zero_or_pos m2 with h0 | h0
  · subst h0
    have hy : ys = [] := List.eq_nil_of_length_eq_zero (by simpa using hr.1)
    subst hy
    have hl : ∀ (x : Addr), (loadCells x 0).run P w = .ok #[] w := fun x => by simpa using run_loadCells_list (P := P) w x [] (by simp)
    have hc : i ≤ c := by have := ho.cap.1; omega
    refine ⟨w, ?_, Mod.refl _ _, rfl, by simpa using ho⟩
    cases A <;> cases A2 <;> simp [Builtin.append_, run_underlying ht, sizeOf, typeInfo, i1, Builtin.lenOf, Builtin.firstCells, hc, storeCells, hl]
  · obtain ⟨hxl, ⟨_, hz⟩ | ⟨g, cap, cur, hv, hg, hh, hnc, hcm, hcs, htk⟩⟩ := id ho
    · omega
    · cases hv
      obtain ⟨b2, o2, rfl, hb2', hc2⟩ := hr.2 (by omega)
      have hsrc : ∀ j u, ys[j]? = some u → w.cell? ((⟨b2, o2, none⟩ : Addr).add j) = some u := fun j u hu => by
        rw [← hc2 j u hu]
        congr 1
        unfold Addr.add
        by_cases h : j = 0 <;> simp [h]
      have hk : Blk w g e cur.toList := by unfold Blk; simpa using hh
      have hcl : cur.toList.length = cur.size := Array.length_toList
      have h8 : (i + m2) * s = i * s + m2 * s := Nat.add_mul _ _ _
      have h9 : (i + m2) * s ≤ m * s := Nat.mul_le_mul_right _ hroom
      have h10 : m * s ≤ c * s := Nat.mul_le_mul_right _ hnc
      have hys := hr.1
      have hfit : 0 + i * s + 0 + ys.length ≤ cur.toList.length := by omega
      obtain ⟨w', g1, g2, g3, g4⟩ := run_storeAll (P := P) (b := g) (o := 0 + i * s) ys cur.toList 0 w hk hfit h1
      rw [Nat.add_zero, Nat.zero_add] at g4
      have hfc := run_firstCells_some (P := P) w it.size m2 ⟨b2, o2, none⟩ m2 c2 ys (by rw [i2]; exact hr.1) hsrc
      have hroom' : i + m2 ≤ c := by omega
      refine ⟨w', ?_, g2, g3, ?_, .inr ⟨g, c, (setAll cur.toList (i * s) ys).toArray, rfl, hg, g4, hnc, hcm, by simp [setAll_length]; exact hcs, ?_⟩⟩
      · rw [i2] at hfc
        rw [Nat.zero_add] at g1
        simp [Builtin.append_, run_underlying ht, sizeOf, typeInfo, i1, i2, Builtin.lenOf, hroom', hfc, Addr.add_lit, g1]
      · simp only [List.length_append, List.length_take, List.length_drop, hxl, hys]
        omega
      · simp only [List.toList_toArray]
        rw [setAll_eq _ _ _ (by omega), ← htk, h8]
        apply List.ext_getElem?
        intro j
        simp only [List.getElem?_take, List.getElem?_append, List.getElem?_drop, List.length_append, List.length_take, List.length_drop, hys]
        grind
theorem TL_append_within (E : Env P) (ho : Own w base e s A m c xs) (hr : Rd w A2 m2 s ys) (h1 : ∀ u ∈ ys, u.oneCell' = true) (hroom : i + m2 ≤ m) (hx : ev st X = some (.slice A i c) := by exact rfl) (hy : ev st Y = some (.slice A2 m2 c2) := by exact rfl) (ht : E.und t = some (.slice e) := by exact rfl) (he : E.inf e = some (s, by_, z) := by exact rfl) (hsz : Nat.blt 0 s = true := by exact rfl) (hd : Nat.blt d n = true := by exact rfl)
    (hf : Fl q (rest.length + 1) := by first | exact trivial | exact rfl) (hq : ∀ w', Mod (blkL A) w w' → Kp q w' := by exact fun _ _ => trivial)
    (hk : ∀ w', Own w' base e s A m c (xs.take (i * s) ++ ys ++ xs.drop ((i + m2) * s)) → Mod (blkL A) w w' → w'.heap.size = w.heap.size → TL q P fn R M n ((d, .slice A (i + m2) c) :: st) ops rest k w') :
    TL q P fn R M n st ops (⟨some d, .call { callee := .builtin .append, args := #[X, Y], argTypes := #[t, t] }, ty, ps, af, none⟩ :: rest) k w := by
  obtain ⟨w', g1, g2, g3, g4⟩ := run_append_within (E.und_ok _ _ ht) (E.inf_ok _ _ _ _ he) (by simpa [Nat.blt_eq] using hsz) ho hr h1 hroom (c2 := c2) ty
  refine TL_new (w' := w') hd (fun ρ h => ?_) hf (hq _ g2) (hk w' g4 g2 g3)
  simp only [execOp, resolve, invoke, builtin, Sem.run_bind, Sem.run_pure, Result.andThen_ok, List.map_toArray, List.map_cons, List.map_nil, h _ _ hx, h _ _ hy, g1]
variable {S S2 : List UInt8} {t2 : TypeId}
theorem TL_sge_t (hx : ev st X = some (.string (ofL S)) := by exact rfl) (hy : ev st Y = some (.string (ofL S2)) := by exact rfl) (h0 : S2 ≤ S := by assumption) (hd : Nat.blt d n = true := by exact rfl)
    (hk : TL q P fn R M n ((d, .bool true) :: st) ops rest k w) : TL q P fn R M n st ops (⟨some d, .binOp .geq t X Y t2, ty, ps, af, none⟩ :: rest) k w :=
  TL_val_w hd (fun w ρ h => by
    have e1 : decide (S < S2) = false := decide_eq_false (List.not_lt.2 h0)
    have e2 : True := trivial
    simp only [execOp, h _ _ hx, h _ _ hy, binOp, Op.stringOp, toList_ofL, bytesLess_iff, Sem.run_bind, Sem.run_pure, Result.andThen_ok, eqGuard, e1]
    simp [e2]) hk
theorem TL_sge_f (hx : ev st X = some (.string (ofL S)) := by exact rfl) (hy : ev st Y = some (.string (ofL S2)) := by exact rfl) (h0 : ¬ S2 ≤ S := by assumption) (hd : Nat.blt d n = true := by exact rfl)
    (hk : TL q P fn R M n ((d, .bool false) :: st) ops rest k w) : TL q P fn R M n st ops (⟨some d, .binOp .geq t X Y t2, ty, ps, af, none⟩ :: rest) k w :=
  TL_val_w hd (fun w ρ h => by
    have e1 : decide (S < S2) = true := decide_eq_true (List.not_le.1 h0)
    have e2 : True := trivial
    simp only [execOp, h _ _ hx, h _ _ hy, binOp, Op.stringOp, toList_ofL, bytesLess_iff, Sem.run_bind, Sem.run_pure, Result.andThen_ok, eqGuard, e1]
    simp [e2]) hk
end
end Go.Proofs.Eng

/- The contracts of the library at this program. Written by the tools of the shelf. -/
namespace Go.Proofs
open Go.Shelf
def Tryz.lays128_ren : Go.Shelf.Ren := ⟨fun | 128 => 107 | n => n, fun | 51 => 167 | 3 => 3 | 4 => 4 | 46 => 150 | 5 => 5 | 9 => 9 | n => n, fun | n => n⟩
def Tryz.lays125_ren : Go.Shelf.Ren := ⟨fun | 125 => 91 | 128 => 107 | 129 => 108 | n => n, fun | 46 => 150 | 3 => 3 | 51 => 167 | 53 => 139 | 4 => 4 | 5 => 5 | 9 => 9 | n => n, fun | n => n⟩
def Tryz.lays137_ren : Go.Shelf.Ren := ⟨fun | 137 => 80 | 217 => 94 | 266 => 110 | n => n, fun | 9 => 9 | 5 => 5 | 3 => 3 | n => n, fun | n => n⟩
theorem Tryz.lays137 : Go.Proofs.Lays.n137 Tryz.prog Tryz.lays137_ren := {
  mixed := by kernel_rfl
  f137 := Tryz.func80.trans (congrArg some (by kernel_rfl))
  f217 := Tryz.func94.trans (congrArg some (by kernel_rfl))
  f266 := Tryz.func110.trans (congrArg some (by kernel_rfl))
  t3 := Tryz.underlying3
  a3 := Tryz.isAgg3
  z3 := Tryz.sizeOf3
  v3 := Tryz.zeroValue3
  t5 := Tryz.underlying5
  a5 := Tryz.isAgg5
  z5 := Tryz.sizeOf5
  v5 := Tryz.zeroValue5
  t9 := Tryz.underlying9
  a9 := Tryz.isAgg9
  z9 := Tryz.sizeOf9
  v9 := Tryz.zeroValue9 }
open Go.RowKit in
theorem Tryz.strings_IndexByte (s : ByteArray) (c : Int) (w : World) :
    Calls Tryz.prog 80 #[.string s, .int .u8 c] w fun e w' => e = .returned (.int .i64 (Lib.indexByte s.data.toList c.toNat.toUInt8)) ∧ w' = w := Any.strings_IndexByte Tryz.lays137 s c w
def Tryz.lays129_ren : Go.Shelf.Ren := ⟨fun | 129 => 108 | n => n, fun | 53 => 139 | 3 => 3 | 4 => 4 | 46 => 150 | 5 => 5 | 9 => 9 | n => n, fun | n => n⟩
def Tryz.lays217_ren : Go.Shelf.Ren := ⟨fun | 217 => 94 | 266 => 110 | n => n, fun | 9 => 9 | 5 => 5 | 3 => 3 | n => n, fun | n => n⟩
def Tryz.lays190_ren : Go.Shelf.Ren := ⟨fun | 190 => 76 | 125 => 91 | 258 => 90 | 128 => 107 | 129 => 108 | 302 => 98 | 303 => 99 | 304 => 100 | 305 => 101 | 306 => 102 | 307 => 103 | 308 => 104 | 309 => 105 | 310 => 106 | 333 => 113 | 329 => 114 | 330 => 115 | 334 => 116 | 335 => 117 | 336 => 118 | 344 => 129 | n => n, fun | 31 => 22 | 9 => 9 | 3 => 3 | 46 => 150 | 0 => 0 | 51 => 167 | 53 => 139 | 4 => 4 | 183 => 160 | 182 => 159 | 131 => 109 | 5 => 5 | 218 => 170 | 222 => 174 | 228 => 183 | 229 => 184 | n => n, fun | n => n⟩
theorem Tryz.lays190 : Go.Proofs.Lays.n190 Tryz.prog Tryz.lays190_ren := {
  mixed := by kernel_rfl
  f125 := Tryz.func91.trans (congrArg some (by kernel_rfl))
  f128 := Tryz.func107.trans (congrArg some (by kernel_rfl))
  f129 := Tryz.func108.trans (congrArg some (by kernel_rfl))
  f190 := Tryz.func76.trans (congrArg some (by kernel_rfl))
  f258 := Tryz.func90.trans (congrArg some (by kernel_rfl))
  f302 := Tryz.func98.trans (congrArg some (by kernel_rfl))
  f303 := Tryz.func99.trans (congrArg some (by kernel_rfl))
  f304 := Tryz.func100.trans (congrArg some (by kernel_rfl))
  f305 := Tryz.func101.trans (congrArg some (by kernel_rfl))
  f306 := Tryz.func102.trans (congrArg some (by kernel_rfl))
  f307 := Tryz.func103.trans (congrArg some (by kernel_rfl))
  f308 := Tryz.func104.trans (congrArg some (by kernel_rfl))
  f309 := Tryz.func105.trans (congrArg some (by kernel_rfl))
  f310 := Tryz.func106.trans (congrArg some (by kernel_rfl))
  f329 := Tryz.func114.trans (congrArg some (by kernel_rfl))
  f330 := Tryz.func115.trans (congrArg some (by kernel_rfl))
  f333 := Tryz.func113.trans (congrArg some (by kernel_rfl))
  f334 := Tryz.func116.trans (congrArg some (by kernel_rfl))
  f335 := Tryz.func117.trans (congrArg some (by kernel_rfl))
  f336 := Tryz.func118.trans (congrArg some (by kernel_rfl))
  f344 := Tryz.func129.trans (congrArg some (by kernel_rfl))
  t0 := Tryz.underlying0
  a0 := Tryz.isAgg0
  z0 := Tryz.sizeOf0
  v0 := Tryz.zeroValue0
  t3 := Tryz.underlying3
  a3 := Tryz.isAgg3
  z3 := Tryz.sizeOf3
  v3 := Tryz.zeroValue3
  t4 := Tryz.underlying4
  a4 := Tryz.isAgg4
  z4 := Tryz.sizeOf4
  v4 := Tryz.zeroValue4
  t5 := Tryz.underlying5
  a5 := Tryz.isAgg5
  z5 := Tryz.sizeOf5
  v5 := Tryz.zeroValue5
  t9 := Tryz.underlying9
  a9 := Tryz.isAgg9
  z9 := Tryz.sizeOf9
  v9 := Tryz.zeroValue9
  t31 := Tryz.underlying22
  a31 := Tryz.isAgg22
  z31 := Tryz.sizeOf22
  v31 := Tryz.zeroValue22
  t46 := Tryz.underlying150
  a46 := Tryz.isAgg150
  z46 := Tryz.sizeOf150
  v46 := Tryz.zeroValue150
  t51 := Tryz.underlying167
  a51 := Tryz.isAgg167
  z51 := Tryz.sizeOf167
  v51 := Tryz.zeroValue167
  t53 := Tryz.underlying139
  a53 := Tryz.isAgg139
  z53 := Tryz.sizeOf139
  v53 := Tryz.zeroValue139
  t131 := Tryz.underlying109
  a131 := Tryz.isAgg109
  z131 := Tryz.sizeOf109
  v131 := Tryz.zeroValue109
  t182 := Tryz.underlying159
  a182 := Tryz.isAgg159
  z182 := Tryz.sizeOf159
  v182 := Tryz.zeroValue159
  t183 := Tryz.underlying160
  a183 := Tryz.isAgg160
  z183 := Tryz.sizeOf160
  v183 := Tryz.zeroValue160
  t218 := Tryz.underlying170
  a218 := Tryz.isAgg170
  z218 := Tryz.sizeOf170
  v218 := Tryz.zeroValue170
  t222 := Tryz.underlying174
  a222 := Tryz.isAgg174
  z222 := Tryz.sizeOf174
  v222 := Tryz.zeroValue174
  t228 := Tryz.underlying183
  a228 := Tryz.isAgg183
  z228 := Tryz.sizeOf183
  v228 := Tryz.zeroValue183
  t229 := Tryz.underlying184
  a229 := Tryz.isAgg184
  z229 := Tryz.sizeOf184
  v229 := Tryz.zeroValue184 }
open Go.Sort Go.RowKit in
theorem Tryz.slices_Sort_string (blk off cap : Nat) (ss : List (List UInt8)) (w : World) (hH : Holds encStr w blk off ss.toArray) (hblk : blk < w.heap.size) (hsz : ss.length < 4611686018427387904) :
    Calls Tryz.prog 76 #[.slice (some ⟨blk, off, none⟩) ss.length cap] w fun e w' =>
      e = .returned (.tuple #[]) ∧ ∃ n os, w' = grow (putRow encStr (Sort.ahead w n) blk off (ss.mergeSort fun x y => decide (x ≤ y)).toArray) os := Any.slices_Sort_string Tryz.lays190 blk off cap ss w hH hblk hsz
def Tryz.lays193_ren : Go.Shelf.Ren := ⟨fun | 193 => 34 | n => n, fun | 31 => 22 | 9 => 9 | 4 => 4 | 3 => 3 | 0 => 0 | n => n, fun | n => n⟩
theorem Tryz.lays193 : Go.Proofs.Lays.n193 Tryz.prog Tryz.lays193_ren := {
  mixed := by kernel_rfl
  f193 := Tryz.func34.trans (congrArg some (by kernel_rfl))
  t0 := Tryz.underlying0
  a0 := Tryz.isAgg0
  z0 := Tryz.sizeOf0
  v0 := Tryz.zeroValue0
  t3 := Tryz.underlying3
  a3 := Tryz.isAgg3
  z3 := Tryz.sizeOf3
  v3 := Tryz.zeroValue3
  t4 := Tryz.underlying4
  a4 := Tryz.isAgg4
  z4 := Tryz.sizeOf4
  v4 := Tryz.zeroValue4
  t9 := Tryz.underlying9
  a9 := Tryz.isAgg9
  z9 := Tryz.sizeOf9
  v9 := Tryz.zeroValue9
  t31 := Tryz.underlying22
  a31 := Tryz.isAgg22
  z31 := Tryz.sizeOf22
  v31 := Tryz.zeroValue22 }
open Go.RowKit Go.Lib in
theorem Tryz.slices_Equal_string (b1 o1 n c b2 o2 m d : Nat) (xs ys : List ByteArray) (w : World) (hx : n ≤ xs.length) (hy : m ≤ ys.length) (hbig : n ≤ 9223372036854775807) (hbig2 : m ≤ 9223372036854775807) (hc1 : ∀ j, j < xs.length → w.cell? ⟨b1, o1 + j, none⟩ = some (.string (xs.getD j ByteArray.empty))) (hc2 : ∀ j, j < ys.length → w.cell? ⟨b2, o2 + j, none⟩ = some (.string (ys.getD j ByteArray.empty))) :
    Calls Tryz.prog 34 #[.slice (some ⟨b1, o1, none⟩) n c, .slice (some ⟨b2, o2, none⟩) m d] w fun e w' => e = .returned (.bool (decide (xs.take n = ys.take m))) ∧ ∃ q, w' = w.drewN q := Any.slices_Equal_string Tryz.lays193 b1 o1 n c b2 o2 m d xs ys w hx hy hbig hbig2 hc1 hc2
open Go.RowKit Go.Lib in
theorem Tryz.slices_Equal_string_empty (a1 a2 : Option Addr) (c m d : Nat) (w : World) (hbig2 : m ≤ 9223372036854775807) :
    Calls Tryz.prog 34 #[.slice a1 0 c, .slice a2 m d] w fun e w' => e = .returned (.bool (decide (m = 0))) ∧ w' = w := Any.slices_Equal_string_empty Tryz.lays193 a1 a2 c m d w hbig2
open Go.RowKit Go.Sort in
theorem Tryz.slices_Sort_string_none (p : Option Addr) (cap : Nat) (w : World) :
    Calls Tryz.prog 76 #[.slice p 0 cap] w fun e w' => e = .returned (.tuple #[]) ∧ w' = w := Any.slices_Sort_string_none Tryz.lays190 p cap w
open Go.RowKit Go.Lib in
theorem Tryz.slices_Equal_string_lens (a1 a2 : Option Addr) (n c m d : Nat) (w : World) (hnm : n ≠ m) :
    Calls Tryz.prog 34 #[.slice a1 n c, .slice a2 m d] w fun e w' => e = .returned (.bool false) ∧ w' = w := Any.slices_Equal_string_lens Tryz.lays193 a1 a2 n c m d w hnm
def Tryz.laysSlN43_f93_ren : Go.Shelf.Ren := ⟨fun | 43 => 93 | n => n, fun | 22 => 83 | 23 => 2 | 3 => 3 | 4 => 4 | 0 => 0 | n => n, fun | n => n⟩
theorem Tryz.laysSlN43_f93 : Go.Proofs.SlLaysN.n43 Tryz.prog Tryz.laysSlN43_f93_ren := {
  mixed := by kernel_rfl
  f43 := ⟨Tryz.f93.name, by decide, Tryz.func93.trans (congrArg some (by kernel_rfl))⟩
  t0 := Tryz.underlying0
  a0 := Tryz.isAgg0
  z0 := Tryz.sizeOf0
  v0 := Tryz.zeroValue0
  t3 := Tryz.underlying3
  a3 := Tryz.isAgg3
  z3 := Tryz.sizeOf3
  v3 := Tryz.zeroValue3
  t4 := Tryz.underlying4
  a4 := Tryz.isAgg4
  z4 := Tryz.sizeOf4
  v4 := Tryz.zeroValue4
  t22 := Tryz.underlying83
  a22 := Tryz.isAgg83
  z22 := Tryz.sizeOf83
  v22 := Tryz.zeroValue83
  t23 := Tryz.underlying2
  a23 := Tryz.isAgg2
  z23 := Tryz.sizeOf2
  v23 := Tryz.zeroValue2
  i23 := by kernel_rfl }
open Go.RowKit Go.Lib Go.Sort in
theorem Tryz.slices_Compact_int (blk off cap : Nat) (zs : List Int) (w : World) (hH : Holds (Value.int .i64) w blk off zs.toArray) (hsz : zs.length ≤ 9223372036854775807) (hcap : zs.length ≤ cap) :
    Calls Tryz.prog 93 #[.slice (some ⟨blk, off, none⟩) zs.length cap] w fun e w' => e = .returned (.slice (some ⟨blk, off, none⟩) (Lib.compact zs).length cap) ∧ ∃ q, w' = putRow (Value.int .i64) (Sort.ahead w q) blk off (Lib.compact zs ++ List.replicate (zs.length - (Lib.compact zs).length) 0).toArray := AnyG.slices_Compact_int Tryz.laysSlN43_f93 blk off cap zs w hH hsz hcap
open Go.RowKit Go.Lib Go.Sort in
theorem Tryz.slices_Compact_int_empty (a : Option Addr) (cap : Nat) (w : World) :
    Calls Tryz.prog 93 #[.slice a 0 cap] w fun e w' => e = .returned (.slice a 0 cap) ∧ w' = w := AnyG.slices_Compact_int_empty Tryz.laysSlN43_f93 a cap w
def Tryz.laysSlM5_f92_ren : Go.Shelf.Ren := ⟨fun | 5 => 92 | 8 => 91 | 7 => 109 | 19 => 107 | 20 => 108 | 10 => 119 | 11 => 120 | 12 => 121 | 13 => 122 | 14 => 123 | 15 => 124 | 16 => 125 | 17 => 126 | 18 => 127 | 30 => 130 | 31 => 114 | 32 => 115 | 33 => 131 | 34 => 132 | 35 => 133 | 40 => 134 | n => n, fun | 23 => 83 | 25 => 2 | 3 => 3 | 32 => 150 | 22 => 83 | 0 => 0 | 44 => 167 | 46 => 139 | 4 => 4 | 36 => 160 | 35 => 159 | 41 => 109 | 5 => 5 | 9 => 9 | 53 => 170 | 57 => 174 | 63 => 183 | 64 => 184 | n => n, fun | n => n⟩
theorem Tryz.laysSlM5_f92 : Go.Proofs.SlLaysM.n5 Tryz.prog Tryz.laysSlM5_f92_ren := {
  mixed := by kernel_rfl
  f5 := ⟨Tryz.f92.name, by decide, Tryz.func92.trans (congrArg some (by kernel_rfl))⟩
  f7 := ⟨Tryz.f109.name, by decide, Tryz.func109.trans (congrArg some (by kernel_rfl))⟩
  f8 := Tryz.func91.trans (congrArg some (by kernel_rfl))
  f10 := ⟨Tryz.f119.name, by decide, Tryz.func119.trans (congrArg some (by kernel_rfl))⟩
  f11 := ⟨Tryz.f120.name, by decide, Tryz.func120.trans (congrArg some (by kernel_rfl))⟩
  f12 := ⟨Tryz.f121.name, by decide, Tryz.func121.trans (congrArg some (by kernel_rfl))⟩
  f13 := ⟨Tryz.f122.name, by decide, Tryz.func122.trans (congrArg some (by kernel_rfl))⟩
  f14 := ⟨Tryz.f123.name, by decide, Tryz.func123.trans (congrArg some (by kernel_rfl))⟩
  f15 := ⟨Tryz.f124.name, by decide, Tryz.func124.trans (congrArg some (by kernel_rfl))⟩
  f16 := ⟨Tryz.f125.name, by decide, Tryz.func125.trans (congrArg some (by kernel_rfl))⟩
  f17 := ⟨Tryz.f126.name, by decide, Tryz.func126.trans (congrArg some (by kernel_rfl))⟩
  f18 := ⟨Tryz.f127.name, by decide, Tryz.func127.trans (congrArg some (by kernel_rfl))⟩
  f19 := Tryz.func107.trans (congrArg some (by kernel_rfl))
  f20 := Tryz.func108.trans (congrArg some (by kernel_rfl))
  f30 := ⟨Tryz.f130.name, by decide, Tryz.func130.trans (congrArg some (by kernel_rfl))⟩
  f31 := Tryz.func114.trans (congrArg some (by kernel_rfl))
  f32 := Tryz.func115.trans (congrArg some (by kernel_rfl))
  f33 := ⟨Tryz.f131.name, by decide, Tryz.func131.trans (congrArg some (by kernel_rfl))⟩
  f34 := ⟨Tryz.f132.name, by decide, Tryz.func132.trans (congrArg some (by kernel_rfl))⟩
  f35 := ⟨Tryz.f133.name, by decide, Tryz.func133.trans (congrArg some (by kernel_rfl))⟩
  f40 := ⟨Tryz.f134.name, by decide, Tryz.func134.trans (congrArg some (by kernel_rfl))⟩
  t0 := Tryz.underlying0
  a0 := Tryz.isAgg0
  z0 := Tryz.sizeOf0
  v0 := Tryz.zeroValue0
  t3 := Tryz.underlying3
  a3 := Tryz.isAgg3
  z3 := Tryz.sizeOf3
  v3 := Tryz.zeroValue3
  t4 := Tryz.underlying4
  a4 := Tryz.isAgg4
  z4 := Tryz.sizeOf4
  v4 := Tryz.zeroValue4
  t5 := Tryz.underlying5
  a5 := Tryz.isAgg5
  z5 := Tryz.sizeOf5
  v5 := Tryz.zeroValue5
  t9 := Tryz.underlying9
  a9 := Tryz.isAgg9
  z9 := Tryz.sizeOf9
  v9 := Tryz.zeroValue9
  t22 := Tryz.underlying83
  a22 := Tryz.isAgg83
  z22 := Tryz.sizeOf83
  v22 := Tryz.zeroValue83
  t23 := Tryz.underlying83
  a23 := Tryz.isAgg83
  z23 := Tryz.sizeOf83
  v23 := Tryz.zeroValue83
  t25 := Tryz.underlying2
  a25 := Tryz.isAgg2
  z25 := Tryz.sizeOf2
  v25 := Tryz.zeroValue2
  t32 := Tryz.underlying150
  a32 := Tryz.isAgg150
  z32 := Tryz.sizeOf150
  v32 := Tryz.zeroValue150
  t35 := Tryz.underlying159
  a35 := Tryz.isAgg159
  z35 := Tryz.sizeOf159
  v35 := Tryz.zeroValue159
  t36 := Tryz.underlying160
  a36 := Tryz.isAgg160
  z36 := Tryz.sizeOf160
  v36 := Tryz.zeroValue160
  t41 := Tryz.underlying109
  a41 := Tryz.isAgg109
  z41 := Tryz.sizeOf109
  v41 := Tryz.zeroValue109
  t44 := Tryz.underlying167
  a44 := Tryz.isAgg167
  z44 := Tryz.sizeOf167
  v44 := Tryz.zeroValue167
  t46 := Tryz.underlying139
  a46 := Tryz.isAgg139
  z46 := Tryz.sizeOf139
  v46 := Tryz.zeroValue139
  t53 := Tryz.underlying170
  a53 := Tryz.isAgg170
  z53 := Tryz.sizeOf170
  v53 := Tryz.zeroValue170
  t57 := Tryz.underlying174
  a57 := Tryz.isAgg174
  z57 := Tryz.sizeOf174
  v57 := Tryz.zeroValue174
  t63 := Tryz.underlying183
  a63 := Tryz.isAgg183
  z63 := Tryz.sizeOf183
  v63 := Tryz.zeroValue183
  t64 := Tryz.underlying184
  a64 := Tryz.isAgg184
  z64 := Tryz.sizeOf184
  v64 := Tryz.zeroValue184 }
open Go.Sort Go.RowKit in
theorem Tryz.slices_Sort_int (blk off cap : Nat) (zs : List Int) (w : World) (hH : Holds (Value.int .i64) w blk off zs.toArray) (hblk : blk < w.heap.size) (hsz : zs.length < 4611686018427387904) :
    Calls Tryz.prog 92 #[.slice (some ⟨blk, off, none⟩) zs.length cap] w fun e w' =>
      e = .returned (.tuple #[]) ∧ ∃ n os, w' = grow (putRow (Value.int .i64) (Sort.ahead w n) blk off (zs.mergeSort fun x y => decide (x ≤ y)).toArray) os := AnyM.slices_Sort_int Tryz.laysSlM5_f92 blk off cap zs w hH hblk hsz
open Go.RowKit Go.Sort in
theorem Tryz.slices_Sort_int_none (p : Option Addr) (cap : Nat) (w : World) :
    Calls Tryz.prog 92 #[.slice p 0 cap] w fun e w' => e = .returned (.tuple #[]) ∧ w' = w := AnyM.slices_Sort_int_none Tryz.laysSlM5_f92 p cap w
end Go.Proofs

namespace Go.Proofs.YtgdbckjkeofoaaaGreat
open Go.RowKit Go.Proofs.Eng Go.Proofs.Foot
set_option linter.unusedSimpArgs false
set_option linter.unusedVariables false set_option maxRecDepth 10000
attribute [local irreducible] T TL LV TH TA
theorem IndexByte_c (S : ByteArray) (c : Int) (w : World) :
    Ret Tryz.prog 80 [.string S, .int .u8 c] w (fun v w' => v = .int .i64 (Lib.indexByte S.data.toList c.toNat.toUInt8) ∧ w' = w) := by
  refine Calls.mono (Tryz.strings_IndexByte S c w) ?_
  rintro e w' ⟨rfl, rfl⟩
  exact ⟨rfl, rfl⟩
theorem Valid_c (l : Tx) (hl : l.length ≤ 9223372036854775807) (w : World) :
    Ret Tryz.prog 58 [.string (ofL l)] w (fun v w' => v = .bool (validT l) ∧ w' = w) := by
  have hsz := ofL_size l
  refine ret_T (n := 23) Tryz.func58 rfl rfl ?_
  repeat (first | refine T_seq ?_ | refine T_region ?_ | refine T_block ?_ | refine TL_nil ?_ | refine TL_move (hk := ?_) | refine TL_assign (hk := ?_) | refine TL_len_s TE (hk := ?_))
  refine T_loop (ι := Nat) (fun i => [(6, .int .i64 (i : Int)), (5, .int .i64 ((ofL l).size : Int)), (0, .string (ofL l))]) (fun i w' => w' = w ∧ i ≤ l.length ∧ okUpto l i) (fun i => l.length - i) 0 (.c rfl (.c rfl (.c rfl (.n)))) ⟨rfl, Nat.zero_le _, fun j h => absurd h (by omega)⟩ ?_
  rintro i _ ⟨rfl, hi, hu⟩ ih
  by_cases hlt : i < l.length
  · repeat (first | refine T_seq ?_ | refine T_region ?_ | refine T_cond_true rfl ?_ | refine T_block ?_ | refine T_skip ?_ | refine TL_lt_t (hk := ?_) | refine TL_nil ?_ | refine TL_move (hk := ?_) | refine TL_assign (hk := ?_) | (refine TL_index_s TE (hk := ?_); intro _))
    refine TL_call TE (hc := IndexByte_c _ _ _) (hk := ?_)
    rintro _ _ ⟨rfl, rfl⟩
    have hk := ix_key' (gb_lt l i)
    by_cases hv : okc (gb l i) = true
    · have h0 := hk.2 hv
      have h0' : ¬ Lib.indexByte kbytes ((gb l i : Int).toNat.toUInt8) < 0 := by omega
      repeat (first | refine T_region ?_ | refine T_cond_false rfl ?_ | refine T_inBlock ?_ | refine T_skip ?_ | refine TL_add (hk := ?_) | refine TL_lt_f (hk := ?_) | refine TL_nil ?_ | refine TL_move (hk := ?_))
      exact ih (i + 1) _ _ (by omega) ⟨rfl, by omega, fun j hj => by
        by_cases e : j = i
        · rw [e]; exact hv
        · exact hu j (by omega)⟩ (.c rfl (.c rfl (.c rfl (.n))))
    · have h0 : Lib.indexByte kbytes ((gb l i : Int).toNat.toUInt8) < 0 := by
        have : ¬ 0 ≤ Lib.indexByte kbytes ((gb l i : Int).toNat.toUInt8) := fun h => hv (hk.1 h)
        omega
      repeat (first | refine T_seq ?_ | refine T_region ?_ | refine T_cond_true rfl ?_ | refine TL_lt_t (hk := ?_) | refine TL_nil ?_ | refine TL_assign (hk := ?_))
      refine T_ret1 rfl rfl ⟨?_, rfl⟩
      rw [valid_no hlt (by simpa using hv)]
  · have hin : i = l.length := by omega
    have hx := valid_end (l := l) (by rw [← hin]; exact hu)
    by_cases h1 : 1 ≤ l.length
    · by_cases h2 : l.length ≤ 32
      · repeat (first | refine T_seq ?_ | refine T_region ?_ | refine T_cond_false rfl ?_ | refine T_exit rfl ?_ | refine TL_lt_f (hk := ?_) | refine TL_le_t (hk := ?_) | refine TL_ge_t (hk := ?_) | refine TL_nil ?_ | refine TL_move (hk := ?_) | refine TL_assign (hk := ?_) | refine TL_len_s TE (hk := ?_) | refine TL_yes (hk := ?_) | refine TL_pick_t (hk := ?_))
        refine T_ret1 rfl rfl ⟨?_, rfl⟩
        rw [hx]; simp [h1, h2]
      · repeat (first | refine T_seq ?_ | refine T_region ?_ | refine T_cond_false rfl ?_ | refine T_exit rfl ?_ | refine TL_lt_f (hk := ?_) | refine TL_le_f (hk := ?_) | refine TL_ge_t (hk := ?_) | refine TL_nil ?_ | refine TL_move (hk := ?_) | refine TL_assign (hk := ?_) | refine TL_len_s TE (hk := ?_) | refine TL_yes (hk := ?_) | refine TL_pick_t (hk := ?_))
        refine T_ret1 rfl rfl ⟨?_, rfl⟩
        rw [hx]; simp [h1, h2]
    · repeat (first | refine T_seq ?_ | refine T_region ?_ | refine T_cond_false rfl ?_ | refine T_exit rfl ?_ | refine TL_lt_f (hk := ?_) | refine TL_ge_f (hk := ?_) | refine TL_nil ?_ | refine TL_move (hk := ?_) | refine TL_assign (hk := ?_) | refine TL_len_s TE (hk := ?_) | refine TL_no (hk := ?_) | refine TL_pick_f (hk := ?_))
      refine T_ret1 rfl rfl ⟨?_, rfl⟩
      rw [hx]; simp [h1]
theorem RValid_c (l : Tx) (hl : l.length ≤ 9223372036854775807) (w : World) :
    Ret Tryz.prog 41 [.string (ofL l)] w (fun v w' => v = .bool (validT l) ∧ w' = w) := by
  have hsz := ofL_size l
  refine ret_T (n := 57) Tryz.func41 rfl rfl ?_
  repeat (first | refine T_seq ?_ | refine T_region ?_ | refine T_block ?_ | refine TL_nil ?_ | refine TL_assign (hk := ?_))
  refine T_loop (ι := Nat) (fun i => [(3, .int .i64 (i : Int)), (0, .string (ofL l))]) (fun i w' => w' = w ∧ i ≤ l.length ∧ okUpto l i) (fun i => l.length - i) 0 (.c rfl (.c rfl (.n))) ⟨rfl, Nat.zero_le _, fun j h => absurd h (by omega)⟩ ?_
  rintro i _ ⟨rfl, hi, hu⟩ ih
  by_cases hlt : i < l.length
  · by_cases hv : okc (gb l i) = true
    · have hv' := hv
      simp only [okc, decide_eq_true_eq] at hv'
      have hgo := fun (st' : Slots) (h : Sub [(3, .int .i64 ((i + 1 : Nat) : Int)), (0, .string (ofL l))] st') => ih (i + 1) _ st' (by omega) ⟨rfl, by omega, fun j hj => by
          by_cases e : j = i
          · rw [e]; exact hv
          · exact hu j (by omega)⟩ h
      clear ih
      rcases (by omega : (97 ≤ gb l i ∧ gb l i ≤ 122) ∨ (48 ≤ gb l i ∧ gb l i ≤ 57) ∨ gb l i = 47 ∨ gb l i = 58 ∨ gb l i = 46 ∨ gb l i = 95 ∨ gb l i = 45) with h | h | h | h | h | h | h
      all_goals
        repeat (first | refine T_seq ?_ | refine T_region ?_ | refine T_cond_true rfl ?_ | refine T_cond_false rfl ?_ | refine T_block ?_ | refine T_inBlock ?_ | refine T_skip ?_ | refine TL_add (hk := ?_) | refine TL_lt_t (hk := ?_) | refine TL_le_t (hk := ?_) | refine TL_le_f (hk := ?_) | refine TL_ge_t (hk := ?_) | refine TL_ge_f (hk := ?_) | refine TL_eq_t (hk := ?_) | refine TL_eq_f (hk := ?_) | refine TL_nil ?_ | refine TL_move (hk := ?_) | refine TL_assign (hk := ?_) | refine TL_len_s TE (hk := ?_) | refine TL_yes (hk := ?_) | refine TL_no (hk := ?_) | refine TL_pick_t (hk := ?_) | refine TL_pick_f (hk := ?_) | refine TL_not (hk := ?_) | (refine TL_index_s TE (hk := ?_); intro _))
        exact hgo _ (.c rfl (.c rfl (.n)))
    · have hv' : ¬ ((97 ≤ gb l i ∧ gb l i ≤ 122) ∨ (48 ≤ gb l i ∧ gb l i ≤ 57) ∨ gb l i = 47 ∨ gb l i = 58 ∨ gb l i = 46 ∨ gb l i = 95 ∨ gb l i = 45) := by simpa [okc] using hv
      have hno := valid_no hlt (by simpa using hv)
      clear ih
      have hb := gb_lt l i
      rcases (by omega : gb l i < 45 ∨ (58 < gb l i ∧ gb l i < 95) ∨ gb l i = 96 ∨ 122 < gb l i) with h | h | h | h
      all_goals
        repeat (first | refine T_seq ?_ | refine T_region ?_ | refine T_cond_true rfl ?_ | refine T_block ?_ | refine T_skip ?_ | refine TL_lt_t (hk := ?_) | refine TL_le_f (hk := ?_) | refine TL_ge_t (hk := ?_) | refine TL_ge_f (hk := ?_) | refine TL_eq_f (hk := ?_) | refine TL_nil ?_ | refine TL_move (hk := ?_) | refine TL_assign (hk := ?_) | refine TL_len_s TE (hk := ?_) | refine TL_yes (hk := ?_) | refine TL_no (hk := ?_) | refine TL_pick_t (hk := ?_) | refine TL_pick_f (hk := ?_) | refine TL_not (hk := ?_) | (refine TL_index_s TE (hk := ?_); intro _))
        refine T_ret1 rfl rfl ⟨?_, rfl⟩
        rw [hno]
  · have hin : i = l.length := by omega
    have hx := valid_end (l := l) (by rw [← hin]; exact hu)
    by_cases h1 : 1 ≤ l.length
    · by_cases h2 : l.length ≤ 32
      · repeat (first | refine T_seq ?_ | refine T_region ?_ | refine T_cond_false rfl ?_ | refine T_exit rfl ?_ | refine TL_lt_f (hk := ?_) | refine TL_le_t (hk := ?_) | refine TL_ge_t (hk := ?_) | refine TL_nil ?_ | refine TL_move (hk := ?_) | refine TL_assign (hk := ?_) | refine TL_len_s TE (hk := ?_) | refine TL_yes (hk := ?_) | refine TL_pick_t (hk := ?_))
        refine T_ret1 rfl rfl ⟨?_, rfl⟩
        rw [hx]; simp [h1, h2]
      · repeat (first | refine T_seq ?_ | refine T_region ?_ | refine T_cond_false rfl ?_ | refine T_exit rfl ?_ | refine TL_lt_f (hk := ?_) | refine TL_le_f (hk := ?_) | refine TL_ge_t (hk := ?_) | refine TL_nil ?_ | refine TL_move (hk := ?_) | refine TL_assign (hk := ?_) | refine TL_len_s TE (hk := ?_) | refine TL_yes (hk := ?_) | refine TL_pick_t (hk := ?_))
        refine T_ret1 rfl rfl ⟨?_, rfl⟩
        rw [hx]; simp [h1, h2]
    · repeat (first | refine T_seq ?_ | refine T_region ?_ | refine T_cond_false rfl ?_ | refine T_exit rfl ?_ | refine TL_lt_f (hk := ?_) | refine TL_ge_f (hk := ?_) | refine TL_nil ?_ | refine TL_move (hk := ?_) | refine TL_assign (hk := ?_) | refine TL_len_s TE (hk := ?_) | refine TL_no (hk := ?_) | refine TL_pick_f (hk := ?_))
      refine T_ret1 rfl rfl ⟨?_, rfl⟩
      rw [hx]; simp [h1]
theorem Hash_c (l : Tx) (hl : l.length ≤ 9223372036854775807) (w : World) :
    Ret Tryz.prog 81 [.string (ofL l)] w (fun v w' => v = .int .u64 (hashT l : Nat) ∧ w' = w) := by
  have hsz := ofL_size l
  refine ret_T (n := 19) Tryz.func81 rfl rfl ?_
  repeat (first | refine T_seq ?_ | refine T_region ?_ | refine T_block ?_ | refine TL_nil ?_ | refine TL_move (hk := ?_) | refine TL_assign (hk := ?_) | refine TL_len_s TE (hk := ?_))
  refine T_loop (ι := Nat) (fun i => [(7, .int .i64 (i : Int)), (3, .int .u64 (hashU l i : Nat)), (6, .int .i64 ((ofL l).size : Int)), (0, .string (ofL l))]) (fun i w' => w' = w ∧ i ≤ l.length) (fun i => l.length - i) 0 (.c rfl (.c rfl (.c rfl (.c rfl (.n))))) ⟨rfl, Nat.zero_le _⟩ ?_
  rintro i _ ⟨rfl, hi⟩ ih
  have hh := hashU_lt l i
  by_cases hlt : i < l.length
  · repeat (first | refine T_seq ?_ | refine T_region ?_ | refine T_cond_true rfl ?_ | refine T_block ?_ | refine T_skip ?_ | refine TL_lt_t (hk := ?_) | refine TL_nil ?_ | refine TL_move (hk := ?_) | refine TL_assign (hk := ?_) | refine TL_conv TE (hk := ?_) | (refine TL_index_s TE (hk := ?_); intro _))
    refine TL_xor (hk := ?_); intro _
    refine TL_mul_wrap (hk := ?_)
    have e : IntKind.u64.wrap (((hashU l i ^^^ gb l i : Nat) : Int) * 1099511628211) = ((hashU l (i + 1) : Nat) : Int) := wrap_nat (k := .u64) rfl ((hashU l i ^^^ gb l i) * 1099511628211)
    rw [e]
    repeat (first | refine T_region ?_ | refine T_inBlock ?_ | refine TL_add (hk := ?_) | refine TL_nil ?_ | refine TL_move (hk := ?_) | refine TL_assign (hk := ?_))
    exact ih (i + 1) _ _ (by omega) ⟨rfl, by omega⟩ (.c rfl (.c rfl (.c rfl (.c rfl (.n)))))
  · have hin : i = l.length := by omega
    repeat (first | refine T_seq ?_ | refine T_region ?_ | refine T_cond_false rfl ?_ | refine T_exit rfl ?_ | refine TL_lt_f (hk := ?_) | refine TL_nil ?_ | refine TL_move (hk := ?_) | refine TL_assign (hk := ?_))
    refine T_ret1 rfl rfl ⟨?_, rfl⟩
    rw [hin]; rfl
theorem RHash_c (l : Tx) (hl : l.length ≤ 9223372036854775807) (w : World) :
    Ret Tryz.prog 82 [.string (ofL l)] w (fun v w' => v = .int .u64 (hashT l : Nat) ∧ w' = w) := by
  have hsz := ofL_size l
  refine ret_T (n := 19) Tryz.func82 rfl rfl ?_
  repeat (first | refine T_seq ?_ | refine T_region ?_ | refine T_block ?_ | refine TL_nil ?_ | refine TL_assign (hk := ?_))
  refine T_loop (ι := Nat) (fun i => [(4, .int .i64 (i : Int)), (3, .int .u64 (hashU l i : Nat)), (0, .string (ofL l))]) (fun i w' => w' = w ∧ i ≤ l.length) (fun i => l.length - i) 0 (.c rfl (.c rfl (.c rfl (.n)))) ⟨rfl, Nat.zero_le _⟩ ?_
  rintro i _ ⟨rfl, hi⟩ ih
  have hh := hashU_lt l i
  by_cases hlt : i < l.length
  · repeat (first | refine T_seq ?_ | refine T_region ?_ | refine T_cond_true rfl ?_ | refine T_block ?_ | refine T_skip ?_ | refine TL_lt_t (hk := ?_) | refine TL_nil ?_ | refine TL_move (hk := ?_) | refine TL_len_s TE (hk := ?_) | refine TL_conv TE (hk := ?_) | (refine TL_index_s TE (hk := ?_); intro _))
    refine TL_xor (hk := ?_); intro _
    refine TL_mul_wrap (hk := ?_)
    have e : IntKind.u64.wrap (((hashU l i ^^^ gb l i : Nat) : Int) * 1099511628211) = ((hashU l (i + 1) : Nat) : Int) := wrap_nat (k := .u64) rfl ((hashU l i ^^^ gb l i) * 1099511628211)
    rw [e]
    repeat (first | refine T_region ?_ | refine T_inBlock ?_ | refine TL_add (hk := ?_) | refine TL_nil ?_ | refine TL_move (hk := ?_) | refine TL_assign (hk := ?_))
    exact ih (i + 1) _ _ (by omega) ⟨rfl, by omega⟩ (.c rfl (.c rfl (.c rfl (.n))))
  · have hin : i = l.length := by omega
    repeat (first | refine T_seq ?_ | refine T_region ?_ | refine T_cond_false rfl ?_ | refine T_exit rfl ?_ | refine TL_lt_f (hk := ?_) | refine TL_nil ?_ | refine TL_move (hk := ?_) | refine TL_assign (hk := ?_) | refine TL_len_s TE (hk := ?_))
    refine T_ret1 rfl rfl ⟨?_, rfl⟩
    rw [hin]; rfl
theorem Partition_c (l : Tx) (hl : l.length ≤ 9223372036854775807) (z : Int) (hz : -9223372036854775808 ≤ z ∧ z ≤ 9223372036854775807) (w : World) :
    Ret Tryz.prog 60 [.string (ofL l), .int .i64 z] w (fun v w' => v = .int .i64 (if z < 1 then 0 else (hashT l : Int) % z) ∧ w' = w) := by
  refine ret_T (n := 13) Tryz.func60 rfl rfl ?_
  by_cases h : z < 1
  · repeat (first | refine T_seq ?_ | refine T_region ?_ | refine T_cond_true rfl ?_ | refine TL_lt_t (hk := ?_) | refine TL_nil ?_ | refine TL_move (hk := ?_) | refine TL_assign (hk := ?_))
    refine T_ret1 rfl rfl ⟨?_, rfl⟩
    rw [if_pos h]
  · have h1 := Int.emod_nonneg (hashT l : Int) (by omega : z ≠ 0)
    have h2 := Int.emod_lt_of_pos (hashT l : Int) (by omega : 0 < z)
    repeat (first | refine T_seq ?_ | refine T_region ?_ | refine T_cond_false rfl ?_ | refine T_skip ?_ | refine TL_lt_f (hk := ?_) | refine TL_nil ?_ | refine TL_move (hk := ?_) | refine TL_assign (hk := ?_))
    refine TL_call TE (hc := Hash_c l hl _) (hk := ?_)
    rintro _ _ ⟨rfl, rfl⟩
    repeat (first | refine TL_rem (hk := ?_) | refine TL_nil ?_ | refine TL_move (hk := ?_) | refine TL_assign (hk := ?_) | refine TL_conv TE (hk := ?_))
    refine T_ret1 rfl rfl ⟨?_, rfl⟩
    rw [if_neg h]
theorem RPartition_c (l : Tx) (hl : l.length ≤ 9223372036854775807) (z : Int) (hz : -9223372036854775808 ≤ z ∧ z ≤ 9223372036854775807) (w : World) :
    Ret Tryz.prog 62 [.string (ofL l), .int .i64 z] w (fun v w' => v = .int .i64 (if z < 1 then 0 else (hashT l : Int) % z) ∧ w' = w) := by
  refine ret_T (n := 13) Tryz.func62 rfl rfl ?_
  by_cases h : z < 1
  · repeat (first | refine T_seq ?_ | refine T_region ?_ | refine T_cond_true rfl ?_ | refine TL_lt_t (hk := ?_) | refine TL_nil ?_ | refine TL_move (hk := ?_) | refine TL_assign (hk := ?_))
    refine T_ret1 rfl rfl ⟨?_, rfl⟩
    rw [if_pos h]
  · have h1 := Int.emod_nonneg (hashT l : Int) (by omega : z ≠ 0)
    have h2 := Int.emod_lt_of_pos (hashT l : Int) (by omega : 0 < z)
    repeat (first | refine T_seq ?_ | refine T_region ?_ | refine T_cond_false rfl ?_ | refine T_skip ?_ | refine TL_lt_f (hk := ?_) | refine TL_nil ?_ | refine TL_move (hk := ?_) | refine TL_assign (hk := ?_))
    refine TL_call TE (hc := RHash_c l hl _) (hk := ?_)
    rintro _ _ ⟨rfl, rfl⟩
    repeat (first | refine TL_rem (hk := ?_) | refine TL_nil ?_ | refine TL_move (hk := ?_) | refine TL_assign (hk := ?_) | refine TL_conv TE (hk := ?_))
    refine T_ret1 rfl rfl ⟨?_, rfl⟩
    rw [if_neg h]
end Go.Proofs.YtgdbckjkeofoaaaGreat

namespace Go.Proofs.YtgdbckjkeofoaaaGreat
open Go.RowKit Go.Proofs.Eng Go.Proofs.Foot Go.Proofs.Locks
set_option linter.unusedSimpArgs false
set_option linter.unusedVariables false set_option maxRecDepth 10000
attribute [local irreducible] T TL LV TH TA
abbrev pT (b : Nat) : Value := .pointer (some ⟨b, 0, none⟩)
theorem KNew_c (w : World) : Ret Tryz.prog 65 [] w (fun v w' => ∃ m f, v = pT m.p ∧ Ext w w' ∧ TabM w' w.heap.size m f (fun _ => []) [] 0) := by
  refine ret_T (n := 5) Tryz.func65 rfl rfl ?_
  repeat (first | refine T_seq ?_ | refine T_region ?_ | refine TL_nil ?_ | refine TL_assign (hk := ?_))
  refine TL_makeMap .string tK sL (hk := ?_); intro b1 w1 e1 h1 h1' mp1
  --
  refine TL_makeMap (.int .i64) kI sL (hk := ?_); intro b2 w2 e2 h2 h2' mp2
  repeat (refine TL_build TE (hk := ?_))
  refine TL_box (hk := ?_); intro b3 w3 e3 h3 h3' k3
  have z1 := e1.size
  have z2 := e2.size
  have z3 := e3.size
  have E3 := (e1.ext e2).ext e3
  have mp13 := (mp1.be e2).be e3
  have mp23 := mp2.be e3
  repeat (first | refine TL_nil ?_ | refine TL_assign (hk := ?_))
  refine T_ret1 rfl rfl ⟨⟨b3, b1, b2, [], []⟩, fun b => if b = b3 then (1, [], 0) else if b = b1 then (2, [], 0) else if b = b2 then (3, [], 0) else (0, [], 0), rfl, E3, ⟨k3, mp13, mp23, by simp, ?_, ?_, fun k _ => rfl, fun k x hx => (by cases hx), fun s => (by simp [mget, eget]), fun s x hx => (by cases hx), rfl, by simp, by simp, fun b hb => ?_⟩⟩
  · have : ¬ b1 = b3 := by omega
    simp [this]
  · have h4 : ¬ b2 = b3 := by omega
    have h5 : ¬ b2 = b1 := by omega
    simp [h4, h5]
  · unfold ow at hb
    simp only at hb
    by_cases q1 : b = b3
    · omega
    · by_cases q2 : b = b1
      · omega
      · by_cases q3 : b = b2
        · omega
        · rw [if_neg q1, if_neg q2, if_neg q3] at hb; exact absurd rfl hb
theorem LClone_c (A : Option Addr) (n c : Nat) (l : List Lk) (w : World) (h : Rd w A n 2 (rowV lkV l)) (hn : n ≤ 100000000) :
    Ret Tryz.prog 83 [.slice A n c] w (fun v w' => ∃ x, v = sL x ∧ Ext w w' ∧ LRow w' w.heap.size x l) := by
  cases A with
  | none =>
    obtain ⟨rfl, hl⟩ := Rd.none h
    have hl0 : l = [] := by
      have := rowV_len lkV_len l
      rw [hl] at this
      exact List.length_eq_zero_iff.1 (by simp at this; omega)
    subst hl0
    refine ret_T (n := 8) Tryz.func83 rfl rfl ?_
    repeat (first | refine T_seq ?_ | refine T_region ?_ | refine T_cond_true rfl ?_ | refine TL_nil_t TE (hk := ?_) | refine TL_nil ?_ | refine TL_move (hk := ?_) | refine TL_assign (hk := ?_))
    exact T_ret1 rfl rfl ⟨(none, 0, 0), rfl, Mod.refl _ _, Own.nil _ _ _ _⟩
  | some ad =>
    have hone := rowV_one lkV_one l
    refine ret_T (n := 8) Tryz.func83 rfl rfl ?_
    repeat (first | refine T_seq ?_ | refine T_region ?_ | refine T_cond_false rfl ?_ | refine T_skip ?_ | refine TL_nil_f TE (hk := ?_) | refine TL_nil ?_ | refine TL_move (hk := ?_) | refine TL_assign (hk := ?_))
    refine TL_buildSlice0 TE (hk := ?_); intro b1 w1 e1 h1 h1' k1
    have o1 : Own w1 w.heap.size 129 2 (some ⟨b1, 0, none⟩) 0 0 [] := Own.of_blk k1 h1 rfl (by decide)
    have h2 := h.be e1
    repeat (refine TL_move (hk := ?_))
    refine TL_append TE (hk := ?_); intro A2 c2 w2 o2 m2 n2
    rw [List.nil_append] at o2
    repeat (first | refine TL_nil ?_ | refine TL_assign (hk := ?_))
    exact T_ret1 rfl rfl ⟨(A2, 0 + n, c2), rfl, Mod.own e1 m2 o1.hi, o2⟩
theorem take_while_len (l : List Akk) (i : Nat) (hi : i ≤ l.length) (h : ∀ j, j < i → (l.getD j ak0).2 = false) (hs : i = l.length ∨ (l.getD i ak0).2 = true) : (l.takeWhile fun x => !x.2).length = i := by
  induction l generalizing i with
  | nil => simp at hi ⊢; omega
  | cons x l ih =>
    rw [List.takeWhile_cons]
    cases i with
    | zero =>
      rcases hs with hs | hs
      · simp at hs
      · simp at hs; simp [hs]
    | succ i =>
      have h0 := h 0 (by omega)
      simp at h0
      simp only [h0, Bool.not_false, if_true, List.length_cons]
      rw [ih i (by simpa using hi) (fun j hj => by have := h (j + 1) (by omega); simpa using this) (by simpa using hs)]
theorem granted_c (A : Option Addr) (n c : Nat) (q : List Akk) (w : World) (h : Rd w A n 2 (rowV akV q)) (hn : n ≤ 1000000) :
    Ret Tryz.prog 86 [.slice A n c] w (fun v w' => v = .int .i64 (grantN q : Int) ∧ w' = w) := by
  have hl : q.length = n := by have := h.1; rw [rowV_len akV_len] at this; omega
  refine ret_T (n := 26) Tryz.func86 rfl rfl ?_
  repeat (first | refine T_seq ?_ | refine T_region ?_ | refine T_block ?_ | refine TL_nil ?_ | refine TL_assign (hk := ?_))
  refine T_loop (ι := Nat) (fun i => [(3, .int .i64 (i : Int)), (0, .slice A n c)]) (fun i w' => w' = w ∧ i ≤ n ∧ ∀ j, j < i → (q.getD j ak0).2 = false) (fun i => n - i) 0 (.c rfl (.c rfl (.n))) ⟨rfl, Nat.zero_le _, fun j h => absurd h (by omega)⟩ ?_
  rintro i _ ⟨rfl, hi, hu⟩ ih
  by_cases hlt : i < n
  · have hv : (rowV akV q)[i * 2 + 1]? = some (.bool (q.getD i ak0).2) := rowV_at akV_len q i 1 ak0 (by omega) (by omega)
    have hA : A ≠ none := by obtain ⟨_, _, hq, _⟩ := h.2 (by omega); rw [hq]; simp
    have hns := take_while_len q i (by omega) hu
    obtain ⟨x, hx⟩ : ∃ x, q.getD i ak0 = x := ⟨_, rfl⟩
    rw [hx] at hv hns
    by_cases hb : x.2 = true
    · have hns := hns (.inr hb)
      rw [hb] at hv
      clear ih
      repeat (first | refine T_seq ?_ | refine T_region ?_ | refine T_cond_false rfl ?_ | refine T_exit rfl ?_ | refine TL_lt_t (hk := ?_) | refine TL_nil ?_ | refine TL_move (hk := ?_) | refine TL_load_rd TE (hk := ?_) | refine TL_fieldAddr_e TE (hk := ?_) | refine TL_indexAddrn TE (hk := ?_) | refine TL_len TE (hk := ?_) | refine TL_yes (hk := ?_) | refine TL_pick_t (hk := ?_) | refine TL_not (hk := ?_))
      by_cases h0 : i = 0
      · subst h0
        have hg : grantN q = 1 := by unfold grantN; simp only [hns]; rw [if_pos ⟨trivial, by omega⟩]
        repeat (first | refine T_seq ?_ | refine T_region ?_ | refine T_cond_true rfl ?_ | refine TL_gt_t (hk := ?_) | refine TL_eq_t (hk := ?_) | refine TL_nil ?_ | refine TL_move (hk := ?_) | refine TL_assign (hk := ?_) | refine TL_len TE (hk := ?_) | refine TL_yes (hk := ?_) | refine TL_pick_t (hk := ?_))
        exact T_ret1 rfl rfl ⟨by rw [hg]; rfl, rfl⟩
      · have hg : grantN q = i := by unfold grantN; simp only [hns]; rw [if_neg (fun y => h0 y.1)]
        have h0' : ¬ (i : Int) = 0 := by omega
        repeat (first | refine T_seq ?_ | refine T_region ?_ | refine T_cond_false rfl ?_ | refine T_skip ?_ | refine TL_eq_f (hk := ?_) | refine TL_nil ?_ | refine TL_move (hk := ?_) | refine TL_assign (hk := ?_) | refine TL_no (hk := ?_) | refine TL_pick_f (hk := ?_))
        exact T_ret1 rfl rfl ⟨by rw [hg], rfl⟩
    · have hb' : x.2 = false := by simpa using hb
      rw [hb'] at hv
      repeat (first | refine T_seq ?_ | refine T_region ?_ | refine T_cond_true rfl ?_ | refine T_block ?_ | refine T_inBlock ?_ | refine T_skip ?_ | refine TL_add (hk := ?_) | refine TL_lt_t (hk := ?_) | refine TL_nil ?_ | refine TL_move (hk := ?_) | refine TL_assign (hk := ?_) | refine TL_load_rd TE (hk := ?_) | refine TL_fieldAddr_e TE (hk := ?_) | refine TL_indexAddrn TE (hk := ?_) | refine TL_len TE (hk := ?_) | refine TL_yes (hk := ?_) | refine TL_pick_t (hk := ?_) | refine TL_not (hk := ?_))
      exact ih (i + 1) _ _ (by omega) ⟨rfl, by omega, fun j hj => by
        by_cases y : j = i
        · rw [y, hx]; exact hb'
        · exact hu j (by omega)⟩ (.c rfl (.c rfl (.n)))
  · clear ih
    have hin : i = n := by omega
    have hns := take_while_len q i (by omega) hu (.inl (by omega))
    by_cases h0 : n = 0
    · subst hin
      subst h0
      have hg : grantN q = 0 := by unfold grantN; simp only [hns]; rw [if_neg (fun y => by omega)]
      repeat (first | refine T_seq ?_ | refine T_region ?_ | refine T_cond_false rfl ?_ | refine T_skip ?_ | refine T_exit rfl ?_ | refine TL_lt_f (hk := ?_) | refine TL_gt_f (hk := ?_) | refine TL_eq_t (hk := ?_) | refine TL_nil ?_ | refine TL_move (hk := ?_) | refine TL_assign (hk := ?_) | refine TL_len TE (hk := ?_) | refine TL_yes (hk := ?_) | refine TL_no (hk := ?_) | refine TL_pick_t (hk := ?_) | refine TL_pick_f (hk := ?_))
      exact T_ret1 rfl rfl ⟨by rw [hg], rfl⟩
    · have hg : grantN q = i := by unfold grantN; simp only [hns]; rw [if_neg (fun y => by omega)]
      have h0' : ¬ (i : Int) = 0 := by omega
      repeat (first | refine T_seq ?_ | refine T_region ?_ | refine T_cond_false rfl ?_ | refine T_skip ?_ | refine T_exit rfl ?_ | refine TL_lt_f (hk := ?_) | refine TL_eq_f (hk := ?_) | refine TL_nil ?_ | refine TL_move (hk := ?_) | refine TL_assign (hk := ?_) | refine TL_len TE (hk := ?_) | refine TL_no (hk := ?_) | refine TL_pick_f (hk := ?_))
      exact T_ret1 rfl rfl ⟨by rw [hg], rfl⟩
theorem isSeq_c (x : Akk) (b : Nat) (s : Int) (w : World) (hb : Blk w b 2 [.int .i64 s]) :
    Ret Tryz.prog 88 [.agg #[.int .i64 x.1, .bool x.2], pT b] w (fun v w' => v = .bool (decide (x.1 = s)) ∧ Ext w w') := by
  refine ret_T (n := 8) Tryz.func88 rfl rfl ?_
  repeat (first | refine T_seq ?_ | refine T_region ?_)
  refine TL_box (hk := ?_); intro b2 w2 e2 h2 h2' k2
  replace k2 : Blk w2 b2 134 (akV x) := k2
  have hb2 := hb.be e2
  unfold akV at k2
  by_cases h : x.1 = s
  · repeat (first | refine T_seq ?_ | refine T_region ?_ | refine TL_eq_t (hk := ?_) | refine TL_nil ?_ | refine TL_assign (hk := ?_) | refine TL_load TE (hk := ?_) | refine TL_fieldAddr TE (hk := ?_))
    exact T_ret1 rfl rfl ⟨by rw [decide_eq_true h], e2⟩
  · repeat (first | refine T_seq ?_ | refine T_region ?_ | refine TL_eq_f (hk := ?_) | refine TL_nil ?_ | refine TL_assign (hk := ?_) | refine TL_load TE (hk := ?_) | refine TL_fieldAddr TE (hk := ?_))
    exact T_ret1 rfl rfl ⟨by rw [decide_eq_false h], e2⟩
abbrev seqF (b : Nat) : Value := .func (.func 88) #[] #[pT b]
theorem placeI_at : ∀ {q : List Akk} {s : Int} {i : Nat}, i < q.length → (q.getD i ak0).1 = s → (∀ j, j < i → ¬ (q.getD j ak0).1 = s) → placeI q s = i
  | [], _, _, h, _, _ => by simp at h
  | x :: q, s, 0, _, h1, _ => by simp at h1; simp [placeI, h1]
  | x :: q, s, i + 1, h, h1, h2 => by
    have h0 := h2 0 (by omega)
    simp at h0
    have ih := placeI_at (q := q) (s := s) (i := i) (by simpa using h) (by simpa using h1) (fun j hj => by have := h2 (j + 1) (by omega); simpa using this)
    simp only [placeI, h0, if_false, ih]
    rw [if_neg (by omega)]
    omega
theorem placeI_no : ∀ {q : List Akk} {s : Int}, (∀ j, j < q.length → ¬ (q.getD j ak0).1 = s) → placeI q s = -1
  | [], _, _ => rfl
  | x :: q, s, h => by
    have h0 := h 0 (by simp)
    simp at h0
    have ih := placeI_no (q := q) (s := s) (fun j hj => by have := h (j + 1) (by simpa using hj); simpa using this)
    simp only [placeI, h0, if_false, ih]
    rw [if_pos (by omega)]
theorem KIndexFunc_c (A : Option Addr) (n c : Nat) (q : List Akk) (b : Nat) (s : Int) (w : World) (h : Rd w A n 2 (rowV akV q)) (hn : n ≤ 1000000) (hb : Blk w b 2 [.int .i64 s]) :
    Ret Tryz.prog 87 [.slice A n c, seqF b] w (fun v w' => v = .int .i64 (placeI q s) ∧ Ext w w') := by
  have hl : q.length = n := by have := h.1; rw [rowV_len akV_len] at this; omega
  refine ret_T (n := 19) Tryz.func87 rfl rfl ?_
  repeat (first | refine T_seq ?_ | refine T_region ?_ | refine T_block ?_ | refine TL_nil ?_ | refine TL_move (hk := ?_) | refine TL_assign (hk := ?_) | refine TL_len TE (hk := ?_))
  refine T_loop (ι := Nat) (fun i => [(8, .int .i64 (i : Int)), (7, .int .i64 (n : Int)), (0, .slice A n c), (1, seqF b)]) (fun i w' => Ext w w' ∧ i ≤ n ∧ ∀ j, j < i → ¬ (q.getD j ak0).1 = s) (fun i => n - i) 0 (.c rfl (.c rfl (.c rfl (.c rfl (.n))))) ⟨Mod.refl _ _, Nat.zero_le _, fun j h => absurd h (by omega)⟩ ?_
  rintro i w1 ⟨e1, hi, hu⟩ ih
  have h1 := h.be e1
  have hb1 := hb.be e1
  by_cases hlt : i < n
  · have t1 := rowV_elem akV_len q i ak0 (by omega)
    have hpl := placeI_at (q := q) (s := s) (i := i) (by omega)
    obtain ⟨x, hx⟩ : ∃ x, q.getD i ak0 = x := ⟨_, rfl⟩
    rw [hx] at t1 hpl
    repeat (first | refine T_seq ?_ | refine T_region ?_ | refine T_cond_true rfl ?_ | refine T_block ?_ | refine T_skip ?_ | refine TL_lt_t (hk := ?_) | refine TL_nil ?_ | refine TL_move (hk := ?_) | refine TL_assign (hk := ?_) | refine TL_indexAddrn TE (hk := ?_))
    refine TL_loada TE (cs := akV x) (hx := rfl) (ht := rfl) (hi := rfl) (hr := h1) (hc := t1) (h0 := Nat.succ_pos _) (hk := ?_)
    --
    refine TL_callc TE (fst := []) (cap := [pT b]) rfl rfl rfl rfl (R' := RR (fun v w'' => v = .bool (decide (x.1 = s)) ∧ Ext w1 w'')) (by have := isSeq_c x b s w1 hb1; unfold Ret at this; simpa [akV] using this) ?_ (fun _ _ h => h.elim) (fun _ h => h)
    rintro _ w2 ⟨rfl, e2⟩
    by_cases hs : x.1 = s
    · rw [decide_eq_true hs]
      repeat (first | refine T_seq ?_ | refine T_region ?_ | refine T_cond_true rfl ?_ | refine TL_nil ?_ | refine TL_move (hk := ?_) | refine TL_assign (hk := ?_))
      exact T_ret1 rfl rfl ⟨by rw [hpl hs hu], e1.ext e2⟩
    · rw [decide_eq_false hs]
      repeat (first | refine T_region ?_ | refine T_cond_false rfl ?_ | refine T_inBlock ?_ | refine T_skip ?_ | refine TL_add (hk := ?_) | refine TL_nil ?_ | refine TL_move (hk := ?_))
      exact ih (i + 1) _ _ (by omega) ⟨e1.ext e2, by omega, fun j hj => by
        by_cases y : j = i
        · rw [y, hx]; exact hs
        · exact hu j (by omega)⟩ (.c rfl (.c rfl (.c rfl (.c rfl (.n)))))
  · clear ih
    have : i = n := by omega
    subst this
    repeat (first | refine T_seq ?_ | refine T_region ?_ | refine T_cond_false rfl ?_ | refine T_exit rfl ?_ | refine TL_lt_f (hk := ?_) | refine TL_nil ?_ | refine TL_assign (hk := ?_))
    exact T_ret1 rfl rfl ⟨by rw [placeI_no (fun j hj => hu j (by omega))], e1⟩
theorem place_c (A : Option Addr) (n c : Nat) (q : List Akk) (s : Int) (w : World) (h : Rd w A n 2 (rowV akV q)) (hn : n ≤ 1000000) :
    Ret Tryz.prog 73 [.slice A n c, .int .i64 s] w (fun v w' => v = .int .i64 (placeI q s) ∧ Ext w w') := by
  refine ret_T (n := 8) Tryz.func73 rfl rfl ?_
  repeat (first | refine T_seq ?_ | refine T_region ?_)
  refine TL_box (hk := ?_); intro b1 w1 e1 h1 h1' k1
  repeat (first | refine T_seq ?_ | refine T_region ?_ | refine TL_nil ?_ | refine TL_move (hk := ?_) | refine TL_assign (hk := ?_) | refine TL_makeFunc (hk := ?_))
  refine TL_call TE (hc := KIndexFunc_c A n c q b1 s _ (h.be e1) hn k1) (hk := ?_)
  rintro _ w2 ⟨rfl, e2⟩
  repeat (first | refine TL_nil ?_ | refine TL_assign (hk := ?_))
  exact T_ret1 rfl rfl ⟨rfl, e1.ext e2⟩
theorem KDelete_c (A : Option Addr) (n c base i : Nat) (q : List Akk) (w : World) (h : Own w base 134 2 A n c (rowV akV q)) (hi : i < n) (hn : n ≤ 1000000) (hbw : base ≤ w.heap.size) :
    Ret Tryz.prog 74 [.slice A n c, .int .i64 (i : Int), .int .i64 ((i + 1 : Nat) : Int)] w (fun v w' => v = .slice A (n - 1) c ∧ Eng.Mod (blkL A) w w' ∧ Own w' base 134 2 A (n - 1) c (rowV akV (q.take i ++ q.drop (i + 1)))) := by
  have hl : q.length = n := by have := h.len; rw [rowV_len akV_len] at this; omega
  have hcap := h.cap
  have hne : ¬ (i : Int) = ((i + 1 : Nat) : Int) := by omega
  refine ret_T (n := 33) Tryz.func74 rfl rfl ?_
  repeat (first | refine T_seq ?_ | refine T_region ?_ | refine TL_nil ?_ | refine TL_move (hk := ?_) | refine TL_assign (hk := ?_) | refine TL_len TE (hk := ?_))
  refine TL_slice3 TE (hk := ?_)
  repeat (first | refine T_seq ?_ | refine T_region ?_ | refine T_cond_false rfl ?_ | refine T_skip ?_ | refine TL_eq_f (hk := ?_) | refine TL_nil ?_ | refine TL_move (hk := ?_) | refine TL_assign (hk := ?_) | refine TL_len TE (hk := ?_))
  refine T_region_any TE.mixed (blkL A) ?_; intro w1 e1 z1
  have h1 := h.be e1
  have r1 : Rd w1 (cutA A c (i + 1) 2) (n - (i + 1)) 2 (rowV akV (q.drop (i + 1))) := by
    have := Rd.cut (l := i + 1) (h := n) (c := c) h1.rd (by omega) (Nat.le_refl _) hcap.1
    rwa [rowV_drop akV_len, List.take_of_length_le (by rw [rowV_len akV_len, List.length_drop]; omega)] at this
  (refine TA_take 0 rfl (by kernel_rfl) (by kernel_rfl) (by kernel_rfl) ?_; (repeat (first | refine TL_move (hk := ?_) | refine TL_slice_hi TE (hk := ?_) | refine TL_slice_lo TE (hk := ?_))); refine TL_nil_p ?_); (refine TA_take 1 rfl (by kernel_rfl) (by kernel_rfl) (by kernel_rfl) ?_; (repeat (first | refine TL_move (hk := ?_) | refine TL_slice_hi TE (hk := ?_) | refine TL_slice_lo TE (hk := ?_))); refine TL_nil_p ?_); (refine TA_take 2 rfl (by kernel_rfl) (by kernel_rfl) (by kernel_rfl) ?_; (repeat (first | refine TL_move (hk := ?_) | refine TL_slice_hi TE (hk := ?_) | refine TL_slice_lo TE (hk := ?_))); refine TL_nil_p ?_); (refine TA_take 3 rfl (by kernel_rfl) (by kernel_rfl) (by kernel_rfl) ?_; (repeat (first | refine TL_move (hk := ?_) | refine TL_slice_hi TE (hk := ?_) | refine TL_slice_lo TE (hk := ?_))); refine TL_nil_p ?_); (refine TA_take 4 rfl (by kernel_rfl) (by kernel_rfl) (by kernel_rfl) ?_; (repeat (first | refine TL_move (hk := ?_) | refine TL_slice_hi TE (hk := ?_) | refine TL_slice_lo TE (hk := ?_))); refine TL_nil_p ?_); (refine TA_take 5 rfl (by kernel_rfl) (by kernel_rfl) (by kernel_rfl) ?_; (repeat (first | refine TL_move (hk := ?_) | refine TL_slice_hi TE (hk := ?_) | refine TL_slice_lo TE (hk := ?_))); refine TL_nil_p ?_)
  refine TA_one 6 rfl (by kernel_rfl) (by kernel_rfl) ?_
  refine TL_append_within TE h1 r1 (rowV_one akV_one _) (i := i) (by omega) (hf := rfl) (hq := fun w' m => m) (hk := ?_); intro w2 o2 m2 z2
  rw [rowV_take akV_len, ← rowV_append, rowV_drop akV_len, ← rowV_append] at o2
  refine TL_nil_p ?_
  (refine TA_one 7 rfl (by kernel_rfl) (by kernel_rfl) ?_; (repeat (refine TL_assign (hk := ?_))); refine TL_nil_p ?_)
  refine TA_done (by kernel_rfl) ?_
  repeat (first | refine T_seq ?_ | refine T_region ?_ | refine TL_move (hk := ?_) | refine TL_len TE (hk := ?_) | refine TL_slice_lh TE (hk := ?_))
  refine TL_clear TE o2 (hk := ?_); intro w3 m3 z3 o3
  have hlen : ((i + (n - (i + 1)) : Nat) : Int).toNat = n - 1 := by omega
  have hlen2 : i + (n - (i + 1)) = n - 1 := by omega
  rw [hlen] at o3
  rw [rowV_take akV_len, List.take_append_of_le_length (by simp; omega), List.take_of_length_le (by simp; omega)] at o3
  repeat (first | refine T_seq ?_ | refine T_region ?_ | refine TL_nil ?_ | refine TL_move (hk := ?_) | refine TL_assign (hk := ?_))
  exact T_ret1 rfl rfl ⟨by rw [hlen2], ((e1.mono (by simp)).trans m2).trans m3, o3⟩
end Go.Proofs.YtgdbckjkeofoaaaGreat

namespace Go.Proofs.YtgdbckjkeofoaaaGreat
open Go.RowKit Go.Proofs.Eng Go.Proofs.Foot Go.Proofs.Locks
set_option linter.unusedSimpArgs false
set_option linter.unusedVariables false set_option maxRecDepth 10000
attribute [local irreducible] T TL LV TH TA
def chkAt (l : List Lk) (i : Nat) : Nat := chk (if i = 0 then none else some (l.getD (i - 1) lk0).1) (l.drop i)
theorem chkAt_zero (l : List Lk) : chkAt l 0 = chk none l := by simp [chkAt]
theorem chkAt_end (l : List Lk) : chkAt l l.length = 0 := by simp [chkAt, chk]
theorem chkAt_succ (l : List Lk) (i : Nat) (hi : i < l.length) : chkAt l i = if validT (l.getD i lk0).1 = false then 30 else if i ≠ 0 ∧ (l.getD i lk0).1 ≤ (l.getD (i - 1) lk0).1 then 40 else chkAt l (i + 1) := by
  have hg : l.getD i lk0 = l[i] := by rw [List.getD_eq_getElem?_getD, List.getElem?_eq_getElem hi]; rfl
  unfold chkAt
  rw [List.drop_eq_getElem_cons hi, chk, hg]
  by_cases h1 : validT l[i].1 = false
  · rw [if_pos h1, if_pos h1]
  · rw [if_neg h1, if_neg h1]
    by_cases h0 : i = 0
    · subst h0
      have hg0 : (l[0]?.getD lk0).1 = l[0].1 := by rw [List.getElem?_eq_getElem hi]; rfl
      simp [overT, hg, hg0]
    · simp only [h0, if_false, overT, ne_eq, not_false_eq_true, true_and, decide_eq_true_eq, Nat.add_eq_zero_iff, Nat.one_ne_zero, and_false, Nat.add_sub_cancel, hg]
section
variable {base N : Nat} {m : LM} {f : Nat → Ow} {t : LS}
set_option maxHeartbeats 1600000
theorem Enqueue_c (A : Option Addr) (n c : Nat) (l : List Lk) (s : Int) (w : World) (h : TabM w base m f (qOf t.E) t.E t.nx) (ok : OkT N t) (hN : N ≤ 100000) (hr : Rd w A n 2 (rowV lkV l)) (hz : ∀ b ∈ blkL A, ow f b = 0) (hn : n ≤ 100000) (hk : ∀ x ∈ l, x.1.length ≤ 9223372036854775807) (hs : -9223372036854775808 ≤ s ∧ s ≤ 9223372036854775807) :
    Ret Tryz.prog 68 [pT m.p, .int .i64 s, .slice A n c] w (fun v w' => v = .int .i64 ((enqE t s l).2 : Int) ∧ ∃ m' f', m'.p = m.p ∧ TabM w' base m' f' (qOf (enqE t s l).1.E) (enqE t s l).1.E (enqE t s l).1.nx ∧ Tn (ow f) (ow f') w w') := by
  have hl : l.length = n := by have := hr.1; rw [rowV_len lkV_len] at this; omega
  have hb := h.blk
  unfold tabV at hb
  have hnx := ok.nx
  have hret : ∀ w', Ext w w' → ∃ m' f', m'.p = m.p ∧ TabM w' base m' f' (qOf t.E) t.E t.nx ∧ Tn (ow f) (ow f') w w' := fun w' e => ⟨m, f, rfl, h.ext e, Tn.ext e⟩
  unfold enqE
  refine ret_T (n := 89) Tryz.func68 rfl rfl ?_
  by_cases g1 : s < t.nx
  · rw [if_pos (.inl g1)]
    repeat (first | refine T_seq ?_ | refine T_region ?_ | refine T_cond_true rfl ?_ | refine T_cond_false rfl ?_ | refine T_skip ?_ | refine TL_lt_t (hk := ?_) | refine TL_pnil_f TE (hk := ?_) | refine TL_nil ?_ | refine TL_move (hk := ?_) | refine TL_assign (hk := ?_) | refine TL_load TE (hk := ?_) | refine TL_fieldAddr TE (hk := ?_) | refine TL_no (hk := ?_) | refine TL_pick_t (hk := ?_) | refine TL_nilCheck (hk := ?_))
    exact T_ret1 rfl rfl ⟨rfl, hret _ (Mod.refl _ _)⟩
  by_cases g2 : t.nx < 0
  · rw [if_pos (.inr g2)]
    repeat (first | refine T_seq ?_ | refine T_region ?_ | refine T_cond_true rfl ?_ | refine T_cond_false rfl ?_ | refine T_skip ?_ | refine TL_lt_t (hk := ?_) | refine TL_lt_f (hk := ?_) | refine TL_pnil_f TE (hk := ?_) | refine TL_nil ?_ | refine TL_move (hk := ?_) | refine TL_assign (hk := ?_) | refine TL_load TE (hk := ?_) | refine TL_fieldAddr TE (hk := ?_) | refine TL_yes (hk := ?_) | refine TL_pick_f (hk := ?_) | refine TL_nilCheck (hk := ?_))
    exact T_ret1 rfl rfl ⟨rfl, hret _ (Mod.refl _ _)⟩
  rw [if_neg (fun q => q.elim g1 g2)]
  repeat (first | refine T_seq ?_ | refine T_region ?_ | refine T_cond_false rfl ?_ | refine T_block ?_ | refine T_skip ?_ | refine TL_lt_f (hk := ?_) | refine TL_pnil_f TE (hk := ?_) | refine TL_nil ?_ | refine TL_move (hk := ?_) | refine TL_assign (hk := ?_) | refine TL_load TE (hk := ?_) | refine TL_fieldAddr TE (hk := ?_) | refine TL_len TE (hk := ?_) | refine TL_yes (hk := ?_) | refine TL_pick_f (hk := ?_) | refine TL_nilCheck (hk := ?_))
  refine T_loop (ι := Nat) (fun i => [(28, .int .i64 (i : Int)), (27, .int .i64 (n : Int)), (26, .slice A n c), (0, pT m.p), (1, .int .i64 s), (2, .slice A n c)]) (fun i w' => Ext w w' ∧ i ≤ n ∧ chk none l = chkAt l i) (fun i => n - i) 0 (.c rfl (.c rfl (.c rfl (.c rfl (.c rfl (.c rfl (.n))))))) ⟨Mod.refl _ _, Nat.zero_le _, (chkAt_zero l).symm⟩ ?_
  rintro i w1 ⟨e1, hi, hck⟩ ih
  have r1 := hr.be e1
  by_cases hlt : i < n
  · have hsu := chkAt_succ l i (by omega)
    have t1 := rowV_elem lkV_len l i lk0 (by omega)
    have hm : l.getD i lk0 ∈ l := by rw [List.getD_eq_getElem?_getD, List.getElem?_eq_getElem (by omega)]; exact List.getElem_mem _
    have hkx := hk _ hm
    have hpv : i ≠ 0 → (rowV lkV l)[(i - 1) * 2 + 0]? = some (.string (ofL (l.getD (i - 1) lk0).1)) := fun q => rowV_at lkV_len l (i - 1) 0 lk0 (by omega) (by omega)
    obtain ⟨x, hx⟩ : ∃ x, l.getD i lk0 = x := ⟨_, rfl⟩
    obtain ⟨y, hy⟩ : ∃ y, l.getD (i - 1) lk0 = y := ⟨_, rfl⟩
    rw [hx, hy] at hsu
    rw [hx] at t1 hkx
    rw [hy] at hpv
    have hA : A ≠ none := by obtain ⟨_, _, hq, _⟩ := r1.2 (by omega); rw [hq]; simp
    repeat (first | refine T_seq ?_ | refine T_region ?_ | refine T_cond_true rfl ?_ | refine T_block ?_ | refine T_skip ?_ | refine TL_lt_t (hk := ?_) | refine TL_nil ?_ | refine TL_move (hk := ?_) | refine TL_indexAddrn TE (hk := ?_))
    refine TL_loada TE (cs := lkV x) (hx := rfl) (ht := rfl) (hi := rfl) (hr := r1) (hc := t1) (h0 := Nat.succ_pos _) (hk := ?_)
    --
    refine TL_alloc TE (hk := ?_); intro b2 w2 e2 h2 h2' k2
    repeat (refine TL_assign (hk := ?_))
    refine TL_storea TE (hk := ?_); intro w3 m3 z3 k3
    have z2 := e2.size
    have e13 : Ext w1 w3 := Mod.step e2 m3 (by simp; omega)
    replace k3 : Blk w3 b2 129 (lkV x) := k3
    unfold lkV at k3
    have r3 := r1.be e13
    have e03 := e1.ext e13
    clear k2 r1
    repeat (first | refine T_seq ?_ | refine T_region ?_ | refine TL_nil ?_ | refine TL_load TE (hk := ?_) | refine TL_fieldAddr TE (hk := ?_))
    refine TL_call TE (hc := Valid_c x.1 hkx _) (hk := ?_)
    rintro _ _ ⟨rfl, rfl⟩
    by_cases hv : validT x.1 = false
    · rw [hv]
      rw [if_pos hv] at hsu
      clear ih
      repeat (first | refine T_seq ?_ | refine T_region ?_ | refine T_cond_true rfl ?_ | refine TL_nil ?_ | refine TL_assign (hk := ?_) | refine TL_not (hk := ?_))
      refine T_ret1 rfl rfl ⟨?_, ?_⟩
      · rw [hck, hsu, if_pos (by decide)]; rfl
      · rw [if_pos (by rw [hck, hsu]; decide)]; exact hret _ e03
    · have hv' : validT x.1 = true := by simpa using hv
      rw [hv']
      rw [if_neg hv] at hsu
      by_cases h0 : i = 0
      · subst h0
        rw [if_neg (fun q => q.1 rfl)] at hsu
        repeat (first | refine T_seq ?_ | refine T_region_q TE.mixed (by kernel_rfl) ?_ | refine T_cond_false rfl ?_ | refine T_skip ?_ | refine TL_gt_f (hk := ?_) | refine TL_nil ?_ | refine TL_move (hk := ?_) | refine TL_no (hk := ?_) | refine TL_pick_f (hk := ?_) | refine TL_not (hk := ?_))
        refine TL_nil_q ?_; intro w4 e4
        repeat (first | refine T_region ?_ | refine T_cond_false rfl ?_ | refine T_inBlock ?_ | refine T_skip ?_ | refine TL_add (hk := ?_) | refine TL_nil ?_ | refine TL_move (hk := ?_))
        exact ih (0 + 1) _ _ (by omega) ⟨e03.ext e4, by omega, by rw [hck, hsu]⟩ (.c rfl (.c rfl (.c rfl (.c rfl (.c rfl (.c rfl (.n)))))))
      · have h0' : 0 < (i : Int) := by omega
        have hpv := hpv h0
        have hi1 : (i : Int) - 1 = ((i - 1 : Nat) : Int) := by omega
        by_cases hle : x.1 ≤ y.1
        · rw [if_pos ⟨h0, hle⟩] at hsu
          clear ih
          repeat (first | refine T_seq ?_ | refine T_region_q TE.mixed (by kernel_rfl) ?_ | refine T_cond_false rfl ?_ | refine T_skip ?_ | refine TL_sub (hk := ?_) | refine TL_gt_t (hk := ?_) | refine TL_nil ?_ | refine TL_move (hk := ?_) | refine TL_fieldAddr_e TE (hk := ?_) | refine TL_indexAddr TE (hk := ?_) | refine TL_yes (hk := ?_) | refine TL_not (hk := ?_))
          rw [hi1]
          repeat (first | refine TL_sge_t (hk := ?_) | refine TL_load TE (hk := ?_) | refine TL_load_rd TE (hk := ?_) | refine TL_fieldAddr TE (hk := ?_) | refine TL_yes (hk := ?_) | refine TL_pick_t (hk := ?_))
          refine TL_nil_q ?_; intro w4 e4
          repeat (first | refine T_seq ?_ | refine T_region ?_ | refine T_cond_true rfl ?_ | refine TL_nil ?_ | refine TL_assign (hk := ?_))
          refine T_ret1 rfl rfl ⟨?_, ?_⟩
          · rw [hck, hsu, if_pos (by decide)]; rfl
          · rw [if_pos (by rw [hck, hsu]; decide)]; exact hret _ (e03.ext e4)
        · rw [if_neg (fun q => hle q.2)] at hsu
          repeat (first | refine T_seq ?_ | refine T_region_q TE.mixed (by kernel_rfl) ?_ | refine T_cond_false rfl ?_ | refine T_skip ?_ | refine TL_sub (hk := ?_) | refine TL_gt_t (hk := ?_) | refine TL_nil ?_ | refine TL_move (hk := ?_) | refine TL_fieldAddr_e TE (hk := ?_) | refine TL_indexAddr TE (hk := ?_) | refine TL_yes (hk := ?_) | refine TL_not (hk := ?_))
          rw [hi1]
          repeat (first | refine TL_sge_f (hk := ?_) | refine TL_load TE (hk := ?_) | refine TL_load_rd TE (hk := ?_) | refine TL_fieldAddr TE (hk := ?_) | refine TL_yes (hk := ?_) | refine TL_pick_t (hk := ?_))
          refine TL_nil_q ?_; intro w4 e4
          repeat (first | refine T_region ?_ | refine T_cond_false rfl ?_ | refine T_inBlock ?_ | refine T_skip ?_ | refine TL_add (hk := ?_) | refine TL_nil ?_ | refine TL_move (hk := ?_))
          exact ih (i + 1) _ _ (by omega) ⟨e03.ext e4, by omega, by rw [hck, hsu]⟩ (.c rfl (.c rfl (.c rfl (.c rfl (.c rfl (.c rfl (.n)))))))
  · have hin : i = l.length := by omega
    rw [hin, chkAt_end] at hck
    rw [if_neg (fun q => q hck)]
    clear ih
    have h1 := h.ext e1
    have hnew : eget t.E s = none := by
      unfold eget
      rw [Option.map_eq_none_iff, List.find?_eq_none]
      intro e he
      have := ok.hi (by omega) e he
      simp
      omega
    have hb1 := h1.blk
    have ma1 := h1.ma
    unfold tabV at hb1
    have hpa : m.p ∉ [m.ab] := fun q => by have := h.ka; rw [← List.mem_singleton.1 q, h.kp] at this; simp at this
    have hbw1 := h1.bw
    have hD0 : m.p ∉ ([] : List Nat) := by simp
    clear hb hret
    repeat (first | refine T_seq ?_ | refine T_region ?_ | refine T_cond_false rfl ?_ | refine T_exit rfl ?_ | refine TL_lt_f (hk := ?_) | refine TL_nil ?_)
    refine T_region_anyz TE.mixed ([] : List Nat) (some 7) ?_; intro w2 e2 z2
    have hb2 := hb1.be e2
    (refine TA_take 0 rfl (by kernel_rfl) (by kernel_rfl) (by kernel_rfl) ?_; (repeat (first | refine TL_move (hk := ?_) | refine TLP_load TE (hk := ?_) | refine TL_fieldAddr TE (hk := ?_) | refine TL_nilCheck (hk := ?_))); refine TL_nil_p ?_); (refine TA_take 1 rfl (by kernel_rfl) (by kernel_rfl) (by kernel_rfl) ?_; (repeat (first | refine TL_move (hk := ?_) | refine TLP_load TE (hk := ?_) | refine TL_fieldAddr TE (hk := ?_) | refine TL_nilCheck (hk := ?_))); refine TL_nil_p ?_); (refine TA_take 2 rfl (by kernel_rfl) (by kernel_rfl) (by kernel_rfl) ?_; (repeat (first | refine TL_move (hk := ?_) | refine TLP_load TE (hk := ?_) | refine TL_fieldAddr TE (hk := ?_) | refine TL_nilCheck (hk := ?_))); refine TL_nil_p ?_); (refine TA_take 3 rfl (by kernel_rfl) (by kernel_rfl) (by kernel_rfl) ?_; (repeat (first | refine TL_move (hk := ?_) | refine TLP_load TE (hk := ?_) | refine TL_fieldAddr TE (hk := ?_) | refine TL_nilCheck (hk := ?_))); refine TL_nil_p ?_); (refine TA_take 4 rfl (by kernel_rfl) (by kernel_rfl) (by kernel_rfl) ?_; (repeat (first | refine TL_move (hk := ?_) | refine TLP_load TE (hk := ?_) | refine TL_fieldAddr TE (hk := ?_) | refine TL_nilCheck (hk := ?_))); refine TL_nil_p ?_); (refine TA_take 5 rfl (by kernel_rfl) (by kernel_rfl) (by kernel_rfl) ?_; (repeat (first | refine TL_move (hk := ?_) | refine TLP_load TE (hk := ?_) | refine TL_fieldAddr TE (hk := ?_) | refine TL_nilCheck (hk := ?_))); refine TL_nil_p ?_)
    refine TA_one 6 rfl (by kernel_rfl) (by kernel_rfl) ?_; (try refine TL_yes (hk := ?_)); refine TL_call TE (hc := LClone_c A n c l _ (r1.be e2) (by omega)) (hq := (by rintro _ w3 ⟨x, rfl, e, _⟩; exact Ext.un e)) (hk := ?_)
    rintro _ w3 ⟨x, rfl, e3, rx⟩
    have e13 := e2.ext e3
    have z13 := e13.size
    refine TL_nil_p ?_
    refine TA_one 7 rfl (by kernel_rfl) (by kernel_rfl) ?_
    refine TL_mapUpdate TE (x : SL) (hm := ma1.be e13) (hK := keys_int _) (hf := rfl) (hq := fun _ _ _ => trivial) (hk := ?_); intro w4 m4 z4 mp4
    refine TL_nil_z (by kernel_rfl) ?_
    have h3 := h1.ext e13
    have hxo : ∀ b ∈ blkL x.1, w1.heap.size ≤ b := fun b q => by have := (rx.bl b q).1; omega
    have hxab : ∀ b ∈ blkL x.1, b ∉ [m.ab] := fun b q q' => by
      rw [List.mem_singleton] at q'
      have := hxo b q
      have := (h1.old m.ab (by unfold ow; rw [h1.ka]; exact Nat.succ_ne_zero _)).2
      omega
    obtain ⟨f4, h4, n4, k4⟩ := h3.putA (l := l) hnew m4 mp4 ((Own.weaken rx (by omega)).modL m4 hxab) (fun b q => by
      by_cases y : ow f b = 0
      · exact y
      · have := (h1.old b y).2; have := hxo b q; omega)
    have t4 : Tn (ow f) (ow f4) w w4 := by
      refine ⟨⟨[m.ab], ((e1.ext e13).mono (by simp)).trans m4, fun b q => by unfold ow; rw [List.mem_singleton.1 q, h.ka]; exact Nat.succ_ne_zero _⟩, fun b q => ?_, by have := e1.size; omega⟩
      rcases n4 b q with y | y
      · exact .inl y
      · have := hxo b y; have := e1.size; exact .inr (by omega)
    have hd := chk_nodup hck
    clear h1 h3 hb1 ma1 hb2 mp4 m4 r1 e1
    repeat (first | refine T_seq ?_ | refine T_region ?_ | refine T_block ?_ | refine TL_nil ?_ | refine TL_move (hk := ?_) | refine TL_len TE (hk := ?_))
    refine T_loop (ι := Nat) (fun i => [(60, .int .i64 (i : Int)), (59, .int .i64 (n : Int)), (58, .slice A n c), (0, pT m.p), (1, .int .i64 s)])
      (fun i w' => i ≤ n ∧ ∃ m' f', m'.p = m.p ∧ TabM w' base m' f' (qMid t.E s l i) (t.E ++ [(s, l)]) t.nx ∧ Tn (ow f) (ow f') w w') (fun i => n - i) 0 (.c rfl (.c rfl (.c rfl (.c rfl (.c rfl (.n)))))) ⟨Nat.zero_le _, { m with la := mput m.la s x }, f4, rfl, h4.congr (fun k => (qMid_zero _ _ _ k).symm), t4⟩ ?_
    clear h4 t4 n4 k4
    rintro i w5 ⟨hi, m5, f5, hp5, h5, t5⟩ ih
    by_cases hlt : i < n
    · obtain ⟨r5, -⟩ := Rd.tn hr t5 hz
      have t1 := rowV_elem lkV_len l i lk0 (by omega)
      have hqs := qMid_succ t.E s l i (by omega) hd
      have hm : l.getD i lk0 ∈ l := by rw [List.getD_eq_getElem?_getD, List.getElem?_eq_getElem (by omega)]; exact List.getElem_mem _
      obtain ⟨x, hx⟩ : ∃ x, l.getD i lk0 = x := ⟨_, rfl⟩
      rw [hx] at t1 hqs
      have hA : A ≠ none := by obtain ⟨_, _, hq, _⟩ := r5.2 (by omega); rw [hq]; simp
      repeat (first | refine T_seq ?_ | refine T_region ?_ | refine T_cond_true rfl ?_ | refine T_block ?_ | refine T_skip ?_ | refine TL_lt_t (hk := ?_) | refine TL_nil ?_ | refine TL_indexAddrn TE (hk := ?_))
      refine TL_loada TE (cs := lkV x) (hx := rfl) (ht := rfl) (hi := rfl) (hr := r5) (hc := t1) (h0 := Nat.succ_pos _) (hk := ?_)
      --
      refine TL_alloc TE (hk := ?_); intro b6 w6 e6 h6 h6' k6
      --
      refine TL_storea TE (hk := ?_); intro w7 m7 z7 k7
      have z6 := e6.size
      have e57 : Ext w5 w7 := Mod.step e6 m7 (by simp; omega)
      replace k7 : Blk w7 b6 129 (lkV x) := k7
      unfold lkV at k7
      have h7 := h5.ext e57
      have t7 := t5.trans (Tn.ext e57)
      have hb7 := h7.blk
      have mq7 := h7.mq
      unfold tabV at hb7
      rw [hp5] at hb7
      have hrow : ∃ y : SL, (mget m5.lq x.1).getD (none, 0, 0) = y ∧ QRow w7 base y (qMid t.E s l i x.1) ∧ ∀ b ∈ blkL y.1, f5 b = (4, x.1, 0) := by
        cases hq : mget m5.lq x.1 with
        | none =>
          rw [h7.qn _ hq]
          exact ⟨_, rfl, Own.nil _ _ _ _, fun b q => by simp [blkL] at q⟩
        | some y =>
          obtain ⟨a1, a2⟩ := h7.qs _ _ hq
          exact ⟨_, rfl, a1, a2⟩
      obtain ⟨y, hy, ry, fy⟩ := hrow
      have hyl : (qMid t.E s l i x.1).length ≤ N + 1 := by
        have h1 := List.length_filterMap_le (fun e : Ent => (asks e.2 x.1).map fun b => (e.1, b)) (t.E ++ [(s, l.take i)])
        have h2 := ok.ln
        unfold qMid qOf
        simp only [List.length_append, List.length_cons, List.length_nil] at h1
        omega
      have hyl2 : y.2.1 ≤ N + 1 := by have := ry.len; rw [rowV_len akV_len] at this; omega
      have hqy : m5.qb ∉ blkL y.1 := fun q => by have := fy _ q; rw [h7.kq] at this; simp at this
      have hpy : m.p ∉ blkL y.1 := fun q => by have := fy _ q; rw [← hp5, h7.kp] at this; simp at this
      have hby : b6 ∉ blkL y.1 := fun q => by have := (ry.bl _ q).2; have := (h5.old b6 (by unfold ow; rw [fy _ q]; exact Nat.succ_ne_zero _)).2; omega
      have hbw7 := h7.bw.1
      clear k6 r5 h5 m7 e6
      repeat (refine TL_nil ?_)
      refine T_region_anyz TE.mixed (blkL y.1) (some 19) ?_; intro w8 e8 z8
      have hb8 := hb7.be e8
      have k8 := k7.be e8
      have mq8 := mq7.be e8
      (refine TA_take 0 rfl (by kernel_rfl) (by kernel_rfl) (by kernel_rfl) ?_; (repeat (first | refine TL_move (hk := ?_) | refine TLP_load TE (hk := ?_) | refine TL_fieldAddr TE (hk := ?_) | refine TL_nilCheck (hk := ?_))); refine TL_nil_p ?_); (refine TA_take 1 rfl (by kernel_rfl) (by kernel_rfl) (by kernel_rfl) ?_; (repeat (first | refine TL_move (hk := ?_) | refine TLP_load TE (hk := ?_) | refine TL_fieldAddr TE (hk := ?_) | refine TL_nilCheck (hk := ?_))); refine TL_nil_p ?_); (refine TA_take 2 rfl (by kernel_rfl) (by kernel_rfl) (by kernel_rfl) ?_; (repeat (first | refine TL_move (hk := ?_) | refine TLP_load TE (hk := ?_) | refine TL_fieldAddr TE (hk := ?_) | refine TL_nilCheck (hk := ?_))); refine TL_nil_p ?_); (refine TA_take 3 rfl (by kernel_rfl) (by kernel_rfl) (by kernel_rfl) ?_; (repeat (first | refine TL_move (hk := ?_) | refine TLP_load TE (hk := ?_) | refine TL_fieldAddr TE (hk := ?_) | refine TL_nilCheck (hk := ?_))); refine TL_nil_p ?_); (refine TA_take 4 rfl (by kernel_rfl) (by kernel_rfl) (by kernel_rfl) ?_; (repeat (first | refine TL_move (hk := ?_) | refine TLP_load TE (hk := ?_) | refine TL_fieldAddr TE (hk := ?_) | refine TL_nilCheck (hk := ?_))); refine TL_nil_p ?_); (refine TA_take 5 rfl (by kernel_rfl) (by kernel_rfl) (by kernel_rfl) ?_; (repeat (first | refine TL_move (hk := ?_) | refine TLP_load TE (hk := ?_) | refine TL_fieldAddr TE (hk := ?_) | refine TL_nilCheck (hk := ?_))); refine TL_nil_p ?_); (refine TA_take 6 rfl (by kernel_rfl) (by kernel_rfl) (by kernel_rfl) ?_; (repeat (first | refine TL_move (hk := ?_) | refine TLP_load TE (hk := ?_) | refine TL_fieldAddr TE (hk := ?_) | refine TL_nilCheck (hk := ?_))); refine TL_nil_p ?_); (refine TA_take 7 rfl (by kernel_rfl) (by kernel_rfl) (by kernel_rfl) ?_; (repeat (first | refine TL_move (hk := ?_) | refine TLP_load TE (hk := ?_) | refine TL_fieldAddr TE (hk := ?_) | refine TL_nilCheck (hk := ?_))); refine TL_nil_p ?_); (refine TA_take 8 rfl (by kernel_rfl) (by kernel_rfl) (by kernel_rfl) ?_; (repeat (first | refine TL_move (hk := ?_) | refine TLP_load TE (hk := ?_) | refine TL_fieldAddr TE (hk := ?_) | refine TL_nilCheck (hk := ?_))); refine TL_nil_p ?_); (refine TA_take 9 rfl (by kernel_rfl) (by kernel_rfl) (by kernel_rfl) ?_; (repeat (first | refine TL_move (hk := ?_) | refine TLP_load TE (hk := ?_) | refine TL_fieldAddr TE (hk := ?_) | refine TL_nilCheck (hk := ?_))); refine TL_nil_p ?_); (refine TA_take 10 rfl (by kernel_rfl) (by kernel_rfl) (by kernel_rfl) ?_; (repeat (first | refine TL_move (hk := ?_) | refine TLP_load TE (hk := ?_) | refine TL_fieldAddr TE (hk := ?_) | refine TL_nilCheck (hk := ?_))); refine TL_nil_p ?_); (refine TA_take 11 rfl (by kernel_rfl) (by kernel_rfl) (by kernel_rfl) ?_; (repeat (first | refine TL_move (hk := ?_) | refine TLP_load TE (hk := ?_) | refine TL_fieldAddr TE (hk := ?_) | refine TL_nilCheck (hk := ?_))); refine TL_nil_p ?_)
      refine TA_take 12 rfl (by kernel_rfl) (by kernel_rfl) (by kernel_rfl) ?_
      refine TLP_lookup TE ((none, 0, 0) : SL) mq8 hqy (hK := keys_tx) (hk := ?_)
      refine TL_nil_p ?_
      rw [hy]
      (refine TA_take 13 rfl (by kernel_rfl) (by kernel_rfl) (by kernel_rfl) ?_; (repeat (first | refine TL_move (hk := ?_) | refine TLP_load TE (hk := ?_) | refine TL_fieldAddr TE (hk := ?_) | refine TL_build TE (hk := ?_))); refine TL_nil_p ?_); (refine TA_take 14 rfl (by kernel_rfl) (by kernel_rfl) (by kernel_rfl) ?_; (repeat (first | refine TL_move (hk := ?_) | refine TLP_load TE (hk := ?_) | refine TL_fieldAddr TE (hk := ?_) | refine TL_build TE (hk := ?_))); refine TL_nil_p ?_); (refine TA_take 15 rfl (by kernel_rfl) (by kernel_rfl) (by kernel_rfl) ?_; (repeat (first | refine TL_move (hk := ?_) | refine TLP_load TE (hk := ?_) | refine TL_fieldAddr TE (hk := ?_) | refine TL_build TE (hk := ?_))); refine TL_nil_p ?_); (refine TA_take 16 rfl (by kernel_rfl) (by kernel_rfl) (by kernel_rfl) ?_; (repeat (first | refine TL_move (hk := ?_) | refine TLP_load TE (hk := ?_) | refine TL_fieldAddr TE (hk := ?_) | refine TL_build TE (hk := ?_))); refine TL_nil_p ?_)
      refine TA_one 17 rfl (by kernel_rfl) (by kernel_rfl) ?_
      refine TL_buildSliceA TE (hf := rfl) (hq := fun w' h => Ext.un h) (hk := ?_); intro b9 w9 e9 h9 h9' k9
      replace k9 : Blk w9 b9 134 (rowV akV [(s, x.2)]) := k9
      have r9 : Rd w9 (some ⟨b9, 0, none⟩) 1 2 (rowV akV [(s, x.2)]) := Rd.blk k9 rfl
      have e89 := e8.ext e9
      have z89 := e89.size
      refine TL_nil_p ?_
      refine TA_one 18 rfl (by kernel_rfl) (by kernel_rfl) ?_
      refine TL_append TE (ho := Own.be e89 ry) (hr := r9) (h1 := rowV_one akV_one _) (hf := rfl) (hq := fun w' m => (Ext.un e9).trans m) (hk := ?_); intro A10 c10 w10 o10 m10 n10
      rw [← rowV_append] at o10
      refine TL_nil_p ?_
      refine TA_one 19 rfl (by kernel_rfl) (by kernel_rfl) ?_
      have mq10 := (mq8.be e9).mod m10 hqy
      refine TL_mapUpdate TE ((A10, y.2.1 + 1, c10) : SL) (hm := mq10) (hK := keys_tx) (hf := rfl) (hq := fun _ _ _ => trivial) (hk := ?_); intro w11 m11 z11 mp11
      refine TL_nil_z (by kernel_rfl) ?_
      have n10b := Near.mem n10
      have M11 : Eng.Mod (m5.qb :: blkL y.1) w7 w11 := ((e89.mono (S' := m5.qb :: blkL y.1) (by simp)).step m10 (fun b q => .inl (List.mem_cons_of_mem _ q))).step m11 (fun b q => .inl (by rw [List.mem_singleton.1 q]; exact List.mem_cons_self))
      have hqw : m5.qb < w7.heap.size := (h7.old _ (by unfold ow; rw [h7.kq]; exact Nat.succ_ne_zero _)).2
      have hx10 : ∀ b ∈ blkL A10, f5 b = (4, x.1, 0) ∨ w7.heap.size ≤ b := fun b q => (n10b b q).imp (fy b) (fun a => by omega)
      obtain ⟨f12, h12, t12⟩ := h7.setQ M11 (fun b q => by
        rcases List.mem_cons.1 q with rfl | q
        · exact .inl h7.kq
        · exact .inr (fy b q)) mp11 (o10.modL m11 (fun b q q' => by
          rw [List.mem_singleton] at q'
          rcases hx10 b q with a | a
          · rw [q', h7.kq] at a; simp at a
          · omega)) hx10
      repeat (first | refine T_region ?_ | refine T_inBlock ?_ | refine TL_add (hk := ?_) | refine TL_nil ?_ | refine TL_move (hk := ?_))
      exact ih (i + 1) w11 _ (by omega) ⟨by omega, { m5 with lq := mput m5.lq x.1 (A10, y.2.1 + 1, c10) }, f12, hp5, h12.congr (fun k => by
        rw [hqs k]
        by_cases e : k = x.1
        · rw [if_pos e, if_pos e, e]
        · rw [if_neg e, if_neg e]), t7.trans t12⟩ (.c rfl (.c rfl (.c rfl (.c rfl (.c rfl (.n))))))
    · clear ih
      have hin : i = l.length := by omega
      subst hin
      have hb5 := h5.blk
      unfold tabV at hb5
      rw [hp5] at hb5
      repeat (first | refine T_seq ?_ | refine T_region ?_ | refine T_cond_false rfl ?_ | refine T_exit rfl ?_ | refine TL_lt_f (hk := ?_) | refine TL_nil ?_ | refine TL_move (hk := ?_))
      refine TL_add_wrap (hk := ?_)
      repeat (first | refine TL_fieldAddr TE (hk := ?_) | refine TL_nilCheck (hk := ?_))
      refine TL_store TE (hk := ?_); intro w6 m6 z6 k6
      repeat (first | refine T_seq ?_ | refine T_region ?_ | refine TL_nil ?_ | refine TL_assign (hk := ?_))
      rw [← hp5] at m6 k6
      obtain ⟨h6, t6⟩ := h5.num (nx' := bump s) m6 k6
      exact T_ret1 rfl rfl ⟨rfl, m5, f5, hp5, h6.congr (fun k => qMid_end _ _ _ k), t5.trans t6⟩
end
end Go.Proofs.YtgdbckjkeofoaaaGreat

/- A map by int keys, in the words of the kit's contracts. -/
namespace Go.Proofs.Eng
open Go.RowKit Go.Maps Go.WideElems
set_option linter.unusedSimpArgs false
set_option linter.unusedVariables false
abbrev R0 : Value → Option (DataW Unit × List MemPlace) := fun _ => some (.nil, [])
theorem Mp.owns {α : Type} {P : Program} {k : TypeId} {V : α → Value} {w : World} {b : Nat} {l : List (Int × α)} (hm : Mp w (.int .i64) b (fun z => Value.int .i64 z) V l) (hk : P.underlying k = some (.int .i64))
    (hr : ∀ p ∈ l, -9223372036854775808 ≤ p.1 ∧ p.1 ≤ 9223372036854775807) (hl : l.length ≤ maxLen) :
    ∃ D0 : DataW Unit, w.ownsMap P k R0 b l.length D0 ∧ (intKeys D0).Perm (l.map (·.1)) ∧ Maps.size D0 = l.length := by
  obtain ⟨es, clk, h1, h2, h3⟩ := hm
  have hsz : es.size = l.length := by have := congrArg List.length h3; simpa using this
  have hkey : ∀ z : Int, -9223372036854775808 ≤ z ∧ z ≤ 9223372036854775807 → keyOf P k (.int .i64 z) = some (.int .i64 z) := fun z hz => by
    have hw : (Lit.int .i64 z).wf = true := by
      simp [Lit.wf, IntKind.min, IntKind.max, IntKind.bits, IntKind.signed]
      omega
    simp [keyOf, hk, mapKey, hw]
  have hrd : ∀ x ∈ es.toList, ∃ p ∈ l, rd P k R0 x = some (.int .i64 p.1, .nil) ∧ x.key = .int .i64 p.1 := fun x hx => by
    have h4 : (x.key, x.val) ∈ es.toList.map (fun e => (e.key, e.val)) := List.mem_map.2 ⟨x, hx, rfl⟩
    rw [h3] at h4
    obtain ⟨p, hp, e⟩ := List.mem_map.1 h4
    have e1 : x.key = .int .i64 p.1 := (congrArg Prod.fst e).symm
    exact ⟨p, hp, by simp [rd, e1, hkey p.1 (hr p hp), R0], e1⟩
  have hmap : es.toList.map (rg P k R0) = l.map (fun p => (Lit.int .i64 p.1, DataW.nil)) := by
    have h5 : es.toList.map (rg P k R0) = (es.toList.map (fun e => (e.key, e.val))).map (fun kv => rg P k R0 ⟨kv.1, kv.2, 0⟩) := by
      rw [List.map_map]
      exact List.map_congr_left (fun x _ => rfl)
    rw [h5, h3, List.map_map]
    refine List.map_congr_left (fun p hp => ?_)
    simp [Function.comp, rg, rd, hkey p.1 (hr p hp), R0]
  refine ⟨_, ⟨es, clk, h1, ⟨by omega, h2, fun x hx => ?_⟩, by omega, rfl⟩, ?_, ?_⟩
  · obtain ⟨p, _, e, _⟩ := hrd x hx
    exact ⟨_, e⟩
  · show (List.map (fun p : Lit × DataW Unit => Go.intOf p.1) _).Perm _
    rw [hmap]
    refine ((WideShapes.sorted_perm _).map _).trans ?_
    rw [List.map_map]
    exact List.Perm.of_eq (List.map_congr_left (fun p _ => rfl))
  · rw [hmap]
    show List.length _ = _
    rw [length_sorted]
    simp
end Go.Proofs.Eng

/- The contracts on sorted keys at this program. Written by the tools of the shelf. -/
namespace Go.Proofs
open Go.Shelf
def Tryz.keysA_ren : Go.Shelf.Ren := ⟨fun | 7 => 96 | 10 => 112 | n => n, fun | 23 => 124 | 26 => 2 | 3 => 119 | 28 => 155 | 0 => 0 | 27 => 154 | 33 => 127 | 4 => 4 | n => n, fun | n => n⟩
theorem Tryz.keysA : Go.Proofs.SlLaysZI.n7 Tryz.prog Tryz.keysA_ren := {
  mixed := by kernel_rfl
  f7 := ⟨Tryz.f96.name, by decide, Tryz.func96.trans (congrArg some (by kernel_rfl))⟩
  f10 := ⟨Tryz.f112.name, by decide, Tryz.func112.trans (congrArg some (by kernel_rfl))⟩
  t0 := Tryz.underlying0
  a0 := Tryz.isAgg0
  z0 := Tryz.sizeOf0
  v0 := Tryz.zeroValue0
  t4 := Tryz.underlying4
  a4 := Tryz.isAgg4
  z4 := Tryz.sizeOf4
  v4 := Tryz.zeroValue4
  t23 := Tryz.underlying124
  a23 := Tryz.isAgg124
  z23 := Tryz.sizeOf124
  v23 := Tryz.zeroValue124
  t26 := Tryz.underlying2
  a26 := Tryz.isAgg2
  z26 := Tryz.sizeOf2
  v26 := Tryz.zeroValue2
  t27 := Tryz.underlying154
  a27 := Tryz.isAgg154
  z27 := Tryz.sizeOf154
  v27 := Tryz.zeroValue154
  t28 := Tryz.underlying155
  a28 := Tryz.isAgg155
  z28 := Tryz.sizeOf155
  v28 := Tryz.zeroValue155
  t33 := Tryz.underlying127
  a33 := Tryz.isAgg127
  z33 := Tryz.sizeOf127
  v33 := Tryz.zeroValue127 }
def Tryz.sortedA_ren : Go.Shelf.Ren := ⟨fun | 6 => 95 | 8 => 111 | 9 => 92 | 11 => 128 | 13 => 91 | 12 => 109 | 23 => 107 | 24 => 108 | 14 => 119 | 15 => 120 | 16 => 121 | 17 => 122 | 18 => 123 | 19 => 124 | 20 => 125 | 21 => 126 | 22 => 127 | 25 => 130 | 26 => 114 | 27 => 115 | 28 => 131 | 29 => 132 | 30 => 133 | 31 => 134 | n => n, fun | 26 => 2 | 28 => 155 | 24 => 83 | 0 => 0 | 3 => 3 | 37 => 150 | 48 => 167 | 50 => 139 | 4 => 4 | 40 => 160 | 39 => 159 | 45 => 109 | 5 => 5 | 9 => 9 | 51 => 170 | 55 => 174 | 57 => 183 | 58 => 184 | 33 => 127 | n => n, fun | n => n⟩
theorem Tryz.sortedA : Go.Proofs.SlLaysZI.n6 Tryz.prog Tryz.sortedA_ren := {
  mixed := by kernel_rfl
  f6 := ⟨Tryz.f95.name, by decide, Tryz.func95.trans (congrArg some (by kernel_rfl))⟩
  f8 := ⟨Tryz.f111.name, by decide, Tryz.func111.trans (congrArg some (by kernel_rfl))⟩
  f11 := ⟨Tryz.f128.name, by decide, Tryz.func128.trans (congrArg some (by kernel_rfl))⟩
  t0 := Tryz.underlying0
  a0 := Tryz.isAgg0
  z0 := Tryz.sizeOf0
  v0 := Tryz.zeroValue0
  t24 := Tryz.underlying83
  a24 := Tryz.isAgg83
  z24 := Tryz.sizeOf83
  v24 := Tryz.zeroValue83
  t26 := Tryz.underlying2
  a26 := Tryz.isAgg2
  z26 := Tryz.sizeOf2
  v26 := Tryz.zeroValue2
  t28 := Tryz.underlying155
  a28 := Tryz.isAgg155
  z28 := Tryz.sizeOf155
  v28 := Tryz.zeroValue155
  i26 := by kernel_rfl }
end Go.Proofs

namespace Go.Proofs.YtgdbckjkeofoaaaGreat
open Go.RowKit Go.Proofs.Eng Go.Proofs.Foot Go.Proofs.Locks
set_option linter.unusedSimpArgs false
set_option linter.unusedVariables false set_option maxRecDepth 10000
attribute [local irreducible] T TL LV TH TA
def iv (l : List Int) : List Value := l.map kI
theorem iv_len (l : List Int) : (iv l).length = l.length := by simp [iv]
theorem iv_one (l : List Int) : ∀ u ∈ iv l, u.oneCell' = true := by
  intro u hu
  obtain ⟨b, _, rfl⟩ := List.mem_map.1 hu
  rfl
theorem iv_append (a b : List Int) : iv (a ++ b) = iv a ++ iv b := by simp [iv]
theorem iv_get (l : List Int) (i : Nat) (h : i < l.length) : (iv l)[i]? = some (.int .i64 (l.getD i 0)) := by simp [iv, kI, List.getD_eq_getElem?_getD, List.getElem?_eq_getElem h]
abbrev IRow (w : World) (base : Nat) (x : SL) (l : List Int) : Prop := Own w base 2 1 x.1 x.2.1 x.2.2 (iv l)
abbrev keyF (b : Nat) : Value := .func (.func 112) #[] #[pT b]
theorem KKeys_c (mb : Nat) (w : World) : Ret Tryz.prog 96 [.map (some mb)] w (fun v w' => v = keyF w.heap.size ∧ w' = w.alloc (.cells #[.map (some mb)] 124)) := by
  refine Calls.mono ((callsIn_wide (n := 5)).1 (AnyZI.keys_in Tryz.keysA Fence.wide 5 trivial rfl (some mb) w)) ?_
  rintro e w' ⟨rfl, rfl⟩
  exact ⟨rfl, rfl⟩
theorem sorts_c (m : Nat) : AnyZI.SortsIn Tryz.prog Tryz.sortedA_ren Fence.wide m :=
  ⟨fun blk off cap ss W hH hblk hsz => callsIn_wide.2 (Tryz.slices_Sort_int blk off cap ss W hH hblk hsz), fun p cap W => callsIn_wide.2 (Tryz.slices_Sort_int_none p cap W)⟩
theorem KSorted_c (ab : Nat) (l : List (Int × SL)) (L : List Int) (w : World) (hm : Mp w (.int .i64) ab kI sL l) (hr : ∀ z ∈ L, -9223372036854775808 ≤ z ∧ z ≤ 9223372036854775807) (hl : L.length ≤ 1000000) (hp : (l.map (·.1)).Perm L) (hs : L.Pairwise (· < ·)) :
    Ret Tryz.prog 95 [keyF w.heap.size] (w.alloc (.cells #[.map (some ab)] 124)) (fun v w' => ∃ x, v = sL x ∧ Ext w w' ∧ IRow w' w.heap.size x L) := by
  have hll : l.length = L.length := by have := hp.length_eq; simpa using this
  obtain ⟨D0, hown, hperm, hsize⟩ := hm.owns (P := Tryz.prog) (k := 2) Tryz.underlying2 (fun p hp' => hr p.1 (hp.mem_iff.1 (List.mem_map.2 ⟨p, hp', rfl⟩))) (by rw [hll]; unfold maxLen; omega)
  have hbl := hown.lt
  have hseq : SeqGives Fence.wide 2 Tryz.prog 112 #[pT w.heap.size] encZ (fun ss => ss.Perm (intKeys D0)) (Maps.size D0) (w.alloc (.cells #[.map (some ab)] 124)) :=
    AnyZI.keys_gives (ρ := Tryz.keysA_ren) { Tryz.keysA with } Fence.wide _ trivial rfl (by omega) w.heap.size ab l.length D0 _ (by simp) (by simp) (by
      obtain ⟨es, clock, hb, Ft, hs, hD⟩ := hown
      exact ⟨es, clock, (Below.heap_alloc _ _ ab hbl).trans hb, Ft, hs, hD⟩)
  have cS := AnyZI.sorted_in Tryz.sortedA Fence.wide 5 trivial trivial trivial trivial rfl (by omega) (sorts_c _) (enters_of Tryz.func92 (by kernel_rfl) rfl) 112 #[pT w.heap.size] trivial (enters_of Tryz.func112 (by kernel_rfl) rfl) _ _ (by rw [hsize, hll]; unfold maxLen; omega) (by rw [hsize, hll]; omega) _ hseq
  refine Calls.mono ((callsIn_wide (n := 5)).1 cS) ?_
  rintro e w' ⟨v, ss, rfl, hS, hrow, -, hb⟩
  obtain ⟨A, c, rfl, ho⟩ := own_form hrow
  have hLs : ss.mergeSort leI = L := by
    rw [mergeSort_of_perm_i ((hS.trans hperm).trans hp)]
    exact List.mergeSort_of_pairwise (hs.imp (fun {a b} q => by simp; omega))
  have hsl : ss.length = L.length := ((hS.trans hperm).trans hp).length_eq
  rw [hLs] at ho
  refine ⟨(A, ss.length, c), rfl, ?_, ?_⟩
  · exact (Ext.alloc _ _).ext (Ext.of_below hb)
  · have := Own.weaken (base' := w.heap.size) ho (by simp)
    exact this
section
variable {base N : Nat} {m : LM} {f : Nat → Ow} {t : LS}
theorem TabM.keys {w : World} {Q : Tx → List Akk} {E : List Ent} {nx : Int} (h : TabM w base m f Q E nx) (hn : (E.map (·.1)).Nodup) : (m.la.map (·.1)).Perm (E.map (·.1)) := by
  rw [List.perm_ext_iff_of_nodup h.ld hn]
  intro a
  have h1 := mget_keys m.la a
  have h2 := h.an a
  have h3 : eget E a = none ↔ a ∉ E.map (·.1) := by
    unfold eget
    rw [Option.map_eq_none_iff, List.find?_eq_none]
    simp only [decide_eq_true_eq, List.mem_map, not_exists, not_and]
  constructor
  · intro ha
    apply Decidable.byContradiction
    intro hb
    exact (h1.1 (h2.2 (h3.2 hb))) ha
  · intro ha
    apply Decidable.byContradiction
    intro hb
    exact (h3.1 (h2.1 (h1.2 hb))) ha
theorem All_c (w : World) (h : TabM w base m f (qOf t.E) t.E t.nx) (ok : OkT N t) (hN : N ≤ 100000) :
    Ret Tryz.prog 84 [pT m.p] w (fun v w' => ∃ x, v = sL x ∧ Ext w w' ∧ IRow w' w.heap.size x (allE t)) := by
  have hb := h.blk
  unfold tabV at hb
  have hp := h.keys (ok.srt.imp (fun {a b} q e => by omega))
  have hln := ok.ln
  have hrg : ∀ z ∈ allE t, -9223372036854775808 ≤ z ∧ z ≤ 9223372036854775807 := fun z hz => by
    obtain ⟨e, he, rfl⟩ := List.mem_map.1 hz
    have := ok.lo e he
    omega
  refine ret_T (n := 11) Tryz.func84 rfl rfl ?_
  repeat (first | refine T_seq ?_ | refine T_region ?_ | refine T_cond_false rfl ?_ | refine T_skip ?_ | refine TL_pnil_f TE (hk := ?_) | refine TL_nil ?_ | refine TL_move (hk := ?_) | refine TL_assign (hk := ?_) | refine TL_load TE (hk := ?_) | refine TL_fieldAddr TE (hk := ?_) | refine TL_nilCheck (hk := ?_))
  refine TL_call TE (hc := KKeys_c m.ab w) (hk := ?_)
  rintro _ w1 ⟨rfl, rfl⟩
  --
  refine TL_call TE (hc := KSorted_c m.ab m.la (allE t) w h.ma hrg (by unfold allE; simp; omega) hp ok.srt) (hk := ?_)
  rintro _ w2 ⟨x, rfl, e2, rx⟩
  repeat (first | refine TL_nil ?_ | refine TL_assign (hk := ?_))
  exact T_ret1 rfl rfl ⟨x, rfl, e2, rx⟩
theorem Count_c (w : World) (h : TabM w base m f (qOf t.E) t.E t.nx) :
    Ret Tryz.prog 39 [pT m.p] w (fun v w' => v = .int .i64 (t.E.length : Int) ∧ w' = w) := by
  have hb := h.blk
  unfold tabV at hb
  have ma := h.ma
  rw [← h.al]
  refine ret_T (n := 10) Tryz.func39 rfl rfl ?_
  repeat (first | refine T_seq ?_ | refine T_region ?_ | refine T_cond_false rfl ?_ | refine T_skip ?_ | refine TL_pnil_f TE (hk := ?_) | refine TL_nil ?_ | refine TL_move (hk := ?_) | refine TL_assign (hk := ?_) | refine TL_load TE (hk := ?_) | refine TL_fieldAddr TE (hk := ?_) | refine TL_nilCheck (hk := ?_) | refine TL_len_m TE (hk := ?_))
  exact T_ret1 rfl rfl ⟨rfl, rfl⟩
end
end Go.Proofs.YtgdbckjkeofoaaaGreat

namespace Go.Proofs.YtgdbckjkeofoaaaGreat
open Go.RowKit Go.Proofs.Eng Go.Proofs.Foot Go.Proofs.Locks
set_option linter.unusedSimpArgs false
set_option linter.unusedVariables false set_option maxRecDepth 10000
attribute [local irreducible] T TL LV TH TA
theorem qOf_len {E : List Ent} {k : Tx} : (qOf E k).length ≤ E.length := List.length_filterMap_le _ _
theorem grantN_le (q : List Akk) : grantN q ≤ q.length := by
  unfold grantN
  simp only
  split
  · omega
  · exact (List.takeWhile_sublist _).length_le
theorem placeI_le : ∀ (q : List Akk) (s : Int), -1 ≤ placeI q s ∧ placeI q s < q.length
  | [], s => by simp [placeI]
  | x :: q, s => by
    have ih := placeI_le q s
    unfold placeI
    simp only [List.length_cons]
    split
    · omega
    · split <;> omega
section
variable {base N : Nat} {m : LM} {f : Nat → Ow} {t : LS}
/-- A key's queue, as it lies. -/
theorem TabM.row {w : World} {Q : Tx → List Akk} {E : List Ent} {nx : Int} (h : TabM w base m f Q E nx) (k : Tx) : ∃ y : SL, (mget m.lq k).getD (none, 0, 0) = y ∧ QRow w base y (Q k) ∧ ∀ b ∈ blkL y.1, f b = (4, k, 0) := by
  cases hq : mget m.lq k with
  | none =>
    rw [h.qn _ hq]
    exact ⟨_, rfl, Own.nil _ _ _ _, fun b q => by simp [blkL] at q⟩
  | some y =>
    obtain ⟨a1, a2⟩ := h.qs _ _ hq
    exact ⟨_, rfl, a1, a2⟩
theorem TabM.ask {w : World} {Q : Tx → List Akk} {E : List Ent} {nx : Int} (h : TabM w base m f Q E nx) (s : Int) :
    (eget E s = none ∧ mget m.la s = none) ∨ ∃ l y, eget E s = some l ∧ mget m.la s = some y ∧ LRow w base y l ∧ ∀ b ∈ blkL y.1, f b = (5, [], s) := by
  cases hq : mget m.la s with
  | none => exact .inl ⟨(h.an s).1 hq, rfl⟩
  | some y =>
    obtain ⟨l, a1, a2, a3⟩ := h.sa s y hq
    exact .inr ⟨l, y, a1, rfl, a2, a3⟩
theorem eget_mem {E : List Ent} {s : Int} {l : List Lk} (h : eget E s = some l) : (s, l) ∈ E := by
  unfold eget at h
  rw [Option.map_eq_some_iff] at h
  obtain ⟨e, h1, rfl⟩ := h
  have h2 := List.find?_some h1
  have h3 := List.mem_of_find?_eq_some h1
  simp only [decide_eq_true_eq] at h2
  rw [← h2]
  exact h3
theorem Ready_c (s : Int) (w : World) (h : TabM w base m f (qOf t.E) t.E t.nx) (ok : OkT N t) (hN : N ≤ 100000) :
    Ret Tryz.prog 72 [pT m.p, .int .i64 s] w (fun v w' => v = .bool (readyE t.E s) ∧ Ext w w') := by
  have hb := h.blk
  unfold tabV at hb
  have ma := h.ma
  have hln := ok.ln
  unfold readyE
  refine ret_T (n := 42) Tryz.func72 rfl rfl ?_
  repeat (first | refine T_seq ?_ | refine T_region ?_ | refine T_cond_false rfl ?_ | refine T_skip ?_ | refine TL_pnil_f TE (hk := ?_) | refine TL_nil ?_ | refine TL_move (hk := ?_) | refine TL_assign (hk := ?_) | refine TL_load TE (hk := ?_) | refine TL_fieldAddr TE (hk := ?_) | refine TL_nilCheck (hk := ?_))
  refine TL_lookup_ok TE (((none, 0, 0) : SL)) (hk := ?_)
  rcases h.ask s with ⟨h1, h2⟩ | ⟨l, y, h1, h2, ry, fy⟩
  · rw [h1, h2]
    repeat (first | refine T_seq ?_ | refine T_region ?_ | refine T_block ?_ | refine TL_nil ?_ | refine TL_move (hk := ?_) | refine TL_assign (hk := ?_) | refine TL_len TE (hk := ?_) | refine TL_extract (hk := ?_))
    refine T_loop (ι := Unit) (fun _ => [(23, .int .i64 0), (22, .int .i64 0), (6, .bool false)]) (fun _ w' => w' = w) (fun _ => 0) () (.c rfl (.c rfl (.c rfl (.n)))) rfl ?_
    rintro _ w5 rfl -
    repeat (first | refine T_seq ?_ | refine T_region ?_ | refine T_cond_false rfl ?_ | refine T_exit rfl ?_ | refine TL_lt_f (hk := ?_) | refine TL_nil ?_ | refine TL_move (hk := ?_) | refine TL_assign (hk := ?_))
    exact T_ret1 rfl rfl ⟨rfl, Mod.refl _ _⟩
  · rw [h1, h2]
    have hl : l.length = y.2.1 := by have := ry.len; rw [rowV_len lkV_len] at this; omega
    have hlk := ok.lk _ (eget_mem h1)
    simp only at hlk
    repeat (first | refine T_seq ?_ | refine T_region ?_ | refine T_block ?_ | refine TL_nil ?_ | refine TL_move (hk := ?_) | refine TL_assign (hk := ?_) | refine TL_len TE (hk := ?_) | refine TL_extract (hk := ?_))
    refine T_loop (ι := Nat) (fun i => [(23, .int .i64 (i : Int)), (22, .int .i64 (y.2.1 : Int)), (21, sL y), (0, pT m.p), (1, .int .i64 s), (6, .bool true)]) (fun i w' => Ext w w' ∧ i ≤ y.2.1 ∧ ∀ j, j < i → placeI (qOf t.E (l.getD j lk0).1) s < (grantN (qOf t.E (l.getD j lk0).1) : Int)) (fun i => y.2.1 - i) 0 (.c rfl (.c rfl (.c rfl (.c rfl (.c rfl (.c rfl (.n))))))) ⟨Mod.refl _ _, Nat.zero_le _, fun j hj => absurd hj (by omega)⟩ ?_
    rintro i w1 ⟨e1, hi, hu⟩ ih
    by_cases hlt : i < y.2.1
    · have r1 := (Own.be e1 ry).rd
      have hT := h.ext e1
      have t1 := rowV_elem lkV_len l i lk0 (by omega)
      have hm : l.getD i lk0 ∈ l := by rw [List.getD_eq_getElem?_getD, List.getElem?_eq_getElem (by omega)]; exact List.getElem_mem _
      obtain ⟨x, hx⟩ : ∃ x, l.getD i lk0 = x := ⟨_, rfl⟩
      rw [hx] at t1 hm
      have hA : y.1 ≠ none := by obtain ⟨_, _, hq, _⟩ := r1.2 (by omega); rw [hq]; simp
      repeat (first | refine T_seq ?_ | refine T_region ?_ | refine T_cond_true rfl ?_ | refine T_block ?_ | refine T_skip ?_ | refine TL_lt_t (hk := ?_) | refine TL_nil ?_ | refine TL_indexAddrn TE (hk := ?_))
      refine TL_loada TE (cs := lkV x) (hx := rfl) (ht := rfl) (hi := rfl) (hr := r1) (hc := t1) (h0 := Nat.succ_pos _) (hk := ?_)
      --
      refine TL_alloc TE (hk := ?_); intro b2 w2 e2 h2' h2'' k2
      --
      refine TL_storea TE (hk := ?_); intro w3 m3 z3 k3
      have z2 := e2.size
      have e13 : Ext w1 w3 := Mod.step e2 m3 (by simp; omega)
      replace k3 : Blk w3 b2 129 (lkV x) := k3
      unfold lkV at k3
      have h3 := hT.ext e13
      have hb3 := h3.blk
      have mq3 := h3.mq
      unfold tabV at hb3
      obtain ⟨z, hz, rz, fz⟩ := h3.row x.1
      have hzl : z.2.1 ≤ N := by have := rz.len; rw [rowV_len akV_len] at this; have := qOf_len (E := t.E) (k := x.1); omega
      have hgl := grantN_le (qOf t.E x.1)
      have hpl := placeI_le (qOf t.E x.1) s
      have hql := qOf_len (E := t.E) (k := x.1)
      clear k2 r1 m3 e2
      repeat (first | refine T_seq ?_ | refine T_region_q TE.mixed (by kernel_rfl) ?_ | refine TL_nil ?_ | refine TL_move (hk := ?_) | refine TL_load TE (hk := ?_) | refine TL_fieldAddr TE (hk := ?_) | refine TL_nilCheck (hk := ?_))
      refine TL_lookup TE (((none, 0, 0) : SL)) (hk := ?_)
      rw [hz]
      repeat (refine TL_assign (hk := ?_))
      refine TL_nil_q ?_; intro w4 e4
      have rz4 := (Own.be e4 rz).rd
      repeat (first | refine T_seq ?_ | refine T_region ?_ | refine TL_move (hk := ?_))
      refine TL_call TE (hc := place_c z.1 z.2.1 z.2.2 _ s _ rz4 (by omega)) (hk := ?_)
      rintro _ w5 ⟨rfl, e5⟩
      repeat (refine TL_move (hk := ?_))
      refine TL_call TE (hc := granted_c z.1 z.2.1 z.2.2 _ _ (rz4.be e5) (by omega)) (hk := ?_)
      rintro _ w5 ⟨rfl, rfl⟩
      have e05 := ((e1.ext e13).ext e4).ext e5
      by_cases hc : placeI (qOf t.E x.1) s < (grantN (qOf t.E x.1) : Int)
      · repeat (first | refine T_region ?_ | refine T_cond_false rfl ?_ | refine T_inBlock ?_ | refine T_skip ?_ | refine TL_add (hk := ?_) | refine TL_ge_f (hk := ?_) | refine TL_nil ?_ | refine TL_move (hk := ?_))
        exact ih (i + 1) w5 _ (by omega) ⟨e05, by omega, fun j hj => by
          by_cases q : j = i
          · rw [q, hx]; exact hc
          · exact hu j (by omega)⟩ (.c rfl (.c rfl (.c rfl (.c rfl (.c rfl (.c rfl (.n)))))))
      · clear ih
        have hf : readyL t.E s l = false := by
          unfold readyL
          rw [List.all_eq_false]
          exact ⟨x, hm, by simpa using hc⟩
        repeat (first | refine T_seq ?_ | refine T_region ?_ | refine T_cond_true rfl ?_ | refine TL_ge_t (hk := ?_) | refine TL_nil ?_ | refine TL_assign (hk := ?_))
        exact T_ret1 rfl rfl ⟨by simp only [hf], e05⟩
    · clear ih
      have hf : readyL t.E s l = true := by
        unfold readyL
        rw [List.all_eq_true]
        intro x hx
        obtain ⟨j, hj, rfl⟩ := List.mem_iff_getElem.1 hx
        have := hu j (by omega)
        rw [List.getD_eq_getElem?_getD, List.getElem?_eq_getElem hj] at this
        simpa using this
      repeat (first | refine T_seq ?_ | refine T_region ?_ | refine T_cond_false rfl ?_ | refine T_exit rfl ?_ | refine TL_lt_f (hk := ?_) | refine TL_nil ?_ | refine TL_move (hk := ?_) | refine TL_assign (hk := ?_))
      exact T_ret1 rfl rfl ⟨by simp only [hf], e1⟩
end
end Go.Proofs.YtgdbckjkeofoaaaGreat

/- Own rows of ints behind the kit's sort and compact. -/
namespace Go.Proofs.Eng
open Go.RowKit Go.Sort
set_option linter.unusedSimpArgs false
set_option linter.unusedVariables false
section
variable {w : World} {g n cap base : Nat} {os : Array Obj} {cur : Array Value} {e : TypeId}
theorem holds_blockI {zs : List Int} (hb : w.heap[g]? = some (.cells cur e (0, 0))) (ht : cur.toList.take zs.length = zs.map (Value.int .i64)) : Holds (Value.int .i64) w g 0 zs.toArray := by
  intro j hj
  have hj' : j < zs.length := by simpa using hj
  refine ⟨?_, by simp [World.frozen?, hb]⟩
  have h1 : (cur.toList.take zs.length)[j]? = (zs.map (Value.int .i64))[j]? := by rw [ht]
  rw [List.getElem?_take_of_lt hj'] at h1
  simp only [World.cell?, hb, Nat.zero_add]
  simp only [Option.isSome_none, Bool.false_eq_true, if_false]
  rw [← Array.getElem?_toList, h1]
  simp [hj']
theorem heap_putI (d : Array Int) (hb : w.heap[g]? = some (.cells cur e (0, 0))) : (grow (putRow (Value.int .i64) (Sort.ahead w n) g 0 d) os).heap[g]? = some (.cells (putCells (Value.int .i64) 0 d cur) e (0, 0)) := by
  have hg : g < w.heap.size := (Array.getElem?_eq_some_iff.1 hb).1
  rw [heap_grow_old _ _ (by simpa using hg)]
  simp [putRow, mapBlock, Sort.ahead, Array.getElem?_modify, hb, onCells]
theorem grownBy_putI (d : Array Int) : w.grownBy (grow (putRow (Value.int .i64) (Sort.ahead w n) g 0 d) os) (some g) := by
  refine ⟨rfl, rfl, rfl, by simp, fun k hk hne => ?_⟩
  rw [heap_grow_old _ _ (by simpa using hk)]
  have : g ≠ k := fun e => hne (by rw [e])
  simp [putRow, mapBlock, Sort.ahead, Array.getElem?_modify, this]
theorem take_putI (cur : Array Value) (ts : List Int) (h : ts.length ≤ cur.size) : (putCells (Value.int .i64) 0 ts.toArray cur).toList.take ts.length = ts.map (Value.int .i64) := by
  apply List.ext_getElem?
  intro j
  by_cases hj : j < ts.length
  · rw [List.getElem?_take_of_lt hj, Array.getElem?_toList]
    simp [putCells, hj, show j < cur.size by omega]
  · rw [List.getElem?_take_eq_none (by omega), List.getElem?_eq_none (by simp; omega)]
theorem own_putI {ts : List Int} {k : Nat} (hl : ts.length = k) (hbase : base ≤ g) (hb : w.heap[g]? = some (.cells cur e (0, 0))) (h1 : k ≤ cap) (h2 : cap ≤ maxLen) (h3 : cur.size = cap * 1) :
    Own (grow (putRow (Value.int .i64) (Sort.ahead w n) g 0 ts.toArray) os) base e 1 (some ⟨g, 0, none⟩) k cap (ts.map (Value.int .i64)) :=
  ⟨by simp [hl], .inr ⟨g, cap, _, rfl, hbase, heap_putI _ hb, h1, h2, by simp [putCells, h3], by rw [Nat.mul_one, ← hl]; exact take_putI cur ts (by omega)⟩⟩
end
/-- Of a rising row no number stands twice behind compact, and none is lost. -/
theorem compactUpTo_rise (d : Array Int) (hs : ∀ i j, i ≤ j → j < d.size → d[i]! ≤ d[j]!) : ∀ m, m ≤ d.size → (Lib.compactUpTo d m).Pairwise (· < ·) ∧ (∀ x ∈ Lib.compactUpTo d m, x ≤ d[m - 1]!) ∧ ∀ x, x ∈ Lib.compactUpTo d m ↔ ∃ j, j < m ∧ d[j]! = x
  | 0, _ => by simp [Lib.compactUpTo]
  | m + 1, hm => by
    obtain ⟨h1, h2, h3⟩ := compactUpTo_rise d hs m (by omega)
    rw [Lib.compactUpTo_succ]
    have hle : d[m - 1]! ≤ d[m]! := hs (m - 1) m (by omega) (by omega)
    by_cases hk : Lib.keeps d m = true
    · rw [if_pos hk]
      have hlt : ∀ x ∈ Lib.compactUpTo d m, x < d[m]! := fun x hx => by
        have h4 := h2 x hx
        by_cases h0 : m = 0
        · subst h0; simp [Lib.compactUpTo] at hx
        · have : d[m]! ≠ d[m - 1]! := fun q => by
            rw [Lib.keeps_neg (by omega) q] at hk; cases hk
          omega
      refine ⟨?_, fun x hx => ?_, fun x => ?_⟩
      · rw [List.pairwise_append]
        exact ⟨h1, List.pairwise_singleton _ _, fun a ha b hb => by rw [List.mem_singleton.1 hb]; exact hlt a ha⟩
      · rw [Nat.add_sub_cancel]
        rcases List.mem_append.1 hx with hx | hx
        · have := hlt x hx; omega
        · rw [List.mem_singleton.1 hx]; exact Int.le_refl _
      · rw [List.mem_append, h3, List.mem_singleton]
        constructor
        · rintro (⟨j, hj, e⟩ | rfl)
          · exact ⟨j, by omega, e⟩
          · exact ⟨m, by omega, rfl⟩
        · rintro ⟨j, hj, e⟩
          by_cases q : j = m
          · right; rw [← e, q]
          · exact .inl ⟨j, by omega, e⟩
    · rw [if_neg hk, List.append_nil]
      have hm0 : 0 < m := by
        by_cases h0 : m = 0
        · subst h0; exact absurd (Lib.keeps_lt_one d 0 (by omega)) hk
        · omega
      have he : d[m]! = d[m - 1]! := by
        apply Decidable.byContradiction
        intro q
        exact hk (Lib.keeps_pos q)
      refine ⟨h1, fun x hx => ?_, fun x => ?_⟩
      · rw [Nat.add_sub_cancel, he]; exact h2 x hx
      · rw [h3]
        constructor
        · rintro ⟨j, hj, e⟩
          exact ⟨j, by omega, e⟩
        · rintro ⟨j, hj, e⟩
          by_cases q : j = m
          · exact ⟨m - 1, by omega, by rw [← he, ← e, q]⟩
          · exact ⟨j, by omega, e⟩
theorem rise_unique : ∀ {a b : List Int}, a.Pairwise (· < ·) → b.Pairwise (· < ·) → (∀ x, x ∈ a ↔ x ∈ b) → a = b
  | [], [], _, _, _ => rfl
  | [], y :: b, _, _, h => by have := (h y).2 List.mem_cons_self; cases this
  | x :: a, [], _, _, h => by have := (h x).1 List.mem_cons_self; cases this
  | x :: a, y :: b, h1, h2, h => by
    rw [List.pairwise_cons] at h1 h2
    have hxy : x = y := by
      rcases List.mem_cons.1 ((h x).1 List.mem_cons_self) with e | e
      · exact e
      · rcases List.mem_cons.1 ((h y).2 List.mem_cons_self) with e2 | e2
        · exact e2.symm
        · have := h2.1 x e; have := h1.1 y e2; omega
    subst hxy
    congr 1
    refine rise_unique h1.2 h2.2 (fun z => ⟨fun hz => ?_, fun hz => ?_⟩)
    · rcases List.mem_cons.1 ((h z).1 (List.mem_cons_of_mem _ hz)) with e | e
      · have := h1.1 z hz; omega
      · exact e
    · rcases List.mem_cons.1 ((h z).2 (List.mem_cons_of_mem _ hz)) with e | e
      · have := h2.1 z hz; omega
      · exact e
theorem compact_sorted {zs l : List Int} (hl : l.Pairwise (· < ·)) (hm : ∀ x, x ∈ zs ↔ x ∈ l) : Lib.compact (zs.mergeSort fun x y => decide (x ≤ y)) = l := by
  have tr : ∀ a b c : Int, decide (a ≤ b) = true → decide (b ≤ c) = true → decide (a ≤ c) = true := fun a b c h1 h2 => by simp only [decide_eq_true_eq] at *; omega
  have to : ∀ a b : Int, (decide (a ≤ b) || decide (b ≤ a)) = true := fun a b => by simp only [Bool.or_eq_true, decide_eq_true_eq]; omega
  have hp := List.pairwise_mergeSort tr to zs
  have hmem : ∀ x, x ∈ zs.mergeSort (fun x y => decide (x ≤ y)) ↔ x ∈ zs := fun x => List.mem_mergeSort
  generalize zs.mergeSort (fun x y => decide (x ≤ y)) = d at hp hmem
  have hg : ∀ i (h : i < d.length), d.toArray[i]! = d[i] := fun i h => by simp [getElem!_pos, h]
  obtain ⟨h1, -, h3⟩ := compactUpTo_rise d.toArray (fun i j hij hj => by
    have hj' : j < d.length := by simpa using hj
    rw [hg i (by omega), hg j hj']
    by_cases e : i = j
    · subst e; exact Int.le_refl _
    · have := List.pairwise_iff_getElem.1 hp i j (by omega) hj' (by omega)
      simpa using this) d.toArray.size (Nat.le_refl _)
  have hds : d.toArray.size = d.length := by simp
  rw [hds] at h1 h3
  refine rise_unique h1 hl (fun x => ?_)
  show x ∈ Lib.compactUpTo d.toArray d.length ↔ _
  rw [h3, ← hm, ← hmem, List.mem_iff_getElem]
  constructor
  · rintro ⟨j, hj, e⟩
    exact ⟨j, hj, by rw [← hg j hj]; exact e⟩
  · rintro ⟨j, hj, e⟩
    exact ⟨j, hj, by rw [hg j hj]; exact e⟩
end Go.Proofs.Eng

/- The lock table: who is ready, for whom one waits. -/
namespace Go.Proofs.YtgdbckjkeofoaaaGreat
open Go.RowKit Go.Proofs.Eng Go.Proofs.Foot Go.Proofs.Locks
set_option linter.unusedSimpArgs false
set_option linter.unusedVariables false set_option maxRecDepth 10000
attribute [local irreducible] T TL LV TH TA
/-- Those ahead of a number. -/
def aheadE (E : List Ent) (s : Int) : List Ent := E.takeWhile fun e => !decide (e.1 = s)
theorem split_at {E : List Ent} {s : Int} {l : List Lk} (h : eget E s = some l) : ∃ E2, E = aheadE E s ++ (s, l) :: E2 ∧ ∀ e ∈ aheadE E s, e.1 ≠ s := by
  induction E with
  | nil => cases h
  | cons e E ih =>
    unfold eget at h
    rw [List.find?_cons] at h
    by_cases q : e.1 = s
    · simp only [q, decide_true, Option.map_some, Option.some.injEq] at h
      refine ⟨E, ?_, ?_⟩
      · unfold aheadE
        rw [List.takeWhile_cons]
        simp [q, ← h]
        rw [← q]
      · unfold aheadE
        rw [List.takeWhile_cons]
        simp [q]
    · simp only [q, decide_false] at h
      obtain ⟨E2, h1, h2⟩ := ih h
      refine ⟨E2, ?_, ?_⟩
      · unfold aheadE at h1 ⊢
        rw [List.takeWhile_cons]
        simp only [q, decide_false, Bool.not_false, if_true, List.cons_append]
        rw [← h1]
      · intro x hx
        unfold aheadE at hx h2
        rw [List.takeWhile_cons] at hx
        simp only [q, decide_false, Bool.not_false, if_true] at hx
        rcases List.mem_cons.1 hx with rfl | hx
        · exact q
        · exact h2 x hx
theorem qOf_seq {E : List Ent} {k : Tx} {a : Akk} (h : a ∈ qOf E k) : ∃ e ∈ E, e.1 = a.1 ∧ asks e.2 k = some a.2 := by
  unfold qOf at h
  rw [List.mem_filterMap] at h
  obtain ⟨e, he, h⟩ := h
  rw [Option.map_eq_some_iff] at h
  obtain ⟨b, hb, rfl⟩ := h
  exact ⟨e, he, rfl, hb⟩
theorem qOf_mem {E : List Ent} {k : Tx} {e : Ent} {b : Bool} (he : e ∈ E) (h : asks e.2 k = some b) : (e.1, b) ∈ qOf E k := by
  unfold qOf
  rw [List.mem_filterMap]
  exact ⟨e, he, by rw [h]; rfl⟩
theorem asks_mem {l : List Lk} (hn : (l.map (·.1)).Nodup) {x : Lk} (hx : x ∈ l) : asks l x.1 = some x.2 := by
  induction l with
  | nil => cases hx
  | cons y l ih =>
    rw [List.map_cons, List.nodup_cons] at hn
    unfold asks
    rw [List.find?_cons]
    rcases List.mem_cons.1 hx with rfl | hx
    · simp
    · have : ¬ y.1 = x.1 := fun q => hn.1 (by rw [q]; exact List.mem_map.2 ⟨x, hx, rfl⟩)
      simp only [this, decide_false]
      exact ih hn.2 hx
theorem placeI_app {q1 : List Akk} {s : Int} (h : ∀ a ∈ q1, a.1 ≠ s) (b : Bool) (q2 : List Akk) : placeI (q1 ++ (s, b) :: q2) s = q1.length := by
  induction q1 with
  | nil => simp [placeI]
  | cons a q1 ih =>
    have h0 := h a List.mem_cons_self
    have ih := ih (fun x hx => h x (List.mem_cons_of_mem _ hx))
    simp only [List.cons_append, placeI, h0, if_false, ih]
    rw [if_neg (by omega)]
    simp
theorem grant_iff (q1 q2 : List Akk) (s : Int) (b : Bool) : q1.length < grantN (q1 ++ (s, b) :: q2) ↔ ∀ a ∈ q1, (b || a.2) = false := by
  unfold grantN
  simp only
  have hlen : 0 < (q1 ++ (s, b) :: q2).length := by simp; omega
  cases q1 with
  | nil =>
    simp only [List.nil_append, List.length_nil, List.not_mem_nil, false_imp_iff, implies_true, iff_true]
    rw [List.nil_append] at hlen
    split <;> omega
  | cons a q1 =>
    have key : ∀ (p : List Akk), ((p ++ (s, b) :: q2).takeWhile fun x => !x.2).length > p.length ↔ b = false ∧ ∀ a ∈ p, a.2 = false := by
      intro p
      induction p with
      | nil =>
        rw [List.nil_append, List.takeWhile_cons]
        cases b <;> simp
      | cons y p ih =>
        rw [List.cons_append, List.takeWhile_cons]
        cases hy : y.2 with
        | true => simp [hy]
        | false =>
          simp only [Bool.not_false, if_true, List.length_cons, List.forall_mem_cons, hy, true_and]
          rw [← ih]
          omega
    have hk := key (a :: q1)
    have hr : (∀ x ∈ a :: q1, (b || x.2) = false) ↔ b = false ∧ ∀ x ∈ a :: q1, x.2 = false := by
      constructor
      · intro h
        refine ⟨?_, fun x hx => ?_⟩
        · have := h a List.mem_cons_self; simp at this; exact this.1
        · have := h x hx; simp at this; exact this.2
      · rintro ⟨h1, h2⟩ x hx
        simp [h1, h2 x hx]
    rw [hr, ← hk]
    generalize ((a :: q1 ++ (s, b) :: q2).takeWhile fun x => !x.2).length = n
    split
    · rename_i g
      simp only [List.length_cons]
      omega
    · exact Iff.rfl
def wPart (E : List Ent) (s : Int) (x : Lk) : List Int := if placeI (qOf E x.1) s < (grantN (qOf E x.1) : Int) then [] else (((qOf E x.1).take (placeI (qOf E x.1) s).toNat).filter fun a => x.2 || a.2).map (·.1)
def wAcc (E : List Ent) (s : Int) (l : List Lk) : List Int := l.flatMap (wPart E s)
section
variable {E : List Ent} {s : Int} {l : List Lk}
theorem qOf_split (h : eget E s = some l) (hn : (l.map (·.1)).Nodup) {x : Lk} (hx : x ∈ l) : ∃ q2, qOf E x.1 = qOf (aheadE E s) x.1 ++ (s, x.2) :: q2 ∧ ∀ a ∈ qOf (aheadE E s) x.1, a.1 ≠ s := by
  obtain ⟨E2, h1, h2⟩ := split_at h
  refine ⟨qOf E2 x.1, ?_, fun a ha => ?_⟩
  · conv => lhs; rw [h1]
    rw [qOf_append, show (s, l) :: E2 = [(s, l)] ++ E2 from rfl, qOf_append, qOf_single, asks_mem hn hx]
    rfl
  · obtain ⟨e, he, e1, _⟩ := qOf_seq ha
    rw [← e1]
    exact h2 e he
theorem ready_one (h : eget E s = some l) (hn : (l.map (·.1)).Nodup) {x : Lk} (hx : x ∈ l) : placeI (qOf E x.1) s < (grantN (qOf E x.1) : Int) ↔ ∀ a ∈ qOf (aheadE E s) x.1, (x.2 || a.2) = false := by
  obtain ⟨q2, h1, h2⟩ := qOf_split h hn hx
  rw [h1, placeI_app h2, ← grant_iff _ q2 s]
  omega
theorem clashL_iff {a l : List Lk} : clashL a l = true ↔ ∃ x ∈ l, ∃ b, asks a x.1 = some b ∧ (b || x.2) = true := by
  unfold clashL
  rw [List.any_eq_true]
  constructor
  · rintro ⟨x, hx, h⟩
    cases hq : asks a x.1 with
    | none => rw [hq] at h; cases h
    | some b => rw [hq] at h; exact ⟨x, hx, b, hq, h⟩
  · rintro ⟨x, hx, b, h1, h2⟩
    exact ⟨x, hx, by rw [h1]; exact h2⟩
/-- One is ready just if nobody ahead of it clashes with it. -/
theorem ready_iff (h : eget E s = some l) (hn : (l.map (·.1)).Nodup) : readyE E s = true ↔ ∀ e ∈ aheadE E s, clashL e.2 l = false := by
  unfold readyE
  rw [h]
  simp only [readyL, List.all_eq_true, decide_eq_true_eq]
  constructor
  · intro g e he
    cases hq : clashL e.2 l with
    | false => rfl
    | true =>
      obtain ⟨x, hx, b, h1, h2⟩ := clashL_iff.1 hq
      have := (ready_one h hn hx).1 (g x hx) _ (qOf_mem he h1)
      simp only at this
      rw [Bool.or_comm] at this
      rw [this] at h2
      cases h2
  · intro g x hx
    refine (ready_one h hn hx).2 (fun a ha => ?_)
    obtain ⟨e, he, e1, e2⟩ := qOf_seq ha
    cases hq : (x.2 || a.2) with
    | false => rfl
    | true =>
      have h3 : clashL e.2 l = true := clashL_iff.2 ⟨x, hx, a.2, e2, by rw [Bool.or_comm]; exact hq⟩
      rw [g e he] at h3
      cases h3
theorem wPart_eq (h : eget E s = some l) (hn : (l.map (·.1)).Nodup) {x : Lk} (hx : x ∈ l) : wPart E s x = ((qOf (aheadE E s) x.1).filter fun a => x.2 || a.2).map (·.1) := by
  unfold wPart
  by_cases g : placeI (qOf E x.1) s < (grantN (qOf E x.1) : Int)
  · rw [if_pos g]
    have := (ready_one h hn hx).1 g
    rw [List.filter_eq_nil_iff.2 (fun a ha => by rw [this a ha]; decide)]
    rfl
  · rw [if_neg g]
    obtain ⟨q2, h1, h2⟩ := qOf_split h hn hx
    rw [h1, placeI_app h2]
    simp
theorem wAcc_mem (h : eget E s = some l) (hn : (l.map (·.1)).Nodup) (y : Int) : y ∈ wAcc E s l ↔ y ∈ ((aheadE E s).filter fun e => clashL e.2 l).map (·.1) := by
  unfold wAcc
  rw [List.mem_flatMap, List.mem_map]
  constructor
  · rintro ⟨x, hx, hy⟩
    rw [wPart_eq h hn hx, List.mem_map] at hy
    obtain ⟨a, ha, rfl⟩ := hy
    rw [List.mem_filter] at ha
    obtain ⟨e, he, e1, e2⟩ := qOf_seq ha.1
    exact ⟨e, List.mem_filter.2 ⟨he, clashL_iff.2 ⟨x, hx, a.2, e2, by rw [Bool.or_comm]; exact ha.2⟩⟩, e1⟩
  · rintro ⟨e, he, rfl⟩
    rw [List.mem_filter] at he
    obtain ⟨x, hx, b, h1, h2⟩ := clashL_iff.1 he.2
    refine ⟨x, hx, ?_⟩
    rw [wPart_eq h hn hx, List.mem_map]
    exact ⟨(e.1, b), List.mem_filter.2 ⟨qOf_mem he.1 h1, by simp only; rw [Bool.or_comm]; exact h2⟩, rfl⟩
theorem waitsE_srt {t : LS} (hs : (t.E.map (·.1)).Pairwise (· < ·)) (s : Int) : (waitsE t s).Pairwise (· < ·) := by
  unfold waitsE
  cases eget t.E s with
  | none => exact List.Pairwise.nil
  | some l => exact hs.sublist (((List.filter_sublist).trans (List.takeWhile_sublist _)).map _)
theorem waits_sorted {t : LS} (h : eget t.E s = some l) (hn : (l.map (·.1)).Nodup) (hs : (t.E.map (·.1)).Pairwise (· < ·)) : Lib.compact ((wAcc t.E s l).mergeSort fun x y => decide (x ≤ y)) = waitsE t s := by
  refine compact_sorted (waitsE_srt hs s) (fun x => ?_)
  rw [wAcc_mem h hn]
  unfold waitsE
  rw [h]
  exact Iff.rfl
end
end Go.Proofs.YtgdbckjkeofoaaaGreat

namespace Go.Proofs.YtgdbckjkeofoaaaGreat
open Go.RowKit Go.Proofs.Eng Go.Proofs.Foot Go.Proofs.Locks
set_option linter.unusedSimpArgs false
set_option linter.unusedVariables false set_option maxRecDepth 10000
attribute [local irreducible] T TL LV TH TA
theorem ISort_c (A : Option Addr) (n c base : Nat) (l : List Int) (w : World) (h : Own w base 2 1 A n c (iv l)) (hn : n ≤ 70368744177000) :
    Ret Tryz.prog 92 [.slice A n c] w (fun v w' => v = .tuple #[] ∧ Eng.Mod (blkL A) w w' ∧ Own w' base 2 1 A n c (iv (l.mergeSort fun x y => decide (x ≤ y)))) := by
  have hl : l.length = n := by have := h.len; rw [iv_len] at this; omega
  by_cases h0 : n = 0
  · subst h0
    have hl0 : l = [] := List.length_eq_zero_iff.1 hl
    subst hl0
    refine Calls.mono (Tryz.slices_Sort_int_none A c w) ?_
    rintro e w' ⟨rfl, rfl⟩
    exact ⟨rfl, Mod.refl _ _, by simpa using h⟩
  · rcases h.2 with ⟨_, h2⟩ | ⟨g, cap, cur, hv, hg, hb, h1, h2, h3, h4⟩
    · exact absurd h2 h0
    · cases hv
      subst hl
      refine Calls.mono (Tryz.slices_Sort_int g 0 c l w (holds_blockI hb (by have h5 := h4; rw [Nat.mul_one] at h5; exact h5)) (Array.getElem?_eq_some_iff.1 hb).1 (by omega)) ?_
      rintro e w' ⟨rfl, m, os, rfl⟩
      refine ⟨rfl, Mod.of_grown (grownBy_putI _), ?_⟩
      exact own_putI (List.length_mergeSort _) hg hb h1 h2 h3
theorem compact_len (l : List Int) : (Lib.compact l).length ≤ l.length := by
  unfold Lib.compact Lib.compactUpTo
  rw [List.length_map]
  refine Nat.le_trans (List.length_filter_le _ _) ?_
  simp
theorem ICompact_c (A : Option Addr) (n c base : Nat) (l : List Int) (w : World) (h : Own w base 2 1 A n c (iv l)) (hn : n ≤ 70368744177000) :
    Ret Tryz.prog 93 [.slice A n c] w (fun v w' => v = .slice A (Lib.compact l).length c ∧ Eng.Mod (blkL A) w w' ∧ Own w' base 2 1 A (Lib.compact l).length c (iv (Lib.compact l))) := by
  have hl : l.length = n := by have := h.len; rw [iv_len] at this; omega
  by_cases h0 : n = 0
  · subst h0
    have hl0 : l = [] := List.length_eq_zero_iff.1 hl
    subst hl0
    refine Calls.mono (Tryz.slices_Compact_int_empty A c w) ?_
    rintro e w' ⟨rfl, rfl⟩
    exact ⟨rfl, Mod.refl _ _, h⟩
  · rcases h.2 with ⟨_, h2⟩ | ⟨g, cap, cur, hv, hg, hb, h1, h2, h3, h4⟩
    · exact absurd h2 h0
    · cases hv
      subst hl
      have hcl := compact_len l
      refine Calls.mono (Tryz.slices_Compact_int g 0 c l w (holds_blockI hb (by have h5 := h4; rw [Nat.mul_one] at h5; exact h5)) (by omega) h1) ?_
      rintro e w' ⟨rfl, q, rfl⟩
      have hln : (Lib.compact l ++ List.replicate (l.length - (Lib.compact l).length) 0).length = l.length := by simp; omega
      have hgr := grownBy_putI (w := w) (g := g) (n := q) (os := #[]) (Lib.compact l ++ List.replicate (l.length - (Lib.compact l).length) 0).toArray
      have ho := own_putI (n := q) (os := #[]) hln hg hb h1 h2 h3
      rw [Sort.grow_empty] at hgr ho
      have ho2 := ho.shrink (n' := (Lib.compact l).length) (by omega)
      rw [Nat.mul_one, List.map_append, List.take_append_of_le_length (by simp), List.take_of_length_le (by simp)] at ho2
      exact ⟨rfl, Mod.of_grown hgr, ho2⟩
section
variable {base N : Nat} {m : LM} {f : Nat → Ow} {t : LS}
set_option maxHeartbeats 1600000
def rdyU (E : List Ent) (l : List Int) (i : Nat) : List Int := (l.take i).filter (readyE E)
theorem rdyU_succ (E : List Ent) (l : List Int) (i : Nat) (hi : i < l.length) : rdyU E l (i + 1) = rdyU E l i ++ (if readyE E (l.getD i 0) = true then [l.getD i 0] else []) := by
  unfold rdyU
  have hg : l.getD i 0 = l[i] := by rw [List.getD_eq_getElem?_getD, List.getElem?_eq_getElem hi]; rfl
  rw [List.take_succ_eq_append_getElem hi, List.filter_append, hg]
  congr 1
  by_cases e : readyE E l[i] = true <;> simp [e]
theorem Readies_c (w : World) (h : TabM w base m f (qOf t.E) t.E t.nx) (ok : OkT N t) (hN : N ≤ 100000) :
    Ret Tryz.prog 70 [pT m.p] w (fun v w' => ∃ x, v = sL x ∧ Ext w w' ∧ IRow w' w.heap.size x (readiesE t)) := by
  have hln := ok.ln
  refine ret_T (n := 22) Tryz.func70 rfl rfl ?_
  repeat (first | refine T_seq ?_ | refine T_region ?_ | refine TL_nil ?_ | refine TL_move (hk := ?_) | refine TL_assign (hk := ?_))
  refine TL_call TE (hc := All_c w h ok hN) (hk := ?_)
  rintro _ w1 ⟨z, rfl, e1, rz⟩
  have hal : (allE t).length = t.E.length := by simp [allE]
  have hzl : (allE t).length = z.2.1 := by have := rz.len; rw [iv_len] at this; omega
  have hend : rdyU t.E (allE t) (allE t).length = readiesE t := by unfold rdyU readiesE; rw [List.take_length]
  have hsu := rdyU_succ t.E (allE t)
  have h1 := h.ext e1
  generalize allE t = q at rz hzl hend hsu hal
  have z1 := e1.size
  repeat (first | refine T_block ?_ | refine TL_nil ?_ | refine TL_move (hk := ?_) | refine TL_len TE (hk := ?_))
  refine T_loop (ι := Nat × SL) (fun i => [(9, .int .i64 (i.1 : Int)), (8, .int .i64 (z.2.1 : Int)), (7, sL z), (0, pT m.p), (3, sL i.2)]) (fun i w' => Ext w1 w' ∧ i.1 ≤ z.2.1 ∧ i.2.2.1 ≤ i.1 ∧ IRow w' w1.heap.size i.2 (rdyU t.E q i.1)) (fun i => z.2.1 - i.1) (0, (none, 0, 0)) (.c rfl (.c rfl (.c rfl (.c rfl (.c rfl (.n)))))) ⟨Mod.refl _ _, Nat.zero_le _, Nat.le_refl _, Own.nil _ _ _ _⟩ ?_
  rintro ⟨i, x⟩ w2 ⟨e2, hi, hxl, rx⟩ ih
  simp only at hi hxl rx ih ⊢
  have hE := e1.ext e2
  have zE := hE.size
  have z2s := e2.size
  by_cases hlt : i < z.2.1
  · have r1 := (Own.be e2 rz).rd
    have hv := iv_get q i (by omega)
    have hsu := hsu i (by omega)
    obtain ⟨a, ha⟩ : ∃ a, q.getD i 0 = a := ⟨_, rfl⟩
    rw [ha] at hv hsu
    have hA : z.1 ≠ none := by obtain ⟨_, _, hq, _⟩ := r1.2 (by omega); rw [hq]; simp
    repeat (first | refine T_seq ?_ | refine T_region ?_ | refine T_cond_true rfl ?_ | refine T_block ?_ | refine T_skip ?_ | refine TL_lt_t (hk := ?_) | refine TL_nil ?_ | refine TL_move (hk := ?_) | refine TL_assign (hk := ?_) | refine TL_load_rd TE (hk := ?_) | refine TL_indexAddr1n TE (hk := ?_))
    refine TL_call TE (hc := Ready_c a _ (h1.ext e2) ok hN) (hk := ?_)
    rintro _ w3 ⟨rfl, e3⟩
    have rx3 := Own.be e3 rx
    have z3 := e3.size
    clear r1 rx
    by_cases hg : readyE t.E a = true
    · rw [hg]
      rw [if_pos hg] at hsu
      repeat (first | refine T_region ?_ | refine T_cond_true rfl ?_ | refine TL_nil ?_ | refine TL_move (hk := ?_))
      refine TL_buildSlice TE (hk := ?_); intro b5 w5 e5 h5 h5' k5
      replace k5 : Blk w5 b5 2 (iv [a]) := k5
      have r5 : Rd w5 (some ⟨b5, 0, none⟩) 1 1 (iv [a]) := Rd.blk k5 rfl
      have z5 := e5.size
      --
      refine TL_append TE (ho := Own.be e5 rx3) (hr := r5) (h1 := iv_one _) (hk := ?_); intro A6 c6 w6 o6 m6 n6
      rw [← iv_append, ← hsu] at o6
      repeat (first | refine T_region ?_ | refine T_inBlock ?_ | refine TL_add (hk := ?_) | refine TL_nil ?_ | refine TL_move (hk := ?_) | refine TL_assign (hk := ?_))
      exact ih (i + 1, (A6, x.2.1 + 1, c6)) w6 _ (by simp only; omega) ⟨Mod.own ((e2.ext e3).ext e5) m6 rx3.hi, by simp only; omega, by simp only; omega, o6⟩ (.c rfl (.c rfl (.c rfl (.c rfl (.c rfl (.n))))))
    · have hg' : readyE t.E a = false := by simpa using hg
      rw [hg']
      rw [if_neg hg, List.append_nil] at hsu
      rw [← hsu] at rx3
      repeat (first | refine T_region ?_ | refine T_cond_false rfl ?_ | refine T_inBlock ?_ | refine T_skip ?_ | refine TL_add (hk := ?_) | refine TL_nil ?_ | refine TL_move (hk := ?_))
      exact ih (i + 1, x) w3 _ (by simp only; omega) ⟨e2.ext e3, by simp only; omega, by simp only; omega, rx3⟩ (.c rfl (.c rfl (.c rfl (.c rfl (.c rfl (.n))))))
  · clear ih
    have hin : i = q.length := by omega
    rw [hin, hend] at rx
    repeat (first | refine T_seq ?_ | refine T_region ?_ | refine T_cond_false rfl ?_ | refine T_exit rfl ?_ | refine TL_lt_f (hk := ?_) | refine TL_nil ?_ | refine TL_move (hk := ?_) | refine TL_assign (hk := ?_))
    exact T_ret1 rfl rfl ⟨x, rfl, hE, Own.weaken rx z1⟩
def qU (x : Lk) (q : List Akk) (i : Nat) : List Int := ((q.take i).filter fun a => x.2 || a.2).map (·.1)
theorem qU_succ (x : Lk) (q : List Akk) (i : Nat) (hi : i < q.length) : qU x q (i + 1) = qU x q i ++ (if (x.2 || (q.getD i ak0).2) = true then [(q.getD i ak0).1] else []) := by
  unfold qU
  have hg : q.getD i ak0 = q[i] := by rw [List.getD_eq_getElem?_getD, List.getElem?_eq_getElem hi]; rfl
  rw [List.take_succ_eq_append_getElem hi, List.filter_append, List.map_append, hg]
  congr 1
  by_cases e : (x.2 || q[i].2) = true <;> simp [e]
theorem wAcc_succ (E : List Ent) (s : Int) (l : List Lk) (i : Nat) (hi : i < l.length) : wAcc E s (l.take (i + 1)) = wAcc E s (l.take i) ++ wPart E s (l.getD i lk0) := by
  unfold wAcc
  have hg : l.getD i lk0 = l[i] := by rw [List.getD_eq_getElem?_getD, List.getElem?_eq_getElem hi]; rfl
  rw [List.take_succ_eq_append_getElem hi, List.flatMap_append, hg]
  simp
theorem wPart_len (E : List Ent) (s : Int) (x : Lk) : (wPart E s x).length ≤ E.length := by
  unfold wPart
  split
  · simp
  · rw [List.length_map]
    exact Nat.le_trans (List.length_filter_le _ _) (Nat.le_trans (List.length_take_le' _ _) qOf_len)
theorem wAcc_len (E : List Ent) (s : Int) : ∀ l : List Lk, (wAcc E s l).length ≤ l.length * E.length
  | [] => by simp [wAcc]
  | x :: l => by
    have ih := wAcc_len E s l
    have h1 := wPart_len E s x
    have e : wAcc E s (x :: l) = wPart E s x ++ wAcc E s l := by simp [wAcc]
    rw [e, List.length_append, List.length_cons, Nat.succ_mul]
    omega
theorem qU_len (x : Lk) (q : List Akk) (i : Nat) : (qU x q i).length ≤ q.length := by
  unfold qU
  rw [List.length_map]
  exact Nat.le_trans (List.length_filter_le _ _) (List.length_take_le' _ _)
theorem Waits_c (s : Int) (w : World) (h : TabM w base m f (qOf t.E) t.E t.nx) (ok : OkT N t) (hN : N ≤ 100000) :
    Ret Tryz.prog 78 [pT m.p, .int .i64 s] w (fun v w' => ∃ x, v = sL x ∧ Ext w w' ∧ IRow w' w.heap.size x (waitsE t s)) := by
  have hb := h.blk
  unfold tabV at hb
  have ma := h.ma
  have hln := ok.ln
  refine ret_T (n := 64) Tryz.func78 rfl rfl ?_
  repeat (first | refine T_seq ?_ | refine T_region ?_ | refine T_cond_false rfl ?_ | refine T_skip ?_ | refine TL_pnil_f TE (hk := ?_) | refine TL_nil ?_ | refine TL_move (hk := ?_) | refine TL_assign (hk := ?_) | refine TL_load TE (hk := ?_) | refine TL_fieldAddr TE (hk := ?_) | refine TL_nilCheck (hk := ?_))
  refine TL_lookup TE (((none, 0, 0) : SL)) (hk := ?_)
  have hpre : ∃ l z, (mget m.la s).getD ((none, 0, 0) : SL) = z ∧ LRow w base z l ∧ l.length ≤ 1000000 ∧ Lib.compact ((wAcc t.E s l).mergeSort fun x y => decide (x ≤ y)) = waitsE t s := by
    rcases h.ask s with ⟨h1, h2⟩ | ⟨l, y, h1, h2, ry, fy⟩
    · rw [h2]
      exact ⟨[], _, rfl, Own.nil _ _ _ _, by simp, by unfold waitsE; rw [h1]; simp [wAcc, Lib.compact, Lib.compactUpTo]⟩
    · rw [h2]
      exact ⟨l, y, rfl, ry, ok.lk _ (eget_mem h1), waits_sorted h1 (chk_nodup (ok.ky _ (eget_mem h1))) ok.srt⟩
  obtain ⟨l, z, hz, rz, hlk, hend⟩ := hpre
  rw [hz]
  have hl : l.length = z.2.1 := by have := rz.len; rw [rowV_len lkV_len] at this; omega
  have hwl : ∀ i, (wAcc t.E s (l.take i)).length ≤ 100000000000 := fun i => by
    have h1 := wAcc_len t.E s (l.take i)
    have h2 : (l.take i).length ≤ 1000000 := Nat.le_trans (List.length_take_le' _ _) hlk
    have h3 : (l.take i).length * t.E.length ≤ 1000000 * 100000 := Nat.mul_le_mul h2 (by omega)
    omega
  repeat (first | refine T_block ?_ | refine TL_nil ?_ | refine TL_move (hk := ?_) | refine TL_len TE (hk := ?_))
  refine T_loop (ι := Nat × SL) (fun i => [(21, .int .i64 (i.1 : Int)), (20, .int .i64 (z.2.1 : Int)), (19, sL z), (0, pT m.p), (1, .int .i64 s), (5, sL i.2)]) (fun i w' => Ext w w' ∧ i.1 ≤ z.2.1 ∧ IRow w' w.heap.size i.2 (wAcc t.E s (l.take i.1))) (fun i => z.2.1 - i.1) (0, (none, 0, 0)) (.c rfl (.c rfl (.c rfl (.c rfl (.c rfl (.c rfl (.n))))))) ⟨Mod.refl _ _, Nat.zero_le _, Own.nil _ _ _ _⟩ ?_
  rintro ⟨i, x⟩ w1 ⟨e1, hi, rx⟩ ih
  simp only at hi rx ih ⊢
  have z1 := e1.size
  by_cases hlt : i < z.2.1
  · have r1 := (Own.be e1 rz).rd
    have hT := h.ext e1
    have t1 := rowV_elem lkV_len l i lk0 (by omega)
    have hws := wAcc_succ t.E s l i (by omega)
    obtain ⟨a, ha⟩ : ∃ a, l.getD i lk0 = a := ⟨_, rfl⟩
    rw [ha] at t1 hws
    have hA : z.1 ≠ none := by obtain ⟨_, _, hq, _⟩ := r1.2 (by omega); rw [hq]; simp
    repeat (first | refine T_seq ?_ | refine T_region ?_ | refine T_cond_true rfl ?_ | refine T_block ?_ | refine T_skip ?_ | refine TL_lt_t (hk := ?_) | refine TL_nil ?_ | refine TL_indexAddrn TE (hk := ?_))
    refine TL_loada TE (cs := lkV a) (hx := rfl) (ht := rfl) (hi := rfl) (hr := r1) (hc := t1) (h0 := Nat.succ_pos _) (hk := ?_)
    --
    refine TL_alloc TE (hk := ?_); intro b2 w2 e2 h2' h2'' k2
    --
    refine TL_storea TE (hk := ?_); intro w3 m3 z3 k3
    have z2 := e2.size
    have e13 : Ext w1 w3 := Mod.step e2 m3 (by simp; omega)
    replace k3 : Blk w3 b2 129 (lkV a) := k3
    unfold lkV at k3
    have h3 := hT.ext e13
    have hb3 := h3.blk
    have mq3 := h3.mq
    unfold tabV at hb3
    have hxb : b2 ∉ blkL x.1 := fun q => by have := (rx.bl b2 q).2; omega
    obtain ⟨y, hy, ry0, fy⟩ := h.row a.1
    have ry := Own.be (e1.ext e13) ry0
    have hql := qOf_len (E := t.E) (k := a.1)
    have hgl := grantN_le (qOf t.E a.1)
    have hpl := placeI_le (qOf t.E a.1) s
    have hwp : wPart t.E s a = if placeI (qOf t.E a.1) s < (grantN (qOf t.E a.1) : Int) then [] else qU a (qOf t.E a.1) (placeI (qOf t.E a.1) s).toNat := rfl
    have hqu := qU_succ a (qOf t.E a.1)
    generalize qOf t.E a.1 = q at ry0 ry hql hgl hpl hwp hqu
    have hyl : q.length = y.2.1 := by have := ry.len; rw [rowV_len akV_len] at this; omega
    have rx3 := Own.be e13 rx
    clear k2 r1 m3 e2 rx
    repeat (first | refine T_seq ?_ | refine T_region_q TE.mixed (by kernel_rfl) ?_ | refine TL_nil ?_ | refine TL_move (hk := ?_) | refine TL_load TE (hk := ?_) | refine TL_fieldAddr TE (hk := ?_) | refine TL_nilCheck (hk := ?_))
    refine TL_lookup TE (((none, 0, 0) : SL)) (hk := ?_)
    rw [hy]
    repeat (refine TL_assign (hk := ?_))
    refine TL_nil_q ?_; intro w4 e4
    have ry4 := (Own.be e4 ry).rd
    have k4 := k3.be e4
    have rx4 := Own.be e4 rx3
    clear k3 rx3
    repeat (first | refine T_seq ?_ | refine T_region ?_ | refine TL_move (hk := ?_))
    refine TL_call TE (hc := place_c y.1 y.2.1 y.2.2 _ s _ ry4 (by omega)) (hk := ?_)
    rintro _ w5 ⟨rfl, e5⟩
    have ry5 := ry4.be e5
    have k5 := k4.be e5
    have rx5 := Own.be e5 rx4
    have hyc := (Own.be e5 (Own.be e4 ry)).cap.1
    clear ry4 k4 rx4
    repeat (first | refine T_seq ?_ | refine T_region ?_ | refine TL_nil ?_ | refine TL_move (hk := ?_) | refine TL_assign (hk := ?_))
    refine TL_call TE (hc := granted_c y.1 y.2.1 y.2.2 _ _ ry5 (by omega)) (hk := ?_)
    rintro _ w5 ⟨rfl, rfl⟩
    have e15 := (e13.ext e4).ext e5
    have e05 := e1.ext e15
    have z15 := e15.size
    by_cases hc : placeI q s < (grantN q : Int)
    · rw [hwp, if_pos hc, List.append_nil] at hws
      rw [← hws] at rx5
      repeat (first | refine T_region ?_ | refine T_cond_true rfl ?_ | refine T_exit rfl ?_ | refine TL_add (hk := ?_) | refine TL_lt_t (hk := ?_) | refine TL_nil ?_ | refine TL_move (hk := ?_))
      exact ih (i + 1, x) w5 _ (by simp only; omega) ⟨e05, by simp only; omega, rx5⟩ (.c rfl (.c rfl (.c rfl (.c rfl (.c rfl (.c rfl (.n)))))))
    · rw [hwp, if_neg hc] at hws
      obtain ⟨pn, hpn⟩ := Int.eq_ofNat_of_zero_le (show 0 ≤ placeI q s by omega)
      rw [hpn] at hws hpl
      rw [hpn]
      have hpn2 : ((pn : Nat) : Int).toNat = pn := rfl
      rw [hpn2] at hws
      have hpi : (pn : Int) ≤ (y.2.2 : Int) := by omega
      have hgi : ¬ (pn : Int) < (grantN q : Int) := by omega
      have hpl2 : pn ≤ q.length := by omega
      clear hpl hc hgl
      repeat (first | refine T_seq ?_ | refine T_region ?_ | refine T_cond_false rfl ?_ | refine T_block ?_ | refine T_skip ?_ | refine TL_lt_f (hk := ?_) | refine TL_nil ?_ | refine TL_move (hk := ?_) | refine TL_len TE (hk := ?_) | refine TL_slice_hi TE (hk := ?_))
      refine T_loop (ι := Nat × SL) (fun j => [(43, .int .i64 (j.1 : Int)), (42, .int .i64 (pn : Int)), (41, .slice y.1 pn y.2.2), (7, pT b2), (21, .int .i64 (i : Int)), (20, .int .i64 (z.2.1 : Int)), (19, sL z), (0, pT m.p), (1, .int .i64 s), (5, sL j.2)])
        (fun j w' => Ext w w' ∧ Blk w' b2 129 [.string (ofL a.1), .bool a.2] ∧ b2 < w'.heap.size ∧ b2 ∉ blkL j.2.1 ∧ j.1 ≤ pn ∧ IRow w' w.heap.size j.2 (wAcc t.E s (l.take i) ++ qU a q j.1)) (fun j => pn - j.1) (0, x) (.c rfl (.c rfl (.c rfl (.c rfl (.c rfl (.c rfl (.c rfl (.c rfl (.c rfl (.c rfl (.n))))))))))) ⟨e05, k5, k5.lt, hxb, Nat.zero_le _, by simpa [qU] using rx5⟩ ?_
      rintro ⟨j, u⟩ w6 ⟨e6, k6, hb6, hub, hj, ru⟩ ih2
      simp only at hub hj ru ih2 ⊢
      have hul : u.2.1 ≤ 100000200000 := by
        have h1 := ru.len
        rw [iv_len, List.length_append] at h1
        have h2 := hwl i
        have h3 := qU_len a q j
        omega
      have z6 := e6.size
      by_cases hjl : j < pn
      · have r6 := Rd.take (h := pn) (Own.be e6 ry0).rd (by omega)
        rw [rowV_take akV_len] at r6
        have t6 := rowV_elem akV_len (q.take pn) j ak0 (by simp; omega)
        have hgt : (q.take pn).getD j ak0 = q.getD j ak0 := by simp [List.getD_eq_getElem?_getD, List.getElem?_take_of_lt hjl]
        rw [hgt] at t6
        have hqu := hqu j (by omega)
        obtain ⟨c, hcc⟩ : ∃ c, q.getD j ak0 = c := ⟨_, rfl⟩
        rw [hcc] at t6 hqu
        have hB : y.1 ≠ none := by obtain ⟨_, _, hq, _⟩ := r6.2 (by omega); rw [hq]; simp
        have hjlt : (j : Int) < (pn : Int) := by omega
        repeat (first | refine T_seq ?_ | refine T_region ?_ | refine T_cond_true rfl ?_ | refine T_block ?_ | refine T_skip ?_ | refine TL_lt_t (hk := ?_) | refine TL_nil ?_ | refine TL_indexAddrn TE (hk := ?_))
        refine TL_loada TE (cs := akV c) (hx := rfl) (ht := rfl) (hi := rfl) (hr := r6) (hc := t6) (h0 := Nat.succ_pos _) (hk := ?_)
        --
        refine TL_alloc TE (hk := ?_); intro b7 w7 e7 h7 h7' k7
        --
        refine TL_storea TE (hk := ?_); intro w8 m8 z8 k8
        have z7 := e7.size
        have e68 : Ext w6 w8 := Mod.step e7 m8 (by simp; omega)
        replace k8 : Blk w8 b7 134 (akV c) := k8
        unfold akV at k8
        have k68 := k6.be e68
        have ru8 := Own.be e68 ru
        have z68 := e68.size
        clear k7 m8 e7 r6 k6 ru
        by_cases ctruetrue : a.2 = true ∧ c.2 = true
        · obtain ⟨qa, qc⟩ := ctruetrue
          rw [qa] at k68
          rw [qc] at k8
          rw [qa, qc, if_pos (by decide)] at hqu
          repeat (first | refine T_seq ?_ | refine T_region ?_ | refine T_cond_true rfl ?_ | refine TL_nil ?_ | refine TL_move (hk := ?_) | refine TL_load TE (hk := ?_) | refine TL_fieldAddr TE (hk := ?_) | refine TL_no (hk := ?_) | refine TL_pick_t (hk := ?_))
          refine TL_buildSlice TE (hk := ?_); intro b9 w9 e9 h9 h9' k9
          replace k9 : Blk w9 b9 2 (iv [c.1]) := k9
          have r9 : Rd w9 (some ⟨b9, 0, none⟩) 1 1 (iv [c.1]) := Rd.blk k9 rfl
          have z9 := e9.size
          --
          refine TL_append TE (ho := Own.be e9 ru8) (hr := r9) (h1 := iv_one _) (hk := ?_); intro A10 c10 w10 o10 m10 n10
          rw [← iv_append, List.append_assoc, ← hqu] at o10
          have hb10 : b2 ∉ blkL A10 := fun q => by
            rcases Near.mem n10 b2 q with q | q
            · exact hub q
            · omega
          repeat (first | refine T_region ?_ | refine T_inBlock ?_ | refine TL_add (hk := ?_) | refine TL_nil ?_ | refine TL_move (hk := ?_) | refine TL_assign (hk := ?_))
          exact ih2 (j + 1, (A10, u.2.1 + 1, c10)) w10 _ (by simp only; omega) ⟨Mod.own ((e6.ext e68).ext e9) m10 ru8.hi, by rw [qa]; exact (k68.be e9).mod m10 hub, by have := m10.size; omega, hb10, by simp only; omega, o10⟩ (.c rfl (.c rfl (.c rfl (.c rfl (.c rfl (.c rfl (.c rfl (.c rfl (.c rfl (.c rfl (.n)))))))))))
        by_cases ctruefalse : a.2 = true ∧ c.2 = false
        · obtain ⟨qa, qc⟩ := ctruefalse
          rw [qa] at k68
          rw [qc] at k8
          rw [qa, qc, if_pos (by decide)] at hqu
          repeat (first | refine T_seq ?_ | refine T_region ?_ | refine T_cond_true rfl ?_ | refine TL_nil ?_ | refine TL_move (hk := ?_) | refine TL_load TE (hk := ?_) | refine TL_fieldAddr TE (hk := ?_) | refine TL_no (hk := ?_) | refine TL_pick_t (hk := ?_))
          refine TL_buildSlice TE (hk := ?_); intro b9 w9 e9 h9 h9' k9
          replace k9 : Blk w9 b9 2 (iv [c.1]) := k9
          have r9 : Rd w9 (some ⟨b9, 0, none⟩) 1 1 (iv [c.1]) := Rd.blk k9 rfl
          have z9 := e9.size
          --
          refine TL_append TE (ho := Own.be e9 ru8) (hr := r9) (h1 := iv_one _) (hk := ?_); intro A10 c10 w10 o10 m10 n10
          rw [← iv_append, List.append_assoc, ← hqu] at o10
          have hb10 : b2 ∉ blkL A10 := fun q => by
            rcases Near.mem n10 b2 q with q | q
            · exact hub q
            · omega
          repeat (first | refine T_region ?_ | refine T_inBlock ?_ | refine TL_add (hk := ?_) | refine TL_nil ?_ | refine TL_move (hk := ?_) | refine TL_assign (hk := ?_))
          exact ih2 (j + 1, (A10, u.2.1 + 1, c10)) w10 _ (by simp only; omega) ⟨Mod.own ((e6.ext e68).ext e9) m10 ru8.hi, by rw [qa]; exact (k68.be e9).mod m10 hub, by have := m10.size; omega, hb10, by simp only; omega, o10⟩ (.c rfl (.c rfl (.c rfl (.c rfl (.c rfl (.c rfl (.c rfl (.c rfl (.c rfl (.c rfl (.n)))))))))))
        by_cases cfalsetrue : a.2 = false ∧ c.2 = true
        · obtain ⟨qa, qc⟩ := cfalsetrue
          rw [qa] at k68
          rw [qc] at k8
          rw [qa, qc, if_pos (by decide)] at hqu
          repeat (first | refine T_seq ?_ | refine T_region ?_ | refine T_cond_true rfl ?_ | refine TL_nil ?_ | refine TL_move (hk := ?_) | refine TL_load TE (hk := ?_) | refine TL_fieldAddr TE (hk := ?_) | refine TL_yes (hk := ?_) | refine TL_pick_f (hk := ?_))
          refine TL_buildSlice TE (hk := ?_); intro b9 w9 e9 h9 h9' k9
          replace k9 : Blk w9 b9 2 (iv [c.1]) := k9
          have r9 : Rd w9 (some ⟨b9, 0, none⟩) 1 1 (iv [c.1]) := Rd.blk k9 rfl
          have z9 := e9.size
          --
          refine TL_append TE (ho := Own.be e9 ru8) (hr := r9) (h1 := iv_one _) (hk := ?_); intro A10 c10 w10 o10 m10 n10
          rw [← iv_append, List.append_assoc, ← hqu] at o10
          have hb10 : b2 ∉ blkL A10 := fun q => by
            rcases Near.mem n10 b2 q with q | q
            · exact hub q
            · omega
          repeat (first | refine T_region ?_ | refine T_inBlock ?_ | refine TL_add (hk := ?_) | refine TL_nil ?_ | refine TL_move (hk := ?_) | refine TL_assign (hk := ?_))
          exact ih2 (j + 1, (A10, u.2.1 + 1, c10)) w10 _ (by simp only; omega) ⟨Mod.own ((e6.ext e68).ext e9) m10 ru8.hi, by rw [qa]; exact (k68.be e9).mod m10 hub, by have := m10.size; omega, hb10, by simp only; omega, o10⟩ (.c rfl (.c rfl (.c rfl (.c rfl (.c rfl (.c rfl (.c rfl (.c rfl (.c rfl (.c rfl (.n)))))))))))
        have qa : a.2 = false := by
          cases q1 : a.2 with
          | false => rfl
          | true => cases q2 : c.2 with
            | true => exact absurd ⟨q1, q2⟩ ctruetrue
            | false => exact absurd ⟨q1, q2⟩ ctruefalse
        have qc : c.2 = false := by
          cases q2 : c.2 with
          | false => rfl
          | true => exact absurd ⟨qa, q2⟩ cfalsetrue
        rw [qa] at k68
        rw [qc] at k8
        rw [qa, qc, if_neg (by decide), List.append_nil] at hqu
        rw [← hqu] at ru8
        repeat (first | refine T_seq ?_ | refine T_region ?_ | refine T_cond_false rfl ?_ | refine T_inBlock ?_ | refine T_skip ?_ | refine TL_add (hk := ?_) | refine TL_nil ?_ | refine TL_move (hk := ?_) | refine TL_load TE (hk := ?_) | refine TL_fieldAddr TE (hk := ?_) | refine TL_yes (hk := ?_) | refine TL_pick_f (hk := ?_))
        exact ih2 (j + 1, u) w8 _ (by simp only; omega) ⟨e6.ext e68, by rw [qa]; exact k68, by omega, hub, by simp only; omega, ru8⟩ (.c rfl (.c rfl (.c rfl (.c rfl (.c rfl (.c rfl (.c rfl (.c rfl (.c rfl (.c rfl (.n)))))))))))
      · clear ih2
        have hjn : j = pn := by omega
        subst hjn
        rw [← hws] at ru
        repeat (first | refine T_seq ?_ | refine T_region ?_ | refine T_cond_false rfl ?_ | refine T_inBlock ?_ | refine T_exit rfl ?_ | refine TL_add (hk := ?_) | refine TL_lt_f (hk := ?_) | refine TL_nil ?_ | refine TL_move (hk := ?_))
        exact ih (i + 1, u) w6 _ (by simp only; omega) ⟨e6, by simp only; omega, ru⟩ (.c rfl (.c rfl (.c rfl (.c rfl (.c rfl (.c rfl (.n)))))))
  · clear ih
    have hin : i = l.length := by omega
    rw [hin, List.take_length] at rx
    have hxl := rx.len
    rw [iv_len] at hxl
    have hwll := hwl l.length
    rw [List.take_length] at hwll
    repeat (first | refine T_seq ?_ | refine T_region ?_ | refine T_cond_false rfl ?_ | refine T_exit rfl ?_ | refine TL_lt_f (hk := ?_) | refine TL_nil ?_ | refine TL_move (hk := ?_))
    refine TL_call TE (hc := ISort_c x.1 x.2.1 x.2.2 _ _ _ rx (by omega)) (hk := ?_)
    rintro _ w2 ⟨rfl, m2, o2⟩
    repeat (first | refine T_seq ?_ | refine T_region ?_ | refine TL_nil ?_ | refine TL_move (hk := ?_))
    refine TL_call TE (hc := ICompact_c x.1 x.2.1 x.2.2 _ _ _ o2 (by omega)) (hk := ?_)
    rintro _ w3 ⟨rfl, m3, o3⟩
    rw [hend] at o3 ⊢
    repeat (first | refine TL_nil ?_ | refine TL_assign (hk := ?_))
    exact T_ret1 rfl rfl ⟨(x.1, (waitsE t s).length, x.2.2), rfl, Mod.own (Mod.own e1 m2 rx.hi) m3 rx.hi, o3⟩
end
end Go.Proofs.YtgdbckjkeofoaaaGreat
