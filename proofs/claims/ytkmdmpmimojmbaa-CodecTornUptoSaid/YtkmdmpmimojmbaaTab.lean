import Derived.Test.YtkmdmpmimojmbaaRows
import Derived.Test.YtkmdmpmimojmbaaEng9
/- The table of this translation: types and functions, each entry a closed fact. Written by program. -/
namespace Go.Proofs.Ytkmdmpmimojmbaa
open Go.Proofs.Eng
set_option linter.unusedSimpArgs false
set_option maxRecDepth 10000
def tUnd : List (Nat × TypeDesc) := [(1, .func #[] #[] false), (2, .int .i64), (3, .int .i64), (4, .bool), (5, .int .u8), (6, .int .u8), (9, .string), (10, .string), (11, .string), (12, .int .u64), (15, .pointer 91), (16, .pointer 94), (17, .pointer 102), (21, .int .i32), (22, .func #[23] #[3] false), (23, .int .i64), (24, .func #[] #[4] false), (25, .slice 5), (26, .int .u64), (27, .func #[25] #[25] false), (28, .func #[25, 26] #[25] false), (29, .func #[25, 2] #[25] false), (30, .func #[25, 9] #[25] false), (31, .func #[25, 25] #[4] false), (32, .func #[25, 26, 2, 9] #[4] false), (33, .int .u32), (35, .func #[25] #[25, 23] false), (36, .int .u64), (38, .func #[25] #[25, 3, 23] false), (39, .func #[25, 3, 33] #[4] false), (40, .pointer 76), (41, .func #[25] #[40] false), (42, .func #[] #[26] false), (43, .func #[] #[2] false), (44, .func #[3] #[9] false), (45, .func #[] #[3] false), (47, .func #[] #[23, 3] false), (48, .func #[26, 2, 9, 25] #[4] false), (50, .func #[25] #[25, 3] false), (52, .func #[25] #[25, 3, 3] false), (53, .slice 25), (55, .func #[25] #[53, 3, 23] false), (57, .func #[25] #[53, 3, 3] false), (58, .func #[25] #[33] false), (59, .func #[53, 25, 3] #[4] false), (60, .slice 65), (61, .pointer 67), (62, .func #[25] #[61] false), (63, .func #[40, 61, 65] #[4] false), (68, .func #[25, 60] #[4] false), (69, .func #[23] #[] false), (70, .func #[] #[5] false), (71, .func #[3] #[3] false), (72, .func #[] #[23] false), (73, .func #[3] #[4] false), (74, .func #[25, 33] #[25] false), (77, .func #[40, 42] #[26] false), (78, .func #[40, 43] #[2] false), (79, .func #[40, 83] #[9] false), (80, .func #[3, 23] #[3] false), (83, .func #[] #[9] false), (84, .func #[3] #[] false), (85, .func #[40, 70] #[5] false), (86, .func #[40, 45] #[3] false), (89, .func #[25] #[26, 3, 3] false), (92, .array 0 16), (95, .int .u8), (96, .int .u8), (97, .func #[103, 103] #[4] false), (98, .pointer 5), (99, .int .i32), (100, .int .i32), (103, .unsafePointer)]
def tInf : List (Nat × (Nat × Nat × Value)) := [(0, (1, 0, .tuple #[])), (1, (1, 8, .nilFunc)), (2, (1, 8, .int .i64 0)), (3, (1, 8, .int .i64 0)), (4, (1, 1, .bool false)), (5, (1, 1, .int .u8 0)), (6, (1, 1, .int .u8 0)), (7, (4, 24, .agg #[.int .i64 0, .int .i64 0, .bool false, .int .u8 0])), (8, (4, 24, .agg #[.int .i64 0, .int .i64 0, .bool false, .int .u8 0])), (9, (1, 16, .string ⟨#[]⟩)), (10, (1, 16, .string ⟨#[]⟩)), (11, (1, 16, .string ⟨#[]⟩)), (12, (1, 8, .int .u64 0)), (13, (2, 24, .agg #[.string ⟨#[]⟩, .int .u64 0])), (14, (2, 24, .agg #[.string ⟨#[]⟩, .int .u64 0])), (15, (1, 8, .pointer none)), (16, (1, 8, .pointer none)), (17, (1, 8, .pointer none)), (18, (1, 8, .agg #[.pointer none])), (19, (1, 8, .agg #[.pointer none])), (20, (1, 16, .nilIface)), (21, (1, 4, .int .i32 0)), (22, (1, 8, .nilFunc)), (23, (1, 8, .int .i64 0)), (24, (1, 8, .nilFunc)), (25, (1, 24, .slice none 0 0)), (26, (1, 8, .int .u64 0)), (27, (1, 8, .nilFunc)), (28, (1, 8, .nilFunc)), (29, (1, 8, .nilFunc)), (30, (1, 8, .nilFunc)), (31, (1, 8, .nilFunc)), (32, (1, 8, .nilFunc)), (33, (1, 4, .int .u32 0)), (34, (1, 0, .tuple #[.slice none 0 0, .int .i64 0])), (35, (1, 8, .nilFunc)), (36, (1, 8, .int .u64 0)), (37, (1, 0, .tuple #[.slice none 0 0, .int .i64 0, .int .i64 0])), (38, (1, 8, .nilFunc)), (39, (1, 8, .nilFunc)), (40, (1, 8, .pointer none)), (41, (1, 8, .nilFunc)), (42, (1, 8, .nilFunc)), (43, (1, 8, .nilFunc)), (44, (1, 8, .nilFunc)), (45, (1, 8, .nilFunc)), (46, (1, 0, .tuple #[.int .i64 0, .int .i64 0])), (47, (1, 8, .nilFunc)), (48, (1, 8, .nilFunc)), (49, (1, 0, .tuple #[.slice none 0 0, .int .i64 0])), (50, (1, 8, .nilFunc)), (51, (1, 0, .tuple #[.slice none 0 0, .int .i64 0, .int .i64 0])), (52, (1, 8, .nilFunc)), (53, (1, 24, .slice none 0 0)), (54, (1, 0, .tuple #[.slice none 0 0, .int .i64 0, .int .i64 0])), (55, (1, 8, .nilFunc)), (56, (1, 0, .tuple #[.slice none 0 0, .int .i64 0, .int .i64 0])), (57, (1, 8, .nilFunc)), (58, (1, 8, .nilFunc)), (59, (1, 8, .nilFunc)), (60, (1, 24, .slice none 0 0)), (61, (1, 8, .pointer none)), (62, (1, 8, .nilFunc)), (63, (1, 8, .nilFunc)), (64, (3, 24, .agg #[.int .i64 0, .int .i64 0, .int .i64 0])), (65, (3, 24, .agg #[.int .i64 0, .int .i64 0, .int .i64 0])), (66, (5, 56, .agg #[.slice none 0 0, .int .i64 0, .int .i64 0, .int .i64 0, .int .i64 0])), (67, (5, 56, .agg #[.slice none 0 0, .int .i64 0, .int .i64 0, .int .i64 0, .int .i64 0])), (68, (1, 8, .nilFunc)), (69, (1, 8, .nilFunc)), (70, (1, 8, .nilFunc)), (71, (1, 8, .nilFunc)), (72, (1, 8, .nilFunc)), (73, (1, 8, .nilFunc)), (74, (1, 8, .nilFunc)), (75, (5, 56, .agg #[.slice none 0 0, .int .i64 0, .int .i64 0, .int .i64 0, .int .i64 0])), (76, (5, 56, .agg #[.slice none 0 0, .int .i64 0, .int .i64 0, .int .i64 0, .int .i64 0])), (77, (1, 8, .nilFunc)), (78, (1, 8, .nilFunc)), (79, (1, 8, .nilFunc)), (80, (1, 8, .nilFunc)), (81, (1, 8, .agg #[.int .i64 0])), (82, (1, 8, .agg #[.int .i64 0])), (83, (1, 8, .nilFunc)), (84, (1, 8, .nilFunc)), (85, (1, 8, .nilFunc)), (86, (1, 8, .nilFunc)), (87, (1, 0, .tuple #[.agg #[.int .i64 0], .bool false])), (88, (1, 0, .tuple #[.int .u64 0, .int .i64 0, .int .i64 0])), (89, (1, 8, .nilFunc)), (90, (4, 40, .agg #[.pointer none, .pointer none, .pointer none, .string ⟨#[]⟩])), (91, (4, 40, .agg #[.pointer none, .pointer none, .pointer none, .string ⟨#[]⟩])), (92, (0, 0, .agg #[])), (93, (0, 0, .agg #[])), (94, (0, 0, .agg #[])), (95, (1, 1, .int .u8 0)), (96, (1, 1, .int .u8 0)), (97, (1, 8, .nilFunc)), (98, (1, 8, .pointer none)), (99, (1, 4, .int .i32 0)), (100, (1, 4, .int .i32 0)), (101, (11, 48, .agg #[.int .u64 0, .int .u64 0, .int .u32 0, .int .u8 0, .int .u8 0, .int .u8 0, .int .u8 0, .nilFunc, .pointer none, .int .i32 0, .int .i32 0])), (102, (11, 48, .agg #[.int .u64 0, .int .u64 0, .int .u32 0, .int .u8 0, .int .u8 0, .int .u8 0, .int .u8 0, .nilFunc, .pointer none, .int .i32 0, .int .i32 0])), (103, (1, 8, .pointer none))]
def tFld : List (Nat × (List (Nat × TypeId))) := [(7, [(0, 2), (1, 3), (2, 4), (3, 6)]), (8, [(0, 2), (1, 3), (2, 4), (3, 6)]), (13, [(0, 9), (1, 12)]), (14, [(0, 9), (1, 12)]), (18, [(0, 17)]), (19, [(0, 17)]), (64, [(0, 3), (1, 3), (2, 3)]), (65, [(0, 3), (1, 3), (2, 3)]), (66, [(0, 25), (1, 3), (2, 3), (3, 3), (4, 3)]), (67, [(0, 25), (1, 3), (2, 3), (3, 3), (4, 3)]), (75, [(0, 25), (1, 3), (2, 3), (3, 23), (4, 3)]), (76, [(0, 25), (1, 3), (2, 3), (3, 23), (4, 3)]), (81, [(0, 23)]), (82, [(0, 23)]), (90, [(0, 17), (1, 17), (2, 17), (3, 9)]), (91, [(0, 17), (1, 17), (2, 17), (3, 9)]), (93, [(0, 92)]), (94, [(0, 92)]), (101, [(0, 12), (1, 12), (2, 33), (3, 95), (4, 5), (5, 5), (6, 96), (7, 97), (8, 98), (9, 99), (10, 100)]), (102, [(0, 12), (1, 12), (2, 33), (3, 95), (4, 5), (5, 5), (6, 96), (7, 97), (8, 98), (9, 99), (10, 100)])]
def tFn : List (Nat × Bool) := [(2, true), (3, true), (4, true), (5, true), (6, true), (7, true), (8, true), (9, true), (10, true), (11, true), (12, true), (13, true), (14, true), (15, true), (16, true), (17, true), (18, true), (19, true), (20, true), (21, true), (22, true), (23, true), (24, true), (25, true), (26, true), (27, true), (28, true), (29, true), (30, true), (31, true), (32, true), (33, true), (34, true), (35, true), (36, true), (37, true), (38, true), (39, true), (40, true), (41, true), (42, true), (43, true), (44, true), (45, true), (46, true), (47, true), (48, true), (49, true), (50, true), (51, true), (52, true), (53, true), (54, true), (55, true), (56, true), (57, true), (58, true), (59, true), (60, true), (61, true), (62, true), (63, true), (64, true), (65, true), (66, true), (67, true), (68, true), (69, true), (70, true), (71, true), (72, true), (73, true)]
theorem tUnd_ok : ∀ p ∈ tUnd, Try.prog.underlying p.1 = some p.2 := by
  simp only [tUnd, tInf, tFld, tFn, List.forall_mem_cons, List.not_mem_nil, false_imp_iff, implies_true, and_true]
  refine ⟨?_, ?_, ?_, ?_, ?_, ?_, ?_, ?_, ?_, ?_, ?_, ?_, ?_, ?_, ?_, ?_, ?_, ?_, ?_, ?_, ?_, ?_, ?_, ?_, ?_, ?_, ?_, ?_, ?_, ?_, ?_, ?_, ?_, ?_, ?_, ?_, ?_, ?_, ?_, ?_, ?_, ?_, ?_, ?_, ?_, ?_, ?_, ?_, ?_, ?_, ?_, ?_, ?_, ?_, ?_, ?_, ?_, ?_, ?_, ?_, ?_, ?_, ?_, ?_, ?_, ?_, ?_, ?_, ?_, ?_, ?_, ?_, ?_⟩
  · exact Try.underlying1
  · exact Try.underlying2
  · exact Try.underlying3
  · exact Try.underlying4
  · exact Try.underlying5
  · exact Try.underlying6
  · exact Try.underlying9
  · exact Try.underlying10
  · exact Try.underlying11
  · exact Try.underlying12
  · exact Try.underlying15
  · exact Try.underlying16
  · exact Try.underlying17
  · exact Try.underlying21
  · exact Try.underlying22
  · exact Try.underlying23
  · exact Try.underlying24
  · exact Try.underlying25
  · exact Try.underlying26
  · exact Try.underlying27
  · exact Try.underlying28
  · exact Try.underlying29
  · exact Try.underlying30
  · exact Try.underlying31
  · exact Try.underlying32
  · exact Try.underlying33
  · exact Try.underlying35
  · exact Try.underlying36
  · exact Try.underlying38
  · exact Try.underlying39
  · exact Try.underlying40
  · exact Try.underlying41
  · exact Try.underlying42
  · exact Try.underlying43
  · exact Try.underlying44
  · exact Try.underlying45
  · exact Try.underlying47
  · exact Try.underlying48
  · exact Try.underlying50
  · exact Try.underlying52
  · exact Try.underlying53
  · exact Try.underlying55
  · exact Try.underlying57
  · exact Try.underlying58
  · exact Try.underlying59
  · exact Try.underlying60
  · exact Try.underlying61
  · exact Try.underlying62
  · exact Try.underlying63
  · exact Try.underlying68
  · exact Try.underlying69
  · exact Try.underlying70
  · exact Try.underlying71
  · exact Try.underlying72
  · exact Try.underlying73
  · exact Try.underlying74
  · exact Try.underlying77
  · exact Try.underlying78
  · exact Try.underlying79
  · exact Try.underlying80
  · exact Try.underlying83
  · exact Try.underlying84
  · exact Try.underlying85
  · exact Try.underlying86
  · exact Try.underlying89
  · exact Try.underlying92
  · exact Try.underlying95
  · exact Try.underlying96
  · exact Try.underlying97
  · exact Try.underlying98
  · exact Try.underlying99
  · exact Try.underlying100
  · exact Try.underlying103
theorem inf0 : (Try.prog.info? 0).map (fun i => (i.size, i.bytes, i.zero)) = some (1, 0, some (.tuple #[])) := by kernel_rfl
theorem inf1 : (Try.prog.info? 1).map (fun i => (i.size, i.bytes, i.zero)) = some (1, 8, some (.nilFunc)) := by kernel_rfl
theorem inf2 : (Try.prog.info? 2).map (fun i => (i.size, i.bytes, i.zero)) = some (1, 8, some (.int .i64 0)) := by kernel_rfl
theorem inf3 : (Try.prog.info? 3).map (fun i => (i.size, i.bytes, i.zero)) = some (1, 8, some (.int .i64 0)) := by kernel_rfl
theorem inf4 : (Try.prog.info? 4).map (fun i => (i.size, i.bytes, i.zero)) = some (1, 1, some (.bool false)) := by kernel_rfl
theorem inf5 : (Try.prog.info? 5).map (fun i => (i.size, i.bytes, i.zero)) = some (1, 1, some (.int .u8 0)) := by kernel_rfl
theorem inf6 : (Try.prog.info? 6).map (fun i => (i.size, i.bytes, i.zero)) = some (1, 1, some (.int .u8 0)) := by kernel_rfl
theorem inf7 : (Try.prog.info? 7).map (fun i => (i.size, i.bytes, i.zero)) = some (4, 24, some (.agg #[.int .i64 0, .int .i64 0, .bool false, .int .u8 0])) := by kernel_rfl
theorem inf8 : (Try.prog.info? 8).map (fun i => (i.size, i.bytes, i.zero)) = some (4, 24, some (.agg #[.int .i64 0, .int .i64 0, .bool false, .int .u8 0])) := by kernel_rfl
theorem inf9 : (Try.prog.info? 9).map (fun i => (i.size, i.bytes, i.zero)) = some (1, 16, some (.string ⟨#[]⟩)) := by kernel_rfl
theorem inf10 : (Try.prog.info? 10).map (fun i => (i.size, i.bytes, i.zero)) = some (1, 16, some (.string ⟨#[]⟩)) := by kernel_rfl
theorem inf11 : (Try.prog.info? 11).map (fun i => (i.size, i.bytes, i.zero)) = some (1, 16, some (.string ⟨#[]⟩)) := by kernel_rfl
theorem inf12 : (Try.prog.info? 12).map (fun i => (i.size, i.bytes, i.zero)) = some (1, 8, some (.int .u64 0)) := by kernel_rfl
theorem inf13 : (Try.prog.info? 13).map (fun i => (i.size, i.bytes, i.zero)) = some (2, 24, some (.agg #[.string ⟨#[]⟩, .int .u64 0])) := by kernel_rfl
theorem inf14 : (Try.prog.info? 14).map (fun i => (i.size, i.bytes, i.zero)) = some (2, 24, some (.agg #[.string ⟨#[]⟩, .int .u64 0])) := by kernel_rfl
theorem inf15 : (Try.prog.info? 15).map (fun i => (i.size, i.bytes, i.zero)) = some (1, 8, some (.pointer none)) := by kernel_rfl
theorem inf16 : (Try.prog.info? 16).map (fun i => (i.size, i.bytes, i.zero)) = some (1, 8, some (.pointer none)) := by kernel_rfl
theorem inf17 : (Try.prog.info? 17).map (fun i => (i.size, i.bytes, i.zero)) = some (1, 8, some (.pointer none)) := by kernel_rfl
theorem inf18 : (Try.prog.info? 18).map (fun i => (i.size, i.bytes, i.zero)) = some (1, 8, some (.agg #[.pointer none])) := by kernel_rfl
theorem inf19 : (Try.prog.info? 19).map (fun i => (i.size, i.bytes, i.zero)) = some (1, 8, some (.agg #[.pointer none])) := by kernel_rfl
theorem inf20 : (Try.prog.info? 20).map (fun i => (i.size, i.bytes, i.zero)) = some (1, 16, some (.nilIface)) := by kernel_rfl
theorem inf21 : (Try.prog.info? 21).map (fun i => (i.size, i.bytes, i.zero)) = some (1, 4, some (.int .i32 0)) := by kernel_rfl
theorem inf22 : (Try.prog.info? 22).map (fun i => (i.size, i.bytes, i.zero)) = some (1, 8, some (.nilFunc)) := by kernel_rfl
theorem inf23 : (Try.prog.info? 23).map (fun i => (i.size, i.bytes, i.zero)) = some (1, 8, some (.int .i64 0)) := by kernel_rfl
theorem inf24 : (Try.prog.info? 24).map (fun i => (i.size, i.bytes, i.zero)) = some (1, 8, some (.nilFunc)) := by kernel_rfl
theorem inf25 : (Try.prog.info? 25).map (fun i => (i.size, i.bytes, i.zero)) = some (1, 24, some (.slice none 0 0)) := by kernel_rfl
theorem inf26 : (Try.prog.info? 26).map (fun i => (i.size, i.bytes, i.zero)) = some (1, 8, some (.int .u64 0)) := by kernel_rfl
theorem inf27 : (Try.prog.info? 27).map (fun i => (i.size, i.bytes, i.zero)) = some (1, 8, some (.nilFunc)) := by kernel_rfl
theorem inf28 : (Try.prog.info? 28).map (fun i => (i.size, i.bytes, i.zero)) = some (1, 8, some (.nilFunc)) := by kernel_rfl
theorem inf29 : (Try.prog.info? 29).map (fun i => (i.size, i.bytes, i.zero)) = some (1, 8, some (.nilFunc)) := by kernel_rfl
theorem inf30 : (Try.prog.info? 30).map (fun i => (i.size, i.bytes, i.zero)) = some (1, 8, some (.nilFunc)) := by kernel_rfl
theorem inf31 : (Try.prog.info? 31).map (fun i => (i.size, i.bytes, i.zero)) = some (1, 8, some (.nilFunc)) := by kernel_rfl
theorem inf32 : (Try.prog.info? 32).map (fun i => (i.size, i.bytes, i.zero)) = some (1, 8, some (.nilFunc)) := by kernel_rfl
theorem inf33 : (Try.prog.info? 33).map (fun i => (i.size, i.bytes, i.zero)) = some (1, 4, some (.int .u32 0)) := by kernel_rfl
theorem inf34 : (Try.prog.info? 34).map (fun i => (i.size, i.bytes, i.zero)) = some (1, 0, some (.tuple #[.slice none 0 0, .int .i64 0])) := by kernel_rfl
theorem inf35 : (Try.prog.info? 35).map (fun i => (i.size, i.bytes, i.zero)) = some (1, 8, some (.nilFunc)) := by kernel_rfl
theorem inf36 : (Try.prog.info? 36).map (fun i => (i.size, i.bytes, i.zero)) = some (1, 8, some (.int .u64 0)) := by kernel_rfl
theorem inf37 : (Try.prog.info? 37).map (fun i => (i.size, i.bytes, i.zero)) = some (1, 0, some (.tuple #[.slice none 0 0, .int .i64 0, .int .i64 0])) := by kernel_rfl
theorem inf38 : (Try.prog.info? 38).map (fun i => (i.size, i.bytes, i.zero)) = some (1, 8, some (.nilFunc)) := by kernel_rfl
theorem inf39 : (Try.prog.info? 39).map (fun i => (i.size, i.bytes, i.zero)) = some (1, 8, some (.nilFunc)) := by kernel_rfl
theorem inf40 : (Try.prog.info? 40).map (fun i => (i.size, i.bytes, i.zero)) = some (1, 8, some (.pointer none)) := by kernel_rfl
theorem inf41 : (Try.prog.info? 41).map (fun i => (i.size, i.bytes, i.zero)) = some (1, 8, some (.nilFunc)) := by kernel_rfl
theorem inf42 : (Try.prog.info? 42).map (fun i => (i.size, i.bytes, i.zero)) = some (1, 8, some (.nilFunc)) := by kernel_rfl
theorem inf43 : (Try.prog.info? 43).map (fun i => (i.size, i.bytes, i.zero)) = some (1, 8, some (.nilFunc)) := by kernel_rfl
theorem inf44 : (Try.prog.info? 44).map (fun i => (i.size, i.bytes, i.zero)) = some (1, 8, some (.nilFunc)) := by kernel_rfl
theorem inf45 : (Try.prog.info? 45).map (fun i => (i.size, i.bytes, i.zero)) = some (1, 8, some (.nilFunc)) := by kernel_rfl
theorem inf46 : (Try.prog.info? 46).map (fun i => (i.size, i.bytes, i.zero)) = some (1, 0, some (.tuple #[.int .i64 0, .int .i64 0])) := by kernel_rfl
theorem inf47 : (Try.prog.info? 47).map (fun i => (i.size, i.bytes, i.zero)) = some (1, 8, some (.nilFunc)) := by kernel_rfl
theorem inf48 : (Try.prog.info? 48).map (fun i => (i.size, i.bytes, i.zero)) = some (1, 8, some (.nilFunc)) := by kernel_rfl
theorem inf49 : (Try.prog.info? 49).map (fun i => (i.size, i.bytes, i.zero)) = some (1, 0, some (.tuple #[.slice none 0 0, .int .i64 0])) := by kernel_rfl
theorem inf50 : (Try.prog.info? 50).map (fun i => (i.size, i.bytes, i.zero)) = some (1, 8, some (.nilFunc)) := by kernel_rfl
theorem inf51 : (Try.prog.info? 51).map (fun i => (i.size, i.bytes, i.zero)) = some (1, 0, some (.tuple #[.slice none 0 0, .int .i64 0, .int .i64 0])) := by kernel_rfl
theorem inf52 : (Try.prog.info? 52).map (fun i => (i.size, i.bytes, i.zero)) = some (1, 8, some (.nilFunc)) := by kernel_rfl
theorem inf53 : (Try.prog.info? 53).map (fun i => (i.size, i.bytes, i.zero)) = some (1, 24, some (.slice none 0 0)) := by kernel_rfl
theorem inf54 : (Try.prog.info? 54).map (fun i => (i.size, i.bytes, i.zero)) = some (1, 0, some (.tuple #[.slice none 0 0, .int .i64 0, .int .i64 0])) := by kernel_rfl
theorem inf55 : (Try.prog.info? 55).map (fun i => (i.size, i.bytes, i.zero)) = some (1, 8, some (.nilFunc)) := by kernel_rfl
theorem inf56 : (Try.prog.info? 56).map (fun i => (i.size, i.bytes, i.zero)) = some (1, 0, some (.tuple #[.slice none 0 0, .int .i64 0, .int .i64 0])) := by kernel_rfl
theorem inf57 : (Try.prog.info? 57).map (fun i => (i.size, i.bytes, i.zero)) = some (1, 8, some (.nilFunc)) := by kernel_rfl
theorem inf58 : (Try.prog.info? 58).map (fun i => (i.size, i.bytes, i.zero)) = some (1, 8, some (.nilFunc)) := by kernel_rfl
theorem inf59 : (Try.prog.info? 59).map (fun i => (i.size, i.bytes, i.zero)) = some (1, 8, some (.nilFunc)) := by kernel_rfl
theorem inf60 : (Try.prog.info? 60).map (fun i => (i.size, i.bytes, i.zero)) = some (1, 24, some (.slice none 0 0)) := by kernel_rfl
theorem inf61 : (Try.prog.info? 61).map (fun i => (i.size, i.bytes, i.zero)) = some (1, 8, some (.pointer none)) := by kernel_rfl
theorem inf62 : (Try.prog.info? 62).map (fun i => (i.size, i.bytes, i.zero)) = some (1, 8, some (.nilFunc)) := by kernel_rfl
theorem inf63 : (Try.prog.info? 63).map (fun i => (i.size, i.bytes, i.zero)) = some (1, 8, some (.nilFunc)) := by kernel_rfl
theorem inf64 : (Try.prog.info? 64).map (fun i => (i.size, i.bytes, i.zero)) = some (3, 24, some (.agg #[.int .i64 0, .int .i64 0, .int .i64 0])) := by kernel_rfl
theorem inf65 : (Try.prog.info? 65).map (fun i => (i.size, i.bytes, i.zero)) = some (3, 24, some (.agg #[.int .i64 0, .int .i64 0, .int .i64 0])) := by kernel_rfl
theorem inf66 : (Try.prog.info? 66).map (fun i => (i.size, i.bytes, i.zero)) = some (5, 56, some (.agg #[.slice none 0 0, .int .i64 0, .int .i64 0, .int .i64 0, .int .i64 0])) := by kernel_rfl
theorem inf67 : (Try.prog.info? 67).map (fun i => (i.size, i.bytes, i.zero)) = some (5, 56, some (.agg #[.slice none 0 0, .int .i64 0, .int .i64 0, .int .i64 0, .int .i64 0])) := by kernel_rfl
theorem inf68 : (Try.prog.info? 68).map (fun i => (i.size, i.bytes, i.zero)) = some (1, 8, some (.nilFunc)) := by kernel_rfl
theorem inf69 : (Try.prog.info? 69).map (fun i => (i.size, i.bytes, i.zero)) = some (1, 8, some (.nilFunc)) := by kernel_rfl
theorem inf70 : (Try.prog.info? 70).map (fun i => (i.size, i.bytes, i.zero)) = some (1, 8, some (.nilFunc)) := by kernel_rfl
theorem inf71 : (Try.prog.info? 71).map (fun i => (i.size, i.bytes, i.zero)) = some (1, 8, some (.nilFunc)) := by kernel_rfl
theorem inf72 : (Try.prog.info? 72).map (fun i => (i.size, i.bytes, i.zero)) = some (1, 8, some (.nilFunc)) := by kernel_rfl
theorem inf73 : (Try.prog.info? 73).map (fun i => (i.size, i.bytes, i.zero)) = some (1, 8, some (.nilFunc)) := by kernel_rfl
theorem inf74 : (Try.prog.info? 74).map (fun i => (i.size, i.bytes, i.zero)) = some (1, 8, some (.nilFunc)) := by kernel_rfl
theorem inf75 : (Try.prog.info? 75).map (fun i => (i.size, i.bytes, i.zero)) = some (5, 56, some (.agg #[.slice none 0 0, .int .i64 0, .int .i64 0, .int .i64 0, .int .i64 0])) := by kernel_rfl
theorem inf76 : (Try.prog.info? 76).map (fun i => (i.size, i.bytes, i.zero)) = some (5, 56, some (.agg #[.slice none 0 0, .int .i64 0, .int .i64 0, .int .i64 0, .int .i64 0])) := by kernel_rfl
theorem inf77 : (Try.prog.info? 77).map (fun i => (i.size, i.bytes, i.zero)) = some (1, 8, some (.nilFunc)) := by kernel_rfl
theorem inf78 : (Try.prog.info? 78).map (fun i => (i.size, i.bytes, i.zero)) = some (1, 8, some (.nilFunc)) := by kernel_rfl
theorem inf79 : (Try.prog.info? 79).map (fun i => (i.size, i.bytes, i.zero)) = some (1, 8, some (.nilFunc)) := by kernel_rfl
theorem inf80 : (Try.prog.info? 80).map (fun i => (i.size, i.bytes, i.zero)) = some (1, 8, some (.nilFunc)) := by kernel_rfl
theorem inf81 : (Try.prog.info? 81).map (fun i => (i.size, i.bytes, i.zero)) = some (1, 8, some (.agg #[.int .i64 0])) := by kernel_rfl
theorem inf82 : (Try.prog.info? 82).map (fun i => (i.size, i.bytes, i.zero)) = some (1, 8, some (.agg #[.int .i64 0])) := by kernel_rfl
theorem inf83 : (Try.prog.info? 83).map (fun i => (i.size, i.bytes, i.zero)) = some (1, 8, some (.nilFunc)) := by kernel_rfl
theorem inf84 : (Try.prog.info? 84).map (fun i => (i.size, i.bytes, i.zero)) = some (1, 8, some (.nilFunc)) := by kernel_rfl
theorem inf85 : (Try.prog.info? 85).map (fun i => (i.size, i.bytes, i.zero)) = some (1, 8, some (.nilFunc)) := by kernel_rfl
theorem inf86 : (Try.prog.info? 86).map (fun i => (i.size, i.bytes, i.zero)) = some (1, 8, some (.nilFunc)) := by kernel_rfl
theorem inf87 : (Try.prog.info? 87).map (fun i => (i.size, i.bytes, i.zero)) = some (1, 0, some (.tuple #[.agg #[.int .i64 0], .bool false])) := by kernel_rfl
theorem inf88 : (Try.prog.info? 88).map (fun i => (i.size, i.bytes, i.zero)) = some (1, 0, some (.tuple #[.int .u64 0, .int .i64 0, .int .i64 0])) := by kernel_rfl
theorem inf89 : (Try.prog.info? 89).map (fun i => (i.size, i.bytes, i.zero)) = some (1, 8, some (.nilFunc)) := by kernel_rfl
theorem inf90 : (Try.prog.info? 90).map (fun i => (i.size, i.bytes, i.zero)) = some (4, 40, some (.agg #[.pointer none, .pointer none, .pointer none, .string ⟨#[]⟩])) := by kernel_rfl
theorem inf91 : (Try.prog.info? 91).map (fun i => (i.size, i.bytes, i.zero)) = some (4, 40, some (.agg #[.pointer none, .pointer none, .pointer none, .string ⟨#[]⟩])) := by kernel_rfl
theorem inf92 : (Try.prog.info? 92).map (fun i => (i.size, i.bytes, i.zero)) = some (0, 0, some (.agg #[])) := by kernel_rfl
theorem inf93 : (Try.prog.info? 93).map (fun i => (i.size, i.bytes, i.zero)) = some (0, 0, some (.agg #[])) := by kernel_rfl
theorem inf94 : (Try.prog.info? 94).map (fun i => (i.size, i.bytes, i.zero)) = some (0, 0, some (.agg #[])) := by kernel_rfl
theorem inf95 : (Try.prog.info? 95).map (fun i => (i.size, i.bytes, i.zero)) = some (1, 1, some (.int .u8 0)) := by kernel_rfl
theorem inf96 : (Try.prog.info? 96).map (fun i => (i.size, i.bytes, i.zero)) = some (1, 1, some (.int .u8 0)) := by kernel_rfl
theorem inf97 : (Try.prog.info? 97).map (fun i => (i.size, i.bytes, i.zero)) = some (1, 8, some (.nilFunc)) := by kernel_rfl
theorem inf98 : (Try.prog.info? 98).map (fun i => (i.size, i.bytes, i.zero)) = some (1, 8, some (.pointer none)) := by kernel_rfl
theorem inf99 : (Try.prog.info? 99).map (fun i => (i.size, i.bytes, i.zero)) = some (1, 4, some (.int .i32 0)) := by kernel_rfl
theorem inf100 : (Try.prog.info? 100).map (fun i => (i.size, i.bytes, i.zero)) = some (1, 4, some (.int .i32 0)) := by kernel_rfl
theorem inf101 : (Try.prog.info? 101).map (fun i => (i.size, i.bytes, i.zero)) = some (11, 48, some (.agg #[.int .u64 0, .int .u64 0, .int .u32 0, .int .u8 0, .int .u8 0, .int .u8 0, .int .u8 0, .nilFunc, .pointer none, .int .i32 0, .int .i32 0])) := by kernel_rfl
theorem inf102 : (Try.prog.info? 102).map (fun i => (i.size, i.bytes, i.zero)) = some (11, 48, some (.agg #[.int .u64 0, .int .u64 0, .int .u32 0, .int .u8 0, .int .u8 0, .int .u8 0, .int .u8 0, .nilFunc, .pointer none, .int .i32 0, .int .i32 0])) := by kernel_rfl
theorem inf103 : (Try.prog.info? 103).map (fun i => (i.size, i.bytes, i.zero)) = some (1, 8, some (.pointer none)) := by kernel_rfl
theorem tInf_ok : ∀ p ∈ tInf, ∃ i, Try.prog.info? p.1 = some i ∧ i.size = p.2.1 ∧ i.bytes = p.2.2.1 ∧ i.zero = some p.2.2.2 := by
  simp only [tUnd, tInf, tFld, tFn, List.forall_mem_cons, List.not_mem_nil, false_imp_iff, implies_true, and_true]
  refine ⟨?_, ?_, ?_, ?_, ?_, ?_, ?_, ?_, ?_, ?_, ?_, ?_, ?_, ?_, ?_, ?_, ?_, ?_, ?_, ?_, ?_, ?_, ?_, ?_, ?_, ?_, ?_, ?_, ?_, ?_, ?_, ?_, ?_, ?_, ?_, ?_, ?_, ?_, ?_, ?_, ?_, ?_, ?_, ?_, ?_, ?_, ?_, ?_, ?_, ?_, ?_, ?_, ?_, ?_, ?_, ?_, ?_, ?_, ?_, ?_, ?_, ?_, ?_, ?_, ?_, ?_, ?_, ?_, ?_, ?_, ?_, ?_, ?_, ?_, ?_, ?_, ?_, ?_, ?_, ?_, ?_, ?_, ?_, ?_, ?_, ?_, ?_, ?_, ?_, ?_, ?_, ?_, ?_, ?_, ?_, ?_, ?_, ?_, ?_, ?_, ?_, ?_, ?_, ?_⟩
  · exact inf_of inf0
  · exact inf_of inf1
  · exact inf_of inf2
  · exact inf_of inf3
  · exact inf_of inf4
  · exact inf_of inf5
  · exact inf_of inf6
  · exact inf_of inf7
  · exact inf_of inf8
  · exact inf_of inf9
  · exact inf_of inf10
  · exact inf_of inf11
  · exact inf_of inf12
  · exact inf_of inf13
  · exact inf_of inf14
  · exact inf_of inf15
  · exact inf_of inf16
  · exact inf_of inf17
  · exact inf_of inf18
  · exact inf_of inf19
  · exact inf_of inf20
  · exact inf_of inf21
  · exact inf_of inf22
  · exact inf_of inf23
  · exact inf_of inf24
  · exact inf_of inf25
  · exact inf_of inf26
  · exact inf_of inf27
  · exact inf_of inf28
  · exact inf_of inf29
  · exact inf_of inf30
  · exact inf_of inf31
  · exact inf_of inf32
  · exact inf_of inf33
  · exact inf_of inf34
  · exact inf_of inf35
  · exact inf_of inf36
  · exact inf_of inf37
  · exact inf_of inf38
  · exact inf_of inf39
  · exact inf_of inf40
  · exact inf_of inf41
  · exact inf_of inf42
  · exact inf_of inf43
  · exact inf_of inf44
  · exact inf_of inf45
  · exact inf_of inf46
  · exact inf_of inf47
  · exact inf_of inf48
  · exact inf_of inf49
  · exact inf_of inf50
  · exact inf_of inf51
  · exact inf_of inf52
  · exact inf_of inf53
  · exact inf_of inf54
  · exact inf_of inf55
  · exact inf_of inf56
  · exact inf_of inf57
  · exact inf_of inf58
  · exact inf_of inf59
  · exact inf_of inf60
  · exact inf_of inf61
  · exact inf_of inf62
  · exact inf_of inf63
  · exact inf_of inf64
  · exact inf_of inf65
  · exact inf_of inf66
  · exact inf_of inf67
  · exact inf_of inf68
  · exact inf_of inf69
  · exact inf_of inf70
  · exact inf_of inf71
  · exact inf_of inf72
  · exact inf_of inf73
  · exact inf_of inf74
  · exact inf_of inf75
  · exact inf_of inf76
  · exact inf_of inf77
  · exact inf_of inf78
  · exact inf_of inf79
  · exact inf_of inf80
  · exact inf_of inf81
  · exact inf_of inf82
  · exact inf_of inf83
  · exact inf_of inf84
  · exact inf_of inf85
  · exact inf_of inf86
  · exact inf_of inf87
  · exact inf_of inf88
  · exact inf_of inf89
  · exact inf_of inf90
  · exact inf_of inf91
  · exact inf_of inf92
  · exact inf_of inf93
  · exact inf_of inf94
  · exact inf_of inf95
  · exact inf_of inf96
  · exact inf_of inf97
  · exact inf_of inf98
  · exact inf_of inf99
  · exact inf_of inf100
  · exact inf_of inf101
  · exact inf_of inf102
  · exact inf_of inf103
theorem fld7 : (Try.prog.underlying 7).bind (fun d => match d with | .struct fs => some (fs.toList.map (fun f => (f.offset, f.type))) | _ => none) = some [(0, 2), (1, 3), (2, 4), (3, 6)] := by kernel_rfl
theorem fld8 : (Try.prog.underlying 8).bind (fun d => match d with | .struct fs => some (fs.toList.map (fun f => (f.offset, f.type))) | _ => none) = some [(0, 2), (1, 3), (2, 4), (3, 6)] := by kernel_rfl
theorem fld13 : (Try.prog.underlying 13).bind (fun d => match d with | .struct fs => some (fs.toList.map (fun f => (f.offset, f.type))) | _ => none) = some [(0, 9), (1, 12)] := by kernel_rfl
theorem fld14 : (Try.prog.underlying 14).bind (fun d => match d with | .struct fs => some (fs.toList.map (fun f => (f.offset, f.type))) | _ => none) = some [(0, 9), (1, 12)] := by kernel_rfl
theorem fld18 : (Try.prog.underlying 18).bind (fun d => match d with | .struct fs => some (fs.toList.map (fun f => (f.offset, f.type))) | _ => none) = some [(0, 17)] := by kernel_rfl
theorem fld19 : (Try.prog.underlying 19).bind (fun d => match d with | .struct fs => some (fs.toList.map (fun f => (f.offset, f.type))) | _ => none) = some [(0, 17)] := by kernel_rfl
theorem fld64 : (Try.prog.underlying 64).bind (fun d => match d with | .struct fs => some (fs.toList.map (fun f => (f.offset, f.type))) | _ => none) = some [(0, 3), (1, 3), (2, 3)] := by kernel_rfl
theorem fld65 : (Try.prog.underlying 65).bind (fun d => match d with | .struct fs => some (fs.toList.map (fun f => (f.offset, f.type))) | _ => none) = some [(0, 3), (1, 3), (2, 3)] := by kernel_rfl
theorem fld66 : (Try.prog.underlying 66).bind (fun d => match d with | .struct fs => some (fs.toList.map (fun f => (f.offset, f.type))) | _ => none) = some [(0, 25), (1, 3), (2, 3), (3, 3), (4, 3)] := by kernel_rfl
theorem fld67 : (Try.prog.underlying 67).bind (fun d => match d with | .struct fs => some (fs.toList.map (fun f => (f.offset, f.type))) | _ => none) = some [(0, 25), (1, 3), (2, 3), (3, 3), (4, 3)] := by kernel_rfl
theorem fld75 : (Try.prog.underlying 75).bind (fun d => match d with | .struct fs => some (fs.toList.map (fun f => (f.offset, f.type))) | _ => none) = some [(0, 25), (1, 3), (2, 3), (3, 23), (4, 3)] := by kernel_rfl
theorem fld76 : (Try.prog.underlying 76).bind (fun d => match d with | .struct fs => some (fs.toList.map (fun f => (f.offset, f.type))) | _ => none) = some [(0, 25), (1, 3), (2, 3), (3, 23), (4, 3)] := by kernel_rfl
theorem fld81 : (Try.prog.underlying 81).bind (fun d => match d with | .struct fs => some (fs.toList.map (fun f => (f.offset, f.type))) | _ => none) = some [(0, 23)] := by kernel_rfl
theorem fld82 : (Try.prog.underlying 82).bind (fun d => match d with | .struct fs => some (fs.toList.map (fun f => (f.offset, f.type))) | _ => none) = some [(0, 23)] := by kernel_rfl
theorem fld90 : (Try.prog.underlying 90).bind (fun d => match d with | .struct fs => some (fs.toList.map (fun f => (f.offset, f.type))) | _ => none) = some [(0, 17), (1, 17), (2, 17), (3, 9)] := by kernel_rfl
theorem fld91 : (Try.prog.underlying 91).bind (fun d => match d with | .struct fs => some (fs.toList.map (fun f => (f.offset, f.type))) | _ => none) = some [(0, 17), (1, 17), (2, 17), (3, 9)] := by kernel_rfl
theorem fld93 : (Try.prog.underlying 93).bind (fun d => match d with | .struct fs => some (fs.toList.map (fun f => (f.offset, f.type))) | _ => none) = some [(0, 92)] := by kernel_rfl
theorem fld94 : (Try.prog.underlying 94).bind (fun d => match d with | .struct fs => some (fs.toList.map (fun f => (f.offset, f.type))) | _ => none) = some [(0, 92)] := by kernel_rfl
theorem fld101 : (Try.prog.underlying 101).bind (fun d => match d with | .struct fs => some (fs.toList.map (fun f => (f.offset, f.type))) | _ => none) = some [(0, 12), (1, 12), (2, 33), (3, 95), (4, 5), (5, 5), (6, 96), (7, 97), (8, 98), (9, 99), (10, 100)] := by kernel_rfl
theorem fld102 : (Try.prog.underlying 102).bind (fun d => match d with | .struct fs => some (fs.toList.map (fun f => (f.offset, f.type))) | _ => none) = some [(0, 12), (1, 12), (2, 33), (3, 95), (4, 5), (5, 5), (6, 96), (7, 97), (8, 98), (9, 99), (10, 100)] := by kernel_rfl
theorem tFld_ok : ∀ p ∈ tFld, ∃ fs, Try.prog.underlying p.1 = some (.struct fs) ∧ fs.toList.map (fun f => (f.offset, f.type)) = p.2 := by
  simp only [tUnd, tInf, tFld, tFn, List.forall_mem_cons, List.not_mem_nil, false_imp_iff, implies_true, and_true]
  refine ⟨?_, ?_, ?_, ?_, ?_, ?_, ?_, ?_, ?_, ?_, ?_, ?_, ?_, ?_, ?_, ?_, ?_, ?_, ?_, ?_⟩
  · exact fld_of fld7
  · exact fld_of fld8
  · exact fld_of fld13
  · exact fld_of fld14
  · exact fld_of fld18
  · exact fld_of fld19
  · exact fld_of fld64
  · exact fld_of fld65
  · exact fld_of fld66
  · exact fld_of fld67
  · exact fld_of fld75
  · exact fld_of fld76
  · exact fld_of fld81
  · exact fld_of fld82
  · exact fld_of fld90
  · exact fld_of fld91
  · exact fld_of fld93
  · exact fld_of fld94
  · exact fld_of fld101
  · exact fld_of fld102
theorem tFn_ok : ∀ p ∈ tFn, ∀ args w, (callFunc p.1 args).run Try.prog w = .ok (.enter p.1 args) w := by
  simp only [tUnd, tInf, tFld, tFn, List.forall_mem_cons, List.not_mem_nil, false_imp_iff, implies_true, and_true]
  refine ⟨?_, ?_, ?_, ?_, ?_, ?_, ?_, ?_, ?_, ?_, ?_, ?_, ?_, ?_, ?_, ?_, ?_, ?_, ?_, ?_, ?_, ?_, ?_, ?_, ?_, ?_, ?_, ?_, ?_, ?_, ?_, ?_, ?_, ?_, ?_, ?_, ?_, ?_, ?_, ?_, ?_, ?_, ?_, ?_, ?_, ?_, ?_, ?_, ?_, ?_, ?_, ?_, ?_, ?_, ?_, ?_, ?_, ?_, ?_, ?_, ?_, ?_, ?_, ?_, ?_, ?_, ?_, ?_, ?_, ?_, ?_, ?_⟩
  · exact run_enter Try.func2 (by kernel_rfl) rfl
  · exact run_enter Try.func3 (by kernel_rfl) rfl
  · exact run_enter Try.func4 (by kernel_rfl) rfl
  · exact run_enter Try.func5 (by kernel_rfl) rfl
  · exact run_enter Try.func6 (by kernel_rfl) rfl
  · exact run_enter Try.func7 (by kernel_rfl) rfl
  · exact run_enter Try.func8 (by kernel_rfl) rfl
  · exact run_enter Try.func9 (by kernel_rfl) rfl
  · exact run_enter Try.func10 (by kernel_rfl) rfl
  · exact run_enter Try.func11 (by kernel_rfl) rfl
  · exact run_enter Try.func12 (by kernel_rfl) rfl
  · exact run_enter Try.func13 (by kernel_rfl) rfl
  · exact run_enter Try.func14 (by kernel_rfl) rfl
  · exact run_enter Try.func15 (by kernel_rfl) rfl
  · exact run_enter Try.func16 (by kernel_rfl) rfl
  · exact run_enter Try.func17 (by kernel_rfl) rfl
  · exact run_enter Try.func18 (by kernel_rfl) rfl
  · exact run_enter Try.func19 (by kernel_rfl) rfl
  · exact run_enter Try.func20 (by kernel_rfl) rfl
  · exact run_enter Try.func21 (by kernel_rfl) rfl
  · exact run_enter Try.func22 (by kernel_rfl) rfl
  · exact run_enter Try.func23 (by kernel_rfl) rfl
  · exact run_enter Try.func24 (by kernel_rfl) rfl
  · exact run_enter Try.func25 (by kernel_rfl) rfl
  · exact run_enter Try.func26 (by kernel_rfl) rfl
  · exact run_enter Try.func27 (by kernel_rfl) rfl
  · exact run_enter Try.func28 (by kernel_rfl) rfl
  · exact run_enter Try.func29 (by kernel_rfl) rfl
  · exact run_enter Try.func30 (by kernel_rfl) rfl
  · exact run_enter Try.func31 (by kernel_rfl) rfl
  · exact run_enter Try.func32 (by kernel_rfl) rfl
  · exact run_enter Try.func33 (by kernel_rfl) rfl
  · exact run_enter Try.func34 (by kernel_rfl) rfl
  · exact run_enter Try.func35 (by kernel_rfl) rfl
  · exact run_enter Try.func36 (by kernel_rfl) rfl
  · exact run_enter Try.func37 (by kernel_rfl) rfl
  · exact run_enter Try.func38 (by kernel_rfl) rfl
  · exact run_enter Try.func39 (by kernel_rfl) rfl
  · exact run_enter Try.func40 (by kernel_rfl) rfl
  · exact run_enter Try.func41 (by kernel_rfl) rfl
  · exact run_enter Try.func42 (by kernel_rfl) rfl
  · exact run_enter Try.func43 (by kernel_rfl) rfl
  · exact run_enter Try.func44 (by kernel_rfl) rfl
  · exact run_enter Try.func45 (by kernel_rfl) rfl
  · exact run_enter Try.func46 (by kernel_rfl) rfl
  · exact run_enter Try.func47 (by kernel_rfl) rfl
  · exact run_enter Try.func48 (by kernel_rfl) rfl
  · exact run_enter Try.func49 (by kernel_rfl) rfl
  · exact run_enter Try.func50 (by kernel_rfl) rfl
  · exact run_enter Try.func51 (by kernel_rfl) rfl
  · exact run_enter Try.func52 (by kernel_rfl) rfl
  · exact run_enter Try.func53 (by kernel_rfl) rfl
  · exact run_enter Try.func54 (by kernel_rfl) rfl
  · exact run_enter Try.func55 (by kernel_rfl) rfl
  · exact run_enter Try.func56 (by kernel_rfl) rfl
  · exact run_enter Try.func57 (by kernel_rfl) rfl
  · exact run_enter Try.func58 (by kernel_rfl) rfl
  · exact run_enter Try.func59 (by kernel_rfl) rfl
  · exact run_enter Try.func60 (by kernel_rfl) rfl
  · exact run_enter Try.func61 (by kernel_rfl) rfl
  · exact run_enter Try.func62 (by kernel_rfl) rfl
  · exact run_enter Try.func63 (by kernel_rfl) rfl
  · exact run_enter Try.func64 (by kernel_rfl) rfl
  · exact run_enter Try.func65 (by kernel_rfl) rfl
  · exact run_enter Try.func66 (by kernel_rfl) rfl
  · exact run_enter Try.func67 (by kernel_rfl) rfl
  · exact run_enter Try.func68 (by kernel_rfl) rfl
  · exact run_enter Try.func69 (by kernel_rfl) rfl
  · exact run_enter Try.func70 (by kernel_rfl) rfl
  · exact run_enter Try.func71 (by kernel_rfl) rfl
  · exact run_enter Try.func72 (by kernel_rfl) rfl
  · exact run_enter Try.func73 (by kernel_rfl) rfl
theorem ifc20 : (match Try.prog.underlying 20 with | some (.interface _) => true | _ => false) = true := by kernel_rfl
def tIfc : List (Nat × Bool) := [(20, true)]
theorem tIfc_ok : ∀ p ∈ tIfc, ∃ ms, Try.prog.underlying p.1 = some (.interface ms) := by
  simp only [tUnd, tInf, tFld, tFn, tIfc, List.forall_mem_cons, List.not_mem_nil, false_imp_iff, implies_true, and_true]
  · exact ifc_of ifc20
theorem follows_mixed : Try.prog.follows .mixedOrders = true := by kernel_rfl
def TE : Env Try.prog where
  und := look2 tUnd
  und_ok := look2_ok (Q := fun t d => Try.prog.underlying t = some d) tUnd tUnd_ok
  inf := look2 tInf
  inf_ok := fun t s b z h => look2_ok (Q := fun t (x : Nat × Nat × Value) => ∃ i, Try.prog.info? t = some i ∧ i.size = x.1 ∧ i.bytes = x.2.1 ∧ i.zero = some x.2.2) tInf tInf_ok t (s, b, z) h
  fld := look2 tFld
  fld_ok := look2_ok (Q := fun t l => ∃ fs, Try.prog.underlying t = some (.struct fs) ∧ fs.toList.map (fun f => (f.offset, f.type)) = l) tFld tFld_ok
  fn := fun g => (look2 tFn g).isSome
  fn_ok := fun g h => by
    obtain ⟨b, hb⟩ := Option.isSome_iff_exists.1 h
    exact look2_ok (Q := fun g _ => ∀ args w, (callFunc g args).run Try.prog w = .ok (.enter g args) w) tFn tFn_ok g b hb
  mixed := follows_mixed
  ifc := fun t => (look2 tIfc t).isSome
  ifc_ok := fun t h => by
    obtain ⟨b, hb⟩ := Option.isSome_iff_exists.1 h
    exact look2_ok (Q := fun t _ => ∃ ms, Try.prog.underlying t = some (.interface ms)) tIfc tIfc_ok t b hb
end Go.Proofs.Ytkmdmpmimojmbaa
