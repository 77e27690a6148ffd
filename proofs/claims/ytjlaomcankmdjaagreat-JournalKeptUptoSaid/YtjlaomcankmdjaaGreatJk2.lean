import Derived.Test.YtjlaomcankmdjaaGreatJk1
import Derived.Shelf.SlIterI.Nil
import Derived.Shelf.SlIterI.Sorted
import Derived.Shelf.SlIterI.Collect
import Derived.Shelf.SortM.Plain
import Derived.Shelf.SortM.SortNone
import Derived.Test.YtjlaomcankmdjaaGreatRows
import Derived.Lib.Bytealg
import Derived.Conc.MuLone
import Derived.KernelRfl
import Derived.Laws.StructEq
/- Parts: Eng25 Eng26 Eng27 VSpec Tab FSpec FSpec2 FSpec3 FSpec4 FLaw1 FSpec5 PSpec GSpec FSpec6 GSpec2 CLaw1 JMu Eng38 JMem CW1 JW1 Eng10 Eng29 Eng30 Eng31 Eng32 JW2 JW3 JW4 JW5 RJMem RJW1 RJW2 RJW3 CW2 CW4 VW1 VW2 VW3. -/
set_option linter.unusedSimpArgs false
set_option linter.unusedVariables false
set_option linter.unusedSectionVars false
namespace Go.Proofs.Eng
open Go.RowKit
def rowV {α : Type} (g : α → List Value) (l : List α) : List Value := (l.map g).flatten
section
variable {α : Type} {g : α → List Value}
theorem rowV_cons (x : α) (l : List α) : rowV g (x :: l) = g x ++ rowV g l := by simp [rowV]
theorem rowV_append (a b : List α) : rowV g (a ++ b) = rowV g a ++ rowV g b := by simp [rowV]
theorem rowV_one (h : ∀ x, ∀ u ∈ g x, u.oneCell' = true) (l : List α) : ∀ u ∈ rowV g l, u.oneCell' = true := by
 intro u hu
 unfold rowV at hu
 rw [List.mem_flatten] at hu
 obtain ⟨r, hr, hu⟩ := hu
 obtain ⟨x, _, rfl⟩ := List.mem_map.1 hr
 exact h x u hu
variable {s : Nat} (hg : ∀ x, (g x).length = s)
include hg
theorem rowV_len (l : List α) : (rowV g l).length = l.length * s := by
 induction l with
 |nil => simp [rowV]
 |cons x l ih => rw [rowV_cons, List.length_append, ih, hg, List.length_cons, Nat.succ_mul]; omega
theorem rowV_drop (l : List α) (i : Nat) : (rowV g l).drop (i * s) = rowV g (l.drop i) := by
 induction l generalizing i with
 |nil => simp [rowV]
 |cons p l ih =>
  cases i with
  |zero => simp
  |succ i =>
   rw [rowV_cons, List.drop_succ_cons, ← ih i, show (i + 1) * s = (g p).length + i * s by rw [hg, Nat.succ_mul]; omega, ← List.drop_drop, List.drop_left]
theorem rowV_elem (l : List α) (i : Nat) (d : α) (hi : i < l.length) : ((rowV g l).drop (i * s)).take s = g (l.getD i d) := by
 rw [rowV_drop hg, List.drop_eq_getElem_cons hi, rowV_cons, List.take_left' (hg _), List.getD_eq_getElem?_getD, List.getElem?_eq_getElem hi]
 rfl
theorem rowV_at (l : List α) (i j : Nat) (d : α) (hi : i < l.length) (hj : j < s) : (rowV g l)[i * s + j]? = (g (l.getD i d))[j]? := by
 have h := congrArg (fun x : List Value => x[j]?) (rowV_elem hg l i d hi)
 simp only [List.getElem?_take, List.getElem?_drop, hj, if_true] at h
 exact h
end
abbrev SL := Option Addr × Nat × Nat
def sL (x : SL) : Value := .slice x.1 x.2.1 x.2.2
theorem off_ofL {A : Option Addr} {S : List Nat} (h : ∀ b ∈ blkL A, b ∉ S) : Off A S := fun ad e hm => h ad.block (by rw [e]; simp [blkL]) hm
theorem Hi.mem {A : Option Addr} {B : Nat} (h : Hi A B) : ∀ b ∈ blkL A, B ≤ b := fun b hb => by
 cases A with
 |none => simp [blkL] at hb
 |some ad => simp [blkL] at hb; rw [hb]; exact h ad rfl
theorem Lo.mem {A : Option Addr} {B : Nat} (h : Lo A B) : ∀ b ∈ blkL A, b < B := fun b hb => by
 cases A with
 |none => simp [blkL] at hb
 |some ad => simp [blkL] at hb; rw [hb]; exact h ad rfl
theorem Near.mem {A A' : Option Addr} {w : World} (h : Near A A' w) : ∀ b ∈ blkL A', b ∈ blkL A ∨ w.heap.size ≤ b := fun b hb => by
 cases A' with
 |none => simp [blkL] at hb
 |some ad =>
  simp [blkL] at hb
  rcases h ad rfl with q | q
  ·rw [q]; left; simp [blkL, hb]
  ·right; omega
theorem Own.modL {w w' : World} {base s : Nat} {e : TypeId} {A : Option Addr} {n c : Nat} {xs : List Value} {S : List Nat} (h : Own w base e s A n c xs) (hm : Mod S w w') (hS : ∀ b ∈ blkL A, b ∉ S) : Own w' base e s A n c xs := h.mod hm (off_ofL hS)
theorem Own.bl {w : World} {base s : Nat} {e : TypeId} {A : Option Addr} {n c : Nat} {xs : List Value} (h : Own w base e s A n c xs) : ∀ b ∈ blkL A, base ≤ b ∧ b < w.heap.size := fun b hb => ⟨Hi.mem h.hi b hb, Lo.mem h.lo b hb⟩
def Tn (o o' : Nat → Nat) (w w' : World) : Prop := (∃ S, Mod S w w' ∧ ∀ b ∈ S, o b ≠ 0) ∧ (∀ b, o' b ≠ 0 → o b ≠ 0 ∨ w.heap.size ≤ b) ∧ w.heap.size ≤ w'.heap.size
section
variable {o o' o2 g : Nat → Nat} {w w' w2 w0 : World}
theorem Tn.refl (o : Nat → Nat) (w : World) : Tn o o w w := ⟨⟨[], Mod.refl _ _, fun b hb => by cases hb⟩, fun b hb => .inl hb, Nat.le_refl _⟩
theorem Tn.ext (e : Ext w w') : Tn o o w w' := ⟨⟨[], e, fun b hb => by cases hb⟩, fun b hb => .inl hb, e.size⟩
theorem Tn.trans (h1 : Tn o o' w w') (h2 : Tn o' o2 w' w2) : Tn o o2 w w2 := by
 obtain ⟨⟨S, m1, s1⟩, n1, z1⟩ := h1
 obtain ⟨⟨S', m2, s2⟩, n2, z2⟩ := h2
 refine ⟨⟨S ++ S'.filter (fun x => decide (x < w.heap.size)), ?_, ?_⟩, ?_, Nat.le_trans z1 z2⟩
 ·refine Mod.step (m1.mono (fun x hx => .inl (List.mem_append_left _ hx))) m2 (fun x hx => ?_)
  by_cases q : x < w.heap.size
  ·exact .inl (List.mem_append_right _ (List.mem_filter.2 ⟨hx, by simpa using q⟩))
  ·exact .inr (by omega)
 ·intro x hx
  rcases List.mem_append.1 hx with hx | hx
  ·exact s1 x hx
  ·obtain ⟨q1, q2⟩ := List.mem_filter.1 hx
   simp only [decide_eq_true_eq] at q2
   rcases n1 x (s2 x q1) with h | h
   ·exact h
   ·omega
 ·intro x hx
  rcases n2 x hx with h | h
  ·exact n1 x h
  ·exact .inr (by omega)
theorem Tn.old (t : Tn o o' w w') {b : Nat} (hb : o b = 0) (hl : b < w.heap.size) : o' b = 0 := by
 by_cases q : o' b = 0
 ·exact q
 ·rcases t.2.1 b q with h | h
  ·exact absurd hb h
  ·omega
theorem Tn.ext0 (e : Ext w0 w) (t : Tn o o' w w') (h : ∀ b, o b ≠ 0 → w0.heap.size ≤ b) : Ext w0 w' := by
 obtain ⟨⟨S, m1, s1⟩, n1, z1⟩ := t
 exact Mod.step e m1 (fun b hb => .inr (h b (s1 b hb)))
theorem Tn.size (t : Tn o o' w w') : w.heap.size ≤ w'.heap.size := t.2.2
theorem Own.tn {base s : Nat} {e : TypeId} {A : Option Addr} {n c : Nat} {xs : List Value} (h : Own w base e s A n c xs) (t : Tn o o' w w') (h1 : ∀ b ∈ blkL A, o b = 0) : Own w' base e s A n c xs ∧ ∀ b ∈ blkL A, o' b = 0 := by
 refine ⟨?_, fun b hb => t.old (h1 b hb) (h.bl b hb).2⟩
 obtain ⟨⟨S, m1, s1⟩, n1, z1⟩ := t
 exact h.modL m1 (fun b q q' => s1 b q' (h1 b q))
theorem Tn.inD {D : List Nat} (t : Tn o o' w w') (m : Mod D w0 w) (hD : ∀ b, b < w0.heap.size → o b ≠ 0 → b ∈ D) : Mod D w0 w' := by
 obtain ⟨⟨S, m1, s1⟩, n1, z1⟩ := t
 refine m.step m1 (fun b hb => ?_)
 by_cases q : b < w0.heap.size
 ·exact .inl (hD b q (s1 b hb))
 ·exact .inr (by omega)
def ownB (w : World) (o : Nat → Nat) : List Nat := (List.range w.heap.size).filter fun b => decide (o b ≠ 0)
theorem ownB_mem {b : Nat} (h : b ∈ ownB w o) : o b ≠ 0 := by
 have := (List.mem_filter.1 h).2
 simpa using this
theorem ownB_in (z : w2.heap.size = w.heap.size) : ∀ b, b < w2.heap.size → o b ≠ 0 → b ∈ ownB w o := fun b h q => List.mem_filter.2 ⟨List.mem_range.2 (by omega), by simpa using q⟩
end
section
variable {q : Qm} {P : Program} {fn : Func} {R : Ending → World → Prop} {M : Md} {n : Nat} {st : Slots} {k : List Item} {w : World} {ops rest : List Oper}
 {d : Nat} {ty : TypeId} {ps : String} {af : Array Edge} {X Y V Z : Operand} {t e : TypeId} {by_ s base m c m2 c2 i : Nat} {z : Value} {A A2 : Option Addr} {xs ys : List Value} {L L2 L3 : IntKind}
variable {S S2 : List UInt8} {t2 : TypeId}
end
end Go.Proofs.Eng
namespace Go.Proofs.Eng
open Go.RowKit Go.Maps Go.WideElems
abbrev R0 : Value → Option (DataW Unit × List MemPlace) := fun _ => some (.nil, [])
end Go.Proofs.Eng
namespace Go.Proofs.Journal
open Go.RowKit Go.Proofs.Eng Go.Proofs.Codec
structure VE where
 kd : Int
 n : Int
 t : List UInt8
def prB (t : List UInt8) : Bool := t.all fun c => decide (32 ≤ c.toNat ∧ c.toNat ≤ 126)
def validV (v : VE) : Bool :=
 if v.kd = 0 then decide (v.n = 0 ∧ v.t = []) else if v.kd = 1 then decide (v.t = []) else if v.kd = 2 then decide (v.n = 0 ∧ v.t.length ≤ 64) && prB v.t else false
def putV (b : List UInt8) (v : VE) : List UInt8 :=
 if validV v = false then b else if v.kd = 1 then (b ++ [1]) ++ encU (zig v.n) else if v.kd = 2 then (b ++ [2]) ++ (encU v.t.length ++ v.t) else b ++ [0]
def goodC (t : List UInt8) (i : Nat) : Bool := decide ((97 ≤ gb t i ∧ gb t i ≤ 122) ∨ (i ≠ 0 ∧ (gb t i = 95 ∨ (48 ≤ gb t i ∧ gb t i ≤ 57))))
def nameB (t : List UInt8) : Bool := (List.range t.length).all (goodC t) && decide (1 ≤ t.length ∧ t.length ≤ 16)
def givenB (v : VE) : Bool := validV v && decide (v.kd ≠ 0)
structure RE where
 cl : Int
 tk : Nat
 nm : List UInt8
 ar : List VE
def checkR (r : RE) : Nat := if r.cl < 0 ∨ 64 ≤ r.cl then 2 else if nameB r.nm = false then 90 else if 8 < r.ar.length then 6 else if r.ar.all givenB = false then 91 else 0
def reqB (b : List UInt8) (r : RE) : List UInt8 := r.ar.foldl putV ((((b ++ encU r.cl.toNat) ++ encU r.tk) ++ (encU r.nm.length ++ r.nm)) ++ encU r.ar.length)
def putR (b : List UInt8) (r : RE) : List UInt8 × Nat := if checkR r ≠ 0 then ([], checkR r) else (reqB b r, 0)
end Go.Proofs.Journal
namespace Go.Proofs.YtjlaomcankmdjaaGreat
open Go.Proofs.Eng
set_option maxRecDepth 10000
def tUnd : List (Nat × TypeDesc) := [(1, .func #[] #[] false), (2, .int .i64), (3, .int .i64), (4, .bool), (5, .int .u8), (6, .int .u8), (9, .string), (10, .string), (11, .string), (12, .int .u64), (15, .pointer 266), (16, .pointer 269), (17, .pointer 277), (21, .int .i32), (22, .func #[23] #[3] false), (23, .int .i64), (24, .func #[] #[4] false), (25, .slice 5), (26, .pointer 104), (27, .func #[25] #[26] false), (28, .pointer 111), (30, .func #[26] #[28, 23] false), (31, .func #[25, 25] #[4] false), (32, .func #[] #[25] false), (33, .slice 25), (35, .func #[25] #[33, 3, 3] false), (36, .slice 45), (37, .int .u64), (38, .slice 161), (41, .slice 9), (49, .func #[25] #[47, 3] false), (50, .pointer 117), (51, .func #[25] #[50] false), (53, .func #[2, 36] #[2, 23] false), (54, .func #[] #[37] false), (55, .func #[25] #[4] false), (56, .slice 62), (57, .func #[25, 56] #[4] false), (58, .pointer 133), (59, .func #[25] #[58] false), (60, .func #[26, 58, 62] #[4] false), (63, .slice 66), (64, .slice 3), (67, .func #[3] #[] false), (68, .slice 2), (69, .func #[36] #[36] false), (70, .func #[] #[23] false), (71, .func #[] #[2] false), (72, .func #[3] #[25] false), (73, .pointer 139), (74, .func #[] #[73] false), (75, .slice 47), (76, .func #[2, 3] #[75] false), (77, .func #[45, 45] #[4] false), (78, .func #[63, 3, 3, 64] #[4] false), (79, .func #[25] #[23] false), (80, .func #[3] #[23] false), (81, .func #[] #[3] false), (82, .func #[25, 3] #[4] false), (83, .slice 89), (84, .func #[83] #[4] false), (85, .pointer 145), (87, .func #[33, 3] #[85, 23] false), (90, .func #[2] #[75] false), (91, .func #[2] #[3] false), (92, .func #[75, 75] #[4] false), (93, .func #[3] #[33] false), (94, .func #[3, 83, 3, 3] #[4] false), (95, .func #[25] #[25] false), (98, .int .u32), (106, .func #[25] #[33, 3, 23] false), (107, .pointer 109), (113, .func #[25] #[25, 3, 3] false), (114, .func #[3] #[9] false), (115, .func #[] #[5] false), (119, .func #[25] #[40, 3, 3] false), (121, .func #[25] #[43, 3, 3] false), (122, .func #[45] #[3] false), (123, .func #[73] #[73] false), (125, .func #[2, 36] #[2, 23, 3] false), (127, .func #[25, 47] #[25, 23] false), (128, .func #[5, 25] #[25] false), (129, .func #[25, 37] #[25] false), (131, .func #[25] #[37, 3, 3] false), (134, .func #[25] #[3] false), (135, .func #[3] #[3] false), (136, .func #[45] #[45] false), (137, .func #[47] #[47] false), (140, .func #[38, 38] #[4] false), (141, .func #[41, 41] #[4] false), (142, .func #[70] #[23] false), (143, .slice 148), (146, .func #[2] #[] false), (147, .pointer 154), (148, .pointer 152), (150, .func #[25, 4] #[147, 148, 2, 4] false), (155, .func #[45] #[23] false), (157, .func #[25] #[47, 23] false), (158, .func #[] #[148] false), (159, .func #[38] #[38] false), (162, .func #[41] #[41] false), (163, .func #[47, 47] #[4] false), (165, .func #[25] #[25, 3, 23] false), (166, .pointer 102), (167, .func #[25] #[98] false), (168, .func #[9] #[4] false), (169, .func #[50] #[161] false), (171, .func #[25, 40] #[25, 3] false), (172, .func #[43] #[4] false), (174, .func #[25] #[73, 23, 2] false), (175, .func #[25, 40] #[25, 23] false), (176, .func #[25, 9] #[25] false), (177, .func #[25, 43] #[25, 23] false), (178, .func #[25] #[25, 23] false), (179, .int .u64), (181, .func #[25] #[2, 2, 4] false), (182, .pointer 218), (183, .func #[25] #[182] false), (185, .func #[] #[23, 3] false), (187, .func #[25] #[40, 23, 3] false), (189, .func #[25] #[43, 3, 23] false), (190, .func #[40, 40] #[4] false), (191, .func #[43, 43] #[4] false), (192, .pointer 100), (193, .func #[194, 21, 21] #[4] false), (194, .pointer 21), (195, .func #[196] #[] false), (196, .unsafePointer), (197, .func #[194, 21] #[21] false), (198, .func #[21] #[] false), (199, .func #[2] #[161] false), (200, .func #[9] #[161] false), (201, .func #[161] #[4] false), (202, .func #[40] #[3] false), (203, .func #[25, 161] #[25] false), (205, .func #[43] #[43, 3] false), (206, .func #[236] #[] false), (207, .func #[236] #[] false), (208, .func #[] #[207] false), (209, .func #[40] #[23] false), (210, .map 9 5), (211, .map 9 5), (212, .func #[43] #[211] false), (213, .func #[5] #[41] false), (214, .func #[25, 98] #[25] false), (216, .func #[43] #[43, 23] false), (219, .func #[182, 54] #[37] false), (220, .func #[182, 224] #[9] false), (221, .func #[3, 23] #[3] false), (224, .func #[] #[9] false), (225, .func #[182, 115] #[5] false), (226, .func #[23] #[] false), (227, .func #[182] #[161] false), (228, .func #[3] #[4] false), (229, .func #[9] #[] false), (230, .func #[231, 4, 3] #[] false), (231, .pointer 98), (232, .func #[5] #[4] false), (233, .func #[25, 2] #[25] false), (234, .func #[41, 41] #[41] false), (235, .func #[182, 81] #[3] false), (236, .func #[47] #[4] false), (237, .func #[38, 201] #[4] false), (238, .func #[41] #[] false), (239, .slice 41), (241, .func #[9, 5] #[3] false), (242, .func #[41, 3, 3, 3] #[] false), (243, .func #[179] #[3] false), (244, .func #[182, 71] #[2] false), (245, .func #[38, 201] #[3] false), (246, .func #[41, 3, 3] #[] false), (247, .int .i64), (249, .func #[41, 3, 3] #[3, 247] false), (250, .func #[41, 3, 3] #[4] false), (251, .func #[9, 9] #[4] false), (252, .func #[41, 3, 3, 3] #[3] false), (254, .func #[41, 3, 3, 3] #[3, 4] false), (255, .func #[98] #[3] false), (256, .func #[37] #[3] false), (257, .int .u64), (258, .func #[3] #[179] false), (259, .func #[41, 3, 260] #[3] false), (260, .pointer 3), (261, .func #[41, 3, 3, 3, 260] #[3] false), (262, .pointer 257), (264, .func #[41, 3, 3, 260] #[3, 3] false), (267, .array 0 16), (270, .int .u8), (271, .int .u8), (272, .func #[196, 196] #[4] false), (273, .pointer 5), (274, .int .i32), (275, .int .i32)]
def tInf : List (Nat × (Nat × Nat × Value)) := [(0, (1, 0, .tuple #[])), (1, (1, 8, .nilFunc)), (2, (1, 8, .int .i64 0)), (3, (1, 8, .int .i64 0)), (4, (1, 1, .bool false)), (5, (1, 1, .int .u8 0)), (6, (1, 1, .int .u8 0)), (7, (4, 24, .agg #[.int .i64 0, .int .i64 0, .bool false, .int .u8 0])), (8, (4, 24, .agg #[.int .i64 0, .int .i64 0, .bool false, .int .u8 0])), (9, (1, 16, .string ⟨#[]⟩)), (10, (1, 16, .string ⟨#[]⟩)), (11, (1, 16, .string ⟨#[]⟩)), (12, (1, 8, .int .u64 0)), (13, (2, 24, .agg #[.string ⟨#[]⟩, .int .u64 0])), (14, (2, 24, .agg #[.string ⟨#[]⟩, .int .u64 0])), (15, (1, 8, .pointer none)), (16, (1, 8, .pointer none)), (17, (1, 8, .pointer none)), (18, (1, 8, .agg #[.pointer none])), (19, (1, 8, .agg #[.pointer none])), (20, (1, 16, .nilIface)), (21, (1, 4, .int .i32 0)), (22, (1, 8, .nilFunc)), (23, (1, 8, .int .i64 0)), (24, (1, 8, .nilFunc)), (25, (1, 24, .slice none 0 0)), (26, (1, 8, .pointer none)), (27, (1, 8, .nilFunc)), (28, (1, 8, .pointer none)), (29, (1, 0, .tuple #[.pointer none, .int .i64 0])), (30, (1, 8, .nilFunc)), (31, (1, 8, .nilFunc)), (32, (1, 8, .nilFunc)), (33, (1, 24, .slice none 0 0)), (34, (1, 0, .tuple #[.slice none 0 0, .int .i64 0, .int .i64 0])), (35, (1, 8, .nilFunc)), (36, (1, 24, .slice none 0 0)), (37, (1, 8, .int .u64 0)), (38, (1, 24, .slice none 0 0)), (39, (4, 56, .agg #[.int .i64 0, .int .u64 0, .string ⟨#[]⟩, .slice none 0 0])), (40, (4, 56, .agg #[.int .i64 0, .int .u64 0, .string ⟨#[]⟩, .slice none 0 0])), (41, (1, 24, .slice none 0 0)), (42, (2, 48, .agg #[.slice none 0 0, .slice none 0 0])), (43, (2, 48, .agg #[.slice none 0 0, .slice none 0 0])), (44, (7, 112, .agg #[.int .i64 0, .int .u64 0, .string ⟨#[]⟩, .slice none 0 0, .int .i64 0, .slice none 0 0, .slice none 0 0])), (45, (7, 112, .agg #[.int .i64 0, .int .u64 0, .string ⟨#[]⟩, .slice none 0 0, .int .i64 0, .slice none 0 0, .slice none 0 0])), (46, (9, 128, .agg #[.int .i64 0, .int .i64 0, .int .i64 0, .int .u64 0, .string ⟨#[]⟩, .slice none 0 0, .int .i64 0, .slice none 0 0, .slice none 0 0])), (47, (9, 128, .agg #[.int .i64 0, .int .i64 0, .int .i64 0, .int .u64 0, .string ⟨#[]⟩, .slice none 0 0, .int .i64 0, .slice none 0 0, .slice none 0 0])), (48, (1, 0, .tuple #[.agg #[.int .i64 0, .int .i64 0, .int .i64 0, .int .u64 0, .string ⟨#[]⟩, .slice none 0 0, .int .i64 0, .slice none 0 0, .slice none 0 0], .int .i64 0])), (49, (1, 8, .nilFunc)), (50, (1, 8, .pointer none)), (51, (1, 8, .nilFunc)), (52, (1, 0, .tuple #[.int .i64 0, .int .i64 0])), (53, (1, 8, .nilFunc)), (54, (1, 8, .nilFunc)), (55, (1, 8, .nilFunc)), (56, (1, 24, .slice none 0 0)), (57, (1, 8, .nilFunc)), (58, (1, 8, .pointer none)), (59, (1, 8, .nilFunc)), (60, (1, 8, .nilFunc)), (61, (3, 40, .agg #[.int .i64 0, .slice none 0 0, .int .i64 0])), (62, (3, 40, .agg #[.int .i64 0, .slice none 0 0, .int .i64 0])), (63, (1, 24, .slice none 0 0)), (64, (1, 24, .slice none 0 0)), (65, (3, 40, .agg #[.int .i64 0, .slice none 0 0, .bool false])), (66, (3, 40, .agg #[.int .i64 0, .slice none 0 0, .bool false])), (67, (1, 8, .nilFunc)), (68, (1, 24, .slice none 0 0)), (69, (1, 8, .nilFunc)), (70, (1, 8, .nilFunc)), (71, (1, 8, .nilFunc)), (72, (1, 8, .nilFunc)), (73, (1, 8, .pointer none)), (74, (1, 8, .nilFunc)), (75, (1, 24, .slice none 0 0)), (76, (1, 8, .nilFunc)), (77, (1, 8, .nilFunc)), (78, (1, 8, .nilFunc)), (79, (1, 8, .nilFunc)), (80, (1, 8, .nilFunc)), (81, (1, 8, .nilFunc)), (82, (1, 8, .nilFunc)), (83, (1, 24, .slice none 0 0)), (84, (1, 8, .nilFunc)), (85, (1, 8, .pointer none)), (86, (1, 0, .tuple #[.pointer none, .int .i64 0])), (87, (1, 8, .nilFunc)), (88, (4, 48, .agg #[.int .i64 0, .int .i64 0, .slice none 0 0, .int .i64 0])), (89, (4, 48, .agg #[.int .i64 0, .int .i64 0, .slice none 0 0, .int .i64 0])), (90, (1, 8, .nilFunc)), (91, (1, 8, .nilFunc)), (92, (1, 8, .nilFunc)), (93, (1, 8, .nilFunc)), (94, (1, 8, .nilFunc)), (95, (1, 8, .nilFunc)), (96, (0, 0, .agg #[])), (97, (0, 0, .agg #[])), (98, (1, 4, .int .u32 0)), (99, (2, 8, .agg #[.int .i32 0, .int .u32 0])), (100, (2, 8, .agg #[.int .i32 0, .int .u32 0])), (101, (2, 8, .agg #[.int .i32 0, .int .u32 0])), (102, (2, 8, .agg #[.int .i32 0, .int .u32 0])), (103, (6, 56, .agg #[.int .i32 0, .int .u32 0, .slice none 0 0, .int .i64 0, .int .i64 0, .bool false])), (104, (6, 56, .agg #[.int .i32 0, .int .u32 0, .slice none 0 0, .int .i64 0, .int .i64 0, .bool false])), (105, (1, 0, .tuple #[.slice none 0 0, .int .i64 0, .int .i64 0])), (106, (1, 8, .nilFunc)), (107, (1, 8, .pointer none)), (108, (4, 48, .agg #[.pointer none, .slice none 0 0, .int .i64 0, .int .i64 0])), (109, (4, 48, .agg #[.pointer none, .slice none 0 0, .int .i64 0, .int .i64 0])), (110, (3, 24, .agg #[.pointer none, .pointer none, .int .i64 0])), (111, (3, 24, .agg #[.pointer none, .pointer none, .int .i64 0])), (112, (1, 0, .tuple #[.slice none 0 0, .int .i64 0, .int .i64 0])), (113, (1, 8, .nilFunc)), (114, (1, 8, .nilFunc)), (115, (1, 8, .nilFunc)), (116, (5, 56, .agg #[.slice none 0 0, .int .i64 0, .int .i64 0, .int .i64 0, .int .i64 0])), (117, (5, 56, .agg #[.slice none 0 0, .int .i64 0, .int .i64 0, .int .i64 0, .int .i64 0])), (118, (1, 0, .tuple #[.agg #[.int .i64 0, .int .u64 0, .string ⟨#[]⟩, .slice none 0 0], .int .i64 0, .int .i64 0])), (119, (1, 8, .nilFunc)), (120, (1, 0, .tuple #[.agg #[.slice none 0 0, .slice none 0 0], .int .i64 0, .int .i64 0])), (121, (1, 8, .nilFunc)), (122, (1, 8, .nilFunc)), (123, (1, 8, .nilFunc)), (124, (1, 0, .tuple #[.int .i64 0, .int .i64 0, .int .i64 0])), (125, (1, 8, .nilFunc)), (126, (1, 0, .tuple #[.slice none 0 0, .int .i64 0])), (127, (1, 8, .nilFunc)), (128, (1, 8, .nilFunc)), (129, (1, 8, .nilFunc)), (130, (1, 0, .tuple #[.int .u64 0, .int .i64 0, .int .i64 0])), (131, (1, 8, .nilFunc)), (132, (4, 48, .agg #[.slice none 0 0, .int .i64 0, .int .i64 0, .bool false])), (133, (4, 48, .agg #[.slice none 0 0, .int .i64 0, .int .i64 0, .bool false])), (134, (1, 8, .nilFunc)), (135, (1, 8, .nilFunc)), (136, (1, 8, .nilFunc)), (137, (1, 8, .nilFunc)), (138, (2, 32, .agg #[.slice none 0 0, .int .i64 0])), (139, (2, 32, .agg #[.slice none 0 0, .int .i64 0])), (140, (1, 8, .nilFunc)), (141, (1, 8, .nilFunc)), (142, (1, 8, .nilFunc)), (143, (1, 24, .slice none 0 0)), (144, (3, 40, .agg #[.int .i64 0, .slice none 0 0, .int .i64 0])), (145, (3, 40, .agg #[.int .i64 0, .slice none 0 0, .int .i64 0])), (146, (1, 8, .nilFunc)), (147, (1, 8, .pointer none)), (148, (1, 8, .pointer none)), (149, (1, 0, .tuple #[.pointer none, .pointer none, .int .i64 0, .bool false])), (150, (1, 8, .nilFunc)), (151, (4, 48, .agg #[.int .i64 0, .pointer none, .slice none 0 0, .int .i64 0])), (152, (4, 48, .agg #[.int .i64 0, .pointer none, .slice none 0 0, .int .i64 0])), (153, (4, 64, .agg #[.int .i64 0, .int .i64 0, .slice none 0 0, .slice none 0 0])), (154, (4, 64, .agg #[.int .i64 0, .int .i64 0, .slice none 0 0, .slice none 0 0])), (155, (1, 8, .nilFunc)), (156, (1, 0, .tuple #[.agg #[.int .i64 0, .int .i64 0, .int .i64 0, .int .u64 0, .string ⟨#[]⟩, .slice none 0 0, .int .i64 0, .slice none 0 0, .slice none 0 0], .int .i64 0])), (157, (1, 8, .nilFunc)), (158, (1, 8, .nilFunc)), (159, (1, 8, .nilFunc)), (160, (3, 32, .agg #[.int .i64 0, .int .i64 0, .string ⟨#[]⟩])), (161, (3, 32, .agg #[.int .i64 0, .int .i64 0, .string ⟨#[]⟩])), (162, (1, 8, .nilFunc)), (163, (1, 8, .nilFunc)), (164, (1, 0, .tuple #[.slice none 0 0, .int .i64 0, .int .i64 0])), (165, (1, 8, .nilFunc)), (166, (1, 8, .pointer none)), (167, (1, 8, .nilFunc)), (168, (1, 8, .nilFunc)), (169, (1, 8, .nilFunc)), (170, (1, 0, .tuple #[.slice none 0 0, .int .i64 0])), (171, (1, 8, .nilFunc)), (172, (1, 8, .nilFunc)), (173, (1, 0, .tuple #[.pointer none, .int .i64 0, .int .i64 0])), (174, (1, 8, .nilFunc)), (175, (1, 8, .nilFunc)), (176, (1, 8, .nilFunc)), (177, (1, 8, .nilFunc)), (178, (1, 8, .nilFunc)), (179, (1, 8, .int .u64 0)), (180, (1, 0, .tuple #[.int .i64 0, .int .i64 0, .bool false])), (181, (1, 8, .nilFunc)), (182, (1, 8, .pointer none)), (183, (1, 8, .nilFunc)), (184, (1, 0, .tuple #[.int .i64 0, .int .i64 0])), (185, (1, 8, .nilFunc)), (186, (1, 0, .tuple #[.agg #[.int .i64 0, .int .u64 0, .string ⟨#[]⟩, .slice none 0 0], .int .i64 0, .int .i64 0])), (187, (1, 8, .nilFunc)), (188, (1, 0, .tuple #[.agg #[.slice none 0 0, .slice none 0 0], .int .i64 0, .int .i64 0])), (189, (1, 8, .nilFunc)), (190, (1, 8, .nilFunc)), (191, (1, 8, .nilFunc)), (192, (1, 8, .pointer none)), (193, (1, 8, .nilFunc)), (194, (1, 8, .pointer none)), (195, (1, 8, .nilFunc)), (196, (1, 8, .pointer none)), (197, (1, 8, .nilFunc)), (198, (1, 8, .nilFunc)), (199, (1, 8, .nilFunc)), (200, (1, 8, .nilFunc)), (201, (1, 8, .nilFunc)), (202, (1, 8, .nilFunc)), (203, (1, 8, .nilFunc)), (204, (1, 0, .tuple #[.agg #[.slice none 0 0, .slice none 0 0], .int .i64 0])), (205, (1, 8, .nilFunc)), (206, (1, 8, .nilFunc)), (207, (1, 8, .nilFunc)), (208, (1, 8, .nilFunc)), (209, (1, 8, .nilFunc)), (210, (1, 8, .map none)), (211, (1, 8, .map none)), (212, (1, 8, .nilFunc)), (213, (1, 8, .nilFunc)), (214, (1, 8, .nilFunc)), (215, (1, 0, .tuple #[.agg #[.slice none 0 0, .slice none 0 0], .int .i64 0])), (216, (1, 8, .nilFunc)), (217, (5, 56, .agg #[.slice none 0 0, .int .i64 0, .int .i64 0, .int .i64 0, .int .i64 0])), (218, (5, 56, .agg #[.slice none 0 0, .int .i64 0, .int .i64 0, .int .i64 0, .int .i64 0])), (219, (1, 8, .nilFunc)), (220, (1, 8, .nilFunc)), (221, (1, 8, .nilFunc)), (222, (1, 8, .agg #[.int .i64 0])), (223, (1, 8, .agg #[.int .i64 0])), (224, (1, 8, .nilFunc)), (225, (1, 8, .nilFunc)), (226, (1, 8, .nilFunc)), (227, (1, 8, .nilFunc)), (228, (1, 8, .nilFunc)), (229, (1, 8, .nilFunc)), (230, (1, 8, .nilFunc)), (231, (1, 8, .pointer none)), (232, (1, 8, .nilFunc)), (233, (1, 8, .nilFunc)), (234, (1, 8, .nilFunc)), (235, (1, 8, .nilFunc)), (236, (1, 8, .nilFunc)), (237, (1, 8, .nilFunc)), (238, (1, 8, .nilFunc)), (239, (1, 24, .slice none 0 0)), (240, (1, 0, .tuple #[.agg #[.int .i64 0], .bool false])), (241, (1, 8, .nilFunc)), (242, (1, 8, .nilFunc)), (243, (1, 8, .nilFunc)), (244, (1, 8, .nilFunc)), (245, (1, 8, .nilFunc)), (246, (1, 8, .nilFunc)), (247, (1, 8, .int .i64 0)), (248, (1, 0, .tuple #[.int .i64 0, .int .i64 0])), (249, (1, 8, .nilFunc)), (250, (1, 8, .nilFunc)), (251, (1, 8, .nilFunc)), (252, (1, 8, .nilFunc)), (253, (1, 0, .tuple #[.int .i64 0, .bool false])), (254, (1, 8, .nilFunc)), (255, (1, 8, .nilFunc)), (256, (1, 8, .nilFunc)), (257, (1, 8, .int .u64 0)), (258, (1, 8, .nilFunc)), (259, (1, 8, .nilFunc)), (260, (1, 8, .pointer none)), (261, (1, 8, .nilFunc)), (262, (1, 8, .pointer none)), (263, (1, 0, .tuple #[.int .i64 0, .int .i64 0])), (264, (1, 8, .nilFunc)), (265, (4, 40, .agg #[.pointer none, .pointer none, .pointer none, .string ⟨#[]⟩])), (266, (4, 40, .agg #[.pointer none, .pointer none, .pointer none, .string ⟨#[]⟩])), (267, (0, 0, .agg #[])), (268, (0, 0, .agg #[])), (269, (0, 0, .agg #[])), (270, (1, 1, .int .u8 0)), (271, (1, 1, .int .u8 0)), (272, (1, 8, .nilFunc)), (273, (1, 8, .pointer none)), (274, (1, 4, .int .i32 0)), (275, (1, 4, .int .i32 0)), (276, (11, 48, .agg #[.int .u64 0, .int .u64 0, .int .u32 0, .int .u8 0, .int .u8 0, .int .u8 0, .int .u8 0, .nilFunc, .pointer none, .int .i32 0, .int .i32 0])), (277, (11, 48, .agg #[.int .u64 0, .int .u64 0, .int .u32 0, .int .u8 0, .int .u8 0, .int .u8 0, .int .u8 0, .nilFunc, .pointer none, .int .i32 0, .int .i32 0]))]
def tFld : List (Nat × (List (Nat × TypeId))) := [(7, [(0, 2), (1, 3), (2, 4), (3, 6)]), (8, [(0, 2), (1, 3), (2, 4), (3, 6)]), (13, [(0, 9), (1, 12)]), (14, [(0, 9), (1, 12)]), (18, [(0, 17)]), (19, [(0, 17)]), (39, [(0, 3), (1, 37), (2, 9), (3, 38)]), (40, [(0, 3), (1, 37), (2, 9), (3, 38)]), (42, [(0, 41), (1, 41)]), (43, [(0, 41), (1, 41)]), (44, [(0, 40), (4, 3), (5, 43)]), (45, [(0, 40), (4, 3), (5, 43)]), (46, [(0, 2), (1, 2), (2, 45)]), (47, [(0, 2), (1, 2), (2, 45)]), (61, [(0, 3), (1, 25), (2, 3)]), (62, [(0, 3), (1, 25), (2, 3)]), (65, [(0, 2), (1, 36), (2, 4)]), (66, [(0, 2), (1, 36), (2, 4)]), (88, [(0, 3), (1, 2), (2, 36), (3, 3)]), (89, [(0, 3), (1, 2), (2, 36), (3, 3)]), (96, []), (97, []), (99, [(0, 21), (1, 98)]), (100, [(0, 21), (1, 98)]), (101, [(0, 97), (0, 100)]), (102, [(0, 97), (0, 100)]), (103, [(0, 102), (2, 25), (3, 3), (4, 3), (5, 4)]), (104, [(0, 102), (2, 25), (3, 3), (4, 3), (5, 4)]), (108, [(0, 73), (1, 36), (2, 2), (3, 2)]), (109, [(0, 73), (1, 36), (2, 2), (3, 2)]), (110, [(0, 26), (1, 73), (2, 2)]), (111, [(0, 26), (1, 73), (2, 2)]), (116, [(0, 25), (1, 3), (2, 3), (3, 3), (4, 3)]), (117, [(0, 25), (1, 3), (2, 3), (3, 3), (4, 3)]), (132, [(0, 25), (1, 3), (2, 3), (3, 4)]), (133, [(0, 25), (1, 3), (2, 3), (3, 4)]), (138, [(0, 75), (1, 2)]), (139, [(0, 75), (1, 2)]), (144, [(0, 3), (1, 143), (2, 2)]), (145, [(0, 3), (1, 143), (2, 2)]), (151, [(0, 2), (1, 26), (2, 75), (3, 3)]), (152, [(0, 2), (1, 26), (2, 75), (3, 3)]), (153, [(0, 2), (1, 2), (2, 75), (3, 75)]), (154, [(0, 2), (1, 2), (2, 75), (3, 75)]), (160, [(0, 3), (1, 2), (2, 9)]), (161, [(0, 3), (1, 2), (2, 9)]), (217, [(0, 25), (1, 3), (2, 3), (3, 23), (4, 3)]), (218, [(0, 25), (1, 3), (2, 3), (3, 23), (4, 3)]), (222, [(0, 23)]), (223, [(0, 23)]), (265, [(0, 17), (1, 17), (2, 17), (3, 9)]), (266, [(0, 17), (1, 17), (2, 17), (3, 9)]), (268, [(0, 267)]), (269, [(0, 267)]), (276, [(0, 12), (1, 12), (2, 98), (3, 270), (4, 5), (5, 5), (6, 271), (7, 272), (8, 273), (9, 274), (10, 275)]), (277, [(0, 12), (1, 12), (2, 98), (3, 270), (4, 5), (5, 5), (6, 271), (7, 272), (8, 273), (9, 274), (10, 275)])]
def tFn : List (Nat × Bool) := [(2, true), (3, true), (4, true), (5, true), (6, true), (7, true), (8, true), (9, true), (10, true), (11, true), (12, true), (13, true), (14, true), (15, true), (16, true), (17, true), (18, true), (19, true), (20, true), (21, true), (22, true), (23, true), (24, true), (25, true), (26, true), (27, true), (28, true), (29, true), (30, true), (31, true), (32, true), (33, true), (34, true), (35, true), (36, true), (37, true), (38, true), (39, true), (40, true), (41, true), (42, true), (43, true), (44, true), (45, true), (46, true), (47, true), (48, true), (49, true), (50, true), (51, true), (52, true), (53, true), (54, true), (55, true), (56, true), (57, true), (58, true), (59, true), (60, true), (61, true), (62, true), (63, true), (64, true), (65, true), (66, true), (67, true), (68, true), (69, true), (70, true), (71, true), (72, true), (73, true), (74, true), (75, true), (76, true), (77, true), (78, true), (79, true), (80, true), (81, true), (82, true), (83, true), (84, true), (85, true), (86, true), (87, true), (88, true), (89, true), (90, true), (91, true), (92, true), (93, true), (94, true), (95, true), (96, true), (97, true), (98, true), (99, true), (100, true), (101, true), (102, true), (103, true), (104, true), (105, true), (106, true), (107, true), (108, true), (109, true), (110, true), (111, true), (112, true), (113, true), (114, true), (115, true), (116, true), (117, true), (118, true), (119, true), (120, true), (121, true), (122, true), (123, true), (124, true), (125, true), (126, true), (127, true), (128, true), (129, true), (130, true), (131, true), (136, true), (139, true), (140, true), (141, true), (142, true), (143, true), (144, true), (145, true), (146, true), (147, true), (148, true), (149, true), (150, true), (151, true), (152, true), (153, true), (154, true), (155, true), (156, true), (157, true), (158, true), (159, true), (160, true), (161, true), (162, true), (163, true), (164, true), (165, true), (166, true), (167, true), (168, true), (169, true), (170, true), (171, true), (172, true), (173, true), (181, true), (182, true), (183, true), (184, true), (185, true), (186, true), (187, true), (188, true), (189, true), (190, true), (191, true), (192, true), (193, true), (194, true), (195, true), (196, true), (197, true), (198, true), (199, true), (200, true), (201, true), (202, true), (203, true), (204, true), (205, true), (206, true), (207, true), (208, true), (209, true), (210, true), (211, true), (212, true), (213, true), (214, true), (215, true), (216, true), (217, true), (218, true), (219, true), (220, true), (221, true), (222, true), (223, true), (224, true), (226, true), (227, true), (228, true), (229, true), (230, true), (231, true), (232, true)]
theorem tUnd_ok : ∀ p ∈ tUnd, Tryz.prog.underlying p.1 = some p.2 := by
 simp only [tUnd, tInf, tFld, tFn, List.forall_mem_cons, List.not_mem_nil, false_imp_iff, implies_true, and_true]
 refine ⟨?_, ?_, ?_, ?_, ?_, ?_, ?_, ?_, ?_, ?_, ?_, ?_, ?_, ?_, ?_, ?_, ?_, ?_, ?_, ?_, ?_, ?_, ?_, ?_, ?_, ?_, ?_, ?_, ?_, ?_, ?_, ?_, ?_, ?_, ?_, ?_, ?_, ?_, ?_, ?_, ?_, ?_, ?_, ?_, ?_, ?_, ?_, ?_, ?_, ?_, ?_, ?_, ?_, ?_, ?_, ?_, ?_, ?_, ?_, ?_, ?_, ?_, ?_, ?_, ?_, ?_, ?_, ?_, ?_, ?_, ?_, ?_, ?_, ?_, ?_, ?_, ?_, ?_, ?_, ?_, ?_, ?_, ?_, ?_, ?_, ?_, ?_, ?_, ?_, ?_, ?_, ?_, ?_, ?_, ?_, ?_, ?_, ?_, ?_, ?_, ?_, ?_, ?_, ?_, ?_, ?_, ?_, ?_, ?_, ?_, ?_, ?_, ?_, ?_, ?_, ?_, ?_, ?_, ?_, ?_, ?_, ?_, ?_, ?_, ?_, ?_, ?_, ?_, ?_, ?_, ?_, ?_, ?_, ?_, ?_, ?_, ?_, ?_, ?_, ?_, ?_, ?_, ?_, ?_, ?_, ?_, ?_, ?_, ?_, ?_, ?_, ?_, ?_, ?_, ?_, ?_, ?_, ?_, ?_, ?_, ?_, ?_, ?_, ?_, ?_, ?_, ?_, ?_, ?_, ?_, ?_, ?_, ?_, ?_, ?_, ?_, ?_, ?_, ?_, ?_, ?_, ?_, ?_, ?_, ?_, ?_, ?_, ?_, ?_, ?_, ?_, ?_, ?_⟩
 ·exact Tryz.underlying1
 ·exact Tryz.underlying2
 ·exact Tryz.underlying3
 ·exact Tryz.underlying4
 ·exact Tryz.underlying5
 ·exact Tryz.underlying6
 ·exact Tryz.underlying9
 ·exact Tryz.underlying10
 ·exact Tryz.underlying11
 ·exact Tryz.underlying12
 ·exact Tryz.underlying15
 ·exact Tryz.underlying16
 ·exact Tryz.underlying17
 ·exact Tryz.underlying21
 ·exact Tryz.underlying22
 ·exact Tryz.underlying23
 ·exact Tryz.underlying24
 ·exact Tryz.underlying25
 ·exact Tryz.underlying26
 ·exact Tryz.underlying27
 ·exact Tryz.underlying28
 ·exact Tryz.underlying30
 ·exact Tryz.underlying31
 ·exact Tryz.underlying32
 ·exact Tryz.underlying33
 ·exact Tryz.underlying35
 ·exact Tryz.underlying36
 ·exact Tryz.underlying37
 ·exact Tryz.underlying38
 ·exact Tryz.underlying41
 ·exact Tryz.underlying49
 ·exact Tryz.underlying50
 ·exact Tryz.underlying51
 ·exact Tryz.underlying53
 ·exact Tryz.underlying54
 ·exact Tryz.underlying55
 ·exact Tryz.underlying56
 ·exact Tryz.underlying57
 ·exact Tryz.underlying58
 ·exact Tryz.underlying59
 ·exact Tryz.underlying60
 ·exact Tryz.underlying63
 ·exact Tryz.underlying64
 ·exact Tryz.underlying67
 ·exact Tryz.underlying68
 ·exact Tryz.underlying69
 ·exact Tryz.underlying70
 ·exact Tryz.underlying71
 ·exact Tryz.underlying72
 ·exact Tryz.underlying73
 ·exact Tryz.underlying74
 ·exact Tryz.underlying75
 ·exact Tryz.underlying76
 ·exact Tryz.underlying77
 ·exact Tryz.underlying78
 ·exact Tryz.underlying79
 ·exact Tryz.underlying80
 ·exact Tryz.underlying81
 ·exact Tryz.underlying82
 ·exact Tryz.underlying83
 ·exact Tryz.underlying84
 ·exact Tryz.underlying85
 ·exact Tryz.underlying87
 ·exact Tryz.underlying90
 ·exact Tryz.underlying91
 ·exact Tryz.underlying92
 ·exact Tryz.underlying93
 ·exact Tryz.underlying94
 ·exact Tryz.underlying95
 ·exact Tryz.underlying98
 ·exact Tryz.underlying106
 ·exact Tryz.underlying107
 ·exact Tryz.underlying113
 ·exact Tryz.underlying114
 ·exact Tryz.underlying115
 ·exact Tryz.underlying119
 ·exact Tryz.underlying121
 ·exact Tryz.underlying122
 ·exact Tryz.underlying123
 ·exact Tryz.underlying125
 ·exact Tryz.underlying127
 ·exact Tryz.underlying128
 ·exact Tryz.underlying129
 ·exact Tryz.underlying131
 ·exact Tryz.underlying134
 ·exact Tryz.underlying135
 ·exact Tryz.underlying136
 ·exact Tryz.underlying137
 ·exact Tryz.underlying140
 ·exact Tryz.underlying141
 ·exact Tryz.underlying142
 ·exact Tryz.underlying143
 ·exact Tryz.underlying146
 ·exact Tryz.underlying147
 ·exact Tryz.underlying148
 ·exact Tryz.underlying150
 ·exact Tryz.underlying155
 ·exact Tryz.underlying157
 ·exact Tryz.underlying158
 ·exact Tryz.underlying159
 ·exact Tryz.underlying162
 ·exact Tryz.underlying163
 ·exact Tryz.underlying165
 ·exact Tryz.underlying166
 ·exact Tryz.underlying167
 ·exact Tryz.underlying168
 ·exact Tryz.underlying169
 ·exact Tryz.underlying171
 ·exact Tryz.underlying172
 ·exact Tryz.underlying174
 ·exact Tryz.underlying175
 ·exact Tryz.underlying176
 ·exact Tryz.underlying177
 ·exact Tryz.underlying178
 ·exact Tryz.underlying179
 ·exact Tryz.underlying181
 ·exact Tryz.underlying182
 ·exact Tryz.underlying183
 ·exact Tryz.underlying185
 ·exact Tryz.underlying187
 ·exact Tryz.underlying189
 ·exact Tryz.underlying190
 ·exact Tryz.underlying191
 ·exact Tryz.underlying192
 ·exact Tryz.underlying193
 ·exact Tryz.underlying194
 ·exact Tryz.underlying195
 ·exact Tryz.underlying196
 ·exact Tryz.underlying197
 ·exact Tryz.underlying198
 ·exact Tryz.underlying199
 ·exact Tryz.underlying200
 ·exact Tryz.underlying201
 ·exact Tryz.underlying202
 ·exact Tryz.underlying203
 ·exact Tryz.underlying205
 ·exact Tryz.underlying206
 ·exact Tryz.underlying207
 ·exact Tryz.underlying208
 ·exact Tryz.underlying209
 ·exact Tryz.underlying210
 ·exact Tryz.underlying211
 ·exact Tryz.underlying212
 ·exact Tryz.underlying213
 ·exact Tryz.underlying214
 ·exact Tryz.underlying216
 ·exact Tryz.underlying219
 ·exact Tryz.underlying220
 ·exact Tryz.underlying221
 ·exact Tryz.underlying224
 ·exact Tryz.underlying225
 ·exact Tryz.underlying226
 ·exact Tryz.underlying227
 ·exact Tryz.underlying228
 ·exact Tryz.underlying229
 ·exact Tryz.underlying230
 ·exact Tryz.underlying231
 ·exact Tryz.underlying232
 ·exact Tryz.underlying233
 ·exact Tryz.underlying234
 ·exact Tryz.underlying235
 ·exact Tryz.underlying236
 ·exact Tryz.underlying237
 ·exact Tryz.underlying238
 ·exact Tryz.underlying239
 ·exact Tryz.underlying241
 ·exact Tryz.underlying242
 ·exact Tryz.underlying243
 ·exact Tryz.underlying244
 ·exact Tryz.underlying245
 ·exact Tryz.underlying246
 ·exact Tryz.underlying247
 ·exact Tryz.underlying249
 ·exact Tryz.underlying250
 ·exact Tryz.underlying251
 ·exact Tryz.underlying252
 ·exact Tryz.underlying254
 ·exact Tryz.underlying255
 ·exact Tryz.underlying256
 ·exact Tryz.underlying257
 ·exact Tryz.underlying258
 ·exact Tryz.underlying259
 ·exact Tryz.underlying260
 ·exact Tryz.underlying261
 ·exact Tryz.underlying262
 ·exact Tryz.underlying264
 ·exact Tryz.underlying267
 ·exact Tryz.underlying270
 ·exact Tryz.underlying271
 ·exact Tryz.underlying272
 ·exact Tryz.underlying273
 ·exact Tryz.underlying274
 ·exact Tryz.underlying275
theorem inf0 : (Tryz.prog.info? 0).map (fun i => (i.size, i.bytes, i.zero)) = some (1, 0, some (.tuple #[])) := by kernel_rfl
theorem inf1 : (Tryz.prog.info? 1).map (fun i => (i.size, i.bytes, i.zero)) = some (1, 8, some (.nilFunc)) := by kernel_rfl
theorem inf2 : (Tryz.prog.info? 2).map (fun i => (i.size, i.bytes, i.zero)) = some (1, 8, some (.int .i64 0)) := by kernel_rfl
theorem inf3 : (Tryz.prog.info? 3).map (fun i => (i.size, i.bytes, i.zero)) = some (1, 8, some (.int .i64 0)) := by kernel_rfl
theorem inf4 : (Tryz.prog.info? 4).map (fun i => (i.size, i.bytes, i.zero)) = some (1, 1, some (.bool false)) := by kernel_rfl
theorem inf5 : (Tryz.prog.info? 5).map (fun i => (i.size, i.bytes, i.zero)) = some (1, 1, some (.int .u8 0)) := by kernel_rfl
theorem inf6 : (Tryz.prog.info? 6).map (fun i => (i.size, i.bytes, i.zero)) = some (1, 1, some (.int .u8 0)) := by kernel_rfl
theorem inf7 : (Tryz.prog.info? 7).map (fun i => (i.size, i.bytes, i.zero)) = some (4, 24, some (.agg #[.int .i64 0, .int .i64 0, .bool false, .int .u8 0])) := by kernel_rfl
theorem inf8 : (Tryz.prog.info? 8).map (fun i => (i.size, i.bytes, i.zero)) = some (4, 24, some (.agg #[.int .i64 0, .int .i64 0, .bool false, .int .u8 0])) := by kernel_rfl
theorem inf9 : (Tryz.prog.info? 9).map (fun i => (i.size, i.bytes, i.zero)) = some (1, 16, some (.string ⟨#[]⟩)) := by kernel_rfl
theorem inf10 : (Tryz.prog.info? 10).map (fun i => (i.size, i.bytes, i.zero)) = some (1, 16, some (.string ⟨#[]⟩)) := by kernel_rfl
theorem inf11 : (Tryz.prog.info? 11).map (fun i => (i.size, i.bytes, i.zero)) = some (1, 16, some (.string ⟨#[]⟩)) := by kernel_rfl
theorem inf12 : (Tryz.prog.info? 12).map (fun i => (i.size, i.bytes, i.zero)) = some (1, 8, some (.int .u64 0)) := by kernel_rfl
theorem inf13 : (Tryz.prog.info? 13).map (fun i => (i.size, i.bytes, i.zero)) = some (2, 24, some (.agg #[.string ⟨#[]⟩, .int .u64 0])) := by kernel_rfl
theorem inf14 : (Tryz.prog.info? 14).map (fun i => (i.size, i.bytes, i.zero)) = some (2, 24, some (.agg #[.string ⟨#[]⟩, .int .u64 0])) := by kernel_rfl
theorem inf15 : (Tryz.prog.info? 15).map (fun i => (i.size, i.bytes, i.zero)) = some (1, 8, some (.pointer none)) := by kernel_rfl
theorem inf16 : (Tryz.prog.info? 16).map (fun i => (i.size, i.bytes, i.zero)) = some (1, 8, some (.pointer none)) := by kernel_rfl
theorem inf17 : (Tryz.prog.info? 17).map (fun i => (i.size, i.bytes, i.zero)) = some (1, 8, some (.pointer none)) := by kernel_rfl
theorem inf18 : (Tryz.prog.info? 18).map (fun i => (i.size, i.bytes, i.zero)) = some (1, 8, some (.agg #[.pointer none])) := by kernel_rfl
theorem inf19 : (Tryz.prog.info? 19).map (fun i => (i.size, i.bytes, i.zero)) = some (1, 8, some (.agg #[.pointer none])) := by kernel_rfl
theorem inf20 : (Tryz.prog.info? 20).map (fun i => (i.size, i.bytes, i.zero)) = some (1, 16, some (.nilIface)) := by kernel_rfl
theorem inf21 : (Tryz.prog.info? 21).map (fun i => (i.size, i.bytes, i.zero)) = some (1, 4, some (.int .i32 0)) := by kernel_rfl
theorem inf22 : (Tryz.prog.info? 22).map (fun i => (i.size, i.bytes, i.zero)) = some (1, 8, some (.nilFunc)) := by kernel_rfl
theorem inf23 : (Tryz.prog.info? 23).map (fun i => (i.size, i.bytes, i.zero)) = some (1, 8, some (.int .i64 0)) := by kernel_rfl
theorem inf24 : (Tryz.prog.info? 24).map (fun i => (i.size, i.bytes, i.zero)) = some (1, 8, some (.nilFunc)) := by kernel_rfl
theorem inf25 : (Tryz.prog.info? 25).map (fun i => (i.size, i.bytes, i.zero)) = some (1, 24, some (.slice none 0 0)) := by kernel_rfl
theorem inf26 : (Tryz.prog.info? 26).map (fun i => (i.size, i.bytes, i.zero)) = some (1, 8, some (.pointer none)) := by kernel_rfl
theorem inf27 : (Tryz.prog.info? 27).map (fun i => (i.size, i.bytes, i.zero)) = some (1, 8, some (.nilFunc)) := by kernel_rfl
theorem inf28 : (Tryz.prog.info? 28).map (fun i => (i.size, i.bytes, i.zero)) = some (1, 8, some (.pointer none)) := by kernel_rfl
theorem inf29 : (Tryz.prog.info? 29).map (fun i => (i.size, i.bytes, i.zero)) = some (1, 0, some (.tuple #[.pointer none, .int .i64 0])) := by kernel_rfl
theorem inf30 : (Tryz.prog.info? 30).map (fun i => (i.size, i.bytes, i.zero)) = some (1, 8, some (.nilFunc)) := by kernel_rfl
theorem inf31 : (Tryz.prog.info? 31).map (fun i => (i.size, i.bytes, i.zero)) = some (1, 8, some (.nilFunc)) := by kernel_rfl
theorem inf32 : (Tryz.prog.info? 32).map (fun i => (i.size, i.bytes, i.zero)) = some (1, 8, some (.nilFunc)) := by kernel_rfl
theorem inf33 : (Tryz.prog.info? 33).map (fun i => (i.size, i.bytes, i.zero)) = some (1, 24, some (.slice none 0 0)) := by kernel_rfl
theorem inf34 : (Tryz.prog.info? 34).map (fun i => (i.size, i.bytes, i.zero)) = some (1, 0, some (.tuple #[.slice none 0 0, .int .i64 0, .int .i64 0])) := by kernel_rfl
theorem inf35 : (Tryz.prog.info? 35).map (fun i => (i.size, i.bytes, i.zero)) = some (1, 8, some (.nilFunc)) := by kernel_rfl
theorem inf36 : (Tryz.prog.info? 36).map (fun i => (i.size, i.bytes, i.zero)) = some (1, 24, some (.slice none 0 0)) := by kernel_rfl
theorem inf37 : (Tryz.prog.info? 37).map (fun i => (i.size, i.bytes, i.zero)) = some (1, 8, some (.int .u64 0)) := by kernel_rfl
theorem inf38 : (Tryz.prog.info? 38).map (fun i => (i.size, i.bytes, i.zero)) = some (1, 24, some (.slice none 0 0)) := by kernel_rfl
theorem inf39 : (Tryz.prog.info? 39).map (fun i => (i.size, i.bytes, i.zero)) = some (4, 56, some (.agg #[.int .i64 0, .int .u64 0, .string ⟨#[]⟩, .slice none 0 0])) := by kernel_rfl
theorem inf40 : (Tryz.prog.info? 40).map (fun i => (i.size, i.bytes, i.zero)) = some (4, 56, some (.agg #[.int .i64 0, .int .u64 0, .string ⟨#[]⟩, .slice none 0 0])) := by kernel_rfl
theorem inf41 : (Tryz.prog.info? 41).map (fun i => (i.size, i.bytes, i.zero)) = some (1, 24, some (.slice none 0 0)) := by kernel_rfl
theorem inf42 : (Tryz.prog.info? 42).map (fun i => (i.size, i.bytes, i.zero)) = some (2, 48, some (.agg #[.slice none 0 0, .slice none 0 0])) := by kernel_rfl
theorem inf43 : (Tryz.prog.info? 43).map (fun i => (i.size, i.bytes, i.zero)) = some (2, 48, some (.agg #[.slice none 0 0, .slice none 0 0])) := by kernel_rfl
theorem inf44 : (Tryz.prog.info? 44).map (fun i => (i.size, i.bytes, i.zero)) = some (7, 112, some (.agg #[.int .i64 0, .int .u64 0, .string ⟨#[]⟩, .slice none 0 0, .int .i64 0, .slice none 0 0, .slice none 0 0])) := by kernel_rfl
theorem inf45 : (Tryz.prog.info? 45).map (fun i => (i.size, i.bytes, i.zero)) = some (7, 112, some (.agg #[.int .i64 0, .int .u64 0, .string ⟨#[]⟩, .slice none 0 0, .int .i64 0, .slice none 0 0, .slice none 0 0])) := by kernel_rfl
theorem inf46 : (Tryz.prog.info? 46).map (fun i => (i.size, i.bytes, i.zero)) = some (9, 128, some (.agg #[.int .i64 0, .int .i64 0, .int .i64 0, .int .u64 0, .string ⟨#[]⟩, .slice none 0 0, .int .i64 0, .slice none 0 0, .slice none 0 0])) := by kernel_rfl
theorem inf47 : (Tryz.prog.info? 47).map (fun i => (i.size, i.bytes, i.zero)) = some (9, 128, some (.agg #[.int .i64 0, .int .i64 0, .int .i64 0, .int .u64 0, .string ⟨#[]⟩, .slice none 0 0, .int .i64 0, .slice none 0 0, .slice none 0 0])) := by kernel_rfl
theorem inf48 : (Tryz.prog.info? 48).map (fun i => (i.size, i.bytes, i.zero)) = some (1, 0, some (.tuple #[.agg #[.int .i64 0, .int .i64 0, .int .i64 0, .int .u64 0, .string ⟨#[]⟩, .slice none 0 0, .int .i64 0, .slice none 0 0, .slice none 0 0], .int .i64 0])) := by kernel_rfl
theorem inf49 : (Tryz.prog.info? 49).map (fun i => (i.size, i.bytes, i.zero)) = some (1, 8, some (.nilFunc)) := by kernel_rfl
theorem inf50 : (Tryz.prog.info? 50).map (fun i => (i.size, i.bytes, i.zero)) = some (1, 8, some (.pointer none)) := by kernel_rfl
theorem inf51 : (Tryz.prog.info? 51).map (fun i => (i.size, i.bytes, i.zero)) = some (1, 8, some (.nilFunc)) := by kernel_rfl
theorem inf52 : (Tryz.prog.info? 52).map (fun i => (i.size, i.bytes, i.zero)) = some (1, 0, some (.tuple #[.int .i64 0, .int .i64 0])) := by kernel_rfl
theorem inf53 : (Tryz.prog.info? 53).map (fun i => (i.size, i.bytes, i.zero)) = some (1, 8, some (.nilFunc)) := by kernel_rfl
theorem inf54 : (Tryz.prog.info? 54).map (fun i => (i.size, i.bytes, i.zero)) = some (1, 8, some (.nilFunc)) := by kernel_rfl
theorem inf55 : (Tryz.prog.info? 55).map (fun i => (i.size, i.bytes, i.zero)) = some (1, 8, some (.nilFunc)) := by kernel_rfl
theorem inf56 : (Tryz.prog.info? 56).map (fun i => (i.size, i.bytes, i.zero)) = some (1, 24, some (.slice none 0 0)) := by kernel_rfl
theorem inf57 : (Tryz.prog.info? 57).map (fun i => (i.size, i.bytes, i.zero)) = some (1, 8, some (.nilFunc)) := by kernel_rfl
theorem inf58 : (Tryz.prog.info? 58).map (fun i => (i.size, i.bytes, i.zero)) = some (1, 8, some (.pointer none)) := by kernel_rfl
theorem inf59 : (Tryz.prog.info? 59).map (fun i => (i.size, i.bytes, i.zero)) = some (1, 8, some (.nilFunc)) := by kernel_rfl
theorem inf60 : (Tryz.prog.info? 60).map (fun i => (i.size, i.bytes, i.zero)) = some (1, 8, some (.nilFunc)) := by kernel_rfl
theorem inf61 : (Tryz.prog.info? 61).map (fun i => (i.size, i.bytes, i.zero)) = some (3, 40, some (.agg #[.int .i64 0, .slice none 0 0, .int .i64 0])) := by kernel_rfl
theorem inf62 : (Tryz.prog.info? 62).map (fun i => (i.size, i.bytes, i.zero)) = some (3, 40, some (.agg #[.int .i64 0, .slice none 0 0, .int .i64 0])) := by kernel_rfl
theorem inf63 : (Tryz.prog.info? 63).map (fun i => (i.size, i.bytes, i.zero)) = some (1, 24, some (.slice none 0 0)) := by kernel_rfl
theorem inf64 : (Tryz.prog.info? 64).map (fun i => (i.size, i.bytes, i.zero)) = some (1, 24, some (.slice none 0 0)) := by kernel_rfl
theorem inf65 : (Tryz.prog.info? 65).map (fun i => (i.size, i.bytes, i.zero)) = some (3, 40, some (.agg #[.int .i64 0, .slice none 0 0, .bool false])) := by kernel_rfl
theorem inf66 : (Tryz.prog.info? 66).map (fun i => (i.size, i.bytes, i.zero)) = some (3, 40, some (.agg #[.int .i64 0, .slice none 0 0, .bool false])) := by kernel_rfl
theorem inf67 : (Tryz.prog.info? 67).map (fun i => (i.size, i.bytes, i.zero)) = some (1, 8, some (.nilFunc)) := by kernel_rfl
theorem inf68 : (Tryz.prog.info? 68).map (fun i => (i.size, i.bytes, i.zero)) = some (1, 24, some (.slice none 0 0)) := by kernel_rfl
theorem inf69 : (Tryz.prog.info? 69).map (fun i => (i.size, i.bytes, i.zero)) = some (1, 8, some (.nilFunc)) := by kernel_rfl
theorem inf70 : (Tryz.prog.info? 70).map (fun i => (i.size, i.bytes, i.zero)) = some (1, 8, some (.nilFunc)) := by kernel_rfl
theorem inf71 : (Tryz.prog.info? 71).map (fun i => (i.size, i.bytes, i.zero)) = some (1, 8, some (.nilFunc)) := by kernel_rfl
theorem inf72 : (Tryz.prog.info? 72).map (fun i => (i.size, i.bytes, i.zero)) = some (1, 8, some (.nilFunc)) := by kernel_rfl
theorem inf73 : (Tryz.prog.info? 73).map (fun i => (i.size, i.bytes, i.zero)) = some (1, 8, some (.pointer none)) := by kernel_rfl
theorem inf74 : (Tryz.prog.info? 74).map (fun i => (i.size, i.bytes, i.zero)) = some (1, 8, some (.nilFunc)) := by kernel_rfl
theorem inf75 : (Tryz.prog.info? 75).map (fun i => (i.size, i.bytes, i.zero)) = some (1, 24, some (.slice none 0 0)) := by kernel_rfl
theorem inf76 : (Tryz.prog.info? 76).map (fun i => (i.size, i.bytes, i.zero)) = some (1, 8, some (.nilFunc)) := by kernel_rfl
theorem inf77 : (Tryz.prog.info? 77).map (fun i => (i.size, i.bytes, i.zero)) = some (1, 8, some (.nilFunc)) := by kernel_rfl
theorem inf78 : (Tryz.prog.info? 78).map (fun i => (i.size, i.bytes, i.zero)) = some (1, 8, some (.nilFunc)) := by kernel_rfl
theorem inf79 : (Tryz.prog.info? 79).map (fun i => (i.size, i.bytes, i.zero)) = some (1, 8, some (.nilFunc)) := by kernel_rfl
theorem inf80 : (Tryz.prog.info? 80).map (fun i => (i.size, i.bytes, i.zero)) = some (1, 8, some (.nilFunc)) := by kernel_rfl
theorem inf81 : (Tryz.prog.info? 81).map (fun i => (i.size, i.bytes, i.zero)) = some (1, 8, some (.nilFunc)) := by kernel_rfl
theorem inf82 : (Tryz.prog.info? 82).map (fun i => (i.size, i.bytes, i.zero)) = some (1, 8, some (.nilFunc)) := by kernel_rfl
theorem inf83 : (Tryz.prog.info? 83).map (fun i => (i.size, i.bytes, i.zero)) = some (1, 24, some (.slice none 0 0)) := by kernel_rfl
theorem inf84 : (Tryz.prog.info? 84).map (fun i => (i.size, i.bytes, i.zero)) = some (1, 8, some (.nilFunc)) := by kernel_rfl
theorem inf85 : (Tryz.prog.info? 85).map (fun i => (i.size, i.bytes, i.zero)) = some (1, 8, some (.pointer none)) := by kernel_rfl
theorem inf86 : (Tryz.prog.info? 86).map (fun i => (i.size, i.bytes, i.zero)) = some (1, 0, some (.tuple #[.pointer none, .int .i64 0])) := by kernel_rfl
theorem inf87 : (Tryz.prog.info? 87).map (fun i => (i.size, i.bytes, i.zero)) = some (1, 8, some (.nilFunc)) := by kernel_rfl
theorem inf88 : (Tryz.prog.info? 88).map (fun i => (i.size, i.bytes, i.zero)) = some (4, 48, some (.agg #[.int .i64 0, .int .i64 0, .slice none 0 0, .int .i64 0])) := by kernel_rfl
theorem inf89 : (Tryz.prog.info? 89).map (fun i => (i.size, i.bytes, i.zero)) = some (4, 48, some (.agg #[.int .i64 0, .int .i64 0, .slice none 0 0, .int .i64 0])) := by kernel_rfl
theorem inf90 : (Tryz.prog.info? 90).map (fun i => (i.size, i.bytes, i.zero)) = some (1, 8, some (.nilFunc)) := by kernel_rfl
theorem inf91 : (Tryz.prog.info? 91).map (fun i => (i.size, i.bytes, i.zero)) = some (1, 8, some (.nilFunc)) := by kernel_rfl
theorem inf92 : (Tryz.prog.info? 92).map (fun i => (i.size, i.bytes, i.zero)) = some (1, 8, some (.nilFunc)) := by kernel_rfl
theorem inf93 : (Tryz.prog.info? 93).map (fun i => (i.size, i.bytes, i.zero)) = some (1, 8, some (.nilFunc)) := by kernel_rfl
theorem inf94 : (Tryz.prog.info? 94).map (fun i => (i.size, i.bytes, i.zero)) = some (1, 8, some (.nilFunc)) := by kernel_rfl
theorem inf95 : (Tryz.prog.info? 95).map (fun i => (i.size, i.bytes, i.zero)) = some (1, 8, some (.nilFunc)) := by kernel_rfl
theorem inf96 : (Tryz.prog.info? 96).map (fun i => (i.size, i.bytes, i.zero)) = some (0, 0, some (.agg #[])) := by kernel_rfl
theorem inf97 : (Tryz.prog.info? 97).map (fun i => (i.size, i.bytes, i.zero)) = some (0, 0, some (.agg #[])) := by kernel_rfl
theorem inf98 : (Tryz.prog.info? 98).map (fun i => (i.size, i.bytes, i.zero)) = some (1, 4, some (.int .u32 0)) := by kernel_rfl
theorem inf99 : (Tryz.prog.info? 99).map (fun i => (i.size, i.bytes, i.zero)) = some (2, 8, some (.agg #[.int .i32 0, .int .u32 0])) := by kernel_rfl
theorem inf100 : (Tryz.prog.info? 100).map (fun i => (i.size, i.bytes, i.zero)) = some (2, 8, some (.agg #[.int .i32 0, .int .u32 0])) := by kernel_rfl
theorem inf101 : (Tryz.prog.info? 101).map (fun i => (i.size, i.bytes, i.zero)) = some (2, 8, some (.agg #[.int .i32 0, .int .u32 0])) := by kernel_rfl
theorem inf102 : (Tryz.prog.info? 102).map (fun i => (i.size, i.bytes, i.zero)) = some (2, 8, some (.agg #[.int .i32 0, .int .u32 0])) := by kernel_rfl
theorem inf103 : (Tryz.prog.info? 103).map (fun i => (i.size, i.bytes, i.zero)) = some (6, 56, some (.agg #[.int .i32 0, .int .u32 0, .slice none 0 0, .int .i64 0, .int .i64 0, .bool false])) := by kernel_rfl
theorem inf104 : (Tryz.prog.info? 104).map (fun i => (i.size, i.bytes, i.zero)) = some (6, 56, some (.agg #[.int .i32 0, .int .u32 0, .slice none 0 0, .int .i64 0, .int .i64 0, .bool false])) := by kernel_rfl
theorem inf105 : (Tryz.prog.info? 105).map (fun i => (i.size, i.bytes, i.zero)) = some (1, 0, some (.tuple #[.slice none 0 0, .int .i64 0, .int .i64 0])) := by kernel_rfl
theorem inf106 : (Tryz.prog.info? 106).map (fun i => (i.size, i.bytes, i.zero)) = some (1, 8, some (.nilFunc)) := by kernel_rfl
theorem inf107 : (Tryz.prog.info? 107).map (fun i => (i.size, i.bytes, i.zero)) = some (1, 8, some (.pointer none)) := by kernel_rfl
theorem inf108 : (Tryz.prog.info? 108).map (fun i => (i.size, i.bytes, i.zero)) = some (4, 48, some (.agg #[.pointer none, .slice none 0 0, .int .i64 0, .int .i64 0])) := by kernel_rfl
theorem inf109 : (Tryz.prog.info? 109).map (fun i => (i.size, i.bytes, i.zero)) = some (4, 48, some (.agg #[.pointer none, .slice none 0 0, .int .i64 0, .int .i64 0])) := by kernel_rfl
theorem inf110 : (Tryz.prog.info? 110).map (fun i => (i.size, i.bytes, i.zero)) = some (3, 24, some (.agg #[.pointer none, .pointer none, .int .i64 0])) := by kernel_rfl
theorem inf111 : (Tryz.prog.info? 111).map (fun i => (i.size, i.bytes, i.zero)) = some (3, 24, some (.agg #[.pointer none, .pointer none, .int .i64 0])) := by kernel_rfl
theorem inf112 : (Tryz.prog.info? 112).map (fun i => (i.size, i.bytes, i.zero)) = some (1, 0, some (.tuple #[.slice none 0 0, .int .i64 0, .int .i64 0])) := by kernel_rfl
theorem inf113 : (Tryz.prog.info? 113).map (fun i => (i.size, i.bytes, i.zero)) = some (1, 8, some (.nilFunc)) := by kernel_rfl
theorem inf114 : (Tryz.prog.info? 114).map (fun i => (i.size, i.bytes, i.zero)) = some (1, 8, some (.nilFunc)) := by kernel_rfl
theorem inf115 : (Tryz.prog.info? 115).map (fun i => (i.size, i.bytes, i.zero)) = some (1, 8, some (.nilFunc)) := by kernel_rfl
theorem inf116 : (Tryz.prog.info? 116).map (fun i => (i.size, i.bytes, i.zero)) = some (5, 56, some (.agg #[.slice none 0 0, .int .i64 0, .int .i64 0, .int .i64 0, .int .i64 0])) := by kernel_rfl
theorem inf117 : (Tryz.prog.info? 117).map (fun i => (i.size, i.bytes, i.zero)) = some (5, 56, some (.agg #[.slice none 0 0, .int .i64 0, .int .i64 0, .int .i64 0, .int .i64 0])) := by kernel_rfl
theorem inf118 : (Tryz.prog.info? 118).map (fun i => (i.size, i.bytes, i.zero)) = some (1, 0, some (.tuple #[.agg #[.int .i64 0, .int .u64 0, .string ⟨#[]⟩, .slice none 0 0], .int .i64 0, .int .i64 0])) := by kernel_rfl
theorem inf119 : (Tryz.prog.info? 119).map (fun i => (i.size, i.bytes, i.zero)) = some (1, 8, some (.nilFunc)) := by kernel_rfl
theorem inf120 : (Tryz.prog.info? 120).map (fun i => (i.size, i.bytes, i.zero)) = some (1, 0, some (.tuple #[.agg #[.slice none 0 0, .slice none 0 0], .int .i64 0, .int .i64 0])) := by kernel_rfl
theorem inf121 : (Tryz.prog.info? 121).map (fun i => (i.size, i.bytes, i.zero)) = some (1, 8, some (.nilFunc)) := by kernel_rfl
theorem inf122 : (Tryz.prog.info? 122).map (fun i => (i.size, i.bytes, i.zero)) = some (1, 8, some (.nilFunc)) := by kernel_rfl
theorem inf123 : (Tryz.prog.info? 123).map (fun i => (i.size, i.bytes, i.zero)) = some (1, 8, some (.nilFunc)) := by kernel_rfl
theorem inf124 : (Tryz.prog.info? 124).map (fun i => (i.size, i.bytes, i.zero)) = some (1, 0, some (.tuple #[.int .i64 0, .int .i64 0, .int .i64 0])) := by kernel_rfl
theorem inf125 : (Tryz.prog.info? 125).map (fun i => (i.size, i.bytes, i.zero)) = some (1, 8, some (.nilFunc)) := by kernel_rfl
theorem inf126 : (Tryz.prog.info? 126).map (fun i => (i.size, i.bytes, i.zero)) = some (1, 0, some (.tuple #[.slice none 0 0, .int .i64 0])) := by kernel_rfl
theorem inf127 : (Tryz.prog.info? 127).map (fun i => (i.size, i.bytes, i.zero)) = some (1, 8, some (.nilFunc)) := by kernel_rfl
theorem inf128 : (Tryz.prog.info? 128).map (fun i => (i.size, i.bytes, i.zero)) = some (1, 8, some (.nilFunc)) := by kernel_rfl
theorem inf129 : (Tryz.prog.info? 129).map (fun i => (i.size, i.bytes, i.zero)) = some (1, 8, some (.nilFunc)) := by kernel_rfl
theorem inf130 : (Tryz.prog.info? 130).map (fun i => (i.size, i.bytes, i.zero)) = some (1, 0, some (.tuple #[.int .u64 0, .int .i64 0, .int .i64 0])) := by kernel_rfl
theorem inf131 : (Tryz.prog.info? 131).map (fun i => (i.size, i.bytes, i.zero)) = some (1, 8, some (.nilFunc)) := by kernel_rfl
theorem inf132 : (Tryz.prog.info? 132).map (fun i => (i.size, i.bytes, i.zero)) = some (4, 48, some (.agg #[.slice none 0 0, .int .i64 0, .int .i64 0, .bool false])) := by kernel_rfl
theorem inf133 : (Tryz.prog.info? 133).map (fun i => (i.size, i.bytes, i.zero)) = some (4, 48, some (.agg #[.slice none 0 0, .int .i64 0, .int .i64 0, .bool false])) := by kernel_rfl
theorem inf134 : (Tryz.prog.info? 134).map (fun i => (i.size, i.bytes, i.zero)) = some (1, 8, some (.nilFunc)) := by kernel_rfl
theorem inf135 : (Tryz.prog.info? 135).map (fun i => (i.size, i.bytes, i.zero)) = some (1, 8, some (.nilFunc)) := by kernel_rfl
theorem inf136 : (Tryz.prog.info? 136).map (fun i => (i.size, i.bytes, i.zero)) = some (1, 8, some (.nilFunc)) := by kernel_rfl
theorem inf137 : (Tryz.prog.info? 137).map (fun i => (i.size, i.bytes, i.zero)) = some (1, 8, some (.nilFunc)) := by kernel_rfl
theorem inf138 : (Tryz.prog.info? 138).map (fun i => (i.size, i.bytes, i.zero)) = some (2, 32, some (.agg #[.slice none 0 0, .int .i64 0])) := by kernel_rfl
theorem inf139 : (Tryz.prog.info? 139).map (fun i => (i.size, i.bytes, i.zero)) = some (2, 32, some (.agg #[.slice none 0 0, .int .i64 0])) := by kernel_rfl
theorem inf140 : (Tryz.prog.info? 140).map (fun i => (i.size, i.bytes, i.zero)) = some (1, 8, some (.nilFunc)) := by kernel_rfl
theorem inf141 : (Tryz.prog.info? 141).map (fun i => (i.size, i.bytes, i.zero)) = some (1, 8, some (.nilFunc)) := by kernel_rfl
theorem inf142 : (Tryz.prog.info? 142).map (fun i => (i.size, i.bytes, i.zero)) = some (1, 8, some (.nilFunc)) := by kernel_rfl
theorem inf143 : (Tryz.prog.info? 143).map (fun i => (i.size, i.bytes, i.zero)) = some (1, 24, some (.slice none 0 0)) := by kernel_rfl
theorem inf144 : (Tryz.prog.info? 144).map (fun i => (i.size, i.bytes, i.zero)) = some (3, 40, some (.agg #[.int .i64 0, .slice none 0 0, .int .i64 0])) := by kernel_rfl
theorem inf145 : (Tryz.prog.info? 145).map (fun i => (i.size, i.bytes, i.zero)) = some (3, 40, some (.agg #[.int .i64 0, .slice none 0 0, .int .i64 0])) := by kernel_rfl
theorem inf146 : (Tryz.prog.info? 146).map (fun i => (i.size, i.bytes, i.zero)) = some (1, 8, some (.nilFunc)) := by kernel_rfl
theorem inf147 : (Tryz.prog.info? 147).map (fun i => (i.size, i.bytes, i.zero)) = some (1, 8, some (.pointer none)) := by kernel_rfl
theorem inf148 : (Tryz.prog.info? 148).map (fun i => (i.size, i.bytes, i.zero)) = some (1, 8, some (.pointer none)) := by kernel_rfl
theorem inf149 : (Tryz.prog.info? 149).map (fun i => (i.size, i.bytes, i.zero)) = some (1, 0, some (.tuple #[.pointer none, .pointer none, .int .i64 0, .bool false])) := by kernel_rfl
theorem inf150 : (Tryz.prog.info? 150).map (fun i => (i.size, i.bytes, i.zero)) = some (1, 8, some (.nilFunc)) := by kernel_rfl
theorem inf151 : (Tryz.prog.info? 151).map (fun i => (i.size, i.bytes, i.zero)) = some (4, 48, some (.agg #[.int .i64 0, .pointer none, .slice none 0 0, .int .i64 0])) := by kernel_rfl
theorem inf152 : (Tryz.prog.info? 152).map (fun i => (i.size, i.bytes, i.zero)) = some (4, 48, some (.agg #[.int .i64 0, .pointer none, .slice none 0 0, .int .i64 0])) := by kernel_rfl
theorem inf153 : (Tryz.prog.info? 153).map (fun i => (i.size, i.bytes, i.zero)) = some (4, 64, some (.agg #[.int .i64 0, .int .i64 0, .slice none 0 0, .slice none 0 0])) := by kernel_rfl
theorem inf154 : (Tryz.prog.info? 154).map (fun i => (i.size, i.bytes, i.zero)) = some (4, 64, some (.agg #[.int .i64 0, .int .i64 0, .slice none 0 0, .slice none 0 0])) := by kernel_rfl
theorem inf155 : (Tryz.prog.info? 155).map (fun i => (i.size, i.bytes, i.zero)) = some (1, 8, some (.nilFunc)) := by kernel_rfl
theorem inf156 : (Tryz.prog.info? 156).map (fun i => (i.size, i.bytes, i.zero)) = some (1, 0, some (.tuple #[.agg #[.int .i64 0, .int .i64 0, .int .i64 0, .int .u64 0, .string ⟨#[]⟩, .slice none 0 0, .int .i64 0, .slice none 0 0, .slice none 0 0], .int .i64 0])) := by kernel_rfl
theorem inf157 : (Tryz.prog.info? 157).map (fun i => (i.size, i.bytes, i.zero)) = some (1, 8, some (.nilFunc)) := by kernel_rfl
theorem inf158 : (Tryz.prog.info? 158).map (fun i => (i.size, i.bytes, i.zero)) = some (1, 8, some (.nilFunc)) := by kernel_rfl
theorem inf159 : (Tryz.prog.info? 159).map (fun i => (i.size, i.bytes, i.zero)) = some (1, 8, some (.nilFunc)) := by kernel_rfl
theorem inf160 : (Tryz.prog.info? 160).map (fun i => (i.size, i.bytes, i.zero)) = some (3, 32, some (.agg #[.int .i64 0, .int .i64 0, .string ⟨#[]⟩])) := by kernel_rfl
theorem inf161 : (Tryz.prog.info? 161).map (fun i => (i.size, i.bytes, i.zero)) = some (3, 32, some (.agg #[.int .i64 0, .int .i64 0, .string ⟨#[]⟩])) := by kernel_rfl
theorem inf162 : (Tryz.prog.info? 162).map (fun i => (i.size, i.bytes, i.zero)) = some (1, 8, some (.nilFunc)) := by kernel_rfl
theorem inf163 : (Tryz.prog.info? 163).map (fun i => (i.size, i.bytes, i.zero)) = some (1, 8, some (.nilFunc)) := by kernel_rfl
theorem inf164 : (Tryz.prog.info? 164).map (fun i => (i.size, i.bytes, i.zero)) = some (1, 0, some (.tuple #[.slice none 0 0, .int .i64 0, .int .i64 0])) := by kernel_rfl
theorem inf165 : (Tryz.prog.info? 165).map (fun i => (i.size, i.bytes, i.zero)) = some (1, 8, some (.nilFunc)) := by kernel_rfl
theorem inf166 : (Tryz.prog.info? 166).map (fun i => (i.size, i.bytes, i.zero)) = some (1, 8, some (.pointer none)) := by kernel_rfl
theorem inf167 : (Tryz.prog.info? 167).map (fun i => (i.size, i.bytes, i.zero)) = some (1, 8, some (.nilFunc)) := by kernel_rfl
theorem inf168 : (Tryz.prog.info? 168).map (fun i => (i.size, i.bytes, i.zero)) = some (1, 8, some (.nilFunc)) := by kernel_rfl
theorem inf169 : (Tryz.prog.info? 169).map (fun i => (i.size, i.bytes, i.zero)) = some (1, 8, some (.nilFunc)) := by kernel_rfl
theorem inf170 : (Tryz.prog.info? 170).map (fun i => (i.size, i.bytes, i.zero)) = some (1, 0, some (.tuple #[.slice none 0 0, .int .i64 0])) := by kernel_rfl
theorem inf171 : (Tryz.prog.info? 171).map (fun i => (i.size, i.bytes, i.zero)) = some (1, 8, some (.nilFunc)) := by kernel_rfl
theorem inf172 : (Tryz.prog.info? 172).map (fun i => (i.size, i.bytes, i.zero)) = some (1, 8, some (.nilFunc)) := by kernel_rfl
theorem inf173 : (Tryz.prog.info? 173).map (fun i => (i.size, i.bytes, i.zero)) = some (1, 0, some (.tuple #[.pointer none, .int .i64 0, .int .i64 0])) := by kernel_rfl
theorem inf174 : (Tryz.prog.info? 174).map (fun i => (i.size, i.bytes, i.zero)) = some (1, 8, some (.nilFunc)) := by kernel_rfl
theorem inf175 : (Tryz.prog.info? 175).map (fun i => (i.size, i.bytes, i.zero)) = some (1, 8, some (.nilFunc)) := by kernel_rfl
theorem inf176 : (Tryz.prog.info? 176).map (fun i => (i.size, i.bytes, i.zero)) = some (1, 8, some (.nilFunc)) := by kernel_rfl
theorem inf177 : (Tryz.prog.info? 177).map (fun i => (i.size, i.bytes, i.zero)) = some (1, 8, some (.nilFunc)) := by kernel_rfl
theorem inf178 : (Tryz.prog.info? 178).map (fun i => (i.size, i.bytes, i.zero)) = some (1, 8, some (.nilFunc)) := by kernel_rfl
theorem inf179 : (Tryz.prog.info? 179).map (fun i => (i.size, i.bytes, i.zero)) = some (1, 8, some (.int .u64 0)) := by kernel_rfl
theorem inf180 : (Tryz.prog.info? 180).map (fun i => (i.size, i.bytes, i.zero)) = some (1, 0, some (.tuple #[.int .i64 0, .int .i64 0, .bool false])) := by kernel_rfl
theorem inf181 : (Tryz.prog.info? 181).map (fun i => (i.size, i.bytes, i.zero)) = some (1, 8, some (.nilFunc)) := by kernel_rfl
theorem inf182 : (Tryz.prog.info? 182).map (fun i => (i.size, i.bytes, i.zero)) = some (1, 8, some (.pointer none)) := by kernel_rfl
theorem inf183 : (Tryz.prog.info? 183).map (fun i => (i.size, i.bytes, i.zero)) = some (1, 8, some (.nilFunc)) := by kernel_rfl
theorem inf184 : (Tryz.prog.info? 184).map (fun i => (i.size, i.bytes, i.zero)) = some (1, 0, some (.tuple #[.int .i64 0, .int .i64 0])) := by kernel_rfl
theorem inf185 : (Tryz.prog.info? 185).map (fun i => (i.size, i.bytes, i.zero)) = some (1, 8, some (.nilFunc)) := by kernel_rfl
theorem inf186 : (Tryz.prog.info? 186).map (fun i => (i.size, i.bytes, i.zero)) = some (1, 0, some (.tuple #[.agg #[.int .i64 0, .int .u64 0, .string ⟨#[]⟩, .slice none 0 0], .int .i64 0, .int .i64 0])) := by kernel_rfl
theorem inf187 : (Tryz.prog.info? 187).map (fun i => (i.size, i.bytes, i.zero)) = some (1, 8, some (.nilFunc)) := by kernel_rfl
theorem inf188 : (Tryz.prog.info? 188).map (fun i => (i.size, i.bytes, i.zero)) = some (1, 0, some (.tuple #[.agg #[.slice none 0 0, .slice none 0 0], .int .i64 0, .int .i64 0])) := by kernel_rfl
theorem inf189 : (Tryz.prog.info? 189).map (fun i => (i.size, i.bytes, i.zero)) = some (1, 8, some (.nilFunc)) := by kernel_rfl
theorem inf190 : (Tryz.prog.info? 190).map (fun i => (i.size, i.bytes, i.zero)) = some (1, 8, some (.nilFunc)) := by kernel_rfl
theorem inf191 : (Tryz.prog.info? 191).map (fun i => (i.size, i.bytes, i.zero)) = some (1, 8, some (.nilFunc)) := by kernel_rfl
theorem inf192 : (Tryz.prog.info? 192).map (fun i => (i.size, i.bytes, i.zero)) = some (1, 8, some (.pointer none)) := by kernel_rfl
theorem inf193 : (Tryz.prog.info? 193).map (fun i => (i.size, i.bytes, i.zero)) = some (1, 8, some (.nilFunc)) := by kernel_rfl
theorem inf194 : (Tryz.prog.info? 194).map (fun i => (i.size, i.bytes, i.zero)) = some (1, 8, some (.pointer none)) := by kernel_rfl
theorem inf195 : (Tryz.prog.info? 195).map (fun i => (i.size, i.bytes, i.zero)) = some (1, 8, some (.nilFunc)) := by kernel_rfl
theorem inf196 : (Tryz.prog.info? 196).map (fun i => (i.size, i.bytes, i.zero)) = some (1, 8, some (.pointer none)) := by kernel_rfl
theorem inf197 : (Tryz.prog.info? 197).map (fun i => (i.size, i.bytes, i.zero)) = some (1, 8, some (.nilFunc)) := by kernel_rfl
theorem inf198 : (Tryz.prog.info? 198).map (fun i => (i.size, i.bytes, i.zero)) = some (1, 8, some (.nilFunc)) := by kernel_rfl
theorem inf199 : (Tryz.prog.info? 199).map (fun i => (i.size, i.bytes, i.zero)) = some (1, 8, some (.nilFunc)) := by kernel_rfl
theorem inf200 : (Tryz.prog.info? 200).map (fun i => (i.size, i.bytes, i.zero)) = some (1, 8, some (.nilFunc)) := by kernel_rfl
theorem inf201 : (Tryz.prog.info? 201).map (fun i => (i.size, i.bytes, i.zero)) = some (1, 8, some (.nilFunc)) := by kernel_rfl
theorem inf202 : (Tryz.prog.info? 202).map (fun i => (i.size, i.bytes, i.zero)) = some (1, 8, some (.nilFunc)) := by kernel_rfl
theorem inf203 : (Tryz.prog.info? 203).map (fun i => (i.size, i.bytes, i.zero)) = some (1, 8, some (.nilFunc)) := by kernel_rfl
theorem inf204 : (Tryz.prog.info? 204).map (fun i => (i.size, i.bytes, i.zero)) = some (1, 0, some (.tuple #[.agg #[.slice none 0 0, .slice none 0 0], .int .i64 0])) := by kernel_rfl
theorem inf205 : (Tryz.prog.info? 205).map (fun i => (i.size, i.bytes, i.zero)) = some (1, 8, some (.nilFunc)) := by kernel_rfl
theorem inf206 : (Tryz.prog.info? 206).map (fun i => (i.size, i.bytes, i.zero)) = some (1, 8, some (.nilFunc)) := by kernel_rfl
theorem inf207 : (Tryz.prog.info? 207).map (fun i => (i.size, i.bytes, i.zero)) = some (1, 8, some (.nilFunc)) := by kernel_rfl
theorem inf208 : (Tryz.prog.info? 208).map (fun i => (i.size, i.bytes, i.zero)) = some (1, 8, some (.nilFunc)) := by kernel_rfl
theorem inf209 : (Tryz.prog.info? 209).map (fun i => (i.size, i.bytes, i.zero)) = some (1, 8, some (.nilFunc)) := by kernel_rfl
theorem inf210 : (Tryz.prog.info? 210).map (fun i => (i.size, i.bytes, i.zero)) = some (1, 8, some (.map none)) := by kernel_rfl
theorem inf211 : (Tryz.prog.info? 211).map (fun i => (i.size, i.bytes, i.zero)) = some (1, 8, some (.map none)) := by kernel_rfl
theorem inf212 : (Tryz.prog.info? 212).map (fun i => (i.size, i.bytes, i.zero)) = some (1, 8, some (.nilFunc)) := by kernel_rfl
theorem inf213 : (Tryz.prog.info? 213).map (fun i => (i.size, i.bytes, i.zero)) = some (1, 8, some (.nilFunc)) := by kernel_rfl
theorem inf214 : (Tryz.prog.info? 214).map (fun i => (i.size, i.bytes, i.zero)) = some (1, 8, some (.nilFunc)) := by kernel_rfl
theorem inf215 : (Tryz.prog.info? 215).map (fun i => (i.size, i.bytes, i.zero)) = some (1, 0, some (.tuple #[.agg #[.slice none 0 0, .slice none 0 0], .int .i64 0])) := by kernel_rfl
theorem inf216 : (Tryz.prog.info? 216).map (fun i => (i.size, i.bytes, i.zero)) = some (1, 8, some (.nilFunc)) := by kernel_rfl
theorem inf217 : (Tryz.prog.info? 217).map (fun i => (i.size, i.bytes, i.zero)) = some (5, 56, some (.agg #[.slice none 0 0, .int .i64 0, .int .i64 0, .int .i64 0, .int .i64 0])) := by kernel_rfl
theorem inf218 : (Tryz.prog.info? 218).map (fun i => (i.size, i.bytes, i.zero)) = some (5, 56, some (.agg #[.slice none 0 0, .int .i64 0, .int .i64 0, .int .i64 0, .int .i64 0])) := by kernel_rfl
theorem inf219 : (Tryz.prog.info? 219).map (fun i => (i.size, i.bytes, i.zero)) = some (1, 8, some (.nilFunc)) := by kernel_rfl
theorem inf220 : (Tryz.prog.info? 220).map (fun i => (i.size, i.bytes, i.zero)) = some (1, 8, some (.nilFunc)) := by kernel_rfl
theorem inf221 : (Tryz.prog.info? 221).map (fun i => (i.size, i.bytes, i.zero)) = some (1, 8, some (.nilFunc)) := by kernel_rfl
theorem inf222 : (Tryz.prog.info? 222).map (fun i => (i.size, i.bytes, i.zero)) = some (1, 8, some (.agg #[.int .i64 0])) := by kernel_rfl
theorem inf223 : (Tryz.prog.info? 223).map (fun i => (i.size, i.bytes, i.zero)) = some (1, 8, some (.agg #[.int .i64 0])) := by kernel_rfl
theorem inf224 : (Tryz.prog.info? 224).map (fun i => (i.size, i.bytes, i.zero)) = some (1, 8, some (.nilFunc)) := by kernel_rfl
theorem inf225 : (Tryz.prog.info? 225).map (fun i => (i.size, i.bytes, i.zero)) = some (1, 8, some (.nilFunc)) := by kernel_rfl
theorem inf226 : (Tryz.prog.info? 226).map (fun i => (i.size, i.bytes, i.zero)) = some (1, 8, some (.nilFunc)) := by kernel_rfl
theorem inf227 : (Tryz.prog.info? 227).map (fun i => (i.size, i.bytes, i.zero)) = some (1, 8, some (.nilFunc)) := by kernel_rfl
theorem inf228 : (Tryz.prog.info? 228).map (fun i => (i.size, i.bytes, i.zero)) = some (1, 8, some (.nilFunc)) := by kernel_rfl
theorem inf229 : (Tryz.prog.info? 229).map (fun i => (i.size, i.bytes, i.zero)) = some (1, 8, some (.nilFunc)) := by kernel_rfl
theorem inf230 : (Tryz.prog.info? 230).map (fun i => (i.size, i.bytes, i.zero)) = some (1, 8, some (.nilFunc)) := by kernel_rfl
theorem inf231 : (Tryz.prog.info? 231).map (fun i => (i.size, i.bytes, i.zero)) = some (1, 8, some (.pointer none)) := by kernel_rfl
theorem inf232 : (Tryz.prog.info? 232).map (fun i => (i.size, i.bytes, i.zero)) = some (1, 8, some (.nilFunc)) := by kernel_rfl
theorem inf233 : (Tryz.prog.info? 233).map (fun i => (i.size, i.bytes, i.zero)) = some (1, 8, some (.nilFunc)) := by kernel_rfl
theorem inf234 : (Tryz.prog.info? 234).map (fun i => (i.size, i.bytes, i.zero)) = some (1, 8, some (.nilFunc)) := by kernel_rfl
theorem inf235 : (Tryz.prog.info? 235).map (fun i => (i.size, i.bytes, i.zero)) = some (1, 8, some (.nilFunc)) := by kernel_rfl
theorem inf236 : (Tryz.prog.info? 236).map (fun i => (i.size, i.bytes, i.zero)) = some (1, 8, some (.nilFunc)) := by kernel_rfl
theorem inf237 : (Tryz.prog.info? 237).map (fun i => (i.size, i.bytes, i.zero)) = some (1, 8, some (.nilFunc)) := by kernel_rfl
theorem inf238 : (Tryz.prog.info? 238).map (fun i => (i.size, i.bytes, i.zero)) = some (1, 8, some (.nilFunc)) := by kernel_rfl
theorem inf239 : (Tryz.prog.info? 239).map (fun i => (i.size, i.bytes, i.zero)) = some (1, 24, some (.slice none 0 0)) := by kernel_rfl
theorem inf240 : (Tryz.prog.info? 240).map (fun i => (i.size, i.bytes, i.zero)) = some (1, 0, some (.tuple #[.agg #[.int .i64 0], .bool false])) := by kernel_rfl
theorem inf241 : (Tryz.prog.info? 241).map (fun i => (i.size, i.bytes, i.zero)) = some (1, 8, some (.nilFunc)) := by kernel_rfl
theorem inf242 : (Tryz.prog.info? 242).map (fun i => (i.size, i.bytes, i.zero)) = some (1, 8, some (.nilFunc)) := by kernel_rfl
theorem inf243 : (Tryz.prog.info? 243).map (fun i => (i.size, i.bytes, i.zero)) = some (1, 8, some (.nilFunc)) := by kernel_rfl
theorem inf244 : (Tryz.prog.info? 244).map (fun i => (i.size, i.bytes, i.zero)) = some (1, 8, some (.nilFunc)) := by kernel_rfl
theorem inf245 : (Tryz.prog.info? 245).map (fun i => (i.size, i.bytes, i.zero)) = some (1, 8, some (.nilFunc)) := by kernel_rfl
theorem inf246 : (Tryz.prog.info? 246).map (fun i => (i.size, i.bytes, i.zero)) = some (1, 8, some (.nilFunc)) := by kernel_rfl
theorem inf247 : (Tryz.prog.info? 247).map (fun i => (i.size, i.bytes, i.zero)) = some (1, 8, some (.int .i64 0)) := by kernel_rfl
theorem inf248 : (Tryz.prog.info? 248).map (fun i => (i.size, i.bytes, i.zero)) = some (1, 0, some (.tuple #[.int .i64 0, .int .i64 0])) := by kernel_rfl
theorem inf249 : (Tryz.prog.info? 249).map (fun i => (i.size, i.bytes, i.zero)) = some (1, 8, some (.nilFunc)) := by kernel_rfl
theorem inf250 : (Tryz.prog.info? 250).map (fun i => (i.size, i.bytes, i.zero)) = some (1, 8, some (.nilFunc)) := by kernel_rfl
theorem inf251 : (Tryz.prog.info? 251).map (fun i => (i.size, i.bytes, i.zero)) = some (1, 8, some (.nilFunc)) := by kernel_rfl
theorem inf252 : (Tryz.prog.info? 252).map (fun i => (i.size, i.bytes, i.zero)) = some (1, 8, some (.nilFunc)) := by kernel_rfl
theorem inf253 : (Tryz.prog.info? 253).map (fun i => (i.size, i.bytes, i.zero)) = some (1, 0, some (.tuple #[.int .i64 0, .bool false])) := by kernel_rfl
theorem inf254 : (Tryz.prog.info? 254).map (fun i => (i.size, i.bytes, i.zero)) = some (1, 8, some (.nilFunc)) := by kernel_rfl
theorem inf255 : (Tryz.prog.info? 255).map (fun i => (i.size, i.bytes, i.zero)) = some (1, 8, some (.nilFunc)) := by kernel_rfl
theorem inf256 : (Tryz.prog.info? 256).map (fun i => (i.size, i.bytes, i.zero)) = some (1, 8, some (.nilFunc)) := by kernel_rfl
theorem inf257 : (Tryz.prog.info? 257).map (fun i => (i.size, i.bytes, i.zero)) = some (1, 8, some (.int .u64 0)) := by kernel_rfl
theorem inf258 : (Tryz.prog.info? 258).map (fun i => (i.size, i.bytes, i.zero)) = some (1, 8, some (.nilFunc)) := by kernel_rfl
theorem inf259 : (Tryz.prog.info? 259).map (fun i => (i.size, i.bytes, i.zero)) = some (1, 8, some (.nilFunc)) := by kernel_rfl
theorem inf260 : (Tryz.prog.info? 260).map (fun i => (i.size, i.bytes, i.zero)) = some (1, 8, some (.pointer none)) := by kernel_rfl
theorem inf261 : (Tryz.prog.info? 261).map (fun i => (i.size, i.bytes, i.zero)) = some (1, 8, some (.nilFunc)) := by kernel_rfl
theorem inf262 : (Tryz.prog.info? 262).map (fun i => (i.size, i.bytes, i.zero)) = some (1, 8, some (.pointer none)) := by kernel_rfl
theorem inf263 : (Tryz.prog.info? 263).map (fun i => (i.size, i.bytes, i.zero)) = some (1, 0, some (.tuple #[.int .i64 0, .int .i64 0])) := by kernel_rfl
theorem inf264 : (Tryz.prog.info? 264).map (fun i => (i.size, i.bytes, i.zero)) = some (1, 8, some (.nilFunc)) := by kernel_rfl
theorem inf265 : (Tryz.prog.info? 265).map (fun i => (i.size, i.bytes, i.zero)) = some (4, 40, some (.agg #[.pointer none, .pointer none, .pointer none, .string ⟨#[]⟩])) := by kernel_rfl
theorem inf266 : (Tryz.prog.info? 266).map (fun i => (i.size, i.bytes, i.zero)) = some (4, 40, some (.agg #[.pointer none, .pointer none, .pointer none, .string ⟨#[]⟩])) := by kernel_rfl
theorem inf267 : (Tryz.prog.info? 267).map (fun i => (i.size, i.bytes, i.zero)) = some (0, 0, some (.agg #[])) := by kernel_rfl
theorem inf268 : (Tryz.prog.info? 268).map (fun i => (i.size, i.bytes, i.zero)) = some (0, 0, some (.agg #[])) := by kernel_rfl
theorem inf269 : (Tryz.prog.info? 269).map (fun i => (i.size, i.bytes, i.zero)) = some (0, 0, some (.agg #[])) := by kernel_rfl
theorem inf270 : (Tryz.prog.info? 270).map (fun i => (i.size, i.bytes, i.zero)) = some (1, 1, some (.int .u8 0)) := by kernel_rfl
theorem inf271 : (Tryz.prog.info? 271).map (fun i => (i.size, i.bytes, i.zero)) = some (1, 1, some (.int .u8 0)) := by kernel_rfl
theorem inf272 : (Tryz.prog.info? 272).map (fun i => (i.size, i.bytes, i.zero)) = some (1, 8, some (.nilFunc)) := by kernel_rfl
theorem inf273 : (Tryz.prog.info? 273).map (fun i => (i.size, i.bytes, i.zero)) = some (1, 8, some (.pointer none)) := by kernel_rfl
theorem inf274 : (Tryz.prog.info? 274).map (fun i => (i.size, i.bytes, i.zero)) = some (1, 4, some (.int .i32 0)) := by kernel_rfl
theorem inf275 : (Tryz.prog.info? 275).map (fun i => (i.size, i.bytes, i.zero)) = some (1, 4, some (.int .i32 0)) := by kernel_rfl
theorem inf276 : (Tryz.prog.info? 276).map (fun i => (i.size, i.bytes, i.zero)) = some (11, 48, some (.agg #[.int .u64 0, .int .u64 0, .int .u32 0, .int .u8 0, .int .u8 0, .int .u8 0, .int .u8 0, .nilFunc, .pointer none, .int .i32 0, .int .i32 0])) := by kernel_rfl
theorem inf277 : (Tryz.prog.info? 277).map (fun i => (i.size, i.bytes, i.zero)) = some (11, 48, some (.agg #[.int .u64 0, .int .u64 0, .int .u32 0, .int .u8 0, .int .u8 0, .int .u8 0, .int .u8 0, .nilFunc, .pointer none, .int .i32 0, .int .i32 0])) := by kernel_rfl
theorem tInf_ok : ∀ p ∈ tInf, ∃ i, Tryz.prog.info? p.1 = some i ∧ i.size = p.2.1 ∧ i.bytes = p.2.2.1 ∧ i.zero = some p.2.2.2 := by
 simp only [tUnd, tInf, tFld, tFn, List.forall_mem_cons, List.not_mem_nil, false_imp_iff, implies_true, and_true]
 refine ⟨?_, ?_, ?_, ?_, ?_, ?_, ?_, ?_, ?_, ?_, ?_, ?_, ?_, ?_, ?_, ?_, ?_, ?_, ?_, ?_, ?_, ?_, ?_, ?_, ?_, ?_, ?_, ?_, ?_, ?_, ?_, ?_, ?_, ?_, ?_, ?_, ?_, ?_, ?_, ?_, ?_, ?_, ?_, ?_, ?_, ?_, ?_, ?_, ?_, ?_, ?_, ?_, ?_, ?_, ?_, ?_, ?_, ?_, ?_, ?_, ?_, ?_, ?_, ?_, ?_, ?_, ?_, ?_, ?_, ?_, ?_, ?_, ?_, ?_, ?_, ?_, ?_, ?_, ?_, ?_, ?_, ?_, ?_, ?_, ?_, ?_, ?_, ?_, ?_, ?_, ?_, ?_, ?_, ?_, ?_, ?_, ?_, ?_, ?_, ?_, ?_, ?_, ?_, ?_, ?_, ?_, ?_, ?_, ?_, ?_, ?_, ?_, ?_, ?_, ?_, ?_, ?_, ?_, ?_, ?_, ?_, ?_, ?_, ?_, ?_, ?_, ?_, ?_, ?_, ?_, ?_, ?_, ?_, ?_, ?_, ?_, ?_, ?_, ?_, ?_, ?_, ?_, ?_, ?_, ?_, ?_, ?_, ?_, ?_, ?_, ?_, ?_, ?_, ?_, ?_, ?_, ?_, ?_, ?_, ?_, ?_, ?_, ?_, ?_, ?_, ?_, ?_, ?_, ?_, ?_, ?_, ?_, ?_, ?_, ?_, ?_, ?_, ?_, ?_, ?_, ?_, ?_, ?_, ?_, ?_, ?_, ?_, ?_, ?_, ?_, ?_, ?_, ?_, ?_, ?_, ?_, ?_, ?_, ?_, ?_, ?_, ?_, ?_, ?_, ?_, ?_, ?_, ?_, ?_, ?_, ?_, ?_, ?_, ?_, ?_, ?_, ?_, ?_, ?_, ?_, ?_, ?_, ?_, ?_, ?_, ?_, ?_, ?_, ?_, ?_, ?_, ?_, ?_, ?_, ?_, ?_, ?_, ?_, ?_, ?_, ?_, ?_, ?_, ?_, ?_, ?_, ?_, ?_, ?_, ?_, ?_, ?_, ?_, ?_, ?_, ?_, ?_, ?_, ?_, ?_, ?_, ?_, ?_, ?_, ?_, ?_, ?_, ?_, ?_, ?_, ?_, ?_, ?_, ?_, ?_, ?_, ?_, ?_⟩
 ·exact inf_of inf0
 ·exact inf_of inf1
 ·exact inf_of inf2
 ·exact inf_of inf3
 ·exact inf_of inf4
 ·exact inf_of inf5
 ·exact inf_of inf6
 ·exact inf_of inf7
 ·exact inf_of inf8
 ·exact inf_of inf9
 ·exact inf_of inf10
 ·exact inf_of inf11
 ·exact inf_of inf12
 ·exact inf_of inf13
 ·exact inf_of inf14
 ·exact inf_of inf15
 ·exact inf_of inf16
 ·exact inf_of inf17
 ·exact inf_of inf18
 ·exact inf_of inf19
 ·exact inf_of inf20
 ·exact inf_of inf21
 ·exact inf_of inf22
 ·exact inf_of inf23
 ·exact inf_of inf24
 ·exact inf_of inf25
 ·exact inf_of inf26
 ·exact inf_of inf27
 ·exact inf_of inf28
 ·exact inf_of inf29
 ·exact inf_of inf30
 ·exact inf_of inf31
 ·exact inf_of inf32
 ·exact inf_of inf33
 ·exact inf_of inf34
 ·exact inf_of inf35
 ·exact inf_of inf36
 ·exact inf_of inf37
 ·exact inf_of inf38
 ·exact inf_of inf39
 ·exact inf_of inf40
 ·exact inf_of inf41
 ·exact inf_of inf42
 ·exact inf_of inf43
 ·exact inf_of inf44
 ·exact inf_of inf45
 ·exact inf_of inf46
 ·exact inf_of inf47
 ·exact inf_of inf48
 ·exact inf_of inf49
 ·exact inf_of inf50
 ·exact inf_of inf51
 ·exact inf_of inf52
 ·exact inf_of inf53
 ·exact inf_of inf54
 ·exact inf_of inf55
 ·exact inf_of inf56
 ·exact inf_of inf57
 ·exact inf_of inf58
 ·exact inf_of inf59
 ·exact inf_of inf60
 ·exact inf_of inf61
 ·exact inf_of inf62
 ·exact inf_of inf63
 ·exact inf_of inf64
 ·exact inf_of inf65
 ·exact inf_of inf66
 ·exact inf_of inf67
 ·exact inf_of inf68
 ·exact inf_of inf69
 ·exact inf_of inf70
 ·exact inf_of inf71
 ·exact inf_of inf72
 ·exact inf_of inf73
 ·exact inf_of inf74
 ·exact inf_of inf75
 ·exact inf_of inf76
 ·exact inf_of inf77
 ·exact inf_of inf78
 ·exact inf_of inf79
 ·exact inf_of inf80
 ·exact inf_of inf81
 ·exact inf_of inf82
 ·exact inf_of inf83
 ·exact inf_of inf84
 ·exact inf_of inf85
 ·exact inf_of inf86
 ·exact inf_of inf87
 ·exact inf_of inf88
 ·exact inf_of inf89
 ·exact inf_of inf90
 ·exact inf_of inf91
 ·exact inf_of inf92
 ·exact inf_of inf93
 ·exact inf_of inf94
 ·exact inf_of inf95
 ·exact inf_of inf96
 ·exact inf_of inf97
 ·exact inf_of inf98
 ·exact inf_of inf99
 ·exact inf_of inf100
 ·exact inf_of inf101
 ·exact inf_of inf102
 ·exact inf_of inf103
 ·exact inf_of inf104
 ·exact inf_of inf105
 ·exact inf_of inf106
 ·exact inf_of inf107
 ·exact inf_of inf108
 ·exact inf_of inf109
 ·exact inf_of inf110
 ·exact inf_of inf111
 ·exact inf_of inf112
 ·exact inf_of inf113
 ·exact inf_of inf114
 ·exact inf_of inf115
 ·exact inf_of inf116
 ·exact inf_of inf117
 ·exact inf_of inf118
 ·exact inf_of inf119
 ·exact inf_of inf120
 ·exact inf_of inf121
 ·exact inf_of inf122
 ·exact inf_of inf123
 ·exact inf_of inf124
 ·exact inf_of inf125
 ·exact inf_of inf126
 ·exact inf_of inf127
 ·exact inf_of inf128
 ·exact inf_of inf129
 ·exact inf_of inf130
 ·exact inf_of inf131
 ·exact inf_of inf132
 ·exact inf_of inf133
 ·exact inf_of inf134
 ·exact inf_of inf135
 ·exact inf_of inf136
 ·exact inf_of inf137
 ·exact inf_of inf138
 ·exact inf_of inf139
 ·exact inf_of inf140
 ·exact inf_of inf141
 ·exact inf_of inf142
 ·exact inf_of inf143
 ·exact inf_of inf144
 ·exact inf_of inf145
 ·exact inf_of inf146
 ·exact inf_of inf147
 ·exact inf_of inf148
 ·exact inf_of inf149
 ·exact inf_of inf150
 ·exact inf_of inf151
 ·exact inf_of inf152
 ·exact inf_of inf153
 ·exact inf_of inf154
 ·exact inf_of inf155
 ·exact inf_of inf156
 ·exact inf_of inf157
 ·exact inf_of inf158
 ·exact inf_of inf159
 ·exact inf_of inf160
 ·exact inf_of inf161
 ·exact inf_of inf162
 ·exact inf_of inf163
 ·exact inf_of inf164
 ·exact inf_of inf165
 ·exact inf_of inf166
 ·exact inf_of inf167
 ·exact inf_of inf168
 ·exact inf_of inf169
 ·exact inf_of inf170
 ·exact inf_of inf171
 ·exact inf_of inf172
 ·exact inf_of inf173
 ·exact inf_of inf174
 ·exact inf_of inf175
 ·exact inf_of inf176
 ·exact inf_of inf177
 ·exact inf_of inf178
 ·exact inf_of inf179
 ·exact inf_of inf180
 ·exact inf_of inf181
 ·exact inf_of inf182
 ·exact inf_of inf183
 ·exact inf_of inf184
 ·exact inf_of inf185
 ·exact inf_of inf186
 ·exact inf_of inf187
 ·exact inf_of inf188
 ·exact inf_of inf189
 ·exact inf_of inf190
 ·exact inf_of inf191
 ·exact inf_of inf192
 ·exact inf_of inf193
 ·exact inf_of inf194
 ·exact inf_of inf195
 ·exact inf_of inf196
 ·exact inf_of inf197
 ·exact inf_of inf198
 ·exact inf_of inf199
 ·exact inf_of inf200
 ·exact inf_of inf201
 ·exact inf_of inf202
 ·exact inf_of inf203
 ·exact inf_of inf204
 ·exact inf_of inf205
 ·exact inf_of inf206
 ·exact inf_of inf207
 ·exact inf_of inf208
 ·exact inf_of inf209
 ·exact inf_of inf210
 ·exact inf_of inf211
 ·exact inf_of inf212
 ·exact inf_of inf213
 ·exact inf_of inf214
 ·exact inf_of inf215
 ·exact inf_of inf216
 ·exact inf_of inf217
 ·exact inf_of inf218
 ·exact inf_of inf219
 ·exact inf_of inf220
 ·exact inf_of inf221
 ·exact inf_of inf222
 ·exact inf_of inf223
 ·exact inf_of inf224
 ·exact inf_of inf225
 ·exact inf_of inf226
 ·exact inf_of inf227
 ·exact inf_of inf228
 ·exact inf_of inf229
 ·exact inf_of inf230
 ·exact inf_of inf231
 ·exact inf_of inf232
 ·exact inf_of inf233
 ·exact inf_of inf234
 ·exact inf_of inf235
 ·exact inf_of inf236
 ·exact inf_of inf237
 ·exact inf_of inf238
 ·exact inf_of inf239
 ·exact inf_of inf240
 ·exact inf_of inf241
 ·exact inf_of inf242
 ·exact inf_of inf243
 ·exact inf_of inf244
 ·exact inf_of inf245
 ·exact inf_of inf246
 ·exact inf_of inf247
 ·exact inf_of inf248
 ·exact inf_of inf249
 ·exact inf_of inf250
 ·exact inf_of inf251
 ·exact inf_of inf252
 ·exact inf_of inf253
 ·exact inf_of inf254
 ·exact inf_of inf255
 ·exact inf_of inf256
 ·exact inf_of inf257
 ·exact inf_of inf258
 ·exact inf_of inf259
 ·exact inf_of inf260
 ·exact inf_of inf261
 ·exact inf_of inf262
 ·exact inf_of inf263
 ·exact inf_of inf264
 ·exact inf_of inf265
 ·exact inf_of inf266
 ·exact inf_of inf267
 ·exact inf_of inf268
 ·exact inf_of inf269
 ·exact inf_of inf270
 ·exact inf_of inf271
 ·exact inf_of inf272
 ·exact inf_of inf273
 ·exact inf_of inf274
 ·exact inf_of inf275
 ·exact inf_of inf276
 ·exact inf_of inf277
theorem fld7 : (Tryz.prog.underlying 7).bind (fun d => match d with | .struct fs => some (fs.toList.map (fun f => (f.offset, f.type))) | _ => none) = some [(0, 2), (1, 3), (2, 4), (3, 6)] := by kernel_rfl
theorem fld8 : (Tryz.prog.underlying 8).bind (fun d => match d with | .struct fs => some (fs.toList.map (fun f => (f.offset, f.type))) | _ => none) = some [(0, 2), (1, 3), (2, 4), (3, 6)] := by kernel_rfl
theorem fld13 : (Tryz.prog.underlying 13).bind (fun d => match d with | .struct fs => some (fs.toList.map (fun f => (f.offset, f.type))) | _ => none) = some [(0, 9), (1, 12)] := by kernel_rfl
theorem fld14 : (Tryz.prog.underlying 14).bind (fun d => match d with | .struct fs => some (fs.toList.map (fun f => (f.offset, f.type))) | _ => none) = some [(0, 9), (1, 12)] := by kernel_rfl
theorem fld18 : (Tryz.prog.underlying 18).bind (fun d => match d with | .struct fs => some (fs.toList.map (fun f => (f.offset, f.type))) | _ => none) = some [(0, 17)] := by kernel_rfl
theorem fld19 : (Tryz.prog.underlying 19).bind (fun d => match d with | .struct fs => some (fs.toList.map (fun f => (f.offset, f.type))) | _ => none) = some [(0, 17)] := by kernel_rfl
theorem fld39 : (Tryz.prog.underlying 39).bind (fun d => match d with | .struct fs => some (fs.toList.map (fun f => (f.offset, f.type))) | _ => none) = some [(0, 3), (1, 37), (2, 9), (3, 38)] := by kernel_rfl
theorem fld40 : (Tryz.prog.underlying 40).bind (fun d => match d with | .struct fs => some (fs.toList.map (fun f => (f.offset, f.type))) | _ => none) = some [(0, 3), (1, 37), (2, 9), (3, 38)] := by kernel_rfl
theorem fld42 : (Tryz.prog.underlying 42).bind (fun d => match d with | .struct fs => some (fs.toList.map (fun f => (f.offset, f.type))) | _ => none) = some [(0, 41), (1, 41)] := by kernel_rfl
theorem fld43 : (Tryz.prog.underlying 43).bind (fun d => match d with | .struct fs => some (fs.toList.map (fun f => (f.offset, f.type))) | _ => none) = some [(0, 41), (1, 41)] := by kernel_rfl
theorem fld44 : (Tryz.prog.underlying 44).bind (fun d => match d with | .struct fs => some (fs.toList.map (fun f => (f.offset, f.type))) | _ => none) = some [(0, 40), (4, 3), (5, 43)] := by kernel_rfl
theorem fld45 : (Tryz.prog.underlying 45).bind (fun d => match d with | .struct fs => some (fs.toList.map (fun f => (f.offset, f.type))) | _ => none) = some [(0, 40), (4, 3), (5, 43)] := by kernel_rfl
theorem fld46 : (Tryz.prog.underlying 46).bind (fun d => match d with | .struct fs => some (fs.toList.map (fun f => (f.offset, f.type))) | _ => none) = some [(0, 2), (1, 2), (2, 45)] := by kernel_rfl
theorem fld47 : (Tryz.prog.underlying 47).bind (fun d => match d with | .struct fs => some (fs.toList.map (fun f => (f.offset, f.type))) | _ => none) = some [(0, 2), (1, 2), (2, 45)] := by kernel_rfl
theorem fld61 : (Tryz.prog.underlying 61).bind (fun d => match d with | .struct fs => some (fs.toList.map (fun f => (f.offset, f.type))) | _ => none) = some [(0, 3), (1, 25), (2, 3)] := by kernel_rfl
theorem fld62 : (Tryz.prog.underlying 62).bind (fun d => match d with | .struct fs => some (fs.toList.map (fun f => (f.offset, f.type))) | _ => none) = some [(0, 3), (1, 25), (2, 3)] := by kernel_rfl
theorem fld65 : (Tryz.prog.underlying 65).bind (fun d => match d with | .struct fs => some (fs.toList.map (fun f => (f.offset, f.type))) | _ => none) = some [(0, 2), (1, 36), (2, 4)] := by kernel_rfl
theorem fld66 : (Tryz.prog.underlying 66).bind (fun d => match d with | .struct fs => some (fs.toList.map (fun f => (f.offset, f.type))) | _ => none) = some [(0, 2), (1, 36), (2, 4)] := by kernel_rfl
theorem fld88 : (Tryz.prog.underlying 88).bind (fun d => match d with | .struct fs => some (fs.toList.map (fun f => (f.offset, f.type))) | _ => none) = some [(0, 3), (1, 2), (2, 36), (3, 3)] := by kernel_rfl
theorem fld89 : (Tryz.prog.underlying 89).bind (fun d => match d with | .struct fs => some (fs.toList.map (fun f => (f.offset, f.type))) | _ => none) = some [(0, 3), (1, 2), (2, 36), (3, 3)] := by kernel_rfl
theorem fld96 : (Tryz.prog.underlying 96).bind (fun d => match d with | .struct fs => some (fs.toList.map (fun f => (f.offset, f.type))) | _ => none) = some [] := by kernel_rfl
theorem fld97 : (Tryz.prog.underlying 97).bind (fun d => match d with | .struct fs => some (fs.toList.map (fun f => (f.offset, f.type))) | _ => none) = some [] := by kernel_rfl
theorem fld99 : (Tryz.prog.underlying 99).bind (fun d => match d with | .struct fs => some (fs.toList.map (fun f => (f.offset, f.type))) | _ => none) = some [(0, 21), (1, 98)] := by kernel_rfl
theorem fld100 : (Tryz.prog.underlying 100).bind (fun d => match d with | .struct fs => some (fs.toList.map (fun f => (f.offset, f.type))) | _ => none) = some [(0, 21), (1, 98)] := by kernel_rfl
theorem fld101 : (Tryz.prog.underlying 101).bind (fun d => match d with | .struct fs => some (fs.toList.map (fun f => (f.offset, f.type))) | _ => none) = some [(0, 97), (0, 100)] := by kernel_rfl
theorem fld102 : (Tryz.prog.underlying 102).bind (fun d => match d with | .struct fs => some (fs.toList.map (fun f => (f.offset, f.type))) | _ => none) = some [(0, 97), (0, 100)] := by kernel_rfl
theorem fld103 : (Tryz.prog.underlying 103).bind (fun d => match d with | .struct fs => some (fs.toList.map (fun f => (f.offset, f.type))) | _ => none) = some [(0, 102), (2, 25), (3, 3), (4, 3), (5, 4)] := by kernel_rfl
theorem fld104 : (Tryz.prog.underlying 104).bind (fun d => match d with | .struct fs => some (fs.toList.map (fun f => (f.offset, f.type))) | _ => none) = some [(0, 102), (2, 25), (3, 3), (4, 3), (5, 4)] := by kernel_rfl
theorem fld108 : (Tryz.prog.underlying 108).bind (fun d => match d with | .struct fs => some (fs.toList.map (fun f => (f.offset, f.type))) | _ => none) = some [(0, 73), (1, 36), (2, 2), (3, 2)] := by kernel_rfl
theorem fld109 : (Tryz.prog.underlying 109).bind (fun d => match d with | .struct fs => some (fs.toList.map (fun f => (f.offset, f.type))) | _ => none) = some [(0, 73), (1, 36), (2, 2), (3, 2)] := by kernel_rfl
theorem fld110 : (Tryz.prog.underlying 110).bind (fun d => match d with | .struct fs => some (fs.toList.map (fun f => (f.offset, f.type))) | _ => none) = some [(0, 26), (1, 73), (2, 2)] := by kernel_rfl
theorem fld111 : (Tryz.prog.underlying 111).bind (fun d => match d with | .struct fs => some (fs.toList.map (fun f => (f.offset, f.type))) | _ => none) = some [(0, 26), (1, 73), (2, 2)] := by kernel_rfl
theorem fld116 : (Tryz.prog.underlying 116).bind (fun d => match d with | .struct fs => some (fs.toList.map (fun f => (f.offset, f.type))) | _ => none) = some [(0, 25), (1, 3), (2, 3), (3, 3), (4, 3)] := by kernel_rfl
theorem fld117 : (Tryz.prog.underlying 117).bind (fun d => match d with | .struct fs => some (fs.toList.map (fun f => (f.offset, f.type))) | _ => none) = some [(0, 25), (1, 3), (2, 3), (3, 3), (4, 3)] := by kernel_rfl
theorem fld132 : (Tryz.prog.underlying 132).bind (fun d => match d with | .struct fs => some (fs.toList.map (fun f => (f.offset, f.type))) | _ => none) = some [(0, 25), (1, 3), (2, 3), (3, 4)] := by kernel_rfl
theorem fld133 : (Tryz.prog.underlying 133).bind (fun d => match d with | .struct fs => some (fs.toList.map (fun f => (f.offset, f.type))) | _ => none) = some [(0, 25), (1, 3), (2, 3), (3, 4)] := by kernel_rfl
theorem fld138 : (Tryz.prog.underlying 138).bind (fun d => match d with | .struct fs => some (fs.toList.map (fun f => (f.offset, f.type))) | _ => none) = some [(0, 75), (1, 2)] := by kernel_rfl
theorem fld139 : (Tryz.prog.underlying 139).bind (fun d => match d with | .struct fs => some (fs.toList.map (fun f => (f.offset, f.type))) | _ => none) = some [(0, 75), (1, 2)] := by kernel_rfl
theorem fld144 : (Tryz.prog.underlying 144).bind (fun d => match d with | .struct fs => some (fs.toList.map (fun f => (f.offset, f.type))) | _ => none) = some [(0, 3), (1, 143), (2, 2)] := by kernel_rfl
theorem fld145 : (Tryz.prog.underlying 145).bind (fun d => match d with | .struct fs => some (fs.toList.map (fun f => (f.offset, f.type))) | _ => none) = some [(0, 3), (1, 143), (2, 2)] := by kernel_rfl
theorem fld151 : (Tryz.prog.underlying 151).bind (fun d => match d with | .struct fs => some (fs.toList.map (fun f => (f.offset, f.type))) | _ => none) = some [(0, 2), (1, 26), (2, 75), (3, 3)] := by kernel_rfl
theorem fld152 : (Tryz.prog.underlying 152).bind (fun d => match d with | .struct fs => some (fs.toList.map (fun f => (f.offset, f.type))) | _ => none) = some [(0, 2), (1, 26), (2, 75), (3, 3)] := by kernel_rfl
theorem fld153 : (Tryz.prog.underlying 153).bind (fun d => match d with | .struct fs => some (fs.toList.map (fun f => (f.offset, f.type))) | _ => none) = some [(0, 2), (1, 2), (2, 75), (3, 75)] := by kernel_rfl
theorem fld154 : (Tryz.prog.underlying 154).bind (fun d => match d with | .struct fs => some (fs.toList.map (fun f => (f.offset, f.type))) | _ => none) = some [(0, 2), (1, 2), (2, 75), (3, 75)] := by kernel_rfl
theorem fld160 : (Tryz.prog.underlying 160).bind (fun d => match d with | .struct fs => some (fs.toList.map (fun f => (f.offset, f.type))) | _ => none) = some [(0, 3), (1, 2), (2, 9)] := by kernel_rfl
theorem fld161 : (Tryz.prog.underlying 161).bind (fun d => match d with | .struct fs => some (fs.toList.map (fun f => (f.offset, f.type))) | _ => none) = some [(0, 3), (1, 2), (2, 9)] := by kernel_rfl
theorem fld217 : (Tryz.prog.underlying 217).bind (fun d => match d with | .struct fs => some (fs.toList.map (fun f => (f.offset, f.type))) | _ => none) = some [(0, 25), (1, 3), (2, 3), (3, 23), (4, 3)] := by kernel_rfl
theorem fld218 : (Tryz.prog.underlying 218).bind (fun d => match d with | .struct fs => some (fs.toList.map (fun f => (f.offset, f.type))) | _ => none) = some [(0, 25), (1, 3), (2, 3), (3, 23), (4, 3)] := by kernel_rfl
theorem fld222 : (Tryz.prog.underlying 222).bind (fun d => match d with | .struct fs => some (fs.toList.map (fun f => (f.offset, f.type))) | _ => none) = some [(0, 23)] := by kernel_rfl
theorem fld223 : (Tryz.prog.underlying 223).bind (fun d => match d with | .struct fs => some (fs.toList.map (fun f => (f.offset, f.type))) | _ => none) = some [(0, 23)] := by kernel_rfl
theorem fld265 : (Tryz.prog.underlying 265).bind (fun d => match d with | .struct fs => some (fs.toList.map (fun f => (f.offset, f.type))) | _ => none) = some [(0, 17), (1, 17), (2, 17), (3, 9)] := by kernel_rfl
theorem fld266 : (Tryz.prog.underlying 266).bind (fun d => match d with | .struct fs => some (fs.toList.map (fun f => (f.offset, f.type))) | _ => none) = some [(0, 17), (1, 17), (2, 17), (3, 9)] := by kernel_rfl
theorem fld268 : (Tryz.prog.underlying 268).bind (fun d => match d with | .struct fs => some (fs.toList.map (fun f => (f.offset, f.type))) | _ => none) = some [(0, 267)] := by kernel_rfl
theorem fld269 : (Tryz.prog.underlying 269).bind (fun d => match d with | .struct fs => some (fs.toList.map (fun f => (f.offset, f.type))) | _ => none) = some [(0, 267)] := by kernel_rfl
theorem fld276 : (Tryz.prog.underlying 276).bind (fun d => match d with | .struct fs => some (fs.toList.map (fun f => (f.offset, f.type))) | _ => none) = some [(0, 12), (1, 12), (2, 98), (3, 270), (4, 5), (5, 5), (6, 271), (7, 272), (8, 273), (9, 274), (10, 275)] := by kernel_rfl
theorem fld277 : (Tryz.prog.underlying 277).bind (fun d => match d with | .struct fs => some (fs.toList.map (fun f => (f.offset, f.type))) | _ => none) = some [(0, 12), (1, 12), (2, 98), (3, 270), (4, 5), (5, 5), (6, 271), (7, 272), (8, 273), (9, 274), (10, 275)] := by kernel_rfl
theorem tFld_ok : ∀ p ∈ tFld, ∃ fs, Tryz.prog.underlying p.1 = some (.struct fs) ∧ fs.toList.map (fun f => (f.offset, f.type)) = p.2 := by
 simp only [tUnd, tInf, tFld, tFn, List.forall_mem_cons, List.not_mem_nil, false_imp_iff, implies_true, and_true]
 refine ⟨?_, ?_, ?_, ?_, ?_, ?_, ?_, ?_, ?_, ?_, ?_, ?_, ?_, ?_, ?_, ?_, ?_, ?_, ?_, ?_, ?_, ?_, ?_, ?_, ?_, ?_, ?_, ?_, ?_, ?_, ?_, ?_, ?_, ?_, ?_, ?_, ?_, ?_, ?_, ?_, ?_, ?_, ?_, ?_, ?_, ?_, ?_, ?_, ?_, ?_, ?_, ?_, ?_, ?_, ?_, ?_⟩
 ·exact fld_of fld7
 ·exact fld_of fld8
 ·exact fld_of fld13
 ·exact fld_of fld14
 ·exact fld_of fld18
 ·exact fld_of fld19
 ·exact fld_of fld39
 ·exact fld_of fld40
 ·exact fld_of fld42
 ·exact fld_of fld43
 ·exact fld_of fld44
 ·exact fld_of fld45
 ·exact fld_of fld46
 ·exact fld_of fld47
 ·exact fld_of fld61
 ·exact fld_of fld62
 ·exact fld_of fld65
 ·exact fld_of fld66
 ·exact fld_of fld88
 ·exact fld_of fld89
 ·exact fld_of fld96
 ·exact fld_of fld97
 ·exact fld_of fld99
 ·exact fld_of fld100
 ·exact fld_of fld101
 ·exact fld_of fld102
 ·exact fld_of fld103
 ·exact fld_of fld104
 ·exact fld_of fld108
 ·exact fld_of fld109
 ·exact fld_of fld110
 ·exact fld_of fld111
 ·exact fld_of fld116
 ·exact fld_of fld117
 ·exact fld_of fld132
 ·exact fld_of fld133
 ·exact fld_of fld138
 ·exact fld_of fld139
 ·exact fld_of fld144
 ·exact fld_of fld145
 ·exact fld_of fld151
 ·exact fld_of fld152
 ·exact fld_of fld153
 ·exact fld_of fld154
 ·exact fld_of fld160
 ·exact fld_of fld161
 ·exact fld_of fld217
 ·exact fld_of fld218
 ·exact fld_of fld222
 ·exact fld_of fld223
 ·exact fld_of fld265
 ·exact fld_of fld266
 ·exact fld_of fld268
 ·exact fld_of fld269
 ·exact fld_of fld276
 ·exact fld_of fld277
theorem tFn_ok : ∀ p ∈ tFn, ∀ args w, (callFunc p.1 args).run Tryz.prog w = .ok (.enter p.1 args) w := by
 simp only [tUnd, tInf, tFld, tFn, List.forall_mem_cons, List.not_mem_nil, false_imp_iff, implies_true, and_true]
 refine ⟨?_, ?_, ?_, ?_, ?_, ?_, ?_, ?_, ?_, ?_, ?_, ?_, ?_, ?_, ?_, ?_, ?_, ?_, ?_, ?_, ?_, ?_, ?_, ?_, ?_, ?_, ?_, ?_, ?_, ?_, ?_, ?_, ?_, ?_, ?_, ?_, ?_, ?_, ?_, ?_, ?_, ?_, ?_, ?_, ?_, ?_, ?_, ?_, ?_, ?_, ?_, ?_, ?_, ?_, ?_, ?_, ?_, ?_, ?_, ?_, ?_, ?_, ?_, ?_, ?_, ?_, ?_, ?_, ?_, ?_, ?_, ?_, ?_, ?_, ?_, ?_, ?_, ?_, ?_, ?_, ?_, ?_, ?_, ?_, ?_, ?_, ?_, ?_, ?_, ?_, ?_, ?_, ?_, ?_, ?_, ?_, ?_, ?_, ?_, ?_, ?_, ?_, ?_, ?_, ?_, ?_, ?_, ?_, ?_, ?_, ?_, ?_, ?_, ?_, ?_, ?_, ?_, ?_, ?_, ?_, ?_, ?_, ?_, ?_, ?_, ?_, ?_, ?_, ?_, ?_, ?_, ?_, ?_, ?_, ?_, ?_, ?_, ?_, ?_, ?_, ?_, ?_, ?_, ?_, ?_, ?_, ?_, ?_, ?_, ?_, ?_, ?_, ?_, ?_, ?_, ?_, ?_, ?_, ?_, ?_, ?_, ?_, ?_, ?_, ?_, ?_, ?_, ?_, ?_, ?_, ?_, ?_, ?_, ?_, ?_, ?_, ?_, ?_, ?_, ?_, ?_, ?_, ?_, ?_, ?_, ?_, ?_, ?_, ?_, ?_, ?_, ?_, ?_, ?_, ?_, ?_, ?_, ?_, ?_, ?_, ?_, ?_, ?_, ?_, ?_, ?_, ?_, ?_, ?_, ?_, ?_, ?_, ?_, ?_, ?_, ?_, ?_⟩
 ·exact run_enter Tryz.func2 (by kernel_rfl) rfl
 ·exact run_enter Tryz.func3 (by kernel_rfl) rfl
 ·exact run_enter Tryz.func4 (by kernel_rfl) rfl
 ·exact run_enter Tryz.func5 (by kernel_rfl) rfl
 ·exact run_enter Tryz.func6 (by kernel_rfl) rfl
 ·exact run_enter Tryz.func7 (by kernel_rfl) rfl
 ·exact run_enter Tryz.func8 (by kernel_rfl) rfl
 ·exact run_enter Tryz.func9 (by kernel_rfl) rfl
 ·exact run_enter Tryz.func10 (by kernel_rfl) rfl
 ·exact run_enter Tryz.func11 (by kernel_rfl) rfl
 ·exact run_enter Tryz.func12 (by kernel_rfl) rfl
 ·exact run_enter Tryz.func13 (by kernel_rfl) rfl
 ·exact run_enter Tryz.func14 (by kernel_rfl) rfl
 ·exact run_enter Tryz.func15 (by kernel_rfl) rfl
 ·exact run_enter Tryz.func16 (by kernel_rfl) rfl
 ·exact run_enter Tryz.func17 (by kernel_rfl) rfl
 ·exact run_enter Tryz.func18 (by kernel_rfl) rfl
 ·exact run_enter Tryz.func19 (by kernel_rfl) rfl
 ·exact run_enter Tryz.func20 (by kernel_rfl) rfl
 ·exact run_enter Tryz.func21 (by kernel_rfl) rfl
 ·exact run_enter Tryz.func22 (by kernel_rfl) rfl
 ·exact run_enter Tryz.func23 (by kernel_rfl) rfl
 ·exact run_enter Tryz.func24 (by kernel_rfl) rfl
 ·exact run_enter Tryz.func25 (by kernel_rfl) rfl
 ·exact run_enter Tryz.func26 (by kernel_rfl) rfl
 ·exact run_enter Tryz.func27 (by kernel_rfl) rfl
 ·exact run_enter Tryz.func28 (by kernel_rfl) rfl
 ·exact run_enter Tryz.func29 (by kernel_rfl) rfl
 ·exact run_enter Tryz.func30 (by kernel_rfl) rfl
 ·exact run_enter Tryz.func31 (by kernel_rfl) rfl
 ·exact run_enter Tryz.func32 (by kernel_rfl) rfl
 ·exact run_enter Tryz.func33 (by kernel_rfl) rfl
 ·exact run_enter Tryz.func34 (by kernel_rfl) rfl
 ·exact run_enter Tryz.func35 (by kernel_rfl) rfl
 ·exact run_enter Tryz.func36 (by kernel_rfl) rfl
 ·exact run_enter Tryz.func37 (by kernel_rfl) rfl
 ·exact run_enter Tryz.func38 (by kernel_rfl) rfl
 ·exact run_enter Tryz.func39 (by kernel_rfl) rfl
 ·exact run_enter Tryz.func40 (by kernel_rfl) rfl
 ·exact run_enter Tryz.func41 (by kernel_rfl) rfl
 ·exact run_enter Tryz.func42 (by kernel_rfl) rfl
 ·exact run_enter Tryz.func43 (by kernel_rfl) rfl
 ·exact run_enter Tryz.func44 (by kernel_rfl) rfl
 ·exact run_enter Tryz.func45 (by kernel_rfl) rfl
 ·exact run_enter Tryz.func46 (by kernel_rfl) rfl
 ·exact run_enter Tryz.func47 (by kernel_rfl) rfl
 ·exact run_enter Tryz.func48 (by kernel_rfl) rfl
 ·exact run_enter Tryz.func49 (by kernel_rfl) rfl
 ·exact run_enter Tryz.func50 (by kernel_rfl) rfl
 ·exact run_enter Tryz.func51 (by kernel_rfl) rfl
 ·exact run_enter Tryz.func52 (by kernel_rfl) rfl
 ·exact run_enter Tryz.func53 (by kernel_rfl) rfl
 ·exact run_enter Tryz.func54 (by kernel_rfl) rfl
 ·exact run_enter Tryz.func55 (by kernel_rfl) rfl
 ·exact run_enter Tryz.func56 (by kernel_rfl) rfl
 ·exact run_enter Tryz.func57 (by kernel_rfl) rfl
 ·exact run_enter Tryz.func58 (by kernel_rfl) rfl
 ·exact run_enter Tryz.func59 (by kernel_rfl) rfl
 ·exact run_enter Tryz.func60 (by kernel_rfl) rfl
 ·exact run_enter Tryz.func61 (by kernel_rfl) rfl
 ·exact run_enter Tryz.func62 (by kernel_rfl) rfl
 ·exact run_enter Tryz.func63 (by kernel_rfl) rfl
 ·exact run_enter Tryz.func64 (by kernel_rfl) rfl
 ·exact run_enter Tryz.func65 (by kernel_rfl) rfl
 ·exact run_enter Tryz.func66 (by kernel_rfl) rfl
 ·exact run_enter Tryz.func67 (by kernel_rfl) rfl
 ·exact run_enter Tryz.func68 (by kernel_rfl) rfl
 ·exact run_enter Tryz.func69 (by kernel_rfl) rfl
 ·exact run_enter Tryz.func70 (by kernel_rfl) rfl
 ·exact run_enter Tryz.func71 (by kernel_rfl) rfl
 ·exact run_enter Tryz.func72 (by kernel_rfl) rfl
 ·exact run_enter Tryz.func73 (by kernel_rfl) rfl
 ·exact run_enter Tryz.func74 (by kernel_rfl) rfl
 ·exact run_enter Tryz.func75 (by kernel_rfl) rfl
 ·exact run_enter Tryz.func76 (by kernel_rfl) rfl
 ·exact run_enter Tryz.func77 (by kernel_rfl) rfl
 ·exact run_enter Tryz.func78 (by kernel_rfl) rfl
 ·exact run_enter Tryz.func79 (by kernel_rfl) rfl
 ·exact run_enter Tryz.func80 (by kernel_rfl) rfl
 ·exact run_enter Tryz.func81 (by kernel_rfl) rfl
 ·exact run_enter Tryz.func82 (by kernel_rfl) rfl
 ·exact run_enter Tryz.func83 (by kernel_rfl) rfl
 ·exact run_enter Tryz.func84 (by kernel_rfl) rfl
 ·exact run_enter Tryz.func85 (by kernel_rfl) rfl
 ·exact run_enter Tryz.func86 (by kernel_rfl) rfl
 ·exact run_enter Tryz.func87 (by kernel_rfl) rfl
 ·exact run_enter Tryz.func88 (by kernel_rfl) rfl
 ·exact run_enter Tryz.func89 (by kernel_rfl) rfl
 ·exact run_enter Tryz.func90 (by kernel_rfl) rfl
 ·exact run_enter Tryz.func91 (by kernel_rfl) rfl
 ·exact run_enter Tryz.func92 (by kernel_rfl) rfl
 ·exact run_enter Tryz.func93 (by kernel_rfl) rfl
 ·exact run_enter Tryz.func94 (by kernel_rfl) rfl
 ·exact run_enter Tryz.func95 (by kernel_rfl) rfl
 ·exact run_enter Tryz.func96 (by kernel_rfl) rfl
 ·exact run_enter Tryz.func97 (by kernel_rfl) rfl
 ·exact run_enter Tryz.func98 (by kernel_rfl) rfl
 ·exact run_enter Tryz.func99 (by kernel_rfl) rfl
 ·exact run_enter Tryz.func100 (by kernel_rfl) rfl
 ·exact run_enter Tryz.func101 (by kernel_rfl) rfl
 ·exact run_enter Tryz.func102 (by kernel_rfl) rfl
 ·exact run_enter Tryz.func103 (by kernel_rfl) rfl
 ·exact run_enter Tryz.func104 (by kernel_rfl) rfl
 ·exact run_enter Tryz.func105 (by kernel_rfl) rfl
 ·exact run_enter Tryz.func106 (by kernel_rfl) rfl
 ·exact run_enter Tryz.func107 (by kernel_rfl) rfl
 ·exact run_enter Tryz.func108 (by kernel_rfl) rfl
 ·exact run_enter Tryz.func109 (by kernel_rfl) rfl
 ·exact run_enter Tryz.func110 (by kernel_rfl) rfl
 ·exact run_enter Tryz.func111 (by kernel_rfl) rfl
 ·exact run_enter Tryz.func112 (by kernel_rfl) rfl
 ·exact run_enter Tryz.func113 (by kernel_rfl) rfl
 ·exact run_enter Tryz.func114 (by kernel_rfl) rfl
 ·exact run_enter Tryz.func115 (by kernel_rfl) rfl
 ·exact run_enter Tryz.func116 (by kernel_rfl) rfl
 ·exact run_enter Tryz.func117 (by kernel_rfl) rfl
 ·exact run_enter Tryz.func118 (by kernel_rfl) rfl
 ·exact run_enter Tryz.func119 (by kernel_rfl) rfl
 ·exact run_enter Tryz.func120 (by kernel_rfl) rfl
 ·exact run_enter Tryz.func121 (by kernel_rfl) rfl
 ·exact run_enter Tryz.func122 (by kernel_rfl) rfl
 ·exact run_enter Tryz.func123 (by kernel_rfl) rfl
 ·exact run_enter Tryz.func124 (by kernel_rfl) rfl
 ·exact run_enter Tryz.func125 (by kernel_rfl) rfl
 ·exact run_enter Tryz.func126 (by kernel_rfl) rfl
 ·exact run_enter Tryz.func127 (by kernel_rfl) rfl
 ·exact run_enter Tryz.func128 (by kernel_rfl) rfl
 ·exact run_enter Tryz.func129 (by kernel_rfl) rfl
 ·exact run_enter Tryz.func130 (by kernel_rfl) rfl
 ·exact run_enter Tryz.func131 (by kernel_rfl) rfl
 ·exact run_enter Tryz.func136 (by kernel_rfl) rfl
 ·exact run_enter Tryz.func139 (by kernel_rfl) rfl
 ·exact run_enter Tryz.func140 (by kernel_rfl) rfl
 ·exact run_enter Tryz.func141 (by kernel_rfl) rfl
 ·exact run_enter Tryz.func142 (by kernel_rfl) rfl
 ·exact run_enter Tryz.func143 (by kernel_rfl) rfl
 ·exact run_enter Tryz.func144 (by kernel_rfl) rfl
 ·exact run_enter Tryz.func145 (by kernel_rfl) rfl
 ·exact run_enter Tryz.func146 (by kernel_rfl) rfl
 ·exact run_enter Tryz.func147 (by kernel_rfl) rfl
 ·exact run_enter Tryz.func148 (by kernel_rfl) rfl
 ·exact run_enter Tryz.func149 (by kernel_rfl) rfl
 ·exact run_enter Tryz.func150 (by kernel_rfl) rfl
 ·exact run_enter Tryz.func151 (by kernel_rfl) rfl
 ·exact run_enter Tryz.func152 (by kernel_rfl) rfl
 ·exact run_enter Tryz.func153 (by kernel_rfl) rfl
 ·exact run_enter Tryz.func154 (by kernel_rfl) rfl
 ·exact run_enter Tryz.func155 (by kernel_rfl) rfl
 ·exact run_enter Tryz.func156 (by kernel_rfl) rfl
 ·exact run_enter Tryz.func157 (by kernel_rfl) rfl
 ·exact run_enter Tryz.func158 (by kernel_rfl) rfl
 ·exact run_enter Tryz.func159 (by kernel_rfl) rfl
 ·exact run_enter Tryz.func160 (by kernel_rfl) rfl
 ·exact run_enter Tryz.func161 (by kernel_rfl) rfl
 ·exact run_enter Tryz.func162 (by kernel_rfl) rfl
 ·exact run_enter Tryz.func163 (by kernel_rfl) rfl
 ·exact run_enter Tryz.func164 (by kernel_rfl) rfl
 ·exact run_enter Tryz.func165 (by kernel_rfl) rfl
 ·exact run_enter Tryz.func166 (by kernel_rfl) rfl
 ·exact run_enter Tryz.func167 (by kernel_rfl) rfl
 ·exact run_enter Tryz.func168 (by kernel_rfl) rfl
 ·exact run_enter Tryz.func169 (by kernel_rfl) rfl
 ·exact run_enter Tryz.func170 (by kernel_rfl) rfl
 ·exact run_enter Tryz.func171 (by kernel_rfl) rfl
 ·exact run_enter Tryz.func172 (by kernel_rfl) rfl
 ·exact run_enter Tryz.func173 (by kernel_rfl) rfl
 ·exact run_enter Tryz.func181 (by kernel_rfl) rfl
 ·exact run_enter Tryz.func182 (by kernel_rfl) rfl
 ·exact run_enter Tryz.func183 (by kernel_rfl) rfl
 ·exact run_enter Tryz.func184 (by kernel_rfl) rfl
 ·exact run_enter Tryz.func185 (by kernel_rfl) rfl
 ·exact run_enter Tryz.func186 (by kernel_rfl) rfl
 ·exact run_enter Tryz.func187 (by kernel_rfl) rfl
 ·exact run_enter Tryz.func188 (by kernel_rfl) rfl
 ·exact run_enter Tryz.func189 (by kernel_rfl) rfl
 ·exact run_enter Tryz.func190 (by kernel_rfl) rfl
 ·exact run_enter Tryz.func191 (by kernel_rfl) rfl
 ·exact run_enter Tryz.func192 (by kernel_rfl) rfl
 ·exact run_enter Tryz.func193 (by kernel_rfl) rfl
 ·exact run_enter Tryz.func194 (by kernel_rfl) rfl
 ·exact run_enter Tryz.func195 (by kernel_rfl) rfl
 ·exact run_enter Tryz.func196 (by kernel_rfl) rfl
 ·exact run_enter Tryz.func197 (by kernel_rfl) rfl
 ·exact run_enter Tryz.func198 (by kernel_rfl) rfl
 ·exact run_enter Tryz.func199 (by kernel_rfl) rfl
 ·exact run_enter Tryz.func200 (by kernel_rfl) rfl
 ·exact run_enter Tryz.func201 (by kernel_rfl) rfl
 ·exact run_enter Tryz.func202 (by kernel_rfl) rfl
 ·exact run_enter Tryz.func203 (by kernel_rfl) rfl
 ·exact run_enter Tryz.func204 (by kernel_rfl) rfl
 ·exact run_enter Tryz.func205 (by kernel_rfl) rfl
 ·exact run_enter Tryz.func206 (by kernel_rfl) rfl
 ·exact run_enter Tryz.func207 (by kernel_rfl) rfl
 ·exact run_enter Tryz.func208 (by kernel_rfl) rfl
 ·exact run_enter Tryz.func209 (by kernel_rfl) rfl
 ·exact run_enter Tryz.func210 (by kernel_rfl) rfl
 ·exact run_enter Tryz.func211 (by kernel_rfl) rfl
 ·exact run_enter Tryz.func212 (by kernel_rfl) rfl
 ·exact run_enter Tryz.func213 (by kernel_rfl) rfl
 ·exact run_enter Tryz.func214 (by kernel_rfl) rfl
 ·exact run_enter Tryz.func215 (by kernel_rfl) rfl
 ·exact run_enter Tryz.func216 (by kernel_rfl) rfl
 ·exact run_enter Tryz.func217 (by kernel_rfl) rfl
 ·exact run_enter Tryz.func218 (by kernel_rfl) rfl
 ·exact run_enter Tryz.func219 (by kernel_rfl) rfl
 ·exact run_enter Tryz.func220 (by kernel_rfl) rfl
 ·exact run_enter Tryz.func221 (by kernel_rfl) rfl
 ·exact run_enter Tryz.func222 (by kernel_rfl) rfl
 ·exact run_enter Tryz.func223 (by kernel_rfl) rfl
 ·exact run_enter Tryz.func224 (by kernel_rfl) rfl
 ·exact run_enter Tryz.func226 (by kernel_rfl) rfl
 ·exact run_enter Tryz.func227 (by kernel_rfl) rfl
 ·exact run_enter Tryz.func228 (by kernel_rfl) rfl
 ·exact run_enter Tryz.func229 (by kernel_rfl) rfl
 ·exact run_enter Tryz.func230 (by kernel_rfl) rfl
 ·exact run_enter Tryz.func231 (by kernel_rfl) rfl
 ·exact run_enter Tryz.func232 (by kernel_rfl) rfl
theorem ifc20 : (match Tryz.prog.underlying 20 with | some (.interface _) => true | _ => false) = true := by kernel_rfl
def tIfc : List (Nat × Bool) := [(20, true)]
theorem tIfc_ok : ∀ p ∈ tIfc, ∃ ms, Tryz.prog.underlying p.1 = some (.interface ms) := by
 simp only [tUnd, tInf, tFld, tFn, tIfc, List.forall_mem_cons, List.not_mem_nil, false_imp_iff, implies_true, and_true]
 ·exact ifc_of ifc20
theorem follows_mixed : Tryz.prog.follows .mixedOrders = true := by kernel_rfl
def TE : Env Tryz.prog where
 und := look2 tUnd
 und_ok := look2_ok (Q := fun t d => Tryz.prog.underlying t = some d) tUnd tUnd_ok
 inf := look2 tInf
 inf_ok := fun t s b z h => look2_ok (Q := fun t (x : Nat × Nat × Value) => ∃ i, Tryz.prog.info? t = some i ∧ i.size = x.1 ∧ i.bytes = x.2.1 ∧ i.zero = some x.2.2) tInf tInf_ok t (s, b, z) h
 fld := look2 tFld
 fld_ok := look2_ok (Q := fun t l => ∃ fs, Tryz.prog.underlying t = some (.struct fs) ∧ fs.toList.map (fun f => (f.offset, f.type)) = l) tFld tFld_ok
 fn := fun g => (look2 tFn g).isSome
 fn_ok := fun g h => by
  obtain ⟨b, hb⟩ := Option.isSome_iff_exists.1 h
  exact look2_ok (Q := fun g _ => ∀ args w, (callFunc g args).run Tryz.prog w = .ok (.enter g args) w) tFn tFn_ok g b hb
 mixed := follows_mixed
 ifc := fun t => (look2 tIfc t).isSome
 ifc_ok := fun t h => by
  obtain ⟨b, hb⟩ := Option.isSome_iff_exists.1 h
  exact look2_ok (Q := fun t _ => ∃ ms, Tryz.prog.underlying t = some (.interface ms)) tIfc tIfc_ok t b hb
end Go.Proofs.YtjlaomcankmdjaaGreat
namespace Go.Proofs.Foot
open Go.Proofs.Eng
abbrev Tx := List UInt8
def okc (c : Nat) : Bool := decide ((97 ≤ c ∧ c ≤ 122) ∨ (48 ≤ c ∧ c ≤ 57) ∨ c = 47 ∨ c = 58 ∨ c = 46 ∨ c = 95 ∨ c = 45)
def kbytes : List UInt8 := [97, 98, 99, 100, 101, 102, 103, 104, 105, 106, 107, 108, 109, 110, 111, 112, 113, 114, 115, 116, 117, 118, 119, 120, 121, 122, 48, 49, 50, 51, 52, 53, 54, 55, 56, 57, 47, 58, 46, 95, 45]
set_option maxRecDepth 20000 in
theorem ix_key : ∀ c : Fin 256, (0 ≤ Lib.indexByte kbytes (UInt8.ofNat c.val)) ↔ okc c.val = true := by decide
theorem ix_key' {c : Nat} (h : c < 256) : (0 ≤ Lib.indexByte kbytes ((c : Int).toNat.toUInt8)) ↔ okc c = true := ix_key ⟨c, h⟩
def validT (l : Tx) : Bool := l.all (fun c => okc c.toNat) && decide (1 ≤ l.length ∧ l.length ≤ 32)
def okUpto (l : Tx) (i : Nat) : Prop := ∀ j, j < i → okc (gb l j) = true
theorem valid_no {l : Tx} {i : Nat} (hi : i < l.length) (h : okc (gb l i) = false) : validT l = false := by
 have : l.all (fun c => okc c.toNat) = false := by
  rw [List.all_eq_false]
  refine ⟨l[i], List.getElem_mem hi, ?_⟩
  have e : gb l i = (l[i]).toNat := by simp [gb, List.getD_eq_getElem?_getD, List.getElem?_eq_getElem hi]
  rw [← e, h]
  simp
 simp [validT, this]
theorem valid_end {l : Tx} (h : okUpto l l.length) : validT l = decide (1 ≤ l.length ∧ l.length ≤ 32) := by
 have : l.all (fun c => okc c.toNat) = true := by
  rw [List.all_eq_true]
  intro x hx
  obtain ⟨i, hi, rfl⟩ := List.mem_iff_getElem.1 hx
  have := h i hi
  simpa [gb, List.getD_eq_getElem?_getD, List.getElem?_eq_getElem hi] using this
 simp only [validT, this, Bool.true_and]
def hstep (h c : Nat) : Nat := (h ^^^ c) * 1099511628211 % 2 ^ 64
def hashU (l : Tx) : Nat → Nat
 | 0 => 14695981039346656037
 |i + 1 => hstep (hashU l i) (gb l i)
def hashT (l : Tx) : Nat := hashU l l.length
abbrev tK : Tx → Value := fun l => Value.string (ofL l)
abbrev uV : Nat → Value := fun u => Value.int .u8 (u : Int)
abbrev TM := List (Tx × Nat)
def addM (b : Nat) (m : TM) (t : Tx) : TM := mput m t ((mget m t).getD 0 ||| b)
def addL (b : Nat) (m : TM) (l : List Tx) : TM := l.foldl (addM b) m
def ofM (r w : List Tx) : TM := addL 2 (addL 1 [] r) w
theorem mget_mput (m : TM) (k t : Tx) (v : Nat) : mget (mput m k v) t = if k = t then some v else mget m t := by
 induction m with
 |nil => simp [mput, mget]
 |cons p m ih =>
  by_cases h : p.1 = k
  ·simp only [mput, if_pos h, mget]
   by_cases e : k = t
   ·simp [e]
   ·simp [e, h]
  ·simp only [mput, if_neg h, mget]
   by_cases e : p.1 = t
   ·have : ¬ k = t := fun q => h (e.trans q.symm)
    simp [e, this]
   ·simp [e, ih]
theorem mput_keys (m : TM) (k : Tx) (v : Nat) : (mput m k v).map (·.1) = if k ∈ m.map (·.1) then m.map (·.1) else m.map (·.1) ++ [k] := by
 induction m with
 |nil => simp [mput]
 |cons p m ih =>
  by_cases h : p.1 = k
  ·simp [mput, h]
  ·simp only [mput, if_neg h, List.map_cons, ih, List.mem_cons]
   have : ¬ k = p.1 := fun q => h q.symm
   simp only [this, false_or]
   split <;> simp
theorem mput_nodup {m : TM} (k : Tx) (v : Nat) (h : (m.map (·.1)).Nodup) : ((mput m k v).map (·.1)).Nodup := by
 rw [mput_keys]
 split
 ·exact h
 ·rename_i hk
  rw [List.nodup_append]
  refine ⟨h, by simp, fun a ha b hb => ?_⟩
  simp only [List.mem_singleton] at hb
  rintro rfl
  exact hk (hb ▸ ha)
def bitsM (m : TM) (t : Tx) : Nat := (mget m t).getD 0
theorem bits_addM (b : Nat) (m : TM) (k t : Tx) : bitsM (addM b m k) t = if k = t then bitsM m t ||| b else bitsM m t := by
 unfold bitsM addM
 rw [mget_mput]
 split
 ·rename_i e; subst e; rfl
 ·rfl
theorem bits_addL (b : Nat) : ∀ (l : List Tx) (m : TM) (t : Tx), bitsM (addL b m l) t = if t ∈ l then bitsM m t ||| b else bitsM m t
 | [], m, t => by simp [addL]
 |k :: l, m, t => by
  show bitsM (addL b (addM b m k) l) t = _
  rw [bits_addL b l, bits_addM]
  by_cases h : t ∈ l
  ·by_cases e : k = t
   ·simp [h, e, Nat.or_assoc]
   ·simp [h, e]
  ·by_cases e : k = t
   ·subst e; simp [h]
   ·have e' : ¬ t = k := fun q => e q.symm
    simp [h, e, e']
theorem bits_of (r w : List Tx) (t : Tx) : bitsM (ofM r w) t = (if t ∈ r then 1 else 0) + (if t ∈ w then 2 else 0) := by
 unfold ofM
 rw [bits_addL, bits_addL]
 have : bitsM [] t = 0 := rfl
 rw [this]
 by_cases h : t ∈ r <;> by_cases g : t ∈ w <;> simp [h, g]
theorem addM_lt {b : Nat} {m : TM} (k : Tx) (hb : b < 4) (h : ∀ t, bitsM m t < 4) : ∀ t, bitsM (addM b m k) t < 4 := fun t => by
 rw [bits_addM]
 split
 ·exact Nat.or_lt_two_pow (n := 2) (h t) hb
 ·exact h t
theorem addL_lt {b : Nat} (hb : b < 4) : ∀ (l : List Tx) (m : TM), (∀ t, bitsM m t < 4) → ∀ t, bitsM (addL b m l) t < 4
 | [], m, h => h
 |k :: l, m, h => addL_lt hb l (addM b m k) (addM_lt k hb h)
theorem addL_nodup (b : Nat) : ∀ (l : List Tx) (m : TM), (m.map (·.1)).Nodup → ((addL b m l).map (·.1)).Nodup
 | [], m, h => h
 |k :: l, m, h => addL_nodup b l (addM b m k) (mput_nodup _ _ h)
theorem of_nodup (r w : List Tx) : ((ofM r w).map (·.1)).Nodup := addL_nodup 2 _ _ (addL_nodup 1 _ _ (by simp))
theorem mget_mem {m : TM} {p : Tx × Nat} (hn : (m.map (·.1)).Nodup) (h : p ∈ m) : mget m p.1 = some p.2 := by
 induction m with
 |nil => simp at h
 |cons q m ih =>
  simp only [List.map_cons, List.nodup_cons] at hn
  rcases List.mem_cons.1 h with e | h
  ·simp [mget, ← e]
  ·have : ¬ q.1 = p.1 := fun e => hn.1 (e ▸ List.mem_map_of_mem h)
   simp [mget, this, ih hn.2 h]
theorem mem_mget {m : TM} {t : Tx} {v : Nat} (h : mget m t = some v) : (t, v) ∈ m := by
 induction m with
 |nil => simp [mget] at h
 |cons q m ih =>
  by_cases e : q.1 = t
  ·simp only [mget, if_pos e, Option.some.injEq] at h
   simp [← e, ← h]
  ·simp only [mget, if_neg e] at h
   exact List.mem_cons_of_mem _ (ih h)
theorem addL_take (b : Nat) (m : TM) (l : List Tx) (i : Nat) (hi : i < l.length) : addL b m (l.take (i + 1)) = addM b (addL b m (l.take i)) (l.getD i []) := by
 unfold addL
 rw [List.take_succ_eq_append_getElem hi, List.foldl_append]
 simp [List.getD_eq_getElem?_getD, List.getElem?_eq_getElem hi]
theorem addL_one (r : List Tx) (i : Nat) (t : Tx) : bitsM (addL 1 [] (r.take i)) t < 4 := addL_lt (by decide) _ _ (fun t => by simp [bitsM, mget]) t
theorem addL_two (r k : List Tx) (i : Nat) (t : Tx) : bitsM (addL 2 (addL 1 [] r) (k.take i)) t < 4 := addL_lt (by decide) _ _ (fun t => addL_lt (by decide) _ _ (fun t => by simp [bitsM, mget]) t) t
def le2 (x y : Tx) : Bool := decide (x ≤ y)
def used (m : TM) (u : Nat) : List Tx := (m.filter fun p => p.2 &&& u != 0).map (·.1)
def keysM (m : TM) (u : Nat) : List Tx := (used m u).mergeSort le2
theorem of_lt4 (r k : List Tx) : ∀ p ∈ ofM r k, p.2 < 4 := fun p hp => by
 have h1 := mget_mem (of_nodup r k) hp
 have h2 := bits_of r k p.1
 unfold bitsM at h2
 rw [h1] at h2
 simp only [Option.getD_some] at h2
 rw [h2]
 split <;> split <;> omega
def normF (r k : List Tx) : (List Tx × List Tx) × Int :=
 if r.all validT && k.all validT then (if 64 < (ofM r k).length then (([], []), 6) else ((keysM (ofM r k) 1, keysM (ofM r k) 2), 0)) else (([], []), 30)
def Short (l : List Tx) : Prop := ∀ i, i < l.length → (l.getD i []).length ≤ 9223372036854775807
theorem all_upto {l : List Tx} (h : ∀ j, j < l.length → validT (l.getD j []) = true) : l.all validT = true := by
 rw [List.all_eq_true]
 intro x hx
 obtain ⟨i, hi, rfl⟩ := List.mem_iff_getElem.1 hx
 have := h i hi
 simpa [List.getD_eq_getElem?_getD, List.getElem?_eq_getElem hi] using this
theorem all_not {l : List Tx} {i : Nat} (hi : i < l.length) (h : validT (l.getD i []) = false) : l.all validT = false := by
 rw [List.all_eq_false]
 refine ⟨l[i], List.getElem_mem hi, ?_⟩
 rw [List.getD_eq_getElem?_getD, List.getElem?_eq_getElem hi] at h
 simpa using h
def insT (x : Tx) : List Tx → List Tx
 | [] => [x]
 |y :: t => if y < x then y :: insT x t else if y = x then y :: t else x :: y :: t
def setT (l : List Tx) : List Tx := l.foldl (fun a x => insT x a) []
theorem tx_irrefl (a : Tx) : ¬ a < a := List.lt_irrefl a
theorem tx_trans {a b c : Tx} (h : a < b) (g : b < c) : a < c := List.lt_trans h g
theorem tx_tri {a b : Tx} (h : ¬ a < b) (e : ¬ a = b) : b < a := by
 have h1 : b ≤ a := h
 rcases (le_iff_lt_or b a).1 h1 with g | g
 ·exact g
 ·exact absurd g.symm e
abbrev Rises (l : List Tx) : Prop := l.Pairwise (· < ·)
theorem ins_mem (x t : Tx) : ∀ l : List Tx, t ∈ insT x l ↔ t = x ∨ t ∈ l
 | [] => by simp [insT]
 |y :: l => by
  simp only [insT]
  split
  ·simp only [List.mem_cons, ins_mem x t l]
   constructor <;> (rintro (h | h | h) <;> simp [h])
  ·split
   ·rename_i e
    subst e
    simp
   ·simp
theorem ins_rises (x : Tx) : ∀ {l : List Tx}, Rises l → Rises (insT x l)
 | [], _ => by simp [insT]
 |y :: l, h => by
  have h := List.pairwise_cons.1 h
  simp only [insT]
  split
  ·rename_i hy
   refine List.pairwise_cons.2 ⟨fun z hz => ?_, ins_rises x h.2⟩
   rcases (ins_mem x z l).1 hz with rfl | hz
   ·exact hy
   ·exact h.1 z hz
  ·split
   ·exact List.pairwise_cons.2 h
   ·rename_i h1 h2
    have hx : x < y := tx_tri h1 h2
    refine List.pairwise_cons.2 ⟨fun z hz => ?_, List.pairwise_cons.2 h⟩
    rcases List.mem_cons.1 hz with rfl | hz
    ·exact hx
    ·exact tx_trans hx (h.1 z hz)
theorem fold_mem (t : Tx) : ∀ (l a : List Tx), t ∈ l.foldl (fun a x => insT x a) a ↔ t ∈ l ∨ t ∈ a
 | [], a => by simp
 |x :: l, a => by
  rw [List.foldl_cons, fold_mem t l, ins_mem]
  simp only [List.mem_cons]
  exact ⟨fun h => by rcases h with h | h | h <;> simp [h], fun h => by rcases h with (h | h) | h <;> simp [h]⟩
theorem fold_rises : ∀ (l a : List Tx), Rises a → Rises (l.foldl (fun a x => insT x a) a)
 | [], a, h => h
 |x :: l, a, h => fold_rises l _ (ins_rises x h)
theorem set_mem (t : Tx) (l : List Tx) : t ∈ setT l ↔ t ∈ l := by simp [setT, fold_mem]
theorem set_rises (l : List Tx) : Rises (setT l) := fold_rises l [] List.Pairwise.nil
theorem rises_eq : ∀ {a b : List Tx}, Rises a → Rises b → (∀ t, t ∈ a ↔ t ∈ b) → a = b
 | [], [], _, _, _ => rfl
 | [], y :: b, _, _, h => by have := (h y).2 (by simp); simp at this
 |x :: a, [], _, _, h => by have := (h x).1 (by simp); simp at this
 |x :: a, y :: b, ha, hb, h => by
  have ha' := List.pairwise_cons.1 ha
  have hb' := List.pairwise_cons.1 hb
  have hxy : x = y := by
   apply Classical.byContradiction
   intro e
   have h1 : x ∈ b := by
    rcases List.mem_cons.1 ((h x).1 (by simp)) with q | q
    ·exact absurd q e
    ·exact q
   have h2 : y ∈ a := by
    rcases List.mem_cons.1 ((h y).2 (by simp)) with q | q
    ·exact absurd q.symm e
    ·exact q
   exact tx_irrefl x (tx_trans (ha'.1 y h2) (hb'.1 x h1))
  subst hxy
  rw [rises_eq ha'.2 hb'.2 (fun t => ?_)]
  constructor
  ·intro ht
   rcases List.mem_cons.1 ((h t).1 (List.mem_cons_of_mem _ ht)) with q | q
   ·subst q; exact absurd (ha'.1 t ht) (tx_irrefl t)
   ·exact q
  ·intro ht
   rcases List.mem_cons.1 ((h t).2 (List.mem_cons_of_mem _ ht)) with q | q
   ·subst q; exact absurd (hb'.1 t ht) (tx_irrefl t)
   ·exact q
theorem used_nodup {m : TM} (u : Nat) (h : (m.map (·.1)).Nodup) : (used m u).Nodup := by
 unfold used
 exact h.sublist (List.Sublist.map _ List.filter_sublist)
theorem used_mem {m : TM} (u : Nat) (h : (m.map (·.1)).Nodup) (t : Tx) : t ∈ used m u ↔ bitsM m t &&& u ≠ 0 := by
 unfold used bitsM
 simp only [List.mem_map, List.mem_filter, bne_iff_ne, ne_eq]
 constructor
 ·rintro ⟨p, ⟨hp, hq⟩, rfl⟩
  rw [mget_mem h hp]
  exact hq
 ·intro hq
  cases e : mget m t with
  |none => rw [e] at hq; simp at hq
  |some v =>
   rw [e] at hq
   exact ⟨(t, v), ⟨mem_mget e, by simpa using hq⟩, rfl⟩
theorem sort_rises {l : List Tx} (h : l.Nodup) : Rises (l.mergeSort le2) := by
 have h1 := List.pairwise_mergeSort (le := le2) (fun a b c => by simp only [le2, decide_eq_true_eq]; exact fun x y => List.le_trans x y) (fun a b => by simp only [le2, Bool.or_eq_true, decide_eq_true_eq]; exact List.le_total a b) l
 have h2 : (l.mergeSort le2).Nodup := (List.mergeSort_perm l le2).nodup_iff.2 h
 refine (h1.and h2).imp fun {a b} hab => ?_
 obtain ⟨q1, q2⟩ := hab
 simp only [le2, decide_eq_true_eq] at q1
 rcases (le_iff_lt_or a b).1 q1 with g | g
 ·exact g
 ·exact absurd g q2
theorem keys_rises {m : TM} (u : Nat) (h : (m.map (·.1)).Nodup) : Rises (keysM m u) := sort_rises (used_nodup u h)
theorem keys_mem {m : TM} (u : Nat) (h : (m.map (·.1)).Nodup) (t : Tx) : t ∈ keysM m u ↔ bitsM m t &&& u ≠ 0 := by
 unfold keysM
 rw [List.mem_mergeSort, used_mem u h]
theorem keys1 (r k : List Tx) : keysM (ofM r k) 1 = setT r :=
 rises_eq (keys_rises 1 (of_nodup r k)) (set_rises r) fun t => by
  rw [keys_mem 1 (of_nodup r k), set_mem, bits_of]
  by_cases h : t ∈ r <;> by_cases g : t ∈ k <;> simp [h, g]
theorem keys2 (r k : List Tx) : keysM (ofM r k) 2 = setT k :=
 rises_eq (keys_rises 2 (of_nodup r k)) (set_rises k) fun t => by
  rw [keys_mem 2 (of_nodup r k), set_mem, bits_of]
  by_cases h : t ∈ r <;> by_cases g : t ∈ k <;> simp [h, g]
theorem keys3 (r k : List Tx) : keysM (ofM r k) 3 = setT (r ++ k) :=
 rises_eq (keys_rises 3 (of_nodup r k)) (set_rises _) fun t => by
  rw [keys_mem 3 (of_nodup r k), set_mem, bits_of, List.mem_append]
  by_cases h : t ∈ r <;> by_cases g : t ∈ k <;> simp [h, g]
theorem of_keys_mem (r k : List Tx) (t : Tx) : t ∈ (ofM r k).map (·.1) ↔ t ∈ r ∨ t ∈ k := by
 have hb := bits_of r k t
 unfold bitsM at hb
 constructor
 ·intro h
  obtain ⟨p, hp, rfl⟩ := List.mem_map.1 h
  have h3 : ¬ p.2 = 0 → p.1 ∈ r ∨ p.1 ∈ k := fun h0 => by
   rw [mget_mem (of_nodup r k) hp] at hb
   simp only [Option.getD_some] at hb
   by_cases h : p.1 ∈ r
   ·exact .inl h
   ·by_cases g : p.1 ∈ k
    ·exact .inr g
    ·simp [h, g] at hb; exact absurd hb h0
  apply Classical.byContradiction
  intro hn
  have hr : ¬ p.1 ∈ r := fun q => hn (.inl q)
  have hk : ¬ p.1 ∈ k := fun q => hn (.inr q)
  -- a text that neither uses never came into the map
  have key : ∀ (b : Nat) (l : List Tx) (m : TM), p.1 ∈ (addL b m l).map (·.1) → p.1 ∈ l ∨ p.1 ∈ m.map (·.1) := by
   intro b l
   induction l with
   |nil => intro m h; exact .inr h
   |cons x l ih =>
    intro m h
    rcases ih (addM b m x) h with q | q
    ·exact .inl (List.mem_cons_of_mem _ q)
    ·unfold addM at q
     rw [mput_keys] at q
     split at q
     ·exact .inr q
     ·rcases List.mem_append.1 q with q | q
      ·exact .inr q
      ·simp only [List.mem_singleton] at q
       exact .inl (by simp [q])
  rcases key 2 k _ h with q | q
  ·exact hk q
  ·rcases key 1 r _ q with q | q
   ·exact hr q
   ·simp at q
 ·intro h
  have hne : ¬ (mget (ofM r k) t) = none := fun e => by
   rw [e] at hb
   simp only [Option.getD_none] at hb
   rcases h with h | h
   ·by_cases g : t ∈ k <;> simp [h, g] at hb
   ·by_cases g : t ∈ r <;> simp [h, g] at hb
  cases e : mget (ofM r k) t with
  |none => exact absurd e hne
  |some v => exact List.mem_map.2 ⟨_, mem_mget e, rfl⟩
theorem of_len (r k : List Tx) : (ofM r k).length = (setT (r ++ k)).length := by
 have h1 : ((ofM r k).map (·.1)).mergeSort le2 = setT (r ++ k) := rises_eq (sort_rises (of_nodup r k)) (set_rises _) fun t => by
  rw [List.mem_mergeSort, of_keys_mem, set_mem, List.mem_append]
 rw [← h1, List.length_mergeSort, List.length_map]
theorem norm_eq (r k : List Tx) : normF r k = if r.all validT && k.all validT then (if 64 < (setT (r ++ k)).length then (([], []), 6) else ((setT r, setT k), 0)) else (([], []), 30) := by
 unfold normF
 rw [of_len, keys1, keys2]
theorem set_of_rises {l : List Tx} (h : Rises l) : setT l = l := rises_eq (set_rises l) h (fun t => set_mem t l)
end Go.Proofs.Foot
namespace Go.Proofs.Foot
open Go.Proofs.Eng Go.Proofs.Codec
def entryB (m : TM) (t : Tx) : List UInt8 := (encU t.length ++ t) ++ [UInt8.ofNat (bitsM m t)]
def bodyB (m : TM) (l : List Tx) : List UInt8 := (l.map (entryB m)).flatten
def putB (m : TM) : List UInt8 := encU (keysM m 3).length ++ bodyB m (keysM m 3)
theorem bodyB_take (m : TM) (l : List Tx) (i : Nat) (hi : i < l.length) : bodyB m (l.take (i + 1)) = bodyB m (l.take i) ++ entryB m (l.getD i []) := by
 unfold bodyB
 rw [List.take_succ_eq_append_getElem hi, List.map_append, List.flatten_append]
 simp [List.getD_eq_getElem?_getD, List.getElem?_eq_getElem hi]
theorem of_len3 (r k : List Tx) : (ofM r k).length = (keysM (ofM r k) 3).length := by rw [of_len, keys3]
end Go.Proofs.Foot
namespace Go.Proofs.Journal
open Go.RowKit Go.Proofs.Eng Go.Proofs.Codec Go.Proofs.Foot
structure PE where
 q : RE
 how : Int
 rd : List (List UInt8)
 wr : List (List UInt8)
structure EE where
 sq : Int
 ep : Int
 p : PE
def normB (r k : List (List UInt8)) : Bool := decide ((normF r k).2 = 0 ∧ (normF r k).1.1 = r ∧ (normF r k).1.2 = k)
def rightP (p : PE) : Nat := if checkR p.q ≠ 0 then checkR p.q else if p.how ≠ 1 ∧ p.how ≠ 2 then 121 else if normB p.rd p.wr = false then 31 else 0
structure LE where
 l : List EE
 ep : Int
def firstP : List PE → Nat → Option (Nat × Nat)
 | [], _ => none
 |p :: l, i => if rightP p ≠ 0 then some (rightP p, i) else firstP l (i + 1)
def pe0 : PE := ⟨⟨0, 0, [], []⟩, 0, [], []⟩
def addK (L : LE) (ep : Int) (ps : List PE) (i : Nat) : LE := ⟨L.l ++ (List.range i).map (fun j => ⟨((L.l.length + j : Nat) : Int), ep, ps.getD j pe0⟩), L.ep⟩
def addL (L : LE) (ep : Int) (ps : List PE) : LE := { addK L ep ps ps.length with ep := ep }
def appL (L : LE) (ep : Int) (ps : List PE) : LE × Int × Nat × Nat :=
 if ep < L.ep ∨ ep < 0 then (L, 0, 120, 0) else if 65536 < L.l.length + ps.length then (L, 0, 6, 0) else match firstP ps 0 with
 |some (e, i) => (L, 0, e, i)
 |none => (addL L ep ps, (L.l.length : Int), 0, 0)
def entB (b : List UInt8) (e : EE) : List UInt8 := ((((b ++ encU e.sq.toNat) ++ encU e.ep.toNat) ++ (encU (reqB [] e.p.q).length ++ reqB [] e.p.q)) ++ [UInt8.ofNat e.p.how.toNat]) ++ putB (ofM e.p.rd e.p.wr)
def putEn (b : List UInt8) (e : EE) : List UInt8 × Nat := if e.sq < 0 ∨ e.ep < 0 then ([], 2) else if rightP e.p ≠ 0 then ([], rightP e.p) else (entB b e, 0)
theorem first_at : ∀ (ps : List PE) (k i : Nat), i < ps.length → (∀ j, j < i → rightP (ps.getD j pe0) = 0) → rightP (ps.getD i pe0) ≠ 0 → firstP ps k = some (rightP (ps.getD i pe0), k + i)
 | [], _, _, h, _, _ => by simp at h
 |p :: ps, k, 0, _, _, h => by
  have h' : rightP p ≠ 0 := h
  unfold firstP
  rw [if_pos h']
  rfl
 |p :: ps, k, i + 1, h, h0, h1 => by
  have hp : rightP p = 0 := h0 0 (by omega)
  unfold firstP
  rw [if_neg (fun q => q hp), first_at ps (k + 1) i (by simpa using h) (fun j hj => h0 (j + 1) (by omega)) h1, show k + 1 + i = k + (i + 1) by omega]
  rfl
theorem first_no : ∀ (ps : List PE) (k : Nat), (∀ j, j < ps.length → rightP (ps.getD j pe0) = 0) → firstP ps k = none
 | [], _, _ => rfl
 |p :: ps, k, h => by
  have hp : rightP p = 0 := h 0 (by simp)
  unfold firstP
  rw [if_neg (fun q => q hp)]
  exact first_no ps (k + 1) (fun j hj => h (j + 1) (by simpa using hj))
theorem addK_succ (L : LE) (ep : Int) (ps : List PE) (i : Nat) : addK L ep ps (i + 1) = ⟨(addK L ep ps i).l ++ [⟨((L.l.length + i : Nat) : Int), ep, ps.getD i pe0⟩], L.ep⟩ := by
 unfold addK
 rw [List.range_succ, List.map_append, List.append_assoc]
 rfl
theorem addK_len (L : LE) (ep : Int) (ps : List PE) (i : Nat) : (addK L ep ps i).l.length = L.l.length + i := by unfold addK; simp
def vz : VE := ⟨0, 0, []⟩
def takeV0 (s : RS) (a : Nat) : VE × RS :=
 if a = 1 then (⟨1, (s.take (0 : Int) tInt).1, []⟩, (s.take (0 : Int) tInt).2)
 else if a = 2 then (⟨2, 0, (s.take ([] : List UInt8) (tText 64)).1⟩, if prB (s.take ([] : List UInt8) (tText 64)).1 = false then (s.take ([] : List UInt8) (tText 64)).2.fail 20 else (s.take ([] : List UInt8) (tText 64)).2)
 else if 2 < a then (vz, s.fail 20) else (vz, s)
def endV (r : VE × RS) : VE × RS := if r.2.err ≠ 0 then (vz, r.2) else r
def takeV (s : RS) : VE × RS := endV (takeV0 (s.take (0 : Nat) tByte).2 (s.take (0 : Nat) tByte).1)
theorem text_len (s : RS) (m : Int) : (s.take ([] : List UInt8) (tText m)).1.length ≤ s.b.length := by
 unfold RS.take
 split
 ·cases h : tText m (s.b.drop s.pos) with
  |error e => simp
  |ok r =>
   obtain ⟨v, k⟩ := r
   simp only
   unfold tText at h
   split at h
   ·split at h
    ·cases h
    ·cases h
     simp only [List.length_take, List.length_drop]
     omega
   ·cases h
 ·simp
end Go.Proofs.Journal
namespace Go.Proofs.Foot
open Go.Proofs.Eng Go.Proofs.Codec
structure GS where
 s : RS
 last : Tx
 rd : List Tx
 wr : List Tx
def gText (g : GS) : Tx × RS := g.s.take ([] : List UInt8) (tText 32)
def gKey (g : GS) : RS := if validT (gText g).1 = true then (gText g).2 else (gText g).2.fail 30
def gRise (g : GS) : RS := if (gText g).1 ≤ g.last then (gKey g).fail 31 else gKey g
def gUse (g : GS) : Nat × RS := (gRise g).take (0 : Nat) tByte
def gEnd (g : GS) : RS := if (gUse g).1 < 1 ∨ 3 < (gUse g).1 then (gUse g).2.fail 31 else (gUse g).2
def gStep (g : GS) : GS := ⟨gEnd g, (gText g).1, if (gUse g).1 &&& 1 = 0 then g.rd else g.rd ++ [(gText g).1], if (gUse g).1 &&& 2 = 0 then g.wr else g.wr ++ [(gText g).1]⟩
def gIter : Nat → GS → GS
 | 0, g => g
 |n + 1, g => gStep (gIter n g)
def gInit (b : List UInt8) : Nat × RS := (RS.mk b 0 0 0 0).take (0 : Nat) (tLim 64 6)
def gAll (b : List UInt8) : GS := gIter (gInit b).1 ⟨(gInit b).2, [], [], []⟩
def getF (b : List UInt8) : ((List Tx × List Tx) × Nat) × Int :=
 if (gAll b).s.err = 0 then ((((gAll b).rd, (gAll b).wr), b.length - (gAll b).s.rest), 0) else ((([], []), 0), (gAll b).s.err)
theorem tLim_le {most e : Int} {l : List UInt8} {n k : Nat} (h : tLim most e l = .ok (n, k)) : (n : Int) ≤ most := by
 unfold tLim at h
 split at h
 ·split at h
  ·cases h
  ·cases h; omega
 ·cases h
theorem tText_le {most : Int} {l v : List UInt8} {k : Nat} (h : tText most l = .ok (v, k)) : (v.length : Int) ≤ most := by
 unfold tText at h
 split at h
 ·rename_i n j hq
  have := tLim_le hq
  split at h
  ·cases h
  ·cases h
   rw [List.length_take]
   omega
 ·cases h
theorem gText_le (g : GS) : (gText g).1.length ≤ 32 := by
 unfold gText RS.take
 split
 ·cases h : tText 32 (g.s.b.drop g.s.pos) with
  |ok p => obtain ⟨v, k⟩ := p; have := tText_le h; simp only; omega
  |error e => simp
 ·simp
theorem gUse_lt (g : GS) : (gUse g).1 < 256 := by
 unfold gUse RS.take
 split
 ·cases h : tByte ((gRise g).b.drop (gRise g).pos) with
  |ok p =>
   obtain ⟨v, k⟩ := p
   unfold tByte at h
   split at h
   ·cases h
   ·rename_i c _ _
    cases h
    exact UInt8.toNat_lt c
  |error e => simp
 ·simp
theorem gInit_le (b : List UInt8) : (gInit b).1 ≤ 64 := by
 unfold gInit RS.take
 simp only [if_true]
 cases h : tLim 64 6 (List.drop 0 b) with
 |ok p => obtain ⟨v, k⟩ := p; have := tLim_le h; simp only; omega
 |error e => simp
end Go.Proofs.Foot
namespace Go.Proofs.Journal
open Go.RowKit Go.Proofs.Eng Go.Proofs.Codec Go.Proofs.Foot
def rq1 (b : List UInt8) : Nat × RS := (RS.mk b 0 0 0 0).take (0 : Nat) (tLim 63 6)
def rq2 (b : List UInt8) : Nat × RS := (rq1 b).2.take (0 : Nat) num0
def rq3 (b : List UInt8) : List UInt8 × RS := (rq2 b).2.take ([] : List UInt8) (tText 16)
def rq4 (b : List UInt8) : RS := if nameB (rq3 b).1 = false then (rq3 b).2.fail 90 else (rq3 b).2
def rq5 (b : List UInt8) : Nat × RS := (rq4 b).take (0 : Nat) (tLim 8 6)
def argsR : Nat → RS → List VE → Option (List VE × RS)
 | 0, s, l => some (l, s)
 |n + 1, s, l => if (takeV s).2.err = 0 ∧ (takeV s).1.kd = 0 then none else argsR n (takeV s).2 (l ++ [(takeV s).1])
def endR (b : List UInt8) : Option (List VE × RS) → Option RE
 |none => none
 |some r => if r.2.fin.err = 0 then some ⟨((rq1 b).1 : Int), (rq2 b).1, (rq3 b).1, r.1⟩ else none
def getR (b : List UInt8) : Option RE := if 1024 < b.length then none else endR b (argsR (rq5 b).1 (rq5 b).2 [])
def ge1 (b : List UInt8) : Nat × RS := (RS.mk b 0 0 0 0).take (0 : Nat) num0
def ge2 (b : List UInt8) : Nat × RS := (ge1 b).2.take (0 : Nat) num0
def ge3 (b : List UInt8) : List UInt8 × RS := (ge2 b).2.take ([] : List UInt8) (tText b.length)
def ge4 (b : List UInt8) : Nat × RS := (ge3 b).2.take (0 : Nat) tByte
def geF (b : List UInt8) : ((List Tx × List Tx) × Nat) × Int := getF (b.drop (b.length - (ge4 b).2.rest))
def geQ (b : List UInt8) : Option RE → Option EE
 |none => none
 |some q => if (geF b).2 = 0 ∧ (geF b).1.2 = (ge4 b).2.rest then some ⟨((ge1 b).1 : Int), ((ge2 b).1 : Int), ⟨q, ((ge4 b).1 : Int), (geF b).1.1.1, (geF b).1.1.2⟩⟩ else none
def getEn (b : List UInt8) : Option EE :=
 if (ge4 b).2.err ≠ 0 ∨ 9223372036854775807 < (ge1 b).1 ∨ 9223372036854775807 < (ge2 b).1 ∨ ((ge4 b).1 ≠ 1 ∧ (ge4 b).1 ≠ 2) then none else geQ b (getR (ge3 b).1)
def ldT (s : RS) : List UInt8 × RS := s.take ([] : List UInt8) (tText s.b.length)
def ldGo (ep : Int) : Nat → RS → Int → List EE → Option (List EE × RS)
 | 0, s, _, l => some (l, s)
 |k + 1, s, last, l => if (ldT s).2.err ≠ 0 then none else match getEn (ldT s).1 with
  |none => none
  |some e => if e.sq ≠ (l.length : Int) ∨ e.ep < last ∨ ep < e.ep then none else ldGo ep k (ldT s).2 e.ep (l ++ [e])
def ld2 (b : List UInt8) : Nat × RS := (ge1 b).2.take (0 : Nat) (tLim 65536 6)
def endL (b : List UInt8) : Option (List EE × RS) → Option LE
 |none => none
 |some r => if r.2.fin.err = 0 then some ⟨r.1, ((ge1 b).1 : Int)⟩ else none
def loadL (b : List UInt8) : Option LE := if (ld2 b).2.err ≠ 0 ∨ 9223372036854775807 < (ge1 b).1 then none else endL b (ldGo ((ge1 b).1 : Int) (ld2 b).1 (ld2 b).2 0 [])
def enT (e : EE) : List UInt8 := encU (putEn [] e).1.length ++ (putEn [] e).1
def logB (L : LE) : List UInt8 := (encU L.ep.toNat ++ encU L.l.length) ++ (L.l.map enT).flatten
theorem take_b {α : Type} (s : RS) (z : α) (t : List UInt8 → Except Int (α × Nat)) : (s.take z t).2.b = s.b := by
 unfold RS.take
 split
 ·split <;> rfl
 ·rfl
end Go.Proofs.Journal
namespace Go.Proofs.Codec
open Go.Proofs.Eng
theorem pow7 (i : Nat) : 2 ^ (7 * (i + 1)) = 2 ^ (7 * i) * 128 := by rw [show 7 * (i + 1) = 7 * i + 7 from by omega, Nat.pow_add]
theorem toNat_ofNat {n : Nat} (h : n < 256) : (UInt8.ofNat n).toNat = n := by rw [UInt8.toNat_ofNat']; omega
theorem numF_enc : ∀ (f i N m : Nat) (t : List UInt8), f + i = 10 → m * 2 ^ (7 * i) < 2 ^ 64 → (0 < i → 0 < m) → numF f i N (encU m ++ t) = .ok (N + m * 2 ^ (7 * i), i + (encU m).length)
 | 0, i, N, m, t, hi, hm, h0 => by
  have h1 := h0 (by omega)
  have hp : 2 ^ 70 ≤ 2 ^ (7 * i) := Nat.pow_le_pow_right (by decide) (by omega)
  have : 1 * 2 ^ (7 * i) ≤ m * 2 ^ (7 * i) := Nat.mul_le_mul_right _ h1
  omega
 |f + 1, i, N, m, t, hi, hm, h0 => by
  have h9 : i = 9 → m < 2 := fun h => by subst h; omega
  by_cases h1 : m < 128
  ·rw [encU_lt h1]
   have hc : (UInt8.ofNat m).toNat = m := toNat_ofNat (by omega)
   simp only [List.cons_append, List.nil_append, numF, hc]
   rw [if_neg (by omega), if_pos h1, if_neg (by omega), Nat.mod_eq_of_lt h1]
   rfl
  ·have h8 : i ≠ 9 := fun h => by have := h9 h; omega
   rw [encU_ge h1]
   have hc : (UInt8.ofNat (m % 128 + 128)).toNat = m % 128 + 128 := toNat_ofNat (by omega)
   have hp := pow7 i
   have hd : m = m % 128 + 128 * (m / 128) := by omega
   have he : m % 128 * 2 ^ (7 * i) + m / 128 * 2 ^ (7 * (i + 1)) = m * 2 ^ (7 * i) := by
    rw [hp, Nat.mul_comm (2 ^ (7 * i)) 128, ← Nat.mul_assoc, ← Nat.add_mul]
    congr 1
    omega
   have hmod : (m % 128 + 128) % 128 = m % 128 := by omega
   simp only [List.cons_append, numF, hc]
   rw [if_neg (by omega), if_neg (by omega), numF_enc f (i + 1) _ (m / 128) t (by omega) (by omega) (by omega)]
   simp only [hmod, List.length_cons, Except.ok.injEq, Prod.mk.injEq]
   omega
theorem num0_enc {m : Nat} (t : List UInt8) (hm : m < 2 ^ 64) : num0 (encU m ++ t) = .ok (m, (encU m).length) := by
 unfold num0
 rw [numF_enc 10 0 0 m t rfl (by simpa using hm) (by omega)]
 simp
theorem numF_back : ∀ (f i N : Nat) (l : List UInt8) (r k : Nat), f + i = 10 → numF f i N l = .ok (r, k) → ∃ m, r = N + m * 2 ^ (7 * i) ∧ encU m = l.take (k - i) ∧ i < k ∧ (0 < i → 0 < m)
 | 0, _, _, _, _, _, _, h => by simp [numF] at h
 |f + 1, i, N, [], _, _, _, h => by simp [numF] at h
 |f + 1, i, N, c :: t, r, k, hi, h => by
  have hc := UInt8.toNat_lt c
  simp only [numF] at h
  split at h
  ·cases h
  ·split at h
   ·rename_i h1
    split at h
    ·cases h
    ·rename_i h2
     cases h
     refine ⟨c.toNat, by rw [Nat.mod_eq_of_lt h1], ?_, by omega, by omega⟩
     rw [encU_lt h1, show i + 1 - i = 1 by omega]
     simp
   ·rename_i h1
    obtain ⟨m, rfl, he, hk, h0⟩ := numF_back f (i + 1) _ t r k (by omega) h
    have h0' := h0 (by omega)
    refine ⟨c.toNat % 128 + 128 * m, ?_, ?_, by omega, by omega⟩
    ·rw [pow7, Nat.add_mul, Nat.mul_comm (2 ^ (7 * i)) 128, ← Nat.mul_assoc, Nat.mul_comm m 128]
     omega
    ·rw [encU_ge (by omega), show (c.toNat % 128 + 128 * m) / 128 = m by omega, he, show k - i = (k - (i + 1)) + 1 by omega, List.take_succ_cons]
     congr 1
     rw [show (c.toNat % 128 + 128 * m) % 128 + 128 = c.toNat by omega]
     simp
theorem num0_back {l : List UInt8} {r k : Nat} (h : num0 l = .ok (r, k)) : encU r = l.take k := by
 obtain ⟨m, hr, he, _⟩ := numF_back 10 0 0 l r k rfl h
 simp at hr he
 rw [hr, he]
theorem tInt_enc (i : Int) (t : List UInt8) (h : -9223372036854775808 ≤ i ∧ i ≤ 9223372036854775807) : tInt (encU (zig i) ++ t) = .ok (i, (encU (zig i)).length) := by
 unfold tInt
 rw [num0_enc t (zig_lt h)]
 simp only [zag_zig]
end Go.Proofs.Codec
namespace Go.Proofs.YtjlaomcankmdjaaGreat
open Go.RowKit Go.Proofs.Eng
abbrev muLink : Go.Conc.Locks.MuLink := { lock := 53, unlock := 54, ilock := 97, iunlock := 98, lockSlow := 136, unlockSlow := 139, disable := 132, enable := 134, acquire := 135, relMerge := 137, cas32 := 133, add32 := 138, tMutex := 102, tIMutex := 100, tPMutex := 166, tPIMutex := 192, tPI32 := 194, tUP := 196, tNoCopy := 97, tU32 := 98 }
theorem muLib : Go.Conc.Locks.MuLib Tryz.prog muLink :=
 ⟨Tryz.func53, Tryz.func54, Tryz.func97, Tryz.func98, Tryz.func132, Tryz.func134, Tryz.func135, Tryz.func137, Tryz.func133, Tryz.func138, Tryz.underlying100, Tryz.runUnderlying100, Tryz.sizeOf100, Tryz.isAgg100, Tryz.zeroValue100, Tryz.underlying102, Tryz.runUnderlying102, Tryz.sizeOf102, Tryz.isAgg102, Tryz.zeroValue102, Tryz.underlying166, Tryz.runUnderlying166, Tryz.sizeOf166, Tryz.isAgg166, Tryz.zeroValue166, Tryz.underlying192, Tryz.runUnderlying192, Tryz.sizeOf192, Tryz.isAgg192, Tryz.zeroValue192, Tryz.underlying194, Tryz.runUnderlying194, Tryz.sizeOf194, Tryz.isAgg194, Tryz.zeroValue194, Tryz.underlying196, Tryz.runUnderlying196, Tryz.sizeOf196, Tryz.isAgg196, Tryz.zeroValue196, Tryz.underlying97, Tryz.runUnderlying97, Tryz.sizeOf97, Tryz.isAgg97, Tryz.zeroValue97, Tryz.underlying21, Tryz.runUnderlying21, Tryz.sizeOf21, Tryz.isAgg21, Tryz.zeroValue21, (by kernel_rfl)⟩
section
variable {b o : Nat} {ty : TypeId} {cs : List Value}
theorem Lock_c (w : World) (hb : Blk w b ty cs) (ho : cs[o]? = some (.int .i32 0)) : Ret Tryz.prog 53 [.pointer (some ⟨b, o, none⟩)] w (fun v w' => v = .tuple #[] ∧ Mod [b] w w' ∧ w'.heap.size = w.heap.size ∧ Blk w' b ty (cs.set o (.int .i32 1))) :=
 Calls.mono (Go.MuLone.lock_free muLib ⟨b, o, none⟩ w (by rw [hb.cell]; exact ho) (hb.thawed o)) (by rintro e w' ⟨rfl, rfl⟩; exact ⟨rfl, Mod.setCell w ⟨b, o, none⟩ _, by simp [World.setCell], hb.set o _⟩)
theorem LV_unlock {fn : Func} {n : Nat} {st : Slots} {Φ : Value → World → Prop} {w : World} (hb : Blk w b ty cs) (ho : cs[o]? = some (.int .i32 1)) (hk : ∀ w', Mod [b] w w' → w'.heap.size = w.heap.size → Blk w' b ty (cs.set o (.int .i32 0)) → LV Tryz.prog fn (RR Φ) ⟨.b false, []⟩ n st .returning w') :
  LV Tryz.prog fn (RR Φ) ⟨.b false, [⟨.fn (.func 54) #[], #[.pointer (some ⟨b, o, none⟩)]⟩]⟩ n st .returning w := by
 refine LV_defer TE (args := [.pointer (some ⟨b, o, none⟩)]) (cap := []) rfl (by simp) (Go.MuLone.unlock_deferred muLib ⟨b, o, none⟩ .returning w (by rw [hb.cell]; exact ho) (hb.thawed o)) ?_ ?_ ?_
 ·rintro v u' w' ⟨rfl, hv, rfl⟩
  exact hk _ (Mod.setCell w ⟨b, o, none⟩ _) (by simp [World.setCell]) (hb.set o _)
 ·rintro ch u' w' ⟨_, hv, _⟩; cases hv
 ·rintro u' w' ⟨_, hv, _⟩; cases hv
end
end Go.Proofs.YtjlaomcankmdjaaGreat
namespace Go.Proofs.Eng
open Go.RowKit
section
variable {q : Qm} {P : Program} {fn : Func} {R : Ending → World → Prop} {M : Md} {n : Nat} {st : Slots} {k : List Item} {w : World} {ops rest : List Oper}
 {d : Nat} {ty : TypeId} {ps : String} {af : Array Edge} {X Y : Operand} {t t2 e : TypeId} {by_ m : Nat} {z u : Value} {K K2 : IntKind} {x y : Int}
theorem TL_min (hx : ev st X = some (.int K x) := by exact rfl) (hy : ev st Y = some (.int K y) := by exact rfl) (hd : Nat.blt d n = true := by exact rfl)
  (hk : TL q P fn R M n ((d, .int K (if y < x then y else x)) :: st) ops rest k w) : TL q P fn R M n st ops (⟨some d, .call { callee := .builtin .min, args := #[X, Y], argTypes := #[t, t2] }, ty, ps, af, none⟩ :: rest) k w :=
 TL_val_w hd (fun w ρ h => by simp [execOp, resolve, invoke, builtin, Builtin.min_, Builtin.min2, h _ _ hx, h _ _ hy]) hk
end
end Go.Proofs.Eng
namespace Go.Proofs.YtjlaomcankmdjaaGreat
open Go.RowKit Go.Proofs.Eng Go.Proofs.Codec Go.Proofs.Journal
set_option linter.unusedVariables false set_option maxRecDepth 10000
attribute [local irreducible] T TL LV TH TA
abbrev pB (b : Nat) : Value := .pointer (some ⟨b, 0, none⟩)
structure DiskM (w : World) (base d : Nat) (lk : Int) (sl : SL) (g : Nat → Nat) (k : DK) : Prop where
 blk : Blk w d 104 [.int .i32 lk, .int .u32 0, sL sl, .int .i64 (k.sf : Int), .int .i64 k.lf, .bool k.off]
 ow : Own w base 5 1 sl.1 sl.2.1 sl.2.2 (bv k.b)
 ok : DOk k
 g1 : g d = 1
 g2 : ∀ b ∈ blkL sl.1, g b = 2
 old : ∀ b, g b ≠ 0 → base ≤ b ∧ b < w.heap.size
section
variable {w w' w2 : World} {base d : Nat} {lk : Int} {sl sl' : SL} {g g' : Nat → Nat} {k k' : DK} {Z : List Nat}
theorem DiskM.len (D : DiskM w base d lk sl g k) : k.b.length = sl.2.1 := by
 have := D.ow.len
 simpa using this
theorem DiskM.nin (D : DiskM w base d lk sl g k) : d ∉ blkL sl.1 := fun q => by have h1 := D.g2 d q; have h2 := D.g1; omega
theorem DiskM.mod (D : DiskM w base d lk sl g k) (m : Eng.Mod Z w w') (hZ : ∀ b ∈ Z, g b = 0) : DiskM w' base d lk sl g k :=
 have nin : ∀ b c, g b = c + 1 → b ∉ Z := fun b c e q => by rw [hZ b q] at e; cases e
 { D with
  blk := D.blk.mod m (nin _ _ D.g1)
  ow := D.ow.modL m (fun b hb => nin b _ (D.g2 b hb))
  old := fun b hb => by have := D.old b hb; have := m.size; omega }
theorem DiskM.ext (D : DiskM w base d lk sl g k) (e : Ext w w') : DiskM w' base d lk sl g k := D.mod e (fun b hb => by cases hb)
theorem DiskM.set (D : DiskM w base d lk sl g k) {lk' : Int} (m : Eng.Mod [d] w w') (hb : Blk w' d 104 [.int .i32 lk', .int .u32 0, sL sl, .int .i64 (k'.sf : Int), .int .i64 k'.lf, .bool k'.off]) (he : k'.b = k.b) (hk : DOk k') : DiskM w' base d lk' sl g k' ∧ Tn g g w w' :=
 ⟨{ D with
  blk := hb
  ow := by rw [he]; exact D.ow.modL m (fun b hb q => D.nin (by rw [List.mem_singleton] at q; rw [← q]; exact hb))
  ok := hk
  old := fun b hb => by have := D.old b hb; have := m.size; omega }, ⟨_, m, fun b hb => by rw [List.mem_singleton.1 hb, D.g1]; decide⟩, fun b hb => .inl hb, m.size⟩
theorem DiskM.row (D : DiskM w base d lk sl g k) (m : Eng.Mod (blkL sl.1) w w') (hn : Near sl.1 sl'.1 w) (m2 : Eng.Mod [d] w' w2) (hb : Blk w2 d 104 [.int .i32 lk, .int .u32 0, sL sl', .int .i64 (k'.sf : Int), .int .i64 k'.lf, .bool k'.off]) (ho : Own w' base 5 1 sl'.1 sl'.2.1 sl'.2.2 (bv k'.b)) (hk : DOk k') :
  ∃ g', DiskM w2 base d lk sl' g' k' ∧ Tn g g' w w2 := by
 have z1 := m.size
 have z2 := m2.size
 have hz : ∀ b, w.heap.size ≤ b → g b = 0 := fun b hb => by
  by_cases q : g b = 0
  ·exact q
  ·have := (D.old b q).2; omega
 have hn' : ∀ b ∈ blkL sl'.1, b ∈ blkL sl.1 ∨ w.heap.size ≤ b := fun b hb => Near.mem hn b hb
 have hd' : d ∉ blkL sl'.1 := fun q => (hn' d q).elim D.nin (fun y => by have := (D.old d (by rw [D.g1]; decide)).2; omega)
 obtain ⟨g', hg⟩ : ∃ g' : Nat → Nat, g' = fun b => if b ∈ blkL sl'.1 then 2 else g b := ⟨_, rfl⟩
 have hin : ∀ b ∈ blkL sl'.1, g' b = 2 := fun b hb => by rw [hg]; exact if_pos hb
 have hout : ∀ b, b ∉ blkL sl'.1 → g' b = g b := fun b hb => by rw [hg]; exact if_neg hb
 refine ⟨g', ⟨hb, ho.modL m2 (fun b hb q => hd' (by rw [List.mem_singleton] at q; rw [← q]; exact hb)), hk, by rw [hout d hd']; exact D.g1, hin, fun b hb => ?_⟩, ?_⟩
 ·by_cases q : b ∈ blkL sl'.1
  ·have := ho.bl b q; omega
  ·rw [hout b q] at hb; have := D.old b hb; omega
 ·refine ⟨⟨d :: blkL sl.1, (m.mono (S' := d :: blkL sl.1) (fun b hb => .inl (List.mem_cons_of_mem _ hb))).step m2 (fun b hb => .inl (by rw [List.mem_singleton.1 hb]; exact List.mem_cons_self)), fun b hb => ?_⟩, fun b hb => ?_, by omega⟩
  ·rcases List.mem_cons.1 hb with rfl | hb
   ·rw [D.g1]; decide
   ·rw [D.g2 b hb]; decide
  ·by_cases q : b ∈ blkL sl'.1
   ·rcases hn' b q with y | y
    ·left; rw [D.g2 b y]; decide
    ·exact .inr y
   ·rw [hout b q] at hb; exact .inl hb
theorem DiskM.start (hb : Blk w d 104 [.int .i32 0, .int .u32 0, sL sl, .int .i64 (k.sf : Int), .int .i64 k.lf, .bool k.off]) (ho : Own w base 5 1 sl.1 sl.2.1 sl.2.2 (bv k.b)) (hn : d ∉ blkL sl.1) (hk : DOk k) (h1 : base ≤ d) : ∃ g, DiskM w base d 0 sl g k := by
 refine ⟨fun b => if b = d then 1 else if b ∈ blkL sl.1 then 2 else 0, hb, ho, hk, if_pos rfl, fun b q => ?_, fun b q => ?_⟩
 ·rw [if_neg (fun e => hn (by rw [← e]; exact q)), if_pos q]
 ·by_cases e : b = d
  ·rw [e]; exact ⟨h1, hb.lt⟩
  ·rw [if_neg e] at q
   by_cases e2 : b ∈ blkL sl.1
   ·exact ho.bl b e2
   ·rw [if_neg e2] at q; exact absurd rfl q
end
end Go.Proofs.YtjlaomcankmdjaaGreat
namespace Go.Proofs.YtjlaomcankmdjaaGreat
open Go.RowKit Go.Proofs.Eng Go.Proofs.Codec
set_option linter.unusedVariables false set_option maxRecDepth 10000
attribute [local irreducible] T TL LV TH TA
theorem Clone_c (A : Option Addr) (n c : Nat) (l : List UInt8) (w : World) (h : Rd w A n 1 (bv l)) (hn : n ≤ 70368744177664) :
  Ret Tryz.prog 48 [.slice A n c] w (fun v w' => ∃ A' c', v = .slice A' n c' ∧ Ext w w' ∧ Own w' w.heap.size 5 1 A' n c' (bv l)) := by
 cases A with
 |none =>
  obtain ⟨rfl, hl⟩ := h.none
  rw [hl]
  refine ret_T (n := 8) Tryz.func48 rfl rfl ?_
  repeat (first | refine T_seq ?_ | refine T_region ?_ | refine T_cond_true rfl ?_ | refine TL_nil_t TE (hk := ?_) | refine TL_nil ?_ | refine TL_move (hk := ?_) | refine TL_assign (hk := ?_))
  exact T_ret1 rfl rfl ⟨none, 0, rfl, Mod.refl _ _, Own.nil _ _ _ _⟩
 |some a =>
  refine ret_T (n := 8) Tryz.func48 rfl rfl ?_
  repeat (first | refine T_seq ?_ | refine T_region ?_ | refine T_cond_false rfl ?_ | refine T_skip ?_ | refine TL_nil_f TE (hk := ?_) | refine TL_nil ?_ | refine TL_move (hk := ?_) | refine TL_assign (hk := ?_))
  refine TL_buildSlice TE (hk := ?_); intro b1 w1 e1 h1 h2 k1
  have o1 : Own w1 w.heap.size 5 1 (some ⟨b1, 0, none⟩) 0 0 [] := Own.of_blk k1 h1 rfl (by decide)
  have s1 := e1.size
  repeat (refine TL_move (hk := ?_))
  refine TL_append TE (hk := ?_); intro A2 c2 w2 o2 m2 n2
  repeat (first | refine TL_nil ?_ | refine TL_assign (hk := ?_))
  refine T_ret1 rfl rfl ⟨A2, c2, by simp, e1.step m2 (fun x hx => .inr (by simp [blkL] at hx; omega)), ?_⟩
  simpa using o2
theorem PutUint_c (A : Option Addr) (n c : Nat) (l : List UInt8) (x : Nat) (w : World) {z : Int} (hz : z = (x : Int)) (h : Rd w A n 1 (bv l)) (hn : n ≤ 70368744177000) (hx : x < 2 ^ 64) :
  Ret Tryz.prog 66 [.slice A n c, .int .u64 z] w (fun v w' => ∃ A' n' c', v = .slice A' n' c' ∧ Ext w w' ∧ Own w' w.heap.size 5 1 A' n' c' (bv (l ++ encU x))) := by
 subst hz
 have hlen : l.length = n := by simpa using h.1
 refine ret_T (n := 23) Tryz.func66 rfl rfl ?_
 repeat (first | refine T_seq ?_ | refine T_region ?_ | refine TL_nil ?_ | refine TL_move (hk := ?_) | refine TL_assign (hk := ?_))
 refine TL_call TE (hc := Clone_c A n c l w h (by omega)) (hk := ?_)
 rintro _ w1 ⟨A1, c1, rfl, e1, o1⟩
 have s1 := e1.size
 repeat (first | refine T_seq ?_ | refine T_block ?_ | refine TL_nil ?_ | refine TL_assign (hk := ?_))
 refine T_loop (ι := (Option Addr × Nat × Nat) × List UInt8 × Nat) (fun i => [(5, .slice i.1.1 i.1.2.1 i.1.2.2), (1, .int .u64 (i.2.2 : Int))])
  (fun i w' => Ext w w' ∧ Own w' w.heap.size 5 1 i.1.1 i.1.2.1 i.1.2.2 (bv (l ++ i.2.1)) ∧ i.2.1 ++ encU i.2.2 = encU x ∧ i.2.2 < 2 ^ 64) (fun i => i.2.2) ((A1, n, c1), [], x) (.c rfl (.c rfl (.n))) ⟨e1, by simpa using o1, rfl, hx⟩ ?_
 rintro ⟨⟨A2, n2, c2⟩, pre, m⟩ w2 ⟨e2, o2, hpre, hm⟩ ih
 simp only at e2 o2 hpre hm ih ⊢
 have s2 := e2.size
 have hn2 := o2.len
 have hl10 := encU_len64 hx
 rw [← hpre] at hl10
 simp only [bv_length, List.length_append, Nat.mul_one] at hn2 hl10
 have hp := encU_pos m
 by_cases h128 : m < 128
 ·repeat (first | refine T_seq ?_ | refine T_region ?_ | refine T_cond_false rfl ?_ | refine T_exit rfl ?_ | refine TL_ge_f (hk := ?_) | refine TL_nil ?_ | refine TL_move (hk := ?_) | refine TL_conv TE (hk := ?_))
  refine TL_buildSlice TE (hk := ?_); intro b3 w3 e3 h31 h32 k3
  have s3 := e3.size
  --
  refine TL_append TE (hk := ?_); intro A4 c4 w4 o4 m4 n4
  repeat (first | refine TL_nil ?_ | refine TL_assign (hk := ?_))
  refine T_ret1 rfl rfl ⟨A4, _, c4, rfl, (e2.ext e3).step m4 (fun y hy => .inr ?_), ?_⟩
  ·cases A2 with
   |none => simp [blkL] at hy
   |some ad => simp [blkL] at hy; rw [hy]; exact o2.hi ad rfl
  ·rw [bv_snoc _ _ (by omega), List.append_assoc] at o4
   rw [← hpre, encU_lt h128]
   exact o4
 ·repeat (first | refine T_seq ?_ | refine T_region ?_ | refine T_cond_true rfl ?_ | refine T_block ?_ | refine T_skip ?_ | refine TL_ge_t (hk := ?_) | (refine TL_or (hk := ?_); intro _) | refine TL_nil ?_ | refine TL_move (hk := ?_) | refine TL_conv_nat TE (hk := ?_))
  refine TL_buildSlice TE (hk := ?_); intro b3 w3 e3 h31 h32 k3
  have s3 := e3.size
  --
  refine TL_append TE (hk := ?_); intro A4 c4 w4 o4 m4 n4
  repeat (first | refine T_region ?_ | refine T_inBlock ?_ | refine TL_shr (hk := ?_) | refine TL_nil ?_ | refine TL_move (hk := ?_) | refine TL_assign (hk := ?_))
  have ho : Own w4 w.heap.size 5 1 A4 (n2 + 1) c4 (bv (l ++ (pre ++ [UInt8.ofNat (m % 128 + 128)]))) := by
   have e : m % 2 ^ 8 ||| 128 = m % 128 + 128 := by rw [or128 _ (by omega)]; omega
   have o5 : Own w4 w.heap.size 5 1 A4 (n2 + 1) c4 (bv (l ++ pre) ++ [.int .u8 ((m % 2 ^ 8 ||| 128 : Nat) : Int)]) := o4
   rw [e, bv_snoc _ _ (by omega), List.append_assoc] at o5
   exact o5
  refine ih ⟨(A4, n2 + 1, c4), pre ++ [UInt8.ofNat (m % 128 + 128)], m / 128⟩ w4 _ (by simp only; omega) ⟨(e2.ext e3).step m4 (fun y hy => .inr ?_), ho, ?_, by simp only; omega⟩ (.c rfl (.c rfl (.n)))
  ·cases A2 with
   |none => simp [blkL] at hy
   |some ad => simp [blkL] at hy; rw [hy]; exact o2.hi ad rfl
  ·rw [← hpre, encU_ge h128]; simp
end Go.Proofs.YtjlaomcankmdjaaGreat
namespace Go.Proofs.YtjlaomcankmdjaaGreat
open Go.RowKit Go.Proofs.Eng Go.Proofs.Codec Go.Proofs.Journal
set_option linter.unusedVariables false set_option maxRecDepth 10000
attribute [local irreducible] T TL LV TH TA
set_option maxHeartbeats 1600000
theorem bv_take (l : List UInt8) (n : Nat) : (bv l).take n = bv (l.take n) := by simp [bv]
theorem newD_ok (l : List UInt8) : DOk (newD l) := ⟨by simp only [newD, List.length_take]; omega, Nat.le_refl _, by simp [newD]⟩
theorem NewDisk_c (A : Option Addr) (n c : Nat) (l : List UInt8) (w : World) (h : Rd w A n 1 (bv l)) (hnc : n ≤ c) (hn : n ≤ 70368744177664) :
  Ret Tryz.prog 11 [.slice A n c] w (fun v w' => ∃ d sl g, v = pB d ∧ Ext w w' ∧ DiskM w' w.heap.size d 0 sl g (newD l)) := by
 have hl : l.length = n := by simpa using h.1
 obtain ⟨m, hm⟩ : ∃ m, min n 4194304 = m := ⟨_, rfl⟩
 have hmi : (if (4194304 : Int) < (n : Int) then 4194304 else (n : Int)) = (m : Int) := by split <;> omega
 have hr := Rd.take h (h := m) (by omega)
 rw [Nat.mul_one, bv_take, show l.take m = (newD l).b by unfold newD; simp only; rw [← hm, ← hl]; rw [List.take_eq_take_iff]; omega] at hr
 have hlen : (newD l).sf = m := by simp only [newD, List.length_take]; omega
 refine ret_T (n := 14) Tryz.func11 rfl rfl ?_
 repeat (first | refine T_seq ?_ | refine T_region ?_ | refine TL_nil ?_ | refine TL_move (hk := ?_) | refine TL_assign (hk := ?_) | refine TL_len TE (hk := ?_))
 refine TL_min (hk := ?_)
 rw [hmi]
 repeat (refine TL_slice_hi TE (hk := ?_))
 rw [show ((m : Nat) : Int).toNat = m by omega]
 refine TL_call TE (hc := Clone_c A m c (newD l).b w hr (by omega)) (hk := ?_)
 rintro _ w1 ⟨A1, c1, rfl, e1, o1⟩
 repeat (first | refine T_seq ?_ | refine T_region ?_ | refine TL_nil ?_ | refine TL_move (hk := ?_) | refine TL_assign (hk := ?_) | refine TL_len TE (hk := ?_) | refine TL_build TE (hk := ?_))
 refine TL_box (hk := ?_); intro b2 w2 e2 h2 h2' k2
 have o2 := o1.be e2
 have z1 := e1.size
 repeat (first | refine TL_nil ?_ | refine TL_assign (hk := ?_))
 obtain ⟨g, D⟩ := DiskM.start (base := w.heap.size) (d := b2) (sl := (A1, m, c1)) (k := newD l) (w := w2) (by rw [hlen]; exact k2) o2 (fun q => by have := (o1.bl b2 q).2; omega) (newD_ok l) (by omega)
 exact T_ret1 rfl rfl ⟨b2, _, g, rfl, e1.ext e2, D⟩
section
variable {base d : Nat} {sl : SL} {g : Nat → Nat} {k : DK}
theorem operate_c (gc : Nat) (hE : (TE : Env Tryz.prog).fn gc = true) (cap : List Value) (f : DK → DK × Nat) (w : World) (D : DiskM w base d 0 sl g k)
  (hf : ∀ w1 k1, Eng.Mod [d] w w1 → DiskM w1 base d 1 sl g k1 → Ret Tryz.prog gc cap w1 (fun v w2 => v = .int .i64 ((f k1).2 : Int) ∧ ∃ sl' g', DiskM w2 base d 1 sl' g' (f k1).1 ∧ Tn g g' w1 w2)) :
  Ret Tryz.prog 81 [pB d, .func (.func gc) #[] cap.toArray] w (fun v w' => v = .int .i64 ((opD k f).2 : Int) ∧ ∃ sl' g', DiskM w' base d 0 sl' g' (opD k f).1 ∧ Tn g g' w w') := by
 have hb0 := D.blk
 have hlf := D.ok.lf
 refine ret_T (n := 46) Tryz.func81 rfl rfl ?_
 repeat (first | refine T_seq ?_ | refine T_region ?_ | refine T_cond_false rfl ?_ | refine T_skip ?_ | refine TL_pnil_f TE (hk := ?_) | refine TL_nil ?_ | refine TL_move (hk := ?_) | refine TL_assign (hk := ?_) | refine TL_fieldAddr TE (hk := ?_) | refine TL_nilCheck (hk := ?_))
 refine TL_call TE (hc := Lock_c w D.blk rfl) (hk := ?_)
 rintro _ w1 ⟨rfl, m1, z1, k1⟩
 obtain ⟨D1, t1⟩ := D.set (k' := k) (lk' := 1) m1 k1 rfl D.ok
 clear k1 hb0
 have hb1 := D1.blk
 repeat (first | refine T_seq ?_ | refine T_region ?_ | refine TL_nil ?_ | refine TL_move (hk := ?_) | refine TL_fieldAddr TE (hk := ?_) | refine TL_nilCheck (hk := ?_))
 refine TL_defer rfl rfl rfl ?_
 by_cases hdead : k.off = true ∨ k.lf = 0
 ·have hop : opD k f = ({ k with off := true }, 230) := if_pos hdead
  rw [hop]
  have fin : ∀ w2, Eng.Mod [d] w1 w2 → Blk w2 d 104 [.int .i32 1, .int .u32 0, sL sl, .int .i64 (k.sf : Int), .int .i64 k.lf, .bool true] → ∀ w3, Eng.Mod [d] w2 w3 → Blk w3 d 104 [.int .i32 0, .int .u32 0, sL sl, .int .i64 (k.sf : Int), .int .i64 k.lf, .bool true] → DiskM w3 base d 0 sl g { k with off := true } ∧ Tn g g w w3 := fun w2 m2 k2 w3 m3 k3 => by
   obtain ⟨D2, t2⟩ := D1.set (k' := { k with off := true }) m2 k2 rfl ⟨D.ok.ln, D.ok.sf, D.ok.lf⟩
   obtain ⟨D3, t3⟩ := D2.set (k' := { k with off := true }) (lk' := 0) m3 k3 rfl D2.ok
   exact ⟨D3, (t1.trans t2).trans t3⟩
  by_cases ho : k.off = true
  ·rw [ho] at hb1
   repeat (first | refine T_seq ?_ | refine T_region ?_ | refine TL_nil ?_ | refine TL_move (hk := ?_) | refine TL_load TE (hk := ?_) | refine TL_fieldAddr TE (hk := ?_) | refine TL_no (hk := ?_) | refine TL_pick_t (hk := ?_) | refine TL_nilCheck (hk := ?_))
   refine TL_store TE (hk := ?_); intro w2 m2 z2 k2
   replace k2 : Blk w2 d 104 [.int .i32 1, .int .u32 0, sL sl, .int .i64 (k.sf : Int), .int .i64 k.lf, .bool true] := k2
   repeat (first | refine T_seq ?_ | refine T_region ?_ | refine T_cond_true rfl ?_ | refine TL_nil ?_ | refine TL_move (hk := ?_) | refine TL_assign (hk := ?_) | refine TL_load TE (hk := ?_) | refine TL_fieldAddr TE (hk := ?_) | refine TL_nilCheck (hk := ?_))
   refine T_leave ?_
   refine LV_unlock k2 rfl ?_
   intro w3 m3 z3 k3
   obtain ⟨D3, t3⟩ := fin w2 m2 k2 w3 m3 k3
   exact LV_ret rfl (res1 rfl rfl) ⟨rfl, sl, g, D3, t3⟩
  ·have hl : k.lf = 0 := hdead.resolve_left ho
   rw [Bool.not_eq_true] at ho
   rw [ho] at hb1
   repeat (first | refine T_seq ?_ | refine T_region ?_ | refine TL_eq_t (hk := ?_) | refine TL_nil ?_ | refine TL_move (hk := ?_) | refine TL_load TE (hk := ?_) | refine TL_fieldAddr TE (hk := ?_) | refine TL_yes (hk := ?_) | refine TL_pick_f (hk := ?_) | refine TL_nilCheck (hk := ?_))
   refine TL_store TE (hk := ?_); intro w2 m2 z2 k2
   replace k2 : Blk w2 d 104 [.int .i32 1, .int .u32 0, sL sl, .int .i64 (k.sf : Int), .int .i64 k.lf, .bool true] := k2
   repeat (first | refine T_seq ?_ | refine T_region ?_ | refine T_cond_true rfl ?_ | refine TL_nil ?_ | refine TL_move (hk := ?_) | refine TL_assign (hk := ?_) | refine TL_load TE (hk := ?_) | refine TL_fieldAddr TE (hk := ?_) | refine TL_nilCheck (hk := ?_))
   refine T_leave ?_
   refine LV_unlock k2 rfl ?_
   intro w3 m3 z3 k3
   obtain ⟨D3, t3⟩ := fin w2 m2 k2 w3 m3 k3
   exact LV_ret rfl (res1 rfl rfl) ⟨rfl, sl, g, D3, t3⟩
 ·have hop : opD k f = f { k with lf := if 0 < k.lf then k.lf - 1 else k.lf } := if_neg hdead
  rw [hop]
  have ho : k.off = false := by cases h : k.off with
   |false => rfl
   |true => exact absurd (.inl h) hdead
  have hl : ¬ k.lf = 0 := fun q => hdead (.inr q)
  rw [ho] at hb1
  repeat (first | refine T_seq ?_ | refine T_region ?_ | refine TL_eq_f (hk := ?_) | refine TL_nil ?_ | refine TL_move (hk := ?_) | refine TL_load TE (hk := ?_) | refine TL_fieldAddr TE (hk := ?_) | refine TL_yes (hk := ?_) | refine TL_pick_f (hk := ?_) | refine TL_nilCheck (hk := ?_))
  refine TL_store TE (hk := ?_); intro w2 m2 z2 k2
  replace k2 : Blk w2 d 104 [.int .i32 1, .int .u32 0, sL sl, .int .i64 (k.sf : Int), .int .i64 k.lf, .bool false] := k2
  have M2 : Eng.Mod [d] w w2 := m1.trans m2
  obtain ⟨D2, t2⟩ := D1.set (k' := k) (lk' := 1) m2 (by rw [ho]; exact k2) rfl D.ok
  clear hb1
  by_cases hp : 0 < k.lf
  ·rw [if_pos hp]
   repeat (first | refine T_seq ?_ | refine T_region ?_ | refine T_cond_true rfl ?_ | refine T_cond_false rfl ?_ | refine T_skip ?_ | refine TL_sub (hk := ?_) | refine TL_gt_t (hk := ?_) | refine TL_nil ?_ | refine TL_move (hk := ?_) | refine TL_load TE (hk := ?_) | refine TL_fieldAddr TE (hk := ?_) | refine TL_nilCheck (hk := ?_))
   refine TL_store TE (hk := ?_); intro w3 m3 z3 k3
   replace k3 : Blk w3 d 104 [.int .i32 1, .int .u32 0, sL sl, .int .i64 (k.sf : Int), .int .i64 (k.lf - 1), .bool false] := k3
   obtain ⟨D3, t3⟩ := D2.set (k' := { k with lf := k.lf - 1 }) (lk' := 1) m3 (by simp only; rw [ho]; exact k3) rfl ⟨D.ok.ln, D.ok.sf, by simp only; omega⟩
   have c := hf w3 { k with lf := k.lf - 1 } (M2.trans m3) D3
   repeat (first | refine T_seq ?_ | refine T_region ?_ | refine TL_nil ?_ | refine TL_move (hk := ?_))
   refine TL_callc TE (fst := []) (cap := cap) rfl rfl hE rfl (R' := RR _) (by exact c) ?_ (fun _ _ h => h.elim) (fun _ h => h)
   rintro _ w4 ⟨rfl, sl4, g4, D4, t4⟩
   repeat (first | refine TL_nil ?_ | refine TL_assign (hk := ?_))
   refine T_leave ?_
   refine LV_unlock D4.blk rfl ?_
   intro w5 m5 z5 k5
   obtain ⟨D5, t5⟩ := D4.set (lk' := 0) m5 k5 rfl D4.ok
   exact LV_ret rfl (res1 rfl rfl) ⟨rfl, sl4, g4, D5, (((t1.trans t2).trans t3).trans t4).trans t5⟩
  ·rw [if_neg hp]
   have c := hf w2 k M2 D2
   repeat (first | refine T_seq ?_ | refine T_region ?_ | refine T_cond_false rfl ?_ | refine T_skip ?_ | refine TL_gt_f (hk := ?_) | refine TL_nil ?_ | refine TL_move (hk := ?_) | refine TL_load TE (hk := ?_) | refine TL_fieldAddr TE (hk := ?_) | refine TL_nilCheck (hk := ?_))
   refine TL_callc TE (fst := []) (cap := cap) rfl rfl hE rfl (R' := RR _) (by exact c) ?_ (fun _ _ h => h.elim) (fun _ h => h)
   rintro _ w4 ⟨rfl, sl4, g4, D4, t4⟩
   repeat (first | refine TL_nil ?_ | refine TL_assign (hk := ?_))
   refine T_leave ?_
   refine LV_unlock D4.blk rfl ?_
   intro w5 m5 z5 k5
   obtain ⟨D5, t5⟩ := D4.set (lk' := 0) m5 k5 rfl D4.ok
   exact LV_ret rfl (res1 rfl rfl) ⟨rfl, sl4, g4, D5, ((t1.trans t2).trans t4).trans t5⟩
end
end Go.Proofs.YtjlaomcankmdjaaGreat
namespace Go.Proofs.Eng
open Go.RowKit Go.WideShapes
structure Bulk (H : Type) where
 one : DataW H → Nat
 all : List (DataW H) → Nat
 lit : ∀ l, 1 ≤ one (.lit l)
 str : ∀ b, one (.lit (.string b)) = b.length + 1
 nil : one .nil = 1
 slice : ∀ e s, one (.slice e s) = all e + all s + 1
 agg : ∀ p, one (.agg p) = all p + 1
 none : all [] = 0
 some : ∀ d r, all (d :: r) = one d + all r
def FitB (w : World) : Ty → List Value → Nat → Prop
 | .int k, cs, m => 1 ≤ m ∧ ∃ n, cs = [.int k n] ∧ Fits k n
 | .bool, cs, m => 1 ≤ m ∧ ∃ b, cs = [.bool b]
 | .str, cs, m => ∃ s : ByteArray, cs = [.string s] ∧ s.size ≤ maxLen ∧ s.size + 1 ≤ m
 | .slice e, cs, m => ∃ (A : Option Addr) (n c : Nat) (xs : List (List Value)) (ms : List Nat), cs = [.slice A n c] ∧ n ≤ c ∧ c ≤ maxLen ∧ xs.length = n ∧ ms.length = n ∧ ms.sum + 1 ≤ m ∧ Rd w A n e.size xs.flatten ∧
   ∀ (i : Nat) (x : List Value) (k : Nat), xs[i]? = some x → ms[i]? = some k → x.length = e.size ∧ FitB w e x k
 | .unit, cs, _ => cs = []
 | .cons a b, cs, m => ∃ x y p q, cs = x ++ y ∧ x.length = a.size ∧ p + q ≤ m ∧ FitB w a x p ∧ FitB w b y q
 | .struct p, cs, m => FitB w p cs m
 | .array n e, cs, m => ∃ (xs : List (List Value)) (ms : List Nat), cs = xs.flatten ∧ xs.length = n ∧ ms.length = n ∧ ms.sum ≤ m ∧ ∀ (i : Nat) (x : List Value) (k : Nat), xs[i]? = some x → ms[i]? = some k → x.length = e.size ∧ FitB w e x k
theorem FitB.mono {w : World} : ∀ {ty : Ty} {cs : List Value} {m m' : Nat}, FitB w ty cs m → m ≤ m' → FitB w ty cs m'
 | .int _, _, _, _, ⟨h, r⟩, hm => ⟨Nat.le_trans h hm, r⟩
 | .bool, _, _, _, ⟨h, r⟩, hm => ⟨Nat.le_trans h hm, r⟩
 | .str, _, _, _, ⟨s, h1, h2, h3⟩, hm => ⟨s, h1, h2, Nat.le_trans h3 hm⟩
 | .slice _, _, _, _, ⟨A, n, c, xs, ms, h1, h2, h3, h4, h5, h6, h7⟩, hm => ⟨A, n, c, xs, ms, h1, h2, h3, h4, h5, Nat.le_trans h6 hm, h7⟩
 | .unit, _, _, _, h, _ => h
 | .cons _ _, _, _, _, ⟨x, y, p, q, h1, h2, h3, h4⟩, hm => ⟨x, y, p, q, h1, h2, Nat.le_trans h3 hm, h4⟩
 | .struct p, _, _, _, h, hm => FitB.mono (ty := p) h hm
 | .array _ _, _, _, _, ⟨xs, ms, h1, h2, h3, h4, h5⟩, hm => ⟨xs, ms, h1, h2, h3, Nat.le_trans h4 hm, h5⟩
section
variable {H : Type} {enc : TypeId × Value → H} {P : Program} {w : World} {base : Nat} {spare : Nat → Bool} {held : Bool}
theorem Bulk.map_sum (K : Bulk H) (l : List (DataW H × List MemPlace)) : K.all (l.map (·.1)) = (l.map fun x => K.one x.1).sum := by
 induction l with
 |nil => simp [K.none]
 |cons a l ih => simp [K.some, ih]
theorem fitb_of_trod (E : Env P) (K : Bulk H) : ∀ (ty : Ty),
  (∀ t, tyOk E ty (.at t) = true → ∀ fuel cs x, DataW.trod enc P w base spare held fuel t cs = some x → FitB w ty cs (K.one x.1)) ∧
  (∀ off fl, tyOk E ty (.from off fl) = true → ∀ (cs : List Value) (ys : List (DataW H × List MemPlace)), cs.length = off + ty.size → ys.length = fl.length →
   (∀ (i : Nat) (o : Nat) (t : TypeId) y, fl[i]? = some (o, t) → ys[i]? = some y → ∃ n, DataW.trod enc P w base spare held n t ((cs.drop o).take (P.cellsOf t)) = some y) → FitB w ty (cs.drop off) (ys.map fun x => K.one x.1).sum) := by
 intro ty
 induction ty with
 |int k =>
  refine ⟨fun t h fuel cs x hd => ?_, fun _ _ h => by simp [tyOk] at h⟩
  obtain ⟨n, h1, h3, h2⟩ := DataW.trod_int (und_int h) hd
  rw [h3]
  exact ⟨K.lit _, n, h1, fits_of_wf h2⟩
 |bool =>
  refine ⟨fun t h fuel cs x hd => ?_, fun _ _ h => by simp [tyOk] at h⟩
  obtain ⟨b, h1, h3⟩ := DataW.trod_bool (und_bool h) hd
  rw [h3]
  exact ⟨K.lit _, b, h1⟩
 |str =>
  refine ⟨fun t h fuel cs x hd => ?_, fun _ _ h => by simp [tyOk] at h⟩
  obtain ⟨s, h1, h3, h2⟩ := DataW.trod_string (und_str h) hd
  rw [h3]
  exact ⟨s, h1, h2, by rw [K.str]; simp⟩
 |slice e ih =>
  refine ⟨fun t h fuel cs x hd => ?_, fun _ _ h => by simp [tyOk] at h⟩
  simp only [tyOk] at h
  split at h
  ·rename_i u hu
   simp only [Bool.and_eq_true] at h
   obtain ⟨⟨h1, h2⟩, h3⟩ := h
   have hsz := sizeIs_ok h2
   have h0 : 0 < e.size := by simpa [Nat.blt_eq] using h3
   rcases DataW.trod_slice (E.und_ok _ _ hu) hd with ⟨rfl, hx⟩ | ⟨a, len, cap, elems, rest, n, _, rfl, hx, hb, hl, hm, hlen, hel, _⟩
   ·rw [hx]
    exact ⟨none, 0, 0, [], [], rfl, Nat.le_refl _, by decide, rfl, rfl, by simp [K.nil], Rd.nil _ _ _, by simp⟩
   ·rw [hsz] at hel
    have hget : ∀ i, i < len → ∃ y z, w.cells? base (a.add (i * e.size)) e.size = some y ∧ elems[i]? = some z ∧ DataW.trod enc P w base spare held n u y = some z := fun i hi => by
     have h4 := hel i hi
     rw [List.getElem?_eq_getElem (by omega)] at h4
     cases hc : w.cells? base (a.add (i * e.size)) e.size with
     |none => rw [hc] at h4; simp at h4
     |some y => rw [hc] at h4; simp at h4; exact ⟨y, _, rfl, List.getElem?_eq_getElem (by omega), h4⟩
    have hsome : ∀ (i : Nat) (x : List Value), ((List.range len).map fun i => (w.cells? base (a.add (i * e.size)) e.size).getD [])[i]? = some x → w.cells? base (a.add (i * e.size)) e.size = some x ∧ x.length = e.size ∧ ∃ z, elems[i]? = some z ∧ FitB w e x (K.one z.1) := fun i x hx => by
     have hi : i < len := by have := (List.getElem?_eq_some_iff.1 hx).1; simpa using this
     obtain ⟨y, z, hy, hz, ht⟩ := hget i hi
     rw [List.getElem?_map, List.getElem?_range hi] at hx
     simp only [Option.map_some, hy, Option.getD_some, Option.some.injEq] at hx
     subst hx
     exact ⟨hy, (World.cells?_some hy).2.1, z, hz, ih.1 u h1 n y z ht⟩
    have hmem : ∀ x ∈ (List.range len).map (fun i => (w.cells? base (a.add (i * e.size)) e.size).getD []), x.length = e.size := fun x hx => by
     obtain ⟨i, hi⟩ := List.getElem?_of_mem hx
     exact (hsome i x hi).2.1
    refine ⟨some a, len, cap, _, elems.map fun x => K.one x.1, rfl, hl, hm, by simp, by simp [hlen], ?_, rows_read h0 (by simp) (fun i x hx => (hsome i x hx).1) hmem, ?_⟩
    ·rw [hx]
     simp only [K.slice, K.map_sum]
     omega
    ·intro i x k hx hk
     obtain ⟨_, h5, z, hz, h6⟩ := hsome i x hx
     rw [List.getElem?_map, hz] at hk
     simp at hk
     subst hk
     exact ⟨h5, h6⟩
  ·cases h
 |unit =>
  refine ⟨fun t h => by simp [tyOk] at h, fun off fl h cs ys hl _ _ => ?_⟩
  show cs.drop off = []
  exact List.drop_of_length_le (by simp only [Ty.size] at hl; omega)
 |cons a b iha ihb =>
  refine ⟨fun t h => by simp [tyOk] at h, fun off fl h cs ys hl hyl hf => ?_⟩
  cases fl with
  |nil => simp [tyOk] at h
  |cons p fl =>
   cases ys with
   |nil => simp at hyl
   |cons y ys =>
    obtain ⟨o, t⟩ := p
    simp only [tyOk, Bool.and_eq_true] at h
    obtain ⟨⟨⟨h1, h2⟩, h3⟩, h4⟩ := h
    have ho := Nat.eq_of_beq_eq_true h1
    subst ho
    simp only [Ty.size] at hl
    have hsz := sizeIs_ok h3
    obtain ⟨n, hx⟩ := hf 0 o t y rfl rfl
    rw [hsz] at hx
    refine ⟨(cs.drop o).take a.size, cs.drop (o + a.size), K.one y.1, (ys.map fun x => K.one x.1).sum, ?_, by simp; omega, by simp, iha.1 t h2 n _ y hx, ?_⟩
    ·rw [← List.drop_drop, List.take_append_drop]
    ·exact ihb.2 (o + a.size) fl h4 cs ys (by omega) (by simpa using hyl) (fun i o' t' y' h' g' => hf (i + 1) o' t' y' (by simpa using h') (by simpa using g'))
 |struct p ih =>
  refine ⟨fun t h fuel cs x hd => ?_, fun _ _ h => by simp [tyOk] at h⟩
  simp only [tyOk] at h
  split at h
  ·rename_i fl hfl
   simp only [Bool.and_eq_true] at h
   obtain ⟨h1, h2⟩ := h
   obtain ⟨fs, hu, hmap⟩ := E.fld_ok _ _ hfl
   obtain ⟨xs, n, _, hx, hl, hxl, hfs⟩ := DataW.trod_struct hu hd
   rw [sizeIs_ok h2] at hl
   have := ih.2 0 fl h1 cs xs (by omega) (by rw [hxl, ← hmap]; simp) (fun i o t' y h' g' => by
    rw [← hmap, List.getElem?_map] at h'
    cases hf : fs.toList[i]? with
    |none => rw [hf] at h'; cases h'
    |some f =>
     rw [hf] at h'
     cases h'
     have hf' : fs[i]? = some f := by simpa using hf
     have h5 := hfs i f hf'
     rw [g'] at h5
     exact ⟨n, h5⟩)
   rw [hx]
   refine FitB.mono (ty := p) (by simpa using this) ?_
   rw [K.agg, K.map_sum]
   omega
  ·cases h
 |array n e ih =>
  refine ⟨fun t h fuel cs x hd => ?_, fun _ _ h => by simp [tyOk] at h⟩
  simp only [tyOk] at h
  split at h
  ·rename_i m u hu
   simp only [Bool.and_eq_true] at h
   obtain ⟨⟨⟨h1, h2⟩, h3⟩, h4⟩ := h
   have hm := Nat.eq_of_beq_eq_true h1
   subst hm
   obtain ⟨xs, q, _, hx, hl, hxl, hel⟩ := DataW.trod_array (E.und_ok _ _ hu) hd
   rw [sizeIs_ok h4] at hl
   rw [sizeIs_ok h3] at hel
   refine ⟨(List.range m).map fun i => (cs.drop (i * e.size)).take e.size, xs.map fun x => K.one x.1, (take_drop_chunks m cs hl).symm, by simp, by simp [hxl], ?_, fun i y k hy hk => ?_⟩
   ·rw [hx, K.agg, K.map_sum]
    omega
   ·have hi' : i < m := by have := (List.getElem?_eq_some_iff.1 hy).1; simpa using this
    rw [List.getElem?_map, List.getElem?_range hi'] at hy
    simp at hy
    subst hy
    have h5 := hel i hi'
    rw [List.getElem?_map, ← h5] at hk
    cases ht : DataW.trod enc P w base spare held q u ((cs.drop (i * e.size)).take e.size) with
    |none => rw [ht] at hk; simp at hk
    |some z =>
     rw [ht] at hk
     simp at hk
     subst hk
     refine ⟨?_, ih.1 u h2 q _ _ ht⟩
     have : (i + 1) * e.size ≤ m * e.size := Nat.mul_le_mul_right _ hi'
     rw [Nat.succ_mul] at this
     simp; omega
  ·cases h
def ReadsB (P : Program) (w : World) (base : Nat) (t : TypeId) (v : Value) (m : Nat) : Prop :=
 ∃ (H : Type) (enc : TypeId × Value → H) (d : DataW H) (ps : List MemPlace) (K : Bulk H), DataW.Trod enc P w 0 (fun _ => true) true t v d ps ∧ Value.okWide P w .any base t v ∧ K.one d ≤ m
theorem ReadsB.fit {t : TypeId} {v : Value} {m : Nat} (E : Env P) (h : ReadsB P w base t v m) (ty : Ty) (hok : tyOk E ty (.at t) = true) : FitB w ty v.cells.toList m := by
 obtain ⟨H, enc, d, ps, K, ⟨fuel, hf⟩, _, hm⟩ := h
 exact FitB.mono ((fitb_of_trod E K ty).1 t hok fuel _ _ hf) hm
theorem ReadsB.slice {t e : TypeId} {v : Value} {m : Nat} (E : Env P) (h : ReadsB P w base t v m) (ht : E.und t = some (.slice e)) : ∃ A n c, v = .slice A n c := by
 obtain ⟨_, _, _, _, _, _, hv, _⟩ := h
 exact okWide_slice (E.und_ok _ _ ht) hv
end
theorem rows_of {α : Type} {g : α → List Value} {Q : α → Prop} {w : World} {e : Ty} {M : Nat} (h : ∀ (x : List Value) (k : Nat), k ≤ M → FitB w e x k → 1 ≤ k ∧ ∃ a, x = g a ∧ Q a) :
  ∀ (xs : List (List Value)) (ms : List Nat), xs.length = ms.length → ms.sum ≤ M → (∀ (i : Nat) (x : List Value) (k : Nat), xs[i]? = some x → ms[i]? = some k → x.length = e.size ∧ FitB w e x k) → ∃ l : List α, rowV g l = xs.flatten ∧ (∀ a ∈ l, Q a) ∧ l.length = xs.length ∧ xs.length ≤ ms.sum
 | [], [], _, _, _ => ⟨[], rfl, fun a ha => (by cases ha), rfl, Nat.le_refl _⟩
 | [], _ :: _, hl, _, _ => by simp at hl
 | _ :: _, [], hl, _, _ => by simp at hl
 |x :: xs, k :: ms, hl, hs, hk => by
  simp only [List.sum_cons] at hs
  obtain ⟨l, h1, h2, h3, h4⟩ := rows_of h xs ms (by simpa using hl) (by omega) (fun i x k a b => hk (i + 1) x k (by simpa using a) (by simpa using b))
  obtain ⟨h5, a, rfl, ha⟩ := h x k (by omega) (hk 0 x k rfl rfl).2
  exact ⟨a :: l, by rw [rowV_cons, h1]; simp, fun b hb => by
   rcases List.mem_cons.1 hb with rfl | hb
   ·exact ha
   ·exact h2 b hb, by simp [h3], by simp only [List.length_cons, List.sum_cons]; omega⟩
theorem FitB.row {α : Type} {g : α → List Value} {Q : α → Prop} {w : World} {e : Ty} {M k : Nat} (h : ∀ (x : List Value) (k : Nat), k ≤ M → FitB w e x k → 1 ≤ k ∧ ∃ a, x = g a ∧ Q a) {x : List Value} (hx : FitB w (.slice e) x k) (hk : k ≤ M) :
  1 ≤ k ∧ ∃ (A : Option Addr) (n c : Nat) (l : List α), x = [.slice A n c] ∧ n ≤ c ∧ c ≤ maxLen ∧ n < k ∧ l.length = n ∧ Rd w A n e.size (rowV g l) ∧ ∀ a ∈ l, Q a := by
 obtain ⟨A, n, c, xs, ms, h1, h2, h3, h4, h5, h6, h7, h8⟩ := hx
 obtain ⟨l, g1, g2, g3, g4⟩ := rows_of h xs ms (by omega) (by omega) h8
 exact ⟨by omega, A, n, c, l, h1, h2, h3, by omega, by omega, by rw [g1]; exact h7, g2⟩
end Go.Proofs.Eng
namespace Go.Proofs.Eng
open Go.RowKit
section
variable {q : Qm} {P : Program} {fn : Func} {R : Ending → World → Prop} {M : Md} {n : Nat} {st : Slots} {k : List Item} {w : World} {ops rest : List Oper}
 {d : Nat} {ty : TypeId} {ps : String} {af : Array Edge} {X Y : Operand} {t t2 : TypeId} {x y : Int} {K : IntKind}
end
section
variable {q : Qm} {P : Program} {fn : Func} {R : Ending → World → Prop} {M : Md} {n : Nat} {st : Slots} {k : List Item} {w w0 : World} {ops rest : List Oper}
 {d : Nat} {ty : TypeId} {ps : String} {af : Array Edge} {X I : Operand} {t e : TypeId} {by_ s : Nat} {z : Value} {i : Int} {L : IntKind}
end
section
variable {q : Qm} {P : Program} {fn : Func} {R : Ending → World → Prop} {M : Md} {n : Nat} {st : Slots} {k : List Item} {w : World} {ops rest : List Oper}
 {d : Nat} {ty : TypeId} {ps : String} {af : Array Edge} {X : Operand} {t : TypeId} {dsc : TypeDesc} {v : Value}
theorem TLN_load {b o : Nat} {bt : TypeId} {cs : List Value} (E : Env P) (hx : ev st X = some (.pointer (some ⟨b, o, none⟩)) := by exact rfl) (ht : E.und t = some dsc := by exact rfl) (hn : nonAgg dsc = true := by exact rfl) (hd : Nat.blt d n = true := by exact rfl) (hb : Blk w b bt cs) (hv : cs[o]? = some v := by exact rfl)
  (hf : Fl q (rest.length + 1) := by first | exact trivial | exact rfl) (hq : Kp q w) (hk : TL q P fn R M n ((d, v) :: st) ops rest k w) : TL q P fn R M n st ops (⟨some d, .load t X, ty, ps, af, none⟩ :: rest) k w :=
 TL_new (w' := w) hd (fun ρ h => by
  have hc : w.cell? ⟨b, o, none⟩ = some v := by rw [hb.cell, hv]
  simp [execOp, Instr.loadAt, h _ _ hx, Instr.sureAddr, loadVar, run_isAgg_no (E.und_ok _ _ ht) hn, hc]) hf hq hk
end
end Go.Proofs.Eng
namespace Go.Proofs.YtjlaomcankmdjaaGreat
open Go.RowKit Go.Proofs.Eng Go.Proofs.Codec Go.Proofs.Journal
set_option linter.unusedVariables false set_option maxRecDepth 10000
attribute [local irreducible] T TL LV TH TA
set_option maxHeartbeats 1600000
section
variable {base d : Nat} {sl : SL} {g : Nat → Nat} {k : DK}
theorem app1_c (b2 b3 : Nat) (A : Option Addr) (n c : Nat) (p : List UInt8) (w : World) (D : DiskM w base d 1 sl g k) (k2 : Blk w b2 26 [pB d]) (k3 : Blk w b3 25 [.slice A n c]) (hr : Rd w A n 1 (bv p)) (g2 : g b2 = 0) (g3 : g b3 = 0) (hn : n ≤ 70368744177664) :
  Ret Tryz.prog 82 [pB b2, pB b3] w (fun v w' => v = .int .i64 ((appD p k).2 : Int) ∧ ∃ sl' g', DiskM w' base d 1 sl' g' (appD p k).1 ∧ Tn g g' w w') := by
 have hp : p.length = n := by simpa using hr.1
 have hlen := D.len
 have hln := D.ok.ln
 have hsf := D.ok.sf
 have hb := D.blk
 have hbs : base ≤ w.heap.size := by have := D.old d (by rw [D.g1]; decide); omega
 unfold appD
 refine ret_T (n := 21) Tryz.func82 rfl rfl ?_
 by_cases hf : 4194304 < k.b.length + p.length
 ·have hf' : (4194304 : Int) < (sl.2.1 : Int) + (n : Int) := by omega
  rw [if_pos hf]
  repeat (first | refine T_seq ?_ | refine T_region ?_ | refine T_region_q TE.mixed (by kernel_rfl) ?_ | refine TL_add (hk := ?_) | refine TL_gt_t (hk := ?_) | refine TL_nil ?_ | refine TL_assign (hk := ?_) | refine TL_load TE (hk := ?_) | refine TL_fieldAddr TE (hk := ?_) | refine TL_len TE (hk := ?_) | refine TL_nilCheck (hk := ?_))
  refine TL_nil_q ?_; intro w1 e1
  repeat (first | refine T_seq ?_ | refine T_region ?_ | refine T_cond_true rfl ?_ | refine TL_nil ?_ | refine TL_assign (hk := ?_))
  exact T_ret1 rfl rfl ⟨rfl, sl, g, D.ext e1, Tn.ext e1⟩
 ·have hf' : ¬ (4194304 : Int) < (sl.2.1 : Int) + (n : Int) := by omega
  rw [if_neg hf]
  repeat (first | refine T_seq ?_ | refine T_region ?_ | refine T_region_q TE.mixed (by kernel_rfl) ?_ | refine TL_add (hk := ?_) | refine TL_gt_f (hk := ?_) | refine TL_nil ?_ | refine TL_assign (hk := ?_) | refine TL_load TE (hk := ?_) | refine TL_fieldAddr TE (hk := ?_) | refine TL_len TE (hk := ?_) | refine TL_nilCheck (hk := ?_))
  refine TL_nil_q ?_; intro w1 e1
  have D1 := D.ext e1
  have hb1 := D1.blk
  have k21 := k2.be e1
  have k31 := k3.be e1
  have hr1 := hr.be e1
  clear hb k2 k3 hr
  have hdD : d ∉ blkL sl.1 := D1.nin
  have h2D : b2 ∉ blkL sl.1 := fun q => by have := D.g2 b2 q; omega
  have h3D : b3 ∉ blkL sl.1 := fun q => by have := D.g2 b3 q; omega
  repeat (first | refine T_seq ?_ | refine T_cond_false rfl ?_ | refine T_skip ?_)
  refine T_region_anyz TE.mixed (blkL sl.1) (some 9) ?_; intro w2 e2 z2
  have D2 := D1.ext e2
  have hb2 := D2.blk
  have k22 := k21.be e2
  have k32 := k31.be e2
  have hr2 := hr1.be e2
  have zz1 := e1.size
  have zz2 := e2.size
  (refine TA_take 0 rfl (by kernel_rfl) (by kernel_rfl) (by kernel_rfl) ?_; (repeat (first | refine TLP_load TE (hk := ?_) | refine TL_fieldAddr TE (hk := ?_) | refine TL_nilCheck (hk := ?_))); refine TL_nil_p ?_); (refine TA_take 1 rfl (by kernel_rfl) (by kernel_rfl) (by kernel_rfl) ?_; (repeat (first | refine TLP_load TE (hk := ?_) | refine TL_fieldAddr TE (hk := ?_) | refine TL_nilCheck (hk := ?_))); refine TL_nil_p ?_); (refine TA_take 2 rfl (by kernel_rfl) (by kernel_rfl) (by kernel_rfl) ?_; (repeat (first | refine TLP_load TE (hk := ?_) | refine TL_fieldAddr TE (hk := ?_) | refine TL_nilCheck (hk := ?_))); refine TL_nil_p ?_); (refine TA_take 3 rfl (by kernel_rfl) (by kernel_rfl) (by kernel_rfl) ?_; (repeat (first | refine TLP_load TE (hk := ?_) | refine TL_fieldAddr TE (hk := ?_) | refine TL_nilCheck (hk := ?_))); refine TL_nil_p ?_); (refine TA_take 4 rfl (by kernel_rfl) (by kernel_rfl) (by kernel_rfl) ?_; (repeat (first | refine TLP_load TE (hk := ?_) | refine TL_fieldAddr TE (hk := ?_) | refine TL_nilCheck (hk := ?_))); refine TL_nil_p ?_); (refine TA_take 5 rfl (by kernel_rfl) (by kernel_rfl) (by kernel_rfl) ?_; (repeat (first | refine TLP_load TE (hk := ?_) | refine TL_fieldAddr TE (hk := ?_) | refine TL_nilCheck (hk := ?_))); refine TL_nil_p ?_)
  refine TA_one 6 rfl (by kernel_rfl) (by kernel_rfl) ?_
  refine TL_append TE (ho := D2.ow) (hr := hr2) (h1 := bv_one _) (hf := rfl) (hq := fun w' m => m) (hk := ?_); intro A3 c3 w3 o3 m3 n3
  have hb3 := hb2.mod m3 hdD
  refine TL_nil_p ?_
  (refine TA_one 7 rfl (by kernel_rfl) (by kernel_rfl) ?_; (repeat (first | refine TL_fieldAddr TE (hk := ?_) | refine TL_nilCheck (hk := ?_))); refine TL_nil_p ?_); (refine TA_one 8 rfl (by kernel_rfl) (by kernel_rfl) ?_; (repeat (first | refine TL_fieldAddr TE (hk := ?_) | refine TL_nilCheck (hk := ?_))); refine TL_nil_p ?_)
  refine TA_one 9 rfl (by kernel_rfl) (by kernel_rfl) ?_
  refine TL_store TE (hb := hb3) (hf := rfl) (hq := fun _ _ _ => trivial) (hk := ?_); intro w4 m4 z4 k4
  refine TL_nil_z (by kernel_rfl) ?_
  obtain ⟨g', D4, t4⟩ := D2.row (sl' := (A3, sl.2.1 + n, c3)) (k' := { k with b := k.b ++ p }) m3 n3 m4 k4 (by rw [bv_append]; exact o3) ⟨by simp only [List.length_append]; omega, by simp only [List.length_append]; omega, D.ok.lf⟩
  repeat (first | refine T_seq ?_ | refine T_region ?_ | refine TL_nil ?_ | refine TL_assign (hk := ?_))
  exact T_ret1 rfl rfl ⟨rfl, _, g', D4, (Tn.ext (e1.ext e2)).trans t4⟩
theorem syn1_c (b2 : Nat) (w : World) (D : DiskM w base d 1 sl g k) (k2 : Blk w b2 26 [pB d]) :
  Ret Tryz.prog 83 [pB b2] w (fun v w' => v = .int .i64 ((synD k).2 : Int) ∧ ∃ sl' g', DiskM w' base d 1 sl' g' (synD k).1 ∧ Tn g g' w w') := by
 have hlen := D.len
 have hln := D.ok.ln
 have hb := D.blk
 unfold synD
 have hdD : d ∉ ([] : List Nat) := by simp
 have h2D : b2 ∉ ([] : List Nat) := by simp
 refine ret_T (n := 10) Tryz.func83 rfl rfl ?_
 repeat (first | refine T_seq ?_ | refine T_region ?_ | refine TL_nil ?_ | refine TL_assign (hk := ?_))
 refine T_region_anyz TE.mixed ([] : List Nat) (some 8) ?_; intro w2 e2 z2
 have D2 := D.ext e2
 have hb2 := D2.blk
 have k22 := k2.be e2
 (refine TA_take 0 rfl (by kernel_rfl) (by kernel_rfl) (by kernel_rfl) ?_; (repeat (first | refine TLP_load TE (hk := ?_) | refine TL_fieldAddr TE (hk := ?_) | refine TL_len TE (hk := ?_) | refine TL_nilCheck (hk := ?_))); refine TL_nil_p ?_); (refine TA_take 1 rfl (by kernel_rfl) (by kernel_rfl) (by kernel_rfl) ?_; (repeat (first | refine TLP_load TE (hk := ?_) | refine TL_fieldAddr TE (hk := ?_) | refine TL_len TE (hk := ?_) | refine TL_nilCheck (hk := ?_))); refine TL_nil_p ?_); (refine TA_take 2 rfl (by kernel_rfl) (by kernel_rfl) (by kernel_rfl) ?_; (repeat (first | refine TLP_load TE (hk := ?_) | refine TL_fieldAddr TE (hk := ?_) | refine TL_len TE (hk := ?_) | refine TL_nilCheck (hk := ?_))); refine TL_nil_p ?_); (refine TA_take 3 rfl (by kernel_rfl) (by kernel_rfl) (by kernel_rfl) ?_; (repeat (first | refine TLP_load TE (hk := ?_) | refine TL_fieldAddr TE (hk := ?_) | refine TL_len TE (hk := ?_) | refine TL_nilCheck (hk := ?_))); refine TL_nil_p ?_); (refine TA_take 4 rfl (by kernel_rfl) (by kernel_rfl) (by kernel_rfl) ?_; (repeat (first | refine TLP_load TE (hk := ?_) | refine TL_fieldAddr TE (hk := ?_) | refine TL_len TE (hk := ?_) | refine TL_nilCheck (hk := ?_))); refine TL_nil_p ?_); (refine TA_take 5 rfl (by kernel_rfl) (by kernel_rfl) (by kernel_rfl) ?_; (repeat (first | refine TLP_load TE (hk := ?_) | refine TL_fieldAddr TE (hk := ?_) | refine TL_len TE (hk := ?_) | refine TL_nilCheck (hk := ?_))); refine TL_nil_p ?_); (refine TA_take 6 rfl (by kernel_rfl) (by kernel_rfl) (by kernel_rfl) ?_; (repeat (first | refine TLP_load TE (hk := ?_) | refine TL_fieldAddr TE (hk := ?_) | refine TL_len TE (hk := ?_) | refine TL_nilCheck (hk := ?_))); refine TL_nil_p ?_); (refine TA_take 7 rfl (by kernel_rfl) (by kernel_rfl) (by kernel_rfl) ?_; (repeat (first | refine TLP_load TE (hk := ?_) | refine TL_fieldAddr TE (hk := ?_) | refine TL_len TE (hk := ?_) | refine TL_nilCheck (hk := ?_))); refine TL_nil_p ?_)
 refine TA_one 8 rfl (by kernel_rfl) (by kernel_rfl) ?_
 refine TL_store TE (hb := hb2) (hf := rfl) (hq := fun _ _ _ => trivial) (hk := ?_); intro w4 m4 z4 k4
 refine TL_nil_z (by kernel_rfl) ?_
 obtain ⟨D4, t4⟩ := D2.set (k' := { k with sf := k.b.length }) (lk' := 1) m4 (by simp only; rw [hlen]; exact k4) rfl ⟨D.ok.ln, Nat.le_refl _, D.ok.lf⟩
 repeat (first | refine T_seq ?_ | refine T_region ?_ | refine TL_nil ?_ | refine TL_assign (hk := ?_))
 exact T_ret1 rfl rfl ⟨rfl, _, g, D4, (Tn.ext e2).trans t4⟩
end
set_option maxHeartbeats 1600000
section
variable {base d : Nat} {sl : SL} {g : Nat → Nat} {k : DK}
theorem DiskM.cut {w w' : World} (D : DiskM w base d 1 sl g k) {n : Nat} (hn : n ≤ k.b.length) (m : Eng.Mod [d] w w') (hb : Blk w' d 104 [.int .i32 1, .int .u32 0, sL (sl.1, n, sl.2.2), .int .i64 (n : Int), .int .i64 k.lf, .bool k.off]) :
  DiskM w' base d 1 (sl.1, n, sl.2.2) g { k with b := k.b.take n, sf := n } ∧ Tn g g w w' := by
 have hl := D.len
 refine ⟨⟨hb, ?_, ⟨by simp only [List.length_take]; have := D.ok.ln; omega, by simp only [List.length_take]; omega, D.ok.lf⟩, D.g1, D.g2, fun b hb => by have := D.old b hb; have := m.size; omega⟩, ⟨_, m, fun b hb => by rw [List.mem_singleton.1 hb, D.g1]; decide⟩, fun b hb => .inl hb, m.size⟩
 have h1 := D.ow.modL m (fun b hb q => D.nin (by rw [List.mem_singleton] at q; rw [← q]; exact hb))
 have h2 := Own.shrink h1 (n' := n) (by omega)
 rw [Nat.mul_one, bv_take] at h2
 exact h2
theorem cut1_c (b2 b3 : Nat) (n : Int) (w : World) (D : DiskM w base d 1 sl g k) (k2 : Blk w b2 26 [pB d]) (k3 : Blk w b3 3 [.int .i64 n]) (g2 : g b2 = 0) (g3 : g b3 = 0) :
  Ret Tryz.prog 84 [pB b3, pB b2] w (fun v w' => v = .int .i64 ((cutD n k).2 : Int) ∧ ∃ sl' g', DiskM w' base d 1 sl' g' (cutD n k).1 ∧ Tn g g' w w') := by
 have hlen := D.len
 have hln := D.ok.ln
 have hb := D.blk
 have hcap := D.ow.cap
 have h2D0 : b2 ∉ ([] : List Nat) := by simp
 have h3D0 : b3 ∉ ([] : List Nat) := by simp
 have hdD0 : d ∉ ([] : List Nat) := by simp
 unfold cutD
 refine ret_T (n := 27) Tryz.func84 rfl rfl ?_
 by_cases h1 : n < 0
 ·rw [if_pos (.inl h1)]
  repeat (first | refine T_seq ?_ | refine T_region ?_ | refine TL_nil ?_ | refine TL_assign (hk := ?_))
  refine T_region_any TE.mixed ([] : List Nat) ?_; intro w1 e1 z1
  have k31 := k3.be e1
  have hb1 := hb.be e1
  have k21 := k2.be e1
  (refine TA_take 0 rfl (by kernel_rfl) (by kernel_rfl) (by kernel_rfl) ?_; (repeat (first | refine TL_lt_t (hk := ?_) | refine TL_move (hk := ?_) | refine TLP_load TE (hk := ?_) | refine TL_no (hk := ?_))); refine TL_nil_p ?_); (refine TA_take 1 rfl (by kernel_rfl) (by kernel_rfl) (by kernel_rfl) ?_; (repeat (first | refine TL_lt_t (hk := ?_) | refine TL_move (hk := ?_) | refine TLP_load TE (hk := ?_) | refine TL_no (hk := ?_))); refine TL_nil_p ?_); (refine TA_take 2 rfl (by kernel_rfl) (by kernel_rfl) (by kernel_rfl) ?_; (repeat (first | refine TL_lt_t (hk := ?_) | refine TL_move (hk := ?_) | refine TLP_load TE (hk := ?_) | refine TL_no (hk := ?_))); refine TL_nil_p ?_); (refine TA_take 3 rfl (by kernel_rfl) (by kernel_rfl) (by kernel_rfl) ?_; (repeat (first | refine TL_lt_t (hk := ?_) | refine TL_move (hk := ?_) | refine TLP_load TE (hk := ?_) | refine TL_no (hk := ?_))); refine TL_nil_p ?_); (refine TA_take 4 rfl (by kernel_rfl) (by kernel_rfl) (by kernel_rfl) ?_; (repeat (first | refine TL_lt_t (hk := ?_) | refine TL_move (hk := ?_) | refine TLP_load TE (hk := ?_) | refine TL_no (hk := ?_))); refine TL_nil_p ?_); (refine TA_take 5 rfl (by kernel_rfl) (by kernel_rfl) (by kernel_rfl) ?_; (repeat (first | refine TL_lt_t (hk := ?_) | refine TL_move (hk := ?_) | refine TLP_load TE (hk := ?_) | refine TL_no (hk := ?_))); refine TL_nil_p ?_); (refine TA_take 6 rfl (by kernel_rfl) (by kernel_rfl) (by kernel_rfl) ?_; (repeat (first | refine TL_lt_t (hk := ?_) | refine TL_move (hk := ?_) | refine TLP_load TE (hk := ?_) | refine TL_no (hk := ?_))); refine TL_nil_p ?_); (refine TA_take 7 rfl (by kernel_rfl) (by kernel_rfl) (by kernel_rfl) ?_; (repeat (first | refine TL_lt_t (hk := ?_) | refine TL_move (hk := ?_) | refine TLP_load TE (hk := ?_) | refine TL_no (hk := ?_))); refine TL_nil_p ?_); (refine TA_take 8 rfl (by kernel_rfl) (by kernel_rfl) (by kernel_rfl) ?_; (repeat (first | refine TL_lt_t (hk := ?_) | refine TL_move (hk := ?_) | refine TLP_load TE (hk := ?_) | refine TL_no (hk := ?_))); refine TL_nil_p ?_); (refine TA_take 9 rfl (by kernel_rfl) (by kernel_rfl) (by kernel_rfl) ?_; (repeat (first | refine TL_lt_t (hk := ?_) | refine TL_move (hk := ?_) | refine TLP_load TE (hk := ?_) | refine TL_no (hk := ?_))); refine TL_nil_p ?_)
  (refine TA_one 10 rfl (by kernel_rfl) (by kernel_rfl) ?_; (repeat (refine TL_pick_t (hk := ?_))); refine TL_nil_p ?_)
  refine TA_done (by kernel_rfl) ?_
  repeat (first | refine T_seq ?_ | refine T_region ?_ | refine T_cond_true rfl ?_ | refine TL_nil ?_ | refine TL_assign (hk := ?_))
  exact T_ret1 rfl rfl ⟨rfl, sl, g, D.ext e1, Tn.ext e1⟩
 ·by_cases h2 : (k.b.length : Int) < n
  ·rw [if_pos (.inr h2)]
   have h2' : (sl.2.1 : Int) < n := by omega
   repeat (first | refine T_seq ?_ | refine T_region ?_ | refine TL_nil ?_ | refine TL_assign (hk := ?_))
   refine T_region_any TE.mixed ([] : List Nat) ?_; intro w1 e1 z1
   have k31 := k3.be e1
   have hb1 := hb.be e1
   have k21 := k2.be e1
   (refine TA_take 0 rfl (by kernel_rfl) (by kernel_rfl) (by kernel_rfl) ?_; (repeat (first | refine TL_lt_f (hk := ?_) | refine TL_gt_t (hk := ?_) | refine TL_move (hk := ?_) | refine TLP_load TE (hk := ?_) | refine TL_fieldAddr TE (hk := ?_) | refine TL_len TE (hk := ?_) | refine TL_yes (hk := ?_) | refine TL_nilCheck (hk := ?_))); refine TL_nil_p ?_); (refine TA_take 1 rfl (by kernel_rfl) (by kernel_rfl) (by kernel_rfl) ?_; (repeat (first | refine TL_lt_f (hk := ?_) | refine TL_gt_t (hk := ?_) | refine TL_move (hk := ?_) | refine TLP_load TE (hk := ?_) | refine TL_fieldAddr TE (hk := ?_) | refine TL_len TE (hk := ?_) | refine TL_yes (hk := ?_) | refine TL_nilCheck (hk := ?_))); refine TL_nil_p ?_); (refine TA_take 2 rfl (by kernel_rfl) (by kernel_rfl) (by kernel_rfl) ?_; (repeat (first | refine TL_lt_f (hk := ?_) | refine TL_gt_t (hk := ?_) | refine TL_move (hk := ?_) | refine TLP_load TE (hk := ?_) | refine TL_fieldAddr TE (hk := ?_) | refine TL_len TE (hk := ?_) | refine TL_yes (hk := ?_) | refine TL_nilCheck (hk := ?_))); refine TL_nil_p ?_); (refine TA_take 3 rfl (by kernel_rfl) (by kernel_rfl) (by kernel_rfl) ?_; (repeat (first | refine TL_lt_f (hk := ?_) | refine TL_gt_t (hk := ?_) | refine TL_move (hk := ?_) | refine TLP_load TE (hk := ?_) | refine TL_fieldAddr TE (hk := ?_) | refine TL_len TE (hk := ?_) | refine TL_yes (hk := ?_) | refine TL_nilCheck (hk := ?_))); refine TL_nil_p ?_); (refine TA_take 4 rfl (by kernel_rfl) (by kernel_rfl) (by kernel_rfl) ?_; (repeat (first | refine TL_lt_f (hk := ?_) | refine TL_gt_t (hk := ?_) | refine TL_move (hk := ?_) | refine TLP_load TE (hk := ?_) | refine TL_fieldAddr TE (hk := ?_) | refine TL_len TE (hk := ?_) | refine TL_yes (hk := ?_) | refine TL_nilCheck (hk := ?_))); refine TL_nil_p ?_); (refine TA_take 5 rfl (by kernel_rfl) (by kernel_rfl) (by kernel_rfl) ?_; (repeat (first | refine TL_lt_f (hk := ?_) | refine TL_gt_t (hk := ?_) | refine TL_move (hk := ?_) | refine TLP_load TE (hk := ?_) | refine TL_fieldAddr TE (hk := ?_) | refine TL_len TE (hk := ?_) | refine TL_yes (hk := ?_) | refine TL_nilCheck (hk := ?_))); refine TL_nil_p ?_); (refine TA_take 6 rfl (by kernel_rfl) (by kernel_rfl) (by kernel_rfl) ?_; (repeat (first | refine TL_lt_f (hk := ?_) | refine TL_gt_t (hk := ?_) | refine TL_move (hk := ?_) | refine TLP_load TE (hk := ?_) | refine TL_fieldAddr TE (hk := ?_) | refine TL_len TE (hk := ?_) | refine TL_yes (hk := ?_) | refine TL_nilCheck (hk := ?_))); refine TL_nil_p ?_); (refine TA_take 7 rfl (by kernel_rfl) (by kernel_rfl) (by kernel_rfl) ?_; (repeat (first | refine TL_lt_f (hk := ?_) | refine TL_gt_t (hk := ?_) | refine TL_move (hk := ?_) | refine TLP_load TE (hk := ?_) | refine TL_fieldAddr TE (hk := ?_) | refine TL_len TE (hk := ?_) | refine TL_yes (hk := ?_) | refine TL_nilCheck (hk := ?_))); refine TL_nil_p ?_); (refine TA_take 8 rfl (by kernel_rfl) (by kernel_rfl) (by kernel_rfl) ?_; (repeat (first | refine TL_lt_f (hk := ?_) | refine TL_gt_t (hk := ?_) | refine TL_move (hk := ?_) | refine TLP_load TE (hk := ?_) | refine TL_fieldAddr TE (hk := ?_) | refine TL_len TE (hk := ?_) | refine TL_yes (hk := ?_) | refine TL_nilCheck (hk := ?_))); refine TL_nil_p ?_); (refine TA_take 9 rfl (by kernel_rfl) (by kernel_rfl) (by kernel_rfl) ?_; (repeat (first | refine TL_lt_f (hk := ?_) | refine TL_gt_t (hk := ?_) | refine TL_move (hk := ?_) | refine TLP_load TE (hk := ?_) | refine TL_fieldAddr TE (hk := ?_) | refine TL_len TE (hk := ?_) | refine TL_yes (hk := ?_) | refine TL_nilCheck (hk := ?_))); refine TL_nil_p ?_)
   (refine TA_one 10 rfl (by kernel_rfl) (by kernel_rfl) ?_; (repeat (refine TL_pick_f (hk := ?_))); refine TL_nil_p ?_)
   refine TA_done (by kernel_rfl) ?_
   repeat (first | refine T_seq ?_ | refine T_region ?_ | refine T_cond_true rfl ?_ | refine TL_nil ?_ | refine TL_assign (hk := ?_))
   exact T_ret1 rfl rfl ⟨rfl, sl, g, D.ext e1, Tn.ext e1⟩
  ·rw [if_neg (fun q => q.elim h1 h2)]
   obtain ⟨j, rfl⟩ := Int.eq_ofNat_of_zero_le (show 0 ≤ n by omega)
   have h2' : ¬ (sl.2.1 : Int) < (j : Int) := by omega
   simp only [Int.toNat_natCast]
   repeat (first | refine T_seq ?_ | refine T_region ?_ | refine TL_nil ?_ | refine TL_assign (hk := ?_))
   refine T_region_any TE.mixed ([] : List Nat) ?_; intro w1 e1 z1
   have k31 := k3.be e1
   have hb1 := hb.be e1
   have k21 := k2.be e1
   (refine TA_take 0 rfl (by kernel_rfl) (by kernel_rfl) (by kernel_rfl) ?_; (repeat (first | refine TL_lt_f (hk := ?_) | refine TL_gt_f (hk := ?_) | refine TL_move (hk := ?_) | refine TLP_load TE (hk := ?_) | refine TL_fieldAddr TE (hk := ?_) | refine TL_len TE (hk := ?_) | refine TL_yes (hk := ?_) | refine TL_nilCheck (hk := ?_))); refine TL_nil_p ?_); (refine TA_take 1 rfl (by kernel_rfl) (by kernel_rfl) (by kernel_rfl) ?_; (repeat (first | refine TL_lt_f (hk := ?_) | refine TL_gt_f (hk := ?_) | refine TL_move (hk := ?_) | refine TLP_load TE (hk := ?_) | refine TL_fieldAddr TE (hk := ?_) | refine TL_len TE (hk := ?_) | refine TL_yes (hk := ?_) | refine TL_nilCheck (hk := ?_))); refine TL_nil_p ?_); (refine TA_take 2 rfl (by kernel_rfl) (by kernel_rfl) (by kernel_rfl) ?_; (repeat (first | refine TL_lt_f (hk := ?_) | refine TL_gt_f (hk := ?_) | refine TL_move (hk := ?_) | refine TLP_load TE (hk := ?_) | refine TL_fieldAddr TE (hk := ?_) | refine TL_len TE (hk := ?_) | refine TL_yes (hk := ?_) | refine TL_nilCheck (hk := ?_))); refine TL_nil_p ?_); (refine TA_take 3 rfl (by kernel_rfl) (by kernel_rfl) (by kernel_rfl) ?_; (repeat (first | refine TL_lt_f (hk := ?_) | refine TL_gt_f (hk := ?_) | refine TL_move (hk := ?_) | refine TLP_load TE (hk := ?_) | refine TL_fieldAddr TE (hk := ?_) | refine TL_len TE (hk := ?_) | refine TL_yes (hk := ?_) | refine TL_nilCheck (hk := ?_))); refine TL_nil_p ?_); (refine TA_take 4 rfl (by kernel_rfl) (by kernel_rfl) (by kernel_rfl) ?_; (repeat (first | refine TL_lt_f (hk := ?_) | refine TL_gt_f (hk := ?_) | refine TL_move (hk := ?_) | refine TLP_load TE (hk := ?_) | refine TL_fieldAddr TE (hk := ?_) | refine TL_len TE (hk := ?_) | refine TL_yes (hk := ?_) | refine TL_nilCheck (hk := ?_))); refine TL_nil_p ?_); (refine TA_take 5 rfl (by kernel_rfl) (by kernel_rfl) (by kernel_rfl) ?_; (repeat (first | refine TL_lt_f (hk := ?_) | refine TL_gt_f (hk := ?_) | refine TL_move (hk := ?_) | refine TLP_load TE (hk := ?_) | refine TL_fieldAddr TE (hk := ?_) | refine TL_len TE (hk := ?_) | refine TL_yes (hk := ?_) | refine TL_nilCheck (hk := ?_))); refine TL_nil_p ?_); (refine TA_take 6 rfl (by kernel_rfl) (by kernel_rfl) (by kernel_rfl) ?_; (repeat (first | refine TL_lt_f (hk := ?_) | refine TL_gt_f (hk := ?_) | refine TL_move (hk := ?_) | refine TLP_load TE (hk := ?_) | refine TL_fieldAddr TE (hk := ?_) | refine TL_len TE (hk := ?_) | refine TL_yes (hk := ?_) | refine TL_nilCheck (hk := ?_))); refine TL_nil_p ?_); (refine TA_take 7 rfl (by kernel_rfl) (by kernel_rfl) (by kernel_rfl) ?_; (repeat (first | refine TL_lt_f (hk := ?_) | refine TL_gt_f (hk := ?_) | refine TL_move (hk := ?_) | refine TLP_load TE (hk := ?_) | refine TL_fieldAddr TE (hk := ?_) | refine TL_len TE (hk := ?_) | refine TL_yes (hk := ?_) | refine TL_nilCheck (hk := ?_))); refine TL_nil_p ?_); (refine TA_take 8 rfl (by kernel_rfl) (by kernel_rfl) (by kernel_rfl) ?_; (repeat (first | refine TL_lt_f (hk := ?_) | refine TL_gt_f (hk := ?_) | refine TL_move (hk := ?_) | refine TLP_load TE (hk := ?_) | refine TL_fieldAddr TE (hk := ?_) | refine TL_len TE (hk := ?_) | refine TL_yes (hk := ?_) | refine TL_nilCheck (hk := ?_))); refine TL_nil_p ?_); (refine TA_take 9 rfl (by kernel_rfl) (by kernel_rfl) (by kernel_rfl) ?_; (repeat (first | refine TL_lt_f (hk := ?_) | refine TL_gt_f (hk := ?_) | refine TL_move (hk := ?_) | refine TLP_load TE (hk := ?_) | refine TL_fieldAddr TE (hk := ?_) | refine TL_len TE (hk := ?_) | refine TL_yes (hk := ?_) | refine TL_nilCheck (hk := ?_))); refine TL_nil_p ?_)
   (refine TA_one 10 rfl (by kernel_rfl) (by kernel_rfl) ?_; (repeat (refine TL_pick_f (hk := ?_))); refine TL_nil_p ?_)
   refine TA_done (by kernel_rfl) ?_
   have D1 := D.ext e1
   have h2D : b2 ∉ [d] := fun q => by rw [List.mem_singleton] at q; rw [q, D.g1] at g2; cases g2
   have h3D : b3 ∉ [d] := fun q => by rw [List.mem_singleton] at q; rw [q, D.g1] at g3; cases g3
   clear hb k2 k3
   repeat (first | refine T_seq ?_ | refine T_cond_false rfl ?_ | refine T_skip ?_)
   refine T_region_anyz TE.mixed ([d] : List Nat) (some 14) ?_; intro w2 e2 z2
   have D2 := D1.ext e2
   have hb2 := D2.blk
   have k32 := k31.be e2
   have k22 := k21.be e2
   have K0 : Eng.Mod [d] w2 w2 := Mod.refl _ _
   (refine TA_take 0 rfl (by kernel_rfl) (by kernel_rfl) (by kernel_rfl) ?_; (repeat (first | refine TLP_load TE (hk := ?_) | refine TL_fieldAddr TE (hk := ?_) | refine TL_nilCheck (hk := ?_))); refine TL_nil_p ?_); (refine TA_take 1 rfl (by kernel_rfl) (by kernel_rfl) (by kernel_rfl) ?_; (repeat (first | refine TLP_load TE (hk := ?_) | refine TL_fieldAddr TE (hk := ?_) | refine TL_nilCheck (hk := ?_))); refine TL_nil_p ?_); (refine TA_take 2 rfl (by kernel_rfl) (by kernel_rfl) (by kernel_rfl) ?_; (repeat (first | refine TLP_load TE (hk := ?_) | refine TL_fieldAddr TE (hk := ?_) | refine TL_nilCheck (hk := ?_))); refine TL_nil_p ?_); (refine TA_take 3 rfl (by kernel_rfl) (by kernel_rfl) (by kernel_rfl) ?_; (repeat (first | refine TLP_load TE (hk := ?_) | refine TL_fieldAddr TE (hk := ?_) | refine TL_nilCheck (hk := ?_))); refine TL_nil_p ?_); (refine TA_take 4 rfl (by kernel_rfl) (by kernel_rfl) (by kernel_rfl) ?_; (repeat (first | refine TLP_load TE (hk := ?_) | refine TL_fieldAddr TE (hk := ?_) | refine TL_nilCheck (hk := ?_))); refine TL_nil_p ?_); (refine TA_take 6 rfl (by kernel_rfl) (by kernel_rfl) (by kernel_rfl) ?_; (repeat (first | refine TLP_load TE (hk := ?_) | refine TL_fieldAddr TE (hk := ?_) | refine TL_nilCheck (hk := ?_))); refine TL_nil_p ?_); (refine TA_take 8 rfl (by kernel_rfl) (by kernel_rfl) (by kernel_rfl) ?_; (repeat (first | refine TLP_load TE (hk := ?_) | refine TL_fieldAddr TE (hk := ?_) | refine TL_nilCheck (hk := ?_))); refine TL_nil_p ?_)
   (refine TA_one 5 rfl (by kernel_rfl) (by kernel_rfl) ?_; (try refine TL_yes (hk := ?_)); refine TLN_load TE (hb := hb2) (hq := K0) (hk := ?_); refine TL_nil_p ?_)
   (refine TA_one 7 rfl (by kernel_rfl) (by kernel_rfl) ?_; (repeat (refine TL_slice_hi TE (hk := ?_))); refine TL_nil_p ?_)
   (refine TA_take 9 rfl (by kernel_rfl) (by kernel_rfl) (by kernel_rfl) ?_; (repeat (first | refine TL_fieldAddr TE (hk := ?_) | refine TL_nilCheck (hk := ?_))); refine TL_nil_p ?_); (refine TA_take 10 rfl (by kernel_rfl) (by kernel_rfl) (by kernel_rfl) ?_; (repeat (first | refine TL_fieldAddr TE (hk := ?_) | refine TL_nilCheck (hk := ?_))); refine TL_nil_p ?_)
   refine TA_one 11 rfl (by kernel_rfl) (by kernel_rfl) ?_
   refine TL_store TE (hb := hb2) (hf := rfl) (hq := fun w' m _ => m) (hk := ?_); intro w3 m3 z3 k3
   refine TL_nil_p ?_
   (refine TA_one 12 rfl (by kernel_rfl) (by kernel_rfl) ?_; (repeat (first | refine TL_fieldAddr TE (hk := ?_) | refine TL_nilCheck (hk := ?_))); refine TL_nil_p ?_); (refine TA_one 13 rfl (by kernel_rfl) (by kernel_rfl) ?_; (repeat (first | refine TL_fieldAddr TE (hk := ?_) | refine TL_nilCheck (hk := ?_))); refine TL_nil_p ?_)
   refine TA_one 14 rfl (by kernel_rfl) (by kernel_rfl) ?_
   refine TL_store TE (hb := k3) (hf := rfl) (hq := fun _ _ _ => trivial) (hk := ?_); intro w4 m4 z4 k4
   refine TL_nil_z (by kernel_rfl) ?_
   obtain ⟨D4, t4⟩ := D2.cut (n := j) (by omega) (m3.trans m4) k4
   repeat (first | refine T_seq ?_ | refine T_region ?_ | refine TL_nil ?_ | refine TL_assign (hk := ?_))
   exact T_ret1 rfl rfl ⟨rfl, _, g, D4, (Tn.ext (e1.ext e2)).trans t4⟩
end
set_option maxHeartbeats 1600000
section
variable {base d : Nat} {sl : SL} {g : Nat → Nat} {k : DK}
theorem DiskM.new0 {w : World} {lk : Int} (D : DiskM w base d lk sl g k) {b : Nat} (h : w.heap.size ≤ b) : g b = 0 := by
 by_cases q : g b = 0
 ·exact q
 ·have := (D.old b q).2; omega
theorem Append_c (A : Option Addr) (n c : Nat) (p : List UInt8) (w : World) (D : DiskM w base d 0 sl g k) (hr : Rd w A n 1 (bv p)) (hA : d ∉ blkL A) (hn : n ≤ 70368744177664) :
  Ret Tryz.prog 32 [pB d, .slice A n c] w (fun v w' => v = .int .i64 ((opD k (appD p)).2 : Int) ∧ ∃ sl' g', DiskM w' base d 0 sl' g' (opD k (appD p)).1 ∧ Tn g g' w w') := by
 refine ret_T (n := 8) Tryz.func32 rfl rfl ?_
 repeat (first | refine T_seq ?_ | refine T_region ?_)
 refine TL_box (hk := ?_); intro b2 w2 e2 h2 h2' k2
 --
 refine TL_box (hk := ?_); intro b3 w3 e3 h3 h3' k3
 have k23 := k2.be e3
 have e03 := e2.ext e3
 have D3 := D.ext e03
 have z2 := e2.size
 have z3 := e3.size
 have hr3 := hr.be e03
 have g2 : g b2 = 0 := D.new0 (by omega)
 have g3 : g b3 = 0 := D.new0 (by omega)
 have n2 : b2 ∉ [d] := fun q => by rw [List.mem_singleton] at q; rw [q, D.g1] at g2; cases g2
 have n3 : b3 ∉ [d] := fun q => by rw [List.mem_singleton] at q; rw [q, D.g1] at g3; cases g3
 repeat (first | refine T_seq ?_ | refine T_region ?_ | refine TL_nil ?_ | refine TL_assign (hk := ?_) | refine TL_load TE (hk := ?_) | refine TL_makeFunc (hk := ?_))
 refine TL_call TE (hc := operate_c 82 rfl [pB b2, pB b3] (appD p) w3 D3 (fun w1 k1 m1 D1 => app1_c b2 b3 A n c p w1 D1 (k23.mod m1 n2) (k3.mod m1 n3) (hr3.mod m1 (off_ofL fun u hu q => hA (by rw [List.mem_singleton] at q; rw [← q]; exact hu))) g2 g3 hn)) (hk := ?_)
 rintro _ w4 ⟨rfl, sl4, g4, D4, t4⟩
 repeat (first | refine TL_nil ?_ | refine TL_assign (hk := ?_))
 exact T_ret1 rfl rfl ⟨rfl, sl4, g4, D4, (Tn.ext e03).trans t4⟩
theorem Sync_c (w : World) (D : DiskM w base d 0 sl g k) :
  Ret Tryz.prog 33 [pB d] w (fun v w' => v = .int .i64 ((opD k synD).2 : Int) ∧ ∃ sl' g', DiskM w' base d 0 sl' g' (opD k synD).1 ∧ Tn g g' w w') := by
 refine ret_T (n := 6) Tryz.func33 rfl rfl ?_
 repeat (first | refine T_seq ?_ | refine T_region ?_)
 refine TL_box (hk := ?_); intro b2 w2 e2 h2 h2' k2
 have D3 := D.ext e2
 have z2 := e2.size
 have g2 : g b2 = 0 := D.new0 (by omega)
 have n2 : b2 ∉ [d] := fun q => by rw [List.mem_singleton] at q; rw [q, D.g1] at g2; cases g2
 repeat (first | refine T_seq ?_ | refine T_region ?_ | refine TL_nil ?_ | refine TL_assign (hk := ?_) | refine TL_load TE (hk := ?_) | refine TL_makeFunc (hk := ?_))
 refine TL_call TE (hc := operate_c 83 rfl [pB b2] synD w2 D3 (fun w1 k1 m1 D1 => syn1_c b2 w1 D1 (k2.mod m1 n2))) (hk := ?_)
 rintro _ w4 ⟨rfl, sl4, g4, D4, t4⟩
 repeat (first | refine TL_nil ?_ | refine TL_assign (hk := ?_))
 exact T_ret1 rfl rfl ⟨rfl, sl4, g4, D4, (Tn.ext e2).trans t4⟩
theorem Cut_c (n : Int) (w : World) (D : DiskM w base d 0 sl g k) :
  Ret Tryz.prog 34 [pB d, .int .i64 n] w (fun v w' => v = .int .i64 ((opD k (cutD n)).2 : Int) ∧ ∃ sl' g', DiskM w' base d 0 sl' g' (opD k (cutD n)).1 ∧ Tn g g' w w') := by
 refine ret_T (n := 8) Tryz.func34 rfl rfl ?_
 repeat (first | refine T_seq ?_ | refine T_region ?_)
 refine TL_box (hk := ?_); intro b2 w2 e2 h2 h2' k2
 --
 refine TL_box (hk := ?_); intro b3 w3 e3 h3 h3' k3
 have k23 := k2.be e3
 have e03 := e2.ext e3
 have D3 := D.ext e03
 have z2 := e2.size
 have z3 := e3.size
 have g2 : g b2 = 0 := D.new0 (by omega)
 have g3 : g b3 = 0 := D.new0 (by omega)
 have n2 : b2 ∉ [d] := fun q => by rw [List.mem_singleton] at q; rw [q, D.g1] at g2; cases g2
 have n3 : b3 ∉ [d] := fun q => by rw [List.mem_singleton] at q; rw [q, D.g1] at g3; cases g3
 repeat (first | refine T_seq ?_ | refine T_region ?_ | refine TL_nil ?_ | refine TL_assign (hk := ?_) | refine TL_load TE (hk := ?_) | refine TL_makeFunc (hk := ?_))
 refine TL_call TE (hc := operate_c 84 rfl [pB b3, pB b2] (cutD n) w3 D3 (fun w1 k1 m1 D1 => cut1_c b2 b3 n w1 D1 (k23.mod m1 n2) (k3.mod m1 n3) g2 g3)) (hk := ?_)
 rintro _ w4 ⟨rfl, sl4, g4, D4, t4⟩
 repeat (first | refine TL_nil ?_ | refine TL_assign (hk := ?_))
 exact T_ret1 rfl rfl ⟨rfl, sl4, g4, D4, (Tn.ext e03).trans t4⟩
theorem Dead_c (w : World) (D : DiskM w base d 0 sl g k) : Ret Tryz.prog 35 [pB d] w (fun v w' => v = .bool k.off ∧ DiskM w' base d 0 sl g k ∧ Tn g g w w') := by
 have hb0 := D.blk
 refine ret_T (n := 16) Tryz.func35 rfl rfl ?_
 repeat (first | refine T_seq ?_ | refine T_region ?_ | refine T_cond_false rfl ?_ | refine T_skip ?_ | refine TL_pnil_f TE (hk := ?_) | refine TL_nil ?_ | refine TL_move (hk := ?_) | refine TL_assign (hk := ?_) | refine TL_fieldAddr TE (hk := ?_) | refine TL_nilCheck (hk := ?_))
 refine TL_call TE (hc := Lock_c w D.blk rfl) (hk := ?_)
 rintro _ w1 ⟨rfl, m1, z1, k1⟩
 obtain ⟨D1, t1⟩ := D.set (k' := k) (lk' := 1) m1 k1 rfl D.ok
 clear k1 hb0
 have hb1 := D1.blk
 repeat (first | refine T_seq ?_ | refine T_region ?_ | refine TL_nil ?_ | refine TL_move (hk := ?_) | refine TL_fieldAddr TE (hk := ?_) | refine TL_nilCheck (hk := ?_))
 refine TL_defer rfl rfl rfl ?_
 repeat (first | refine T_seq ?_ | refine T_region ?_ | refine TL_nil ?_ | refine TL_move (hk := ?_) | refine TL_assign (hk := ?_) | refine TL_load TE (hk := ?_) | refine TL_fieldAddr TE (hk := ?_) | refine TL_nilCheck (hk := ?_))
 refine T_leave ?_
 refine LV_unlock D1.blk rfl ?_
 intro w5 m5 z5 k5
 obtain ⟨D5, t5⟩ := D1.set (lk' := 0) m5 k5 rfl D1.ok
 exact LV_ret rfl (res1 rfl rfl) ⟨rfl, D5, t1.trans t5⟩
theorem Safe_c (w : World) (D : DiskM w base d 0 sl g k) : Ret Tryz.prog 36 [pB d] w (fun v w' => v = .int .i64 (safeD k : Int) ∧ DiskM w' base d 0 sl g k ∧ Tn g g w w') := by
 have hb0 := D.blk
 unfold safeD
 refine ret_T (n := 20) Tryz.func36 rfl rfl ?_
 repeat (first | refine T_seq ?_ | refine T_region ?_ | refine T_cond_false rfl ?_ | refine T_skip ?_ | refine TL_pnil_f TE (hk := ?_) | refine TL_nil ?_ | refine TL_move (hk := ?_) | refine TL_assign (hk := ?_) | refine TL_fieldAddr TE (hk := ?_) | refine TL_nilCheck (hk := ?_))
 refine TL_call TE (hc := Lock_c w D.blk rfl) (hk := ?_)
 rintro _ w1 ⟨rfl, m1, z1, k1⟩
 obtain ⟨D1, t1⟩ := D.set (k' := k) (lk' := 1) m1 k1 rfl D.ok
 clear k1 hb0
 have hb1 := D1.blk
 repeat (first | refine T_seq ?_ | refine T_region ?_ | refine TL_nil ?_ | refine TL_move (hk := ?_) | refine TL_fieldAddr TE (hk := ?_) | refine TL_nilCheck (hk := ?_))
 refine TL_defer rfl rfl rfl ?_
 cases ho : k.off with
 |true =>
  rw [ho] at hb1
  repeat (first | refine T_seq ?_ | refine T_region ?_ | refine T_cond_true rfl ?_ | refine TL_nil ?_ | refine TL_move (hk := ?_) | refine TL_assign (hk := ?_) | refine TL_load TE (hk := ?_) | refine TL_fieldAddr TE (hk := ?_) | refine TL_nilCheck (hk := ?_))
  refine T_leave ?_
  refine LV_unlock D1.blk rfl ?_
  intro w5 m5 z5 k5
  obtain ⟨D5, t5⟩ := D1.set (lk' := 0) m5 k5 rfl D1.ok
  exact LV_ret rfl (res1 rfl rfl) ⟨rfl, D5, t1.trans t5⟩
 |false =>
  rw [ho] at hb1
  repeat (first | refine T_seq ?_ | refine T_region ?_ | refine T_cond_false rfl ?_ | refine T_skip ?_ | refine TL_nil ?_ | refine TL_move (hk := ?_) | refine TL_assign (hk := ?_) | refine TL_load TE (hk := ?_) | refine TL_fieldAddr TE (hk := ?_) | refine TL_nilCheck (hk := ?_))
  refine T_leave ?_
  refine LV_unlock D1.blk rfl ?_
  intro w5 m5 z5 k5
  obtain ⟨D5, t5⟩ := D1.set (lk' := 0) m5 k5 rfl D1.ok
  exact LV_ret rfl (res1 rfl rfl) ⟨rfl, D5, t1.trans t5⟩
theorem Bytes_c (w : World) (D : DiskM w base d 0 sl g k) : Ret Tryz.prog 14 [pB d] w (fun v w' => ∃ y : SL, v = sL y ∧ DiskM w' base d 0 sl g k ∧ Tn g g w w' ∧ Own w' w.heap.size 5 1 y.1 y.2.1 y.2.2 (bv (bytesD k))) := by
 have hb0 := D.blk
 have hln := D.ok.ln
 have hlen := D.len
 unfold bytesD
 refine ret_T (n := 21) Tryz.func14 rfl rfl ?_
 repeat (first | refine T_seq ?_ | refine T_region ?_ | refine T_cond_false rfl ?_ | refine T_skip ?_ | refine TL_pnil_f TE (hk := ?_) | refine TL_nil ?_ | refine TL_move (hk := ?_) | refine TL_assign (hk := ?_) | refine TL_fieldAddr TE (hk := ?_) | refine TL_nilCheck (hk := ?_))
 refine TL_call TE (hc := Lock_c w D.blk rfl) (hk := ?_)
 rintro _ w1 ⟨rfl, m1, z1, k1⟩
 obtain ⟨D1, t1⟩ := D.set (k' := k) (lk' := 1) m1 k1 rfl D.ok
 clear k1 hb0
 have hb1 := D1.blk
 repeat (first | refine T_seq ?_ | refine T_region ?_ | refine TL_nil ?_ | refine TL_move (hk := ?_) | refine TL_fieldAddr TE (hk := ?_) | refine TL_nilCheck (hk := ?_))
 refine TL_defer rfl rfl rfl ?_
 cases ho : k.off with
 |true =>
  rw [ho] at hb1
  repeat (first | refine T_seq ?_ | refine T_region ?_ | refine T_cond_true rfl ?_ | refine TL_nil ?_ | refine TL_move (hk := ?_) | refine TL_assign (hk := ?_) | refine TL_load TE (hk := ?_) | refine TL_fieldAddr TE (hk := ?_) | refine TL_nilCheck (hk := ?_))
  refine T_leave ?_
  refine LV_unlock D1.blk rfl ?_
  intro w5 m5 z5 k5
  obtain ⟨D5, t5⟩ := D1.set (lk' := 0) m5 k5 rfl D1.ok
  exact LV_ret rfl (res1 rfl rfl) ⟨(none, 0, 0), rfl, D5, t1.trans t5, Own.nil _ _ _ _⟩
 |false =>
  rw [ho] at hb1
  repeat (first | refine T_seq ?_ | refine T_region ?_ | refine T_cond_false rfl ?_ | refine T_skip ?_ | refine TL_nil ?_ | refine TL_move (hk := ?_) | refine TL_load TE (hk := ?_) | refine TL_fieldAddr TE (hk := ?_) | refine TL_nilCheck (hk := ?_))
  refine TL_call TE (hc := Clone_c sl.1 sl.2.1 sl.2.2 k.b w1 D1.ow.rd (by omega)) (hk := ?_)
  rintro _ w2 ⟨A2, c2, rfl, e2, o2⟩
  have D2 := D1.ext e2
  repeat (first | refine TL_nil ?_ | refine TL_assign (hk := ?_))
  refine T_leave ?_
  refine LV_unlock D2.blk rfl ?_
  intro w5 m5 z5 k5
  obtain ⟨D5, t5⟩ := D2.set (lk' := 0) m5 k5 rfl D2.ok
  exact LV_ret rfl (res1 rfl rfl) ⟨(A2, sl.2.1, c2), rfl, D5, (t1.trans (Tn.ext e2)).trans t5, (Own.weaken o2 (by omega)).modL m5 (fun u hu q => by
   rw [List.mem_singleton] at q
   have h1 := (o2.bl u hu).1
   have h2 := (D.old d (by rw [D.g1]; decide)).2
   omega)⟩
end
set_option maxHeartbeats 1600000
section
variable {base d : Nat} {sl : SL} {g : Nat → Nat} {k : DK}
theorem leftN_le (h : DOk k) (n : Int) : leftN k n ≤ k.b.length := by
 have := h.sf
 unfold leftN
 split
 ·omega
 ·split <;> omega
theorem Left_c (n : Int) (w : World) (D : DiskM w base d 0 sl g k) : Ret Tryz.prog 27 [pB d, .int .i64 n] w (fun v w' => ∃ y : SL, v = sL y ∧ DiskM w' base d 0 sl g k ∧ Tn g g w w' ∧ Own w' w.heap.size 5 1 y.1 y.2.1 y.2.2 (bv (leftD k n))) := by
 have hb0 := D.blk
 have hln := D.ok.ln
 have hsf := D.ok.sf
 have hlen := D.len
 have hle := leftN_le D.ok n
 have hcap := D.ow.cap
 refine ret_T (n := 38) Tryz.func27 rfl rfl ?_
 repeat (first | refine T_seq ?_ | refine T_region ?_ | refine T_cond_false rfl ?_ | refine T_skip ?_ | refine TL_pnil_f TE (hk := ?_) | refine TL_nil ?_ | refine TL_move (hk := ?_) | refine TL_assign (hk := ?_) | refine TL_fieldAddr TE (hk := ?_) | refine TL_nilCheck (hk := ?_))
 refine TL_call TE (hc := Lock_c w D.blk rfl) (hk := ?_)
 rintro _ w1 ⟨rfl, m1, z1, k1⟩
 obtain ⟨D1, t1⟩ := D.set (k' := k) (lk' := 1) m1 k1 rfl D.ok
 clear k1 hb0
 have hdD : d ∉ ([] : List Nat) := by simp
 have hb1 := D1.blk
 repeat (first | refine T_seq ?_ | refine T_region ?_ | refine TL_nil ?_ | refine TL_move (hk := ?_) | refine TL_fieldAddr TE (hk := ?_) | refine TL_nilCheck (hk := ?_))
 refine TL_defer rfl rfl rfl ?_
 repeat (first | refine T_seq ?_ | refine TL_nil ?_)
 refine T_region_any TE.mixed ([] : List Nat) ?_; intro w2 e2 z2
 have D2 := D1.ext e2
 have hb2 := D2.blk
 (refine TA_take 0 rfl (by kernel_rfl) (by kernel_rfl) (by kernel_rfl) ?_; (repeat (first | refine TL_sub (hk := ?_) | refine TL_move (hk := ?_) | refine TLP_load TE (hk := ?_) | refine TL_fieldAddr TE (hk := ?_) | refine TL_len TE (hk := ?_) | refine TL_nilCheck (hk := ?_))); refine TL_nil_p ?_); (refine TA_take 1 rfl (by kernel_rfl) (by kernel_rfl) (by kernel_rfl) ?_; (repeat (first | refine TL_sub (hk := ?_) | refine TL_move (hk := ?_) | refine TLP_load TE (hk := ?_) | refine TL_fieldAddr TE (hk := ?_) | refine TL_len TE (hk := ?_) | refine TL_nilCheck (hk := ?_))); refine TL_nil_p ?_); (refine TA_take 2 rfl (by kernel_rfl) (by kernel_rfl) (by kernel_rfl) ?_; (repeat (first | refine TL_sub (hk := ?_) | refine TL_move (hk := ?_) | refine TLP_load TE (hk := ?_) | refine TL_fieldAddr TE (hk := ?_) | refine TL_len TE (hk := ?_) | refine TL_nilCheck (hk := ?_))); refine TL_nil_p ?_); (refine TA_take 3 rfl (by kernel_rfl) (by kernel_rfl) (by kernel_rfl) ?_; (repeat (first | refine TL_sub (hk := ?_) | refine TL_move (hk := ?_) | refine TLP_load TE (hk := ?_) | refine TL_fieldAddr TE (hk := ?_) | refine TL_len TE (hk := ?_) | refine TL_nilCheck (hk := ?_))); refine TL_nil_p ?_); (refine TA_take 4 rfl (by kernel_rfl) (by kernel_rfl) (by kernel_rfl) ?_; (repeat (first | refine TL_sub (hk := ?_) | refine TL_move (hk := ?_) | refine TLP_load TE (hk := ?_) | refine TL_fieldAddr TE (hk := ?_) | refine TL_len TE (hk := ?_) | refine TL_nilCheck (hk := ?_))); refine TL_nil_p ?_); (refine TA_take 5 rfl (by kernel_rfl) (by kernel_rfl) (by kernel_rfl) ?_; (repeat (first | refine TL_sub (hk := ?_) | refine TL_move (hk := ?_) | refine TLP_load TE (hk := ?_) | refine TL_fieldAddr TE (hk := ?_) | refine TL_len TE (hk := ?_) | refine TL_nilCheck (hk := ?_))); refine TL_nil_p ?_); (refine TA_take 6 rfl (by kernel_rfl) (by kernel_rfl) (by kernel_rfl) ?_; (repeat (first | refine TL_sub (hk := ?_) | refine TL_move (hk := ?_) | refine TLP_load TE (hk := ?_) | refine TL_fieldAddr TE (hk := ?_) | refine TL_len TE (hk := ?_) | refine TL_nilCheck (hk := ?_))); refine TL_nil_p ?_); (refine TA_take 7 rfl (by kernel_rfl) (by kernel_rfl) (by kernel_rfl) ?_; (repeat (first | refine TL_sub (hk := ?_) | refine TL_move (hk := ?_) | refine TLP_load TE (hk := ?_) | refine TL_fieldAddr TE (hk := ?_) | refine TL_len TE (hk := ?_) | refine TL_nilCheck (hk := ?_))); refine TL_nil_p ?_); (refine TA_take 8 rfl (by kernel_rfl) (by kernel_rfl) (by kernel_rfl) ?_; (repeat (first | refine TL_sub (hk := ?_) | refine TL_move (hk := ?_) | refine TLP_load TE (hk := ?_) | refine TL_fieldAddr TE (hk := ?_) | refine TL_len TE (hk := ?_) | refine TL_nilCheck (hk := ?_))); refine TL_nil_p ?_); (refine TA_take 9 rfl (by kernel_rfl) (by kernel_rfl) (by kernel_rfl) ?_; (repeat (first | refine TL_sub (hk := ?_) | refine TL_move (hk := ?_) | refine TLP_load TE (hk := ?_) | refine TL_fieldAddr TE (hk := ?_) | refine TL_len TE (hk := ?_) | refine TL_nilCheck (hk := ?_))); refine TL_nil_p ?_); (refine TA_take 10 rfl (by kernel_rfl) (by kernel_rfl) (by kernel_rfl) ?_; (repeat (first | refine TL_sub (hk := ?_) | refine TL_move (hk := ?_) | refine TLP_load TE (hk := ?_) | refine TL_fieldAddr TE (hk := ?_) | refine TL_len TE (hk := ?_) | refine TL_nilCheck (hk := ?_))); refine TL_nil_p ?_); (refine TA_take 11 rfl (by kernel_rfl) (by kernel_rfl) (by kernel_rfl) ?_; (repeat (first | refine TL_sub (hk := ?_) | refine TL_move (hk := ?_) | refine TLP_load TE (hk := ?_) | refine TL_fieldAddr TE (hk := ?_) | refine TL_len TE (hk := ?_) | refine TL_nilCheck (hk := ?_))); refine TL_nil_p ?_); (refine TA_take 12 rfl (by kernel_rfl) (by kernel_rfl) (by kernel_rfl) ?_; (repeat (first | refine TL_sub (hk := ?_) | refine TL_move (hk := ?_) | refine TLP_load TE (hk := ?_) | refine TL_fieldAddr TE (hk := ?_) | refine TL_len TE (hk := ?_) | refine TL_nilCheck (hk := ?_))); refine TL_nil_p ?_); (refine TA_take 13 rfl (by kernel_rfl) (by kernel_rfl) (by kernel_rfl) ?_; (repeat (first | refine TL_sub (hk := ?_) | refine TL_move (hk := ?_) | refine TLP_load TE (hk := ?_) | refine TL_fieldAddr TE (hk := ?_) | refine TL_len TE (hk := ?_) | refine TL_nilCheck (hk := ?_))); refine TL_nil_p ?_); (refine TA_take 14 rfl (by kernel_rfl) (by kernel_rfl) (by kernel_rfl) ?_; (repeat (first | refine TL_sub (hk := ?_) | refine TL_move (hk := ?_) | refine TLP_load TE (hk := ?_) | refine TL_fieldAddr TE (hk := ?_) | refine TL_len TE (hk := ?_) | refine TL_nilCheck (hk := ?_))); refine TL_nil_p ?_); (refine TA_take 15 rfl (by kernel_rfl) (by kernel_rfl) (by kernel_rfl) ?_; (repeat (first | refine TL_sub (hk := ?_) | refine TL_move (hk := ?_) | refine TLP_load TE (hk := ?_) | refine TL_fieldAddr TE (hk := ?_) | refine TL_len TE (hk := ?_) | refine TL_nilCheck (hk := ?_))); refine TL_nil_p ?_); (refine TA_take 16 rfl (by kernel_rfl) (by kernel_rfl) (by kernel_rfl) ?_; (repeat (first | refine TL_sub (hk := ?_) | refine TL_move (hk := ?_) | refine TLP_load TE (hk := ?_) | refine TL_fieldAddr TE (hk := ?_) | refine TL_len TE (hk := ?_) | refine TL_nilCheck (hk := ?_))); refine TL_nil_p ?_); (refine TA_take 17 rfl (by kernel_rfl) (by kernel_rfl) (by kernel_rfl) ?_; (repeat (first | refine TL_sub (hk := ?_) | refine TL_move (hk := ?_) | refine TLP_load TE (hk := ?_) | refine TL_fieldAddr TE (hk := ?_) | refine TL_len TE (hk := ?_) | refine TL_nilCheck (hk := ?_))); refine TL_nil_p ?_); (refine TA_take 18 rfl (by kernel_rfl) (by kernel_rfl) (by kernel_rfl) ?_; (repeat (first | refine TL_sub (hk := ?_) | refine TL_move (hk := ?_) | refine TLP_load TE (hk := ?_) | refine TL_fieldAddr TE (hk := ?_) | refine TL_len TE (hk := ?_) | refine TL_nilCheck (hk := ?_))); refine TL_nil_p ?_)
 refine TA_one 19 rfl (by kernel_rfl) (by kernel_rfl) ?_
 refine TL_min (hk := ?_)
 obtain ⟨m, hm⟩ : ∃ m, (if (sl.2.1 : Int) - (k.sf : Int) < n then (sl.2.1 : Int) - (k.sf : Int) else n) = m := ⟨_, rfl⟩
 rw [hm]
 refine TL_nil_p ?_
 refine TA_one 20 rfl (by kernel_rfl) (by kernel_rfl) ?_
 refine TL_max (hk := ?_)
 obtain ⟨q, hq⟩ : ∃ q, (if (0 : Int) < m then m else 0) = q := ⟨_, rfl⟩
 rw [hq]
 have hj : (k.sf : Int) + q = ((leftN k n : Nat) : Int) := by
  unfold leftN
  rw [← hq]
  by_cases h1 : n < 0
  ·rw [if_pos h1, if_neg (by rw [← hm]; split <;> omega)]; omega
  ·rw [if_neg h1]
   by_cases h2 : (k.b.length : Int) - (k.sf : Int) < n
   ·rw [if_pos h2]
    have h3 : m = (sl.2.1 : Int) - (k.sf : Int) := by rw [← hm, if_pos (by omega)]
    by_cases h4 : 0 < m
    ·rw [if_pos h4]; omega
    ·rw [if_neg h4]; omega
   ·rw [if_neg h2]
    have h3 : m = n := by rw [← hm, if_neg (by omega)]
    by_cases h4 : 0 < m
    ·rw [if_pos h4]; omega
    ·rw [if_neg h4]; omega
 have hqb : 0 ≤ q ∧ q ≤ 4194304 := by omega
 refine TL_nil_p ?_
 (refine TA_take 21 rfl (by kernel_rfl) (by kernel_rfl) (by kernel_rfl) ?_; (repeat (refine TL_add (hk := ?_))); refine TL_nil_p ?_)
 rw [hj]
 (refine TA_take 22 rfl (by kernel_rfl) (by kernel_rfl) (by kernel_rfl) ?_; (repeat (refine TL_slice_hi TE (hk := ?_))); refine TL_nil_p ?_)
 rw [Int.toNat_natCast]
 have hr2 := Rd.take D2.ow.rd (h := leftN k n) (by omega)
 rw [Nat.mul_one, bv_take] at hr2
 refine TA_one 23 rfl (by kernel_rfl) (by kernel_rfl) ?_; (try refine TL_yes (hk := ?_)); refine TL_call TE (hc := (Clone_c sl.1 (leftN k n) sl.2.2 (leftD k n) w2 hr2 (by omega))) (hq := (by rintro _ w' ⟨A', c', rfl, e, o⟩; exact e)) (hk := ?_)
 rintro _ w3 ⟨A3, c3, rfl, e3, o3⟩
 have D3 := D2.ext e3
 refine TL_nil_p ?_
 (refine TA_one 24 rfl (by kernel_rfl) (by kernel_rfl) ?_; (repeat (refine TL_assign (hk := ?_))); refine TL_nil_p ?_)
 refine TA_done (by kernel_rfl) ?_
 have z23 := e2.size
 --
 refine T_leave ?_
 refine LV_unlock D3.blk rfl ?_
 intro w5 m5 z5 k5
 obtain ⟨D5, t5⟩ := D3.set (lk' := 0) m5 k5 rfl D3.ok
 exact LV_ret rfl (res1 rfl rfl) ⟨(A3, leftN k n, c3), rfl, D5, (t1.trans (Tn.ext (e2.ext e3))).trans t5, (Own.weaken o3 (by omega)).modL m5 (fun u hu q => by
  rw [List.mem_singleton] at q
  have h1 := (o3.bl u hu).1
  have h2 := (D.old d (by rw [D.g1]; decide)).2
  omega)⟩
end
structure RDiskM (w : World) (base d : Nat) (sl : SL) (g : Nat → Nat) (k : DK) : Prop where
 blk : Blk w d 133 [sL sl, .int .i64 (k.sf : Int), .int .i64 k.lf, .bool k.off]
 ow : Own w base 5 1 sl.1 sl.2.1 sl.2.2 (bv k.b)
 ok : DOk k
 g1 : g d = 1
 g2 : ∀ b ∈ blkL sl.1, g b = 2
 old : ∀ b, g b ≠ 0 → base ≤ b ∧ b < w.heap.size
section
variable {w w' w2 : World} {base d : Nat} {sl sl' : SL} {g g' : Nat → Nat} {k k' : DK} {Z : List Nat}
end
set_option maxHeartbeats 1600000
def mayD (k : DK) : DK × Bool := if k.off = true ∨ k.lf = 0 then ({ k with off := true }, false) else ({ k with lf := if 0 < k.lf then k.lf - 1 else k.lf }, true)
section
variable {base d : Nat} {sl : SL} {g : Nat → Nat} {k : DK}
end
set_option maxHeartbeats 1600000
section
variable {base d : Nat} {sl : SL} {g : Nat → Nat} {k : DK}
end
set_option maxHeartbeats 1600000
section
variable {base d : Nat} {sl : SL} {g : Nat → Nat} {k : DK}
end
end Go.Proofs.YtjlaomcankmdjaaGreat
namespace Go.Proofs.YtjlaomcankmdjaaGreat
open Go.RowKit Go.Proofs.Eng Go.Proofs.Codec
set_option linter.unusedVariables false set_option maxRecDepth 10000
attribute [local irreducible] T TL LV TH TA
theorem get4_c (A : Option Addr) (n c : Nat) (l : List UInt8) (w : World) (h : Rd w A n 1 (bv l)) (hn : 4 ≤ n) :
  Ret Tryz.prog 129 [.slice A n c] w (fun v w' => v = .int .u32 (le4 l : Nat) ∧ Ext w w') := by
 refine ret_T (n := 25) Tryz.func129 rfl rfl ?_
 repeat (first | refine T_seq ?_ | refine T_region ?_ | refine T_region_q TE.mixed (by kernel_rfl) ?_ | (refine TL_or (hk := ?_); intro _) | refine TL_shl (hk := ?_) | refine TL_nil ?_ | refine TL_move (hk := ?_) | refine TL_assign (hk := ?_) | (refine TL_load_b TE (hk := ?_); intro _) | refine TL_indexAddr1n TE (hk := ?_) | refine TL_conv TE (hk := ?_))
 refine TL_nil_q ?_; intro w1 e1
 --
 exact T_ret1 rfl rfl ⟨rfl, e1⟩
theorem put4_c (A : Option Addr) (n c x base : Nat) (l : List UInt8) (w : World) (h : Own w base 5 1 A n c (bv l)) (hb : base ≤ w.heap.size) (hn : n ≤ 70368744177000) (hx : x < 2 ^ 32) :
  Ret Tryz.prog 157 [.slice A n c, .int .u32 (x : Int)] w (fun v w' => ∃ A' c', v = .slice A' (n + 4) c' ∧ Mod (blkL A) w w' ∧ Near A A' w ∧ Own w' base 5 1 A' (n + 4) c' (bv (l ++ four x))) := by
 refine ret_T (n := 19) Tryz.func157 rfl rfl ?_
 repeat (first | refine T_seq ?_ | refine T_region ?_ | refine TL_shr (hk := ?_) | refine TL_nil ?_ | refine TL_move (hk := ?_) | refine TL_assign (hk := ?_) | refine TL_conv TE (hk := ?_) | refine TL_conv_nat TE (hk := ?_))
 refine TL_buildSlice TE (hk := ?_); intro b1 w1 e1 h1 h2 k1
 have s1 := e1.size
 refine TL_append TE (hk := ?_); intro A4 c4 w4 o4 m4 n4
 repeat (first | refine TL_nil ?_ | refine TL_assign (hk := ?_))
 refine T_ret1 rfl rfl ⟨A4, c4, rfl, Mod.step (Mod.mono e1 (fun _ h => by cases h)) m4 (fun y hy => .inl hy), fun ad ea => (n4 ad ea).imp id (fun h => by omega), ?_⟩
 have e : bv (four x) = [.int .u8 ((x % 2 ^ 8 : Nat) : Int), .int .u8 ((x / 2 ^ 8 % 2 ^ 8 : Nat) : Int), .int .u8 ((x / 2 ^ 16 % 2 ^ 8 : Nat) : Int), .int .u8 ((x / 2 ^ 24 : Nat) : Int)] := by
  have e4 : x / 2 ^ 24 % 256 = x / 2 ^ 24 := by omega
  simp only [four, bv, List.map_cons, List.map_nil, e4]
  rw [ofNat_u8 (by omega), ofNat_u8 (by omega), ofNat_u8 (by omega), ofNat_u8 (by omega)]
 rw [bv_append, e]
 exact o4
set_option maxHeartbeats 1000000
theorem fdiv63 (i : Int) (h : -9223372036854775808 ≤ i ∧ i ≤ 9223372036854775807) : Int.fdiv i (2 ^ 63) = if 0 ≤ i then 0 else -1 := by
 rw [Int.fdiv_eq_ediv_of_nonneg _ (by decide)]
 split <;> omega
theorem PutInt_c (A : Option Addr) (n c : Nat) (l : List UInt8) (i : Int) (w : World) (h : Rd w A n 1 (bv l)) (hn : n ≤ 70368744177000) (hi : -9223372036854775808 ≤ i ∧ i ≤ 9223372036854775807) :
  Ret Tryz.prog 192 [.slice A n c, .int .i64 i] w (fun v w' => ∃ A' n' c', v = .slice A' n' c' ∧ Ext w w' ∧ Own w' w.heap.size 5 1 A' n' c' (bv (l ++ encU (zig i)))) := by
 obtain ⟨i0, i1⟩ := hi
 by_cases h0 : 0 ≤ i
 ·obtain ⟨m, rfl⟩ := Int.eq_ofNat_of_zero_le h0
  refine ret_T (n := 14) Tryz.func192 rfl rfl ?_
  repeat (first | refine T_seq ?_ | refine T_region ?_ | (refine TL_xor (hk := ?_); intro _) | refine TL_shr (hk := ?_) | refine TL_shl (hk := ?_) | refine TL_nil ?_ | refine TL_move (hk := ?_) | refine TL_assign (hk := ?_) | refine TL_conv TE (hk := ?_))
  have ez : zig (m : Int) = 2 * m := by unfold zig; rw [if_pos h0]; rfl
  rw [ez]
  refine TL_call TE (hc := PutUint_c A n c l (2 * m) w (by rw [show m / 2 ^ 63 = 0 from by omega, Nat.xor_zero]; omega) h hn (by omega)) (hk := ?_)
  rintro _ w1 ⟨A1, n1, c1, rfl, e1, o1⟩
  repeat (first | refine TL_nil ?_ | refine TL_assign (hk := ?_))
  exact T_ret1 rfl rfl ⟨A1, n1, c1, rfl, e1, o1⟩
 ·obtain ⟨m, hm⟩ := Int.eq_ofNat_of_zero_le (a := -(i + 1)) (by omega)
  have ez : zig i = 2 * m + 1 := by unfold zig; rw [if_neg h0, hm]; rfl
  have hw : IntKind.u64.wrap i = ((2 ^ 64 - 1 - m : Nat) : Int) := by
   unfold IntKind.wrap
   dsimp only [IntKind.bits, IntKind.signed]
   simp
   omega
  have hw1 : IntKind.u64.wrap (-1) = ((2 ^ 64 - 1 : Nat) : Int) := by decide
  have hf := fdiv63 i ⟨i0, i1⟩
  rw [if_neg h0] at hf
  refine ret_T (n := 14) Tryz.func192 rfl rfl ?_
  repeat (first | refine T_seq ?_ | refine T_region ?_ | refine TL_nil ?_ | refine TL_move (hk := ?_) | refine TL_assign (hk := ?_))
  refine TL_conv_wrap TE rfl rfl rfl rfl ?_
  rw [hw]
  repeat (first | refine TL_shl (hk := ?_) | refine TL_move (hk := ?_))
  refine TL_shr_z rfl rfl (litZ _) rfl rfl rfl hf ?_
  --
  refine TL_conv_wrap TE rfl rfl rfl rfl ?_
  rw [hw1]
  repeat ((refine TL_xor (hk := ?_); intro _))
  rw [ez]
  refine TL_call TE (hc := PutUint_c A n c l (2 * m + 1) w (by rw [xor_ones (by omega)]; omega) h hn (by omega)) (hk := ?_)
  rintro _ w1 ⟨A1, n1, c1, rfl, e1, o1⟩
  repeat (first | refine TL_nil ?_ | refine TL_assign (hk := ?_))
  exact T_ret1 rfl rfl ⟨A1, n1, c1, rfl, e1, o1⟩
theorem PutText_c (A : Option Addr) (n c : Nat) (l : List UInt8) (S : ByteArray) (w : World) (h : Rd w A n 1 (bv l)) (hn : n ≤ 7036874417) (hs : S.size ≤ 7036874417) :
  Ret Tryz.prog 112 [.slice A n c, .string S] w (fun v w' => ∃ A' n' c', v = .slice A' n' c' ∧ Ext w w' ∧ Own w' w.heap.size 5 1 A' n' c' (bv (l ++ (encU S.size ++ S.data.toList)))) := by
 have hlen : l.length = n := by simpa using h.1
 refine ret_T (n := 12) Tryz.func112 rfl rfl ?_
 repeat (first | refine T_seq ?_ | refine T_region ?_ | refine TL_nil ?_ | refine TL_move (hk := ?_) | refine TL_assign (hk := ?_) | refine TL_len_s TE (hk := ?_) | refine TL_conv TE (hk := ?_))
 refine TL_call TE (hc := PutUint_c A n c l S.size w rfl h (by omega) (by omega)) (hk := ?_)
 rintro _ w1 ⟨A1, n1, c1, rfl, e1, o1⟩
 have s1 := e1.size
 have hn1 := o1.len
 have h10 := encU_len64 (n := S.size) (by omega)
 simp only [bv_length, List.length_append, Nat.mul_one] at hn1
 repeat (refine TL_move (hk := ?_))
 refine TL_append_s TE (hk := ?_); intro A2 c2 w2 o2 m2 n2
 repeat (first | refine TL_nil ?_ | refine TL_assign (hk := ?_))
 refine T_ret1 rfl rfl ⟨A2, _, c2, rfl, e1.own m2 o1.hi, ?_⟩
 rw [← bv_append, List.append_assoc] at o2
 exact o2
end Go.Proofs.YtjlaomcankmdjaaGreat
namespace Go.Proofs.YtjlaomcankmdjaaGreat
open Go.RowKit Go.Proofs.Eng Go.Proofs.Codec Go.Proofs.Journal
set_option linter.unusedVariables false set_option maxRecDepth 10000
attribute [local irreducible] T TL LV TH TA
set_option maxHeartbeats 1600000
def veV (v : VE) : List Value := [.int .i64 v.kd, .int .i64 v.n, .string (ofL v.t)]
theorem veV_len (v : VE) : (veV v).length = 3 := rfl
abbrev vA (v : VE) : Value := .agg #[.int .i64 v.kd, .int .i64 v.n, .string (ofL v.t)]
structure VFit (v : VE) : Prop where
 kd : -9223372036854775808 ≤ v.kd ∧ v.kd ≤ 9223372036854775807
 n : -9223372036854775808 ≤ v.n ∧ v.n ≤ 9223372036854775807
 t : v.t.length ≤ 7036874417
theorem plain_c (c : Nat) (hc : c < 256) (w : World) : Ret Tryz.prog 210 [.int .u8 (c : Int)] w (fun v w' => v = .bool (decide (32 ≤ c ∧ c ≤ 126)) ∧ w' = w) := by
 refine ret_T (n := 9) Tryz.func210 rfl rfl ?_
 by_cases h1 : 32 ≤ c
 ·by_cases h2 : c ≤ 126
  ·rw [decide_eq_true ⟨h1, h2⟩]
   repeat (first | refine T_seq ?_ | refine T_region ?_ | refine TL_le_t (hk := ?_) | refine TL_ge_t (hk := ?_) | refine TL_nil ?_ | refine TL_move (hk := ?_) | refine TL_assign (hk := ?_) | refine TL_yes (hk := ?_) | refine TL_pick_t (hk := ?_))
   exact T_ret1 rfl rfl ⟨rfl, rfl⟩
  ·rw [decide_eq_false (fun q => h2 q.2)]
   repeat (first | refine T_seq ?_ | refine T_region ?_ | refine TL_le_f (hk := ?_) | refine TL_ge_t (hk := ?_) | refine TL_nil ?_ | refine TL_move (hk := ?_) | refine TL_assign (hk := ?_) | refine TL_yes (hk := ?_) | refine TL_pick_t (hk := ?_))
   exact T_ret1 rfl rfl ⟨rfl, rfl⟩
 ·rw [decide_eq_false (fun q => h1 q.1)]
  repeat (first | refine T_seq ?_ | refine T_region ?_ | refine TL_ge_f (hk := ?_) | refine TL_nil ?_ | refine TL_move (hk := ?_) | refine TL_assign (hk := ?_) | refine TL_no (hk := ?_) | refine TL_pick_f (hk := ?_))
  exact T_ret1 rfl rfl ⟨rfl, rfl⟩
theorem prB_succ (t : List UInt8) (i : Nat) (h : i < t.length) : prB (t.take (i + 1)) = (prB (t.take i) && decide (32 ≤ gb t i ∧ gb t i ≤ 126)) := by
 unfold prB gb
 rw [List.take_succ_eq_append_getElem h, List.all_append, List.getD_eq_getElem?_getD, List.getElem?_eq_getElem h]
 simp
theorem printable_c (t : List UInt8) (ht : t.length ≤ 9223372036854775807) (w : World) : Ret Tryz.prog 201 [.string (ofL t)] w (fun v w' => v = .bool (prB t) ∧ w' = w) := by
 have hs : (ofL t).size = t.length := ofL_size t
 refine ret_T (n := 15) Tryz.func201 rfl rfl ?_
 repeat (first | refine T_seq ?_ | refine T_region ?_ | refine T_block ?_ | refine TL_nil ?_ | refine TL_move (hk := ?_) | refine TL_assign (hk := ?_) | refine TL_len_s TE (hk := ?_))
 refine T_loop (ι := Nat) (fun i => [(6, .int .i64 (i : Int)), (5, .int .i64 (t.length : Int)), (0, .string (ofL t))]) (fun i w' => i ≤ t.length ∧ w' = w ∧ prB (t.take i) = true) (fun i => t.length - i) 0 (.c rfl (.c rfl (.c rfl (.n)))) ⟨Nat.zero_le _, rfl, rfl⟩ ?_
 rintro i w1 ⟨hi, rfl, hp⟩ ih
 by_cases hlt : i < t.length
 ·have hsu := prB_succ t i hlt
  rw [hp, Bool.true_and] at hsu
  have hgl := gb_lt t i
  repeat (first | refine T_seq ?_ | refine T_region ?_ | refine T_cond_true rfl ?_ | refine T_block ?_ | refine T_skip ?_ | refine TL_lt_t (hk := ?_) | refine TL_nil ?_ | refine TL_move (hk := ?_) | refine TL_assign (hk := ?_) | (refine TL_index_s TE (hk := ?_); intro _))
  refine TL_call TE (hc := plain_c (gb t i) hgl _) (hk := ?_)
  rintro _ w2 ⟨rfl, rfl⟩
  cases hc : decide (32 ≤ gb t i ∧ gb t i ≤ 126) with
  |true =>
   rw [hc] at hsu
   repeat (first | refine T_region ?_ | refine T_cond_false rfl ?_ | refine T_inBlock ?_ | refine T_skip ?_ | refine TL_add (hk := ?_) | refine TL_nil ?_ | refine TL_move (hk := ?_) | refine TL_not (hk := ?_))
   exact ih (i + 1) _ _ (by omega) ⟨by omega, rfl, hsu⟩ (.c rfl (.c rfl (.c rfl (.n))))
  |false =>
   rw [hc] at hsu
   have hno : prB t = false := by
    cases hq : prB t with
    |false => rfl
    |true =>
     unfold prB at hq hsu
     have := List.all_eq_true.1 hq
     rw [List.all_eq_false] at hsu
     obtain ⟨x, hx, hx2⟩ := hsu
     exact absurd (this x (List.mem_of_mem_take hx)) hx2
   rw [hno]
   repeat (first | refine T_seq ?_ | refine T_region ?_ | refine T_cond_true rfl ?_ | refine TL_nil ?_ | refine TL_assign (hk := ?_) | refine TL_not (hk := ?_))
   exact T_ret1 rfl rfl ⟨rfl, rfl⟩
 ·have hie : i = t.length := by omega
  rw [hie, List.take_length] at hp
  rw [hp]
  clear ih
  repeat (first | refine T_seq ?_ | refine T_region ?_ | refine T_cond_false rfl ?_ | refine T_exit rfl ?_ | refine TL_lt_f (hk := ?_) | refine TL_nil ?_ | refine TL_assign (hk := ?_))
  exact T_ret1 rfl rfl ⟨rfl, rfl⟩
set_option maxHeartbeats 1600000
theorem eqVal (v u : VE) (w : World) : (Op.equalIn 10000 161 (vA v) (vA u)).run Tryz.prog w = .ok (decide (v.kd = u.kd ∧ v.n = u.n ∧ v.t = u.t)) w := by
 rw [run_equalIn_struct w 9999 _ _ _ (by kernel_rfl) (by kernel_rfl)]
 have e : (Tryz.prog.fieldsOf 161).toList = [{ name := "Kind", type := 3, offset := 0, embedded := false, tag := "", pkgPath := "", byteOffset := 0 }, { name := "Int", type := 2, offset := 1, embedded := false, tag := "", pkgPath := "", byteOffset := 8 }, { name := "Text", type := 9, offset := 2, embedded := false, tag := "", pkgPath := "", byteOffset := 16 }] := by kernel_rfl
 rw [e]
 have h1 : ((ofL v.t).toList == (ofL u.t).toList) = decide (v.t = u.t) := by
  have : ∀ l, (ofL l).toList = l := fun l => by simp [ofL]
  rw [this, this]
  by_cases h : v.t = u.t <;> simp [h]
 simp [Op.eqFields, part, run_equalIn_int w 9998 3 .i64 .i64 _ _ Tryz.underlying3, run_equalIn_int w 9998 2 .i64 .i64 _ _ Tryz.underlying2, run_equalIn_string w 9998 9 _ _ Tryz.underlying9, run_isAgg_no Tryz.underlying3 rfl, run_isAgg_no Tryz.underlying2 rfl, run_isAgg_no Tryz.underlying9 rfl, h1]
 by_cases a : v.kd = u.kd <;> by_cases b : v.n = u.n <;> by_cases c : v.t = u.t <;> simp [a, b, c]
theorem VValid_c (v : VE) (hv : VFit v) (w : World) : Ret Tryz.prog 191 [vA v] w (fun u w' => u = .bool (validV v) ∧ Ext w w') := by
 have hs : (ofL v.t).size = v.t.length := ofL_size v.t
 have hk1 := hv.kd
 have hn1 := hv.n
 have ht1 := hv.t
 unfold validV
 refine ret_T (n := 31) Tryz.func191 rfl rfl ?_
 repeat (first | refine T_seq ?_ | refine T_region ?_)
 refine TL_box (hk := ?_); intro b1 w1 e1 h1 h1' k1
 replace k1 : Blk w1 b1 161 [.int .i64 v.kd, .int .i64 v.n, .string (ofL v.t)] := k1
 by_cases h0 : v.kd = 0
 ·rw [if_pos h0]
  repeat (first | refine T_seq ?_ | refine T_region ?_ | refine T_cond_true rfl ?_ | refine T_block ?_ | refine TL_eq_t (hk := ?_) | refine TL_nil ?_ | refine TL_assign (hk := ?_) | refine TL_load TE (hk := ?_) | refine TL_fieldAddr TE (hk := ?_))
  refine TL_loadb TE (cs := [.int .i64 v.kd, .int .i64 v.n, .string (ofL v.t)]) (o := 0) rfl rfl k1 rfl rfl (Nat.succ_pos _) (hk := ?_)
  repeat (refine TL_build TE (hk := ?_))
  refine TL_aeq (r := decide (v.kd = 0 ∧ v.n = 0 ∧ v.t = [])) (by kernel_rfl) (eqVal v ⟨0, 0, []⟩) (hk := ?_)
  repeat (first | refine TL_nil ?_ | refine TL_assign (hk := ?_))
  rw [show decide (v.kd = 0 ∧ v.n = 0 ∧ v.t = []) = decide (v.n = 0 ∧ v.t = []) by simp [h0]]
  exact T_ret1 rfl rfl ⟨rfl, e1⟩
 rw [if_neg h0]
 by_cases h1 : v.kd = 1
 ·rw [if_pos h1]
  by_cases h2 : v.t = []
  ·have h2' : ofL v.t = ofL [] := by rw [h2]
   rw [decide_eq_true h2]
   repeat (first | refine T_seq ?_ | refine T_region ?_ | refine T_cond_true rfl ?_ | refine T_cond_false rfl ?_ | refine T_block ?_ | refine TL_eq_t (hk := ?_) | refine TL_eq_f (hk := ?_) | refine TL_seq_t (hk := ?_) | refine TL_nil ?_ | refine TL_assign (hk := ?_) | refine TL_load TE (hk := ?_) | refine TL_fieldAddr TE (hk := ?_))
   exact T_ret1 rfl rfl ⟨rfl, e1⟩
  ·have h2' : ¬ ofL v.t = ofL [] := fun q => h2 (ofL_inj q)
   rw [decide_eq_false h2]
   repeat (first | refine T_seq ?_ | refine T_region ?_ | refine T_cond_true rfl ?_ | refine T_cond_false rfl ?_ | refine T_block ?_ | refine TL_eq_t (hk := ?_) | refine TL_eq_f (hk := ?_) | refine TL_seq_f (hk := ?_) | refine TL_nil ?_ | refine TL_assign (hk := ?_) | refine TL_load TE (hk := ?_) | refine TL_fieldAddr TE (hk := ?_))
   exact T_ret1 rfl rfl ⟨rfl, e1⟩
 rw [if_neg h1]
 by_cases h2 : v.kd = 2
 ·rw [if_pos h2]
  by_cases h3 : v.n = 0
  ·by_cases h4 : v.t.length ≤ 64
   ·rw [decide_eq_true ⟨h3, h4⟩, Bool.true_and]
    repeat (first | refine T_seq ?_ | refine T_region ?_ | refine T_cond_true rfl ?_ | refine T_cond_false rfl ?_ | refine T_block ?_ | refine TL_le_t (hk := ?_) | refine TL_eq_t (hk := ?_) | refine TL_eq_f (hk := ?_) | refine TL_nil ?_ | refine TL_move (hk := ?_) | refine TL_assign (hk := ?_) | refine TL_load TE (hk := ?_) | refine TL_fieldAddr TE (hk := ?_) | refine TL_len_s TE (hk := ?_) | refine TL_yes (hk := ?_) | refine TL_pick_t (hk := ?_))
    refine TL_call TE (hc := printable_c v.t (by omega) w1) (hk := ?_)
    rintro _ w2 ⟨rfl, rfl⟩
    repeat (first | refine TL_nil ?_ | refine TL_assign (hk := ?_) | refine TL_pick_t (hk := ?_))
    exact T_ret1 rfl rfl ⟨rfl, e1⟩
   ·rw [decide_eq_false (fun q => h4 q.2), Bool.false_and]
    repeat (first | refine T_seq ?_ | refine T_region ?_ | refine T_cond_true rfl ?_ | refine T_cond_false rfl ?_ | refine T_block ?_ | refine TL_le_f (hk := ?_) | refine TL_eq_t (hk := ?_) | refine TL_eq_f (hk := ?_) | refine TL_nil ?_ | refine TL_move (hk := ?_) | refine TL_assign (hk := ?_) | refine TL_load TE (hk := ?_) | refine TL_fieldAddr TE (hk := ?_) | refine TL_len_s TE (hk := ?_) | refine TL_yes (hk := ?_) | refine TL_no (hk := ?_) | refine TL_pick_t (hk := ?_) | refine TL_pick_f (hk := ?_))
    exact T_ret1 rfl rfl ⟨rfl, e1⟩
  ·rw [decide_eq_false (fun q => h3 q.1), Bool.false_and]
   repeat (first | refine T_seq ?_ | refine T_region ?_ | refine T_cond_true rfl ?_ | refine T_cond_false rfl ?_ | refine T_block ?_ | refine TL_eq_t (hk := ?_) | refine TL_eq_f (hk := ?_) | refine TL_nil ?_ | refine TL_move (hk := ?_) | refine TL_assign (hk := ?_) | refine TL_load TE (hk := ?_) | refine TL_fieldAddr TE (hk := ?_) | refine TL_no (hk := ?_) | refine TL_pick_f (hk := ?_))
   exact T_ret1 rfl rfl ⟨rfl, e1⟩
 ·rw [if_neg h2]
  repeat (first | refine T_seq ?_ | refine T_region ?_ | refine T_cond_false rfl ?_ | refine T_block ?_ | refine T_inBlock ?_ | refine T_skip ?_ | refine TL_eq_f (hk := ?_) | refine TL_nil ?_ | refine TL_assign (hk := ?_) | refine TL_load TE (hk := ?_) | refine TL_fieldAddr TE (hk := ?_))
  exact T_ret1 rfl rfl ⟨rfl, e1⟩
theorem given_c (v : VE) (hv : VFit v) (w : World) : Ret Tryz.prog 190 [vA v] w (fun u w' => u = .bool (givenB v) ∧ Ext w w') := by
 unfold givenB
 refine ret_T (n := 10) Tryz.func190 rfl rfl ?_
 repeat (first | refine T_seq ?_ | refine T_region ?_)
 refine TL_box (hk := ?_); intro b1 w1 e1 h1 h1' k1
 replace k1 : Blk w1 b1 161 [.int .i64 v.kd, .int .i64 v.n, .string (ofL v.t)] := k1
 repeat (first | refine T_seq ?_ | refine T_region ?_ | refine TL_nil ?_ | refine TL_assign (hk := ?_))
 refine TL_loadb TE (cs := [.int .i64 v.kd, .int .i64 v.n, .string (ofL v.t)]) (o := 0) rfl rfl k1 rfl rfl (Nat.succ_pos _) (hk := ?_)
 --
 refine TL_call TE (hc := VValid_c v hv w1) (hk := ?_)
 rintro _ w2 ⟨rfl, e2⟩
 have k2 := k1.be e2
 have hk1 := hv.kd
 clear k1
 cases hq : validV v with
 |false =>
  repeat (first | refine TL_nil ?_ | refine TL_move (hk := ?_) | refine TL_assign (hk := ?_) | refine TL_no (hk := ?_) | refine TL_pick_f (hk := ?_))
  exact T_ret1 rfl rfl ⟨rfl, e1.ext e2⟩
 |true =>
  rw [Bool.true_and]
  by_cases h0 : v.kd = 0
  ·rw [decide_eq_false (fun q => q h0)]
   repeat (first | refine TL_ne_f (hk := ?_) | refine TL_nil ?_ | refine TL_move (hk := ?_) | refine TL_assign (hk := ?_) | refine TL_load TE (hk := ?_) | refine TL_fieldAddr TE (hk := ?_) | refine TL_yes (hk := ?_) | refine TL_pick_t (hk := ?_))
   exact T_ret1 rfl rfl ⟨rfl, e1.ext e2⟩
  ·rw [decide_eq_true h0]
   repeat (first | refine TL_ne_t (hk := ?_) | refine TL_nil ?_ | refine TL_move (hk := ?_) | refine TL_assign (hk := ?_) | refine TL_load TE (hk := ?_) | refine TL_fieldAddr TE (hk := ?_) | refine TL_yes (hk := ?_) | refine TL_pick_t (hk := ?_))
   exact T_ret1 rfl rfl ⟨rfl, e1.ext e2⟩
theorem all1_c (b : Nat) (v : VE) (hv : VFit v) (w : World) (k : Blk w b 201 [.func (.func 190) #[] #[]]) : Ret Tryz.prog 205 [vA v, pB b] w (fun u w' => u = .bool (!givenB v) ∧ Ext w w') := by
 refine ret_T (n := 8) Tryz.func205 rfl rfl ?_
 repeat (first | refine T_seq ?_ | refine T_region ?_)
 refine TL_box (hk := ?_); intro b1 w1 e1 h1 h1' k1
 replace k1 : Blk w1 b1 161 [.int .i64 v.kd, .int .i64 v.n, .string (ofL v.t)] := k1
 have k2 := k.be e1
 repeat (first | refine T_seq ?_ | refine T_region ?_ | refine TL_nil ?_ | refine TL_assign (hk := ?_) | refine TL_load TE (hk := ?_))
 refine TL_loadb TE (cs := [.int .i64 v.kd, .int .i64 v.n, .string (ofL v.t)]) (o := 0) rfl rfl k1 rfl rfl (Nat.succ_pos _) (hk := ?_)
 --
 refine TL_callc TE (fst := []) (cap := []) rfl rfl rfl rfl (R' := RR _) (by exact given_c v hv w1) ?_ (fun _ _ h => h.elim) (fun _ h => h)
 rintro _ w2 ⟨rfl, e2⟩
 repeat (first | refine TL_nil ?_ | refine TL_assign (hk := ?_) | refine TL_not (hk := ?_))
 exact T_ret1 rfl rfl ⟨rfl, e1.ext e2⟩
set_option maxHeartbeats 1600000
def idxI (pr : Nat → Bool) (n : Nat) : Int := match (List.range n).find? pr with
 |some i => (i : Int)
 |none => -1
theorem idxI_at {pr : Nat → Bool} {n i : Nat} (hi : i < n) (h : pr i = true) (hu : ∀ j, j < i → pr j = false) : idxI pr n = (i : Int) := by
 have : (List.range n).find? pr = some i := by
  rw [List.find?_range_eq_some]
  exact ⟨h, by simpa using hi, fun j hj => by simp [hu j hj]⟩
 unfold idxI
 rw [this]
theorem idxI_no {pr : Nat → Bool} {n : Nat} (hu : ∀ j, j < n → pr j = false) : idxI pr n = -1 := by
 have : (List.range n).find? pr = none := by
  rw [List.find?_eq_none]
  intro j hj
  simp [hu j (by simpa using hj)]
 unfold idxI
 rw [this]
theorem idxI_any {pr : Nat → Bool} {n : Nat} : 0 ≤ idxI pr n ↔ (List.range n).any pr = true := by
 unfold idxI
 cases h : (List.range n).find? pr with
 |none =>
  rw [List.find?_eq_none] at h
  refine ⟨fun q => absurd q (by simp), fun q => ?_⟩
  obtain ⟨x, h1, h2⟩ := List.any_eq_true.1 q
  exact absurd h2 (h x h1)
 |some i => exact ⟨fun _ => List.any_eq_true.2 ⟨i, List.mem_of_find?_eq_some h, List.find?_some h⟩, fun _ => by simp⟩
theorem range_any {α : Type} (p : α → Bool) (d : α) (l : List α) : (List.range l.length).any (fun i => p (l.getD i d)) = l.any p := by
 rw [Bool.eq_iff_iff, List.any_eq_true, List.any_eq_true]
 constructor
 ·rintro ⟨i, hi, h⟩
  have hi' : i < l.length := by simpa using hi
  rw [List.getD_eq_getElem?_getD, List.getElem?_eq_getElem hi'] at h
  exact ⟨_, List.getElem_mem hi', h⟩
 ·rintro ⟨x, hx, h⟩
  obtain ⟨i, hi, rfl⟩ := List.mem_iff_getElem.1 hx
  exact ⟨i, by simpa using hi, by rw [List.getD_eq_getElem?_getD, List.getElem?_eq_getElem hi]; exact h⟩
def ve0 : VE := ⟨0, 0, []⟩
theorem IndexV_c (A : Option Addr) (n c : Nat) (l : List VE) (g : Nat) (cap : List Value) (pr : Nat → Bool) (w : World) (h : Rd w A n 3 (rowV veV l)) (hn : n ≤ 9223372036854775807) (hE : TE.fn g = true)
  (hp : ∀ i, i < l.length → ∀ w', Ext w w' → Ret Tryz.prog g (vA (l.getD i ve0) :: cap) w' (fun u w'' => u = .bool (pr i) ∧ Ext w' w'')) :
  Ret Tryz.prog 212 [.slice A n c, .func (.func g) #[] cap.toArray] w (fun v w' => v = .int .i64 (idxI pr n) ∧ Ext w w') := by
 have hl : l.length = n := by have := h.1; rw [rowV_len veV_len] at this; omega
 refine ret_T (n := 19) Tryz.func212 rfl rfl ?_
 repeat (first | refine T_seq ?_ | refine T_region ?_ | refine T_block ?_ | refine TL_nil ?_ | refine TL_move (hk := ?_) | refine TL_assign (hk := ?_) | refine TL_len TE (hk := ?_))
 refine T_loop (ι := Nat) (fun i => [(8, .int .i64 (i : Int)), (7, .int .i64 (n : Int)), (0, .slice A n c), (1, .func (.func g) #[] cap.toArray)]) (fun i w' => Ext w w' ∧ i ≤ n ∧ ∀ j, j < i → pr j = false) (fun i => n - i) 0 (.c rfl (.c rfl (.c rfl (.c rfl (.n))))) ⟨Mod.refl _ _, Nat.zero_le _, fun j hj => by omega⟩ ?_
 rintro i w1 ⟨e1, hi, hu⟩ ih
 have h1 := h.be e1
 by_cases hlt : i < n
 ·have hA : A ≠ none := by obtain ⟨_, _, hq, _⟩ := h1.2 (by omega); rw [hq]; simp
  have t1 := rowV_elem veV_len l i ve0 (by omega)
  have hpi := hp i (by omega) w1 e1
  generalize l.getD i ve0 = x at t1 hpi
  repeat (first | refine T_seq ?_ | refine T_region ?_ | refine T_cond_true rfl ?_ | refine T_block ?_ | refine T_skip ?_ | refine TL_lt_t (hk := ?_) | refine TL_nil ?_ | refine TL_move (hk := ?_) | refine TL_assign (hk := ?_) | refine TL_indexAddrn TE (hk := ?_))
  refine TL_loada TE (cs := veV x) (hx := rfl) (ht := rfl) (hi := rfl) (hr := h1) (hc := t1) (h0 := Nat.succ_pos _) (hk := ?_)
  refine TL_callc TE (fst := []) (cap := cap) rfl rfl hE rfl (R' := RR (fun u w'' => u = .bool (pr i) ∧ Ext w1 w'')) (by have := hpi; unfold Ret at this; simpa [veV] using this) ?_ (fun _ _ h => h.elim) (fun _ h => h)
  rintro _ w2 ⟨rfl, e2⟩
  by_cases hb : pr i = true
  ·rw [hb]
   repeat (first | refine T_seq ?_ | refine T_region ?_ | refine T_cond_true rfl ?_ | refine TL_nil ?_ | refine TL_move (hk := ?_) | refine TL_assign (hk := ?_))
   exact T_ret1 rfl rfl ⟨by rw [idxI_at hlt hb hu], e1.ext e2⟩
  ·rw [Bool.not_eq_true] at hb
   rw [hb]
   repeat (first | refine T_region ?_ | refine T_cond_false rfl ?_ | refine T_inBlock ?_ | refine T_skip ?_ | refine TL_add (hk := ?_) | refine TL_nil ?_ | refine TL_move (hk := ?_))
   exact ih (i + 1) w2 _ (by omega) ⟨e1.ext e2, by omega, fun j hj => by
    by_cases q : j = i
    ·rw [q]; exact hb
    ·exact hu j (by omega)⟩ (.c rfl (.c rfl (.c rfl (.c rfl (.n)))))
 ·clear ih
  have : i = n := by omega
  subst this
  repeat (first | refine T_seq ?_ | refine T_region ?_ | refine T_cond_false rfl ?_ | refine T_exit rfl ?_ | refine TL_lt_f (hk := ?_) | refine TL_nil ?_ | refine TL_assign (hk := ?_))
  exact T_ret1 rfl rfl ⟨by rw [idxI_no hu], e1⟩
theorem ContainsV_c (A : Option Addr) (n c : Nat) (l : List VE) (g : Nat) (cap : List Value) (pr : Nat → Bool) (w : World) (h : Rd w A n 3 (rowV veV l)) (hn : n ≤ 9223372036854775807) (hE : TE.fn g = true)
  (hp : ∀ i, i < l.length → ∀ w', Ext w w' → Ret Tryz.prog g (vA (l.getD i ve0) :: cap) w' (fun u w'' => u = .bool (pr i) ∧ Ext w' w'')) :
  Ret Tryz.prog 204 [.slice A n c, .func (.func g) #[] cap.toArray] w (fun v w' => v = .bool ((List.range n).any pr) ∧ Ext w w') := by
 refine ret_T (n := 9) Tryz.func204 rfl rfl ?_
 repeat (first | refine T_seq ?_ | refine T_region ?_ | refine TL_nil ?_ | refine TL_move (hk := ?_) | refine TL_assign (hk := ?_))
 refine TL_call TE (hc := IndexV_c A n c l g cap pr w h hn hE hp) (hk := ?_)
 rintro _ w1 ⟨rfl, e1⟩
 have hi := idxI_any (pr := pr) (n := n)
 cases hb : (List.range n).any pr with
 |true =>
  have h0 := hi.2 hb
  repeat (first | refine TL_ge_t (hk := ?_) | refine TL_nil ?_ | refine TL_assign (hk := ?_))
  exact T_ret1 rfl rfl ⟨rfl, e1⟩
 |false =>
  have h0 : ¬ 0 ≤ idxI pr n := fun q => by rw [hi.1 q] at hb; cases hb
  repeat (first | refine TL_ge_f (hk := ?_) | refine TL_nil ?_ | refine TL_assign (hk := ?_))
  exact T_ret1 rfl rfl ⟨rfl, e1⟩
theorem all_c (A : Option Addr) (n c : Nat) (l : List VE) (w : World) (h : Rd w A n 3 (rowV veV l)) (hn : n ≤ 9223372036854775807) (hf : ∀ v ∈ l, VFit v) :
  Ret Tryz.prog 189 [.slice A n c, .func (.func 190) #[] #[]] w (fun v w' => v = .bool (l.all givenB) ∧ Ext w w') := by
 have hl : l.length = n := by have := h.1; rw [rowV_len veV_len] at this; omega
 refine ret_T (n := 9) Tryz.func189 rfl rfl ?_
 repeat (first | refine T_seq ?_ | refine T_region ?_)
 refine TL_box (hk := ?_); intro b1 w1 e1 h1 h1' k1
 repeat (first | refine T_seq ?_ | refine T_region ?_ | refine TL_nil ?_ | refine TL_move (hk := ?_) | refine TL_assign (hk := ?_) | refine TL_makeFunc (hk := ?_))
 refine TL_call TE (hc := ContainsV_c A n c l 205 [pB b1] (fun i => !givenB (l.getD i ve0)) w1 (h.be e1) hn rfl (fun i hi w' e => all1_c b1 _ (hf _ (by rw [List.getD_eq_getElem?_getD, List.getElem?_eq_getElem hi]; exact List.getElem_mem hi)) w' (k1.be e))) (hk := ?_)
 rintro _ w2 ⟨rfl, e2⟩
 repeat (first | refine TL_nil ?_ | refine TL_assign (hk := ?_) | refine TL_not (hk := ?_))
 rw [show (!(List.range n).any fun i => !givenB (l.getD i ve0)) = l.all givenB by
  rw [← hl, range_any (fun v => !givenB v) ve0 l, List.not_any_eq_all_not]
  simp]
 exact T_ret1 rfl rfl ⟨rfl, e1.ext e2⟩
end Go.Proofs.YtjlaomcankmdjaaGreat
