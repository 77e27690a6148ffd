import Derived.Test.YtjjgojgahibpgaaNh3
/- Parts: CW14 CW15 CW11 CW12 CW16 CW17 CW19 CW20 RW3 Eng24 RW4 LW13 Eng25 LMem3 NMem NLaw1 NAct NMem2 Eng29 Eng30 Eng31 LAct2 LW14 LW15 LW16 NW1 NW2 NW3 NW4 Eng26 Eng32 Eng37 NW5 NW6 NW7 NW8 NW9 NW10 NR1 NR2 NR3 NR4 NR5. -/
namespace Go.Proofs.Ytjjgojgahibpgaa
open Go.RowKit Go.Proofs.Eng Go.Proofs.Codec
set_option linter.unusedSimpArgs false
set_option linter.unusedVariables false set_option maxRecDepth 10000
attribute [local irreducible] T TL LV TH TA
set_option maxHeartbeats 1000000

end Go.Proofs.Ytjjgojgahibpgaa

namespace Go.Proofs.Ytjjgojgahibpgaa
open Go.RowKit Go.Proofs.Eng Go.Proofs.Codec
set_option linter.unusedSimpArgs false
set_option linter.unusedVariables false set_option maxRecDepth 10000
attribute [local irreducible] T TL LV TH TA
set_option maxHeartbeats 1000000

end Go.Proofs.Ytjjgojgahibpgaa

namespace Go.Proofs.Ytjjgojgahibpgaa
open Go.RowKit Go.Proofs.Eng Go.Proofs.Codec
set_option linter.unusedSimpArgs false
set_option linter.unusedVariables false set_option maxRecDepth 10000
attribute [local irreducible] T TL LV TH TA
set_option maxHeartbeats 1000000
def liveB : List UInt8 := [172, 2, 9, 2, 97, 98]
end Go.Proofs.Ytjjgojgahibpgaa

namespace Go.Proofs.Ytjjgojgahibpgaa
open Go.RowKit Go.Proofs.Eng Go.Proofs.Codec
set_option linter.unusedSimpArgs false
set_option linter.unusedVariables false set_option maxRecDepth 10000
attribute [local irreducible] T TL LV TH TA
set_option maxHeartbeats 1000000





















































































end Go.Proofs.Ytjjgojgahibpgaa

namespace Go.Proofs.Ytjjgojgahibpgaa
open Go.RowKit Go.Proofs.Eng Go.Proofs.Codec
set_option linter.unusedSimpArgs false
set_option linter.unusedVariables false set_option maxRecDepth 10000
attribute [local irreducible] T TL LV TH TA
set_option maxHeartbeats 1000000

def readS (K m e : Int) (s : RS) : RS :=
  if K = 1 then (s.take (0 : Nat) tByte).2 else if K = 2 then (s.take (0 : Nat) num0).2 else if K = 3 then (s.take (0 : Int) tInt).2 else if K = 4 then (s.take (0 : Nat) (tLim m 6)).2
  else if K = 5 then (s.take ([] : List UInt8) (tText m)).2 else if K = 6 then s.fail e else if K = 7 then s.fin else s
















































































































































end Go.Proofs.Ytjjgojgahibpgaa

namespace Go.Proofs.Ytjjgojgahibpgaa
open Go.RowKit Go.Proofs.Eng Go.Proofs.Codec
set_option linter.unusedSimpArgs false
set_option linter.unusedVariables false set_option maxRecDepth 10000
attribute [local irreducible] T TL LV TH TA
set_option maxHeartbeats 3000000





theorem Off.nb {A C : Option Addr} {x y : Nat} (hA : Lo A x) (hC : Hi C x) : Off C (blkL A) := fun ad e hm => by
  cases A with
  | none => simp [Eng.blkL] at hm
  | some a => simp [Eng.blkL] at hm; have := hA a rfl; have := hC ad e; omega
def tyRead : Ty := .struct (.cons (.int .i64) (.cons (.int .i64) (.cons (.int .i64) .unit)))
end Go.Proofs.Ytjjgojgahibpgaa

namespace Go.Proofs.Ytjjgojgahibpgaa
open Go.RowKit Go.Proofs.Eng Go.Proofs.Codec
set_option linter.unusedSimpArgs false
set_option linter.unusedVariables false set_option maxRecDepth 10000
attribute [local irreducible] T TL LV TH TA
set_option maxHeartbeats 2000000




end Go.Proofs.Ytjjgojgahibpgaa

namespace Go.Proofs.Ytjjgojgahibpgaa
open Go.RowKit Go.Proofs.Eng Go.Proofs.Codec
set_option linter.unusedSimpArgs false
set_option linter.unusedVariables false set_option maxRecDepth 10000
attribute [local irreducible] T TL LV TH TA
set_option maxHeartbeats 2000000

def framesF : Nat → List UInt8 → List (List UInt8) × Nat × Int
  | 0, _ => ([], 0, 0)
  | f + 1, l => if l.length = 0 then ([], 0, 0) else if (openF l).2.2 = 0 then ((openF l).1 :: (framesF f (l.drop (openF l).2.1)).1, (openF l).2.1 + (framesF f (l.drop (openF l).2.1)).2.1, (framesF f (l.drop (openF l).2.1)).2.2) else ([], 0, (openF l).2.2)
def frames (l : List UInt8) : List (List UInt8) × Nat × Int := framesF l.length l
/-- Loads, each in new memory of its own, the later ones in later blocks. -/
def Loads (w : World) : Nat → Nat → List Value → List (List UInt8) → Prop
  | b, e, [], [] => b ≤ e
  | b, e, x :: t, p :: ps => ∃ A n c b', x = .slice A n c ∧ Own w b 5 1 A n c (bv p) ∧ Lo A b' ∧ b ≤ b' ∧ Loads w b' e t ps
  | _, _, _, _ => False
theorem Loads.mod {w w' : World} {S : List Nat} (hm : Mod S w w') : ∀ {xs : List Value} {ps : List (List UInt8)} {b e : Nat}, Loads w b e xs ps → (∀ x ∈ S, x < b ∨ e ≤ x) → Loads w' b e xs ps
  | [], [], _, _, h, _ => h
  | [], _ :: _, _, _, h, _ => h.elim
  | _ :: _, [], _, _, h, _ => h.elim
  | x :: t, p :: ps, b, e, h, hS => by
    obtain ⟨A, n, c, b', hx, ho, hlo, hb, ht⟩ := h
    have he : b' ≤ e := by
      clear ho hlo hS hx
      induction t generalizing b' ps with
      | nil => cases ps with
        | nil => exact ht
        | cons => exact ht.elim
      | cons y t ih => cases ps with
        | nil => exact ht.elim
        | cons q ps =>
          obtain ⟨_, _, _, b2, _, _, _, h2, h3⟩ := ht
          have := ih ps b2 (by omega) h3
          omega
    refine ⟨A, n, c, b', hx, ho.mod hm ?_, hlo, hb, Loads.mod hm ht (fun x hx => by have := hS x hx; omega)⟩
    intro ad ea hx
    have h1 := ho.hi ad ea
    have h2 := hlo ad ea
    have := hS _ hx
    omega
theorem Loads.up {w : World} : ∀ {xs : List Value} {ps : List (List UInt8)} {b e e' : Nat}, Loads w b e xs ps → e ≤ e' → Loads w b e' xs ps
  | [], [], _, _, _, h, he => Nat.le_trans h he
  | [], _ :: _, _, _, _, h, _ => h.elim
  | _ :: _, [], _, _, _, h, _ => h.elim
  | x :: t, p :: ps, b, e, e', h, he => by
    obtain ⟨A, n, c, b', hx, ho, hlo, hb, ht⟩ := h
    exact ⟨A, n, c, b', hx, ho, hlo, hb, Loads.up ht he⟩
theorem Loads.ext {w w' : World} (hm : Ext w w') {xs : List Value} {ps : List (List UInt8)} {b e : Nat} (h : Loads w b e xs ps) : Loads w' b e xs ps := h.mod hm (fun _ hx => by cases hx)
theorem Loads.snoc {w : World} {A : Option Addr} {n c : Nat} {p : List UInt8} {e' : Nat} : ∀ {xs : List Value} {ps : List (List UInt8)} {b e : Nat}, Loads w b e xs ps → Own w e 5 1 A n c (bv p) → Lo A e' → e ≤ e' → Loads w b e' (xs ++ [.slice A n c]) (ps ++ [p])
  | [], [], b, e, h, ho, hlo, he => ⟨A, n, c, e', rfl, ho.weaken h, hlo, Nat.le_trans h he, Nat.le_refl _⟩
  | [], _ :: _, _, _, h, _, _, _ => h.elim
  | _ :: _, [], _, _, h, _, _, _ => h.elim
  | x :: t, q :: ps, b, e, h, ho, hlo, he => by
    obtain ⟨B, m, d, b', hx, h1, h2, h3, ht⟩ := h
    exact ⟨B, m, d, b', hx, h1, h2, h3, Loads.snoc ht ho hlo he⟩
theorem Loads.len {w : World} : ∀ {xs : List Value} {ps : List (List UInt8)} {b e : Nat}, Loads w b e xs ps → xs.length = ps.length
  | [], [], _, _, _ => rfl
  | [], _ :: _, _, _, h => h.elim
  | _ :: _, [], _, _, h => h.elim
  | x :: t, q :: ps, b, e, h => by
    obtain ⟨B, m, d, b', hx, h1, h2, h3, ht⟩ := h
    simp [Loads.len ht]
end Go.Proofs.Ytjjgojgahibpgaa

namespace Go.Proofs.Ytjjgojgahibpgaa
open Go.RowKit Go.Proofs.Eng Go.Proofs.Codec Go.Proofs.Link
set_option linter.unusedSimpArgs false
set_option linter.unusedVariables false set_option maxRecDepth 10000
attribute [local irreducible] T TL LV TH TA
def PFitR (w w' : World) (k sq ak : Nat) (body : Bs) (ok : Bool) (v : Value) : Prop :=
  ∃ x : SV, v = .tuple #[.bool (decide (k = 1)), .int .u64 (sq : Int), .int .u64 (ak : Int), slV x, .bool ok] ∧ Ext w w' ∧ Rd w' x.1 x.2.1 1 (bv body) ∧ Hi x.1 w.heap.size
end Go.Proofs.Ytjjgojgahibpgaa

/- A literal row without elements, of any type. -/
namespace Go.Proofs.Eng
open Go.RowKit
set_option linter.unusedSimpArgs false
set_option linter.unusedVariables false
set_option linter.unusedSectionVars false
section
variable {q : Qm} {P : Program} {fn : Func} {R : Ending → World → Prop} {M : Md} {n : Nat} {st : Slots} {k : List Item} {w : World} {ops rest : List Oper}
  {d : Nat} {ty : TypeId} {ps : String} {af : Array Edge} {t e : TypeId} {by_ s : Nat} {z : Value}
theorem TL_buildSlice0 (E : Env P) (ht : E.und t = some (.slice e) := by exact rfl) (he : E.inf e = some (s, by_, z) := by exact rfl) (hd : Nat.blt d n = true := by exact rfl)
    (hf : Fl q (rest.length + 1) := by first | exact trivial | exact rfl) (hq : ∀ w', Ext w w' → Kp q w' := by exact fun _ _ => trivial)
    (hk : ∀ b w', Ext w w' → w.heap.size ≤ b → b < w'.heap.size → Blk w' b e [] → TL q P fn R M n ((d, .slice (some ⟨b, 0, none⟩) 0 0) :: st) ops rest k w') :
    TL q P fn R M n st ops (⟨some d, .buildSlice t 0 #[], ty, ps, af, none⟩ :: rest) k w :=
  TL_new (w' := w.alloc (.cells #[] e)) hd (fun ρ h => by
    have hr0 : Array.range 0 = #[] := by apply Array.ext <;> simp
    simp [execOp, Instr.buildSlice, run_underlying (E.und_ok _ _ ht), run_sizeOf' (E.inf_ok _ _ _ _ he), Instr.fill, newRow, hr0]
    ) hf (hq _ (Ext.alloc _ _))
    (hk w.heap.size _ (Ext.alloc _ _) (Nat.le_refl _) (by simp) (by simpa using Blk.new w e #[]))
end
end Go.Proofs.Eng

namespace Go.Proofs.Ytjjgojgahibpgaa
open Go.RowKit Go.Proofs.Eng Go.Proofs.Codec Go.Proofs.Link
set_option linter.unusedSimpArgs false
set_option linter.unusedVariables false set_option maxRecDepth 10000
attribute [local irreducible] T TL LV TH TA
theorem FB.take {w : World} {base : Nat} : ∀ {xs : List FE} {ls : List Msg} (i : Nat), FB w base xs ls → FB w base (xs.take i) (ls.take i)
  | [], [], i, _ => by simp; trivial
  | x :: xs, l :: ls, 0, h => by simp; trivial
  | x :: xs, l :: ls, i + 1, h => ⟨h.1, FB.take i h.2⟩
  | [], _ :: _, _, h => h.elim
  | _ :: _, [], _, h => h.elim
theorem FB.drop {w : World} {base : Nat} : ∀ {xs : List FE} {ls : List Msg} (i : Nat), FB w base xs ls → FB w base (xs.drop i) (ls.drop i)
  | [], [], i, _ => by simp; trivial
  | x :: xs, l :: ls, 0, h => h
  | x :: xs, l :: ls, i + 1, h => FB.drop i h.2
  | [], _ :: _, _, h => h.elim
  | _ :: _, [], _, h => h.elim
def goA (l : List Msg) (ak : Nat) : Bool := match l with
  | [] => false
  | q :: _ => decide (q.seq < ak)
section
variable {base p : Nat} {m : RM} {f : Nat → Nat} {es : ES}
set_option maxHeartbeats 1600000
end
end Go.Proofs.Ytjjgojgahibpgaa

namespace Go.Proofs.Ytjjgojgahibpgaa
open Go.RowKit Go.Proofs.Eng Go.Proofs.Codec Go.Proofs.Link
set_option linter.unusedSimpArgs false
set_option linter.unusedVariables false set_option maxRecDepth 10000
attribute [local irreducible] T TL LV TH TA
section
variable {w0 w w' : World} {base p : Nat} {m m' : EM} {r : RM} {f f' g : Nat → Nat} {es es' : ES}
theorem REndM.other (h : REndM w base p r g es) (t : Turns f f' w w') (hd : ∀ b, f b = 0 ∨ g b = 0) : REndM w' base p r g es ∧ ∀ b, f' b = 0 ∨ g b = 0 := by
  obtain ⟨⟨S, m1, s1⟩, n1, z1⟩ := t
  refine ⟨h.mod m1 (fun b hb => (hd b).resolve_left (s1 b hb)), fun b => ?_⟩
  by_cases q : f' b = 0
  · exact .inl q
  · right
    rcases n1 b q with h1 | h1
    · exact (hd b).resolve_left h1
    · by_cases y : g b = 0
      · exact y
      · have := (h.ki.old b y).2; omega
/-- An end of the program, an end of the document, apart. -/
structure PR (w0 w : World) (ba pa : Nat) (ma : EM) (fa : Nat → Nat) (ea : ES) (bb pb : Nat) (mb : RM) (fb : Nat → Nat) (eb : ES) : Prop where
  e : Ext w0 w
  A : EndM w ba pa ma fa ea
  B : REndM w bb pb mb fb eb
  dj : ∀ b, fa b = 0 ∨ fb b = 0
  ha : w0.heap.size ≤ ba
  hb : w0.heap.size ≤ bb
variable {ba pa bb pb : Nat} {ma : EM} {mb : RM} {fa fb : Nat → Nat} {ea eb : ES}
theorem PR.a (T : PR w0 w ba pa ma fa ea bb pb mb fb eb) {m' : EM} {f' : Nat → Nat} {es' : ES} (h : EndM w' ba pa m' f' es') (t : Turns fa f' w w') : PR w0 w' ba pa m' f' es' bb pb mb fb eb := by
  obtain ⟨h2, d2⟩ := T.B.other t T.dj
  exact ⟨t.ext0 T.e (fun b hb => Nat.le_trans T.ha (T.A.ki.old b hb).1), h, h2, d2, T.ha, T.hb⟩
theorem PR.b (T : PR w0 w ba pa ma fa ea bb pb mb fb eb) {m' : RM} {f' : Nat → Nat} {es' : ES} (h : REndM w' bb pb m' f' es') (t : Turns fb f' w w') : PR w0 w' ba pa ma fa ea bb pb m' f' es' := by
  obtain ⟨h2, d2⟩ := T.A.other t (fun b => (T.dj b).symm)
  exact ⟨t.ext0 T.e (fun b hb => Nat.le_trans T.hb (T.B.ki.old b hb).1), h2, h, fun b => (d2 b).symm, T.ha, T.hb⟩
theorem PR.ext (T : PR w0 w ba pa ma fa ea bb pb mb fb eb) (e : Ext w w') : PR w0 w' ba pa ma fa ea bb pb mb fb eb := ⟨T.e.ext e, T.A.ext e, T.B.ext e, T.dj, T.ha, T.hb⟩
/-- What is neither's own may turn. -/
theorem PR.mod (T : PR w0 w ba pa ma fa ea bb pb mb fb eb) {S : List Nat} (m : Eng.Mod S w w') (h0 : ∀ b ∈ S, w0.heap.size ≤ b) (h1 : ∀ b ∈ S, fa b = 0) (h2 : ∀ b ∈ S, fb b = 0) : PR w0 w' ba pa ma fa ea bb pb mb fb eb :=
  ⟨T.e.step m (fun b q => .inr (h0 b q)), T.A.mod m h1, T.B.mod m h2, T.dj, T.ha, T.hb⟩
/-- All old blocks that one of them owns. -/
def ownD (w : World) (fa fb : Nat → Nat) : List Nat := (List.range w.heap.size).filter fun b => decide (fa b ≠ 0 ∨ fb b ≠ 0)
theorem ownD_mem {fa fb : Nat → Nat} {b : Nat} (h : b ∈ ownD w fa fb) : fa b ≠ 0 ∨ fb b ≠ 0 := by
  have := (List.mem_filter.1 h).2
  simpa using this
theorem PR.off (T : PR w0 w ba pa ma fa ea bb pb mb fb eb) {A : Option Addr} (h : Lo A w0.heap.size) : Off A (ownD w fa fb) := off_of fun b q q' => by
  have h1 := Lo.blk h b q
  have h2 := T.ha
  have h3 := T.hb
  rcases ownD_mem q' with q' | q'
  · have := (T.A.ki.old b q').1; omega
  · have := (T.B.ki.old b q').1; omega
end
theorem blkS_get {xs : List SV} {j : Nat} (h : j < xs.length) {b : Nat} (hb : b ∈ blkL (xs.getD j (none, 0, 0)).1) : b ∈ blkS xs := by
  unfold blkS
  rw [List.mem_flatMap]
  refine ⟨_, ?_, hb⟩
  rw [List.getD_eq_getElem?_getD, List.getElem?_eq_getElem h]
  exact List.getElem_mem _
theorem blkS_disj : ∀ {xs : List SV} (_ : (blkS xs).Nodup) {j k : Nat} (_ : j < xs.length) (_ : k < xs.length) (_ : j ≠ k), ∀ b ∈ blkL (xs.getD j (none, 0, 0)).1, b ∉ blkL (xs.getD k (none, 0, 0)).1
  | [], _, j, k, hj, _, _ => by simp at hj
  | x :: xs, h, j, k, hj, hk, hjk => by
    rw [blkS_cons, List.nodup_append] at h
    intro b hb hb'
    cases j with
    | zero =>
      cases k with
      | zero => exact hjk rfl
      | succ k => exact h.2.2 b hb b (blkS_get (j := k) (by simpa using hk) (by simpa using hb')) rfl
    | succ j =>
      cases k with
      | zero => exact h.2.2 b hb' b (blkS_get (j := j) (by simpa using hj) (by simpa using hb)) rfl
      | succ k => exact blkS_disj h.2.1 (j := j) (k := k) (by simpa using hj) (by simpa using hk) (by omega) b (by simpa using hb) (by simpa using hb')
theorem Turns.inD {f f' : Nat → Nat} {w0 w w' : World} {D : List Nat} (t : Turns f f' w w') (m : Eng.Mod D w0 w) (hD : ∀ b, b < w0.heap.size → f b ≠ 0 → b ∈ D) : Eng.Mod D w0 w' := by
  obtain ⟨⟨S, m1, s1⟩, n1, z1⟩ := t
  refine m.step m1 (fun b hb => ?_)
  by_cases q : b < w0.heap.size
  · exact .inl (hD b q (s1 b hb))
  · exact .inr (by omega)
end Go.Proofs.Ytjjgojgahibpgaa

/- Rows of elements of one width; what of memory turns. -/
namespace Go.Proofs.Eng
open Go.RowKit
set_option linter.unusedSimpArgs false
set_option linter.unusedVariables false
set_option linter.unusedSectionVars false
def rowV {α : Type} (g : α → List Value) (l : List α) : List Value := (l.map g).flatten
section
variable {α : Type} {g : α → List Value}
theorem rowV_cons (x : α) (l : List α) : rowV g (x :: l) = g x ++ rowV g l := by simp [rowV]
theorem rowV_append (a b : List α) : rowV g (a ++ b) = rowV g a ++ rowV g b := by simp [rowV]
theorem rowV_one (h : ∀ x, ∀ u ∈ g x, u.oneCell' = true) (l : List α) : ∀ u ∈ rowV g l, u.oneCell' = true := by
  intro u hu
  unfold rowV at hu
  rw [List.mem_flatten] at hu
  obtain ⟨r, hr, hu⟩ := hu
  obtain ⟨x, _, rfl⟩ := List.mem_map.1 hr
  exact h x u hu
variable {s : Nat} (hg : ∀ x, (g x).length = s)
include hg
theorem rowV_len (l : List α) : (rowV g l).length = l.length * s := by
  induction l with
  | nil => simp [rowV]
  | cons x l ih => rw [rowV_cons, List.length_append, ih, hg, List.length_cons, Nat.succ_mul]; omega
theorem rowV_drop (l : List α) (i : Nat) : (rowV g l).drop (i * s) = rowV g (l.drop i) := by
  induction l generalizing i with
  | nil => simp [rowV]
  | cons p l ih =>
    cases i with
    | zero => simp
    | succ i =>
      rw [rowV_cons, List.drop_succ_cons, ← ih i, show (i + 1) * s = (g p).length + i * s by rw [hg, Nat.succ_mul]; omega, ← List.drop_drop, List.drop_left]
theorem rowV_take (l : List α) (i : Nat) : (rowV g l).take (i * s) = rowV g (l.take i) := by
  induction l generalizing i with
  | nil => simp [rowV]
  | cons p l ih =>
    cases i with
    | zero => simp [rowV]
    | succ i =>
      rw [rowV_cons, List.take_succ_cons, rowV_cons, ← ih i, show (i + 1) * s = (g p).length + i * s by rw [hg, Nat.succ_mul]; omega, List.take_length_add_append]
theorem rowV_elem (l : List α) (i : Nat) (d : α) (hi : i < l.length) : ((rowV g l).drop (i * s)).take s = g (l.getD i d) := by
  rw [rowV_drop hg, List.drop_eq_getElem_cons hi, rowV_cons, List.take_left' (hg _), List.getD_eq_getElem?_getD, List.getElem?_eq_getElem hi]
  rfl
theorem rowV_at (l : List α) (i j : Nat) (d : α) (hi : i < l.length) (hj : j < s) : (rowV g l)[i * s + j]? = (g (l.getD i d))[j]? := by
  have h := congrArg (fun x : List Value => x[j]?) (rowV_elem hg l i d hi)
  simp only [List.getElem?_take, List.getElem?_drop, hj, if_true] at h
  exact h
end
/-- A slice: where, how long, how much room. -/
abbrev SL := Option Addr × Nat × Nat
def sL (x : SL) : Value := .slice x.1 x.2.1 x.2.2
theorem off_ofL {A : Option Addr} {S : List Nat} (h : ∀ b ∈ blkL A, b ∉ S) : Off A S := fun ad e hm => h ad.block (by rw [e]; simp [blkL]) hm
theorem Hi.mem {A : Option Addr} {B : Nat} (h : Hi A B) : ∀ b ∈ blkL A, B ≤ b := fun b hb => by
  cases A with
  | none => simp [blkL] at hb
  | some ad => simp [blkL] at hb; rw [hb]; exact h ad rfl
theorem Lo.mem {A : Option Addr} {B : Nat} (h : Lo A B) : ∀ b ∈ blkL A, b < B := fun b hb => by
  cases A with
  | none => simp [blkL] at hb
  | some ad => simp [blkL] at hb; rw [hb]; exact h ad rfl
theorem Near.mem {A A' : Option Addr} {w : World} (h : Near A A' w) : ∀ b ∈ blkL A', b ∈ blkL A ∨ w.heap.size ≤ b := fun b hb => by
  cases A' with
  | none => simp [blkL] at hb
  | some ad =>
    simp [blkL] at hb
    rcases h ad rfl with q | q
    · rw [q]; left; simp [blkL, hb]
    · right; omega
theorem Own.modL {w w' : World} {base s : Nat} {e : TypeId} {A : Option Addr} {n c : Nat} {xs : List Value} {S : List Nat} (h : Own w base e s A n c xs) (hm : Mod S w w') (hS : ∀ b ∈ blkL A, b ∉ S) : Own w' base e s A n c xs := h.mod hm (off_ofL hS)
theorem Own.bl {w : World} {base s : Nat} {e : TypeId} {A : Option Addr} {n c : Nat} {xs : List Value} (h : Own w base e s A n c xs) : ∀ b ∈ blkL A, base ≤ b ∧ b < w.heap.size := fun b hb => ⟨Hi.mem h.hi b hb, Lo.mem h.lo b hb⟩
/-- Only what is one's own is turned ('o': whose it is, 0: nobody's); what is new to it is new. -/
def Tn (o o' : Nat → Nat) (w w' : World) : Prop := (∃ S, Mod S w w' ∧ ∀ b ∈ S, o b ≠ 0) ∧ (∀ b, o' b ≠ 0 → o b ≠ 0 ∨ w.heap.size ≤ b) ∧ w.heap.size ≤ w'.heap.size
section
variable {o o' o2 g : Nat → Nat} {w w' w2 w0 : World}
theorem Tn.refl (o : Nat → Nat) (w : World) : Tn o o w w := ⟨⟨[], Mod.refl _ _, fun b hb => by cases hb⟩, fun b hb => .inl hb, Nat.le_refl _⟩
theorem Tn.ext (e : Ext w w') : Tn o o w w' := ⟨⟨[], e, fun b hb => by cases hb⟩, fun b hb => .inl hb, e.size⟩
theorem Tn.trans (h1 : Tn o o' w w') (h2 : Tn o' o2 w' w2) : Tn o o2 w w2 := by
  obtain ⟨⟨S, m1, s1⟩, n1, z1⟩ := h1
  obtain ⟨⟨S', m2, s2⟩, n2, z2⟩ := h2
  refine ⟨⟨S ++ S'.filter (fun x => decide (x < w.heap.size)), ?_, ?_⟩, ?_, Nat.le_trans z1 z2⟩
  · refine Mod.step (m1.mono (fun x hx => .inl (List.mem_append_left _ hx))) m2 (fun x hx => ?_)
    by_cases q : x < w.heap.size
    · exact .inl (List.mem_append_right _ (List.mem_filter.2 ⟨hx, by simpa using q⟩))
    · exact .inr (by omega)
  · intro x hx
    rcases List.mem_append.1 hx with hx | hx
    · exact s1 x hx
    · obtain ⟨q1, q2⟩ := List.mem_filter.1 hx
      simp only [decide_eq_true_eq] at q2
      rcases n1 x (s2 x q1) with h | h
      · exact h
      · omega
  · intro x hx
    rcases n2 x hx with h | h
    · exact n1 x h
    · exact .inr (by omega)
theorem Tn.old (t : Tn o o' w w') {b : Nat} (hb : o b = 0) (hl : b < w.heap.size) : o' b = 0 := by
  by_cases q : o' b = 0
  · exact q
  · rcases t.2.1 b q with h | h
    · exact absurd hb h
    · omega
theorem Tn.ext0 (e : Ext w0 w) (t : Tn o o' w w') (h : ∀ b, o b ≠ 0 → w0.heap.size ≤ b) : Ext w0 w' := by
  obtain ⟨⟨S, m1, s1⟩, n1, z1⟩ := t
  exact Mod.step e m1 (fun b hb => .inr (h b (s1 b hb)))
theorem Tn.size (t : Tn o o' w w') : w.heap.size ≤ w'.heap.size := t.2.2
theorem Own.tn {base s : Nat} {e : TypeId} {A : Option Addr} {n c : Nat} {xs : List Value} (h : Own w base e s A n c xs) (t : Tn o o' w w') (h1 : ∀ b ∈ blkL A, o b = 0) : Own w' base e s A n c xs ∧ ∀ b ∈ blkL A, o' b = 0 := by
  refine ⟨?_, fun b hb => t.old (h1 b hb) (h.bl b hb).2⟩
  obtain ⟨⟨S, m1, s1⟩, n1, z1⟩ := t
  exact h.modL m1 (fun b q q' => s1 b q' (h1 b q))
theorem Tn.inD {D : List Nat} (t : Tn o o' w w') (m : Mod D w0 w) (hD : ∀ b, b < w0.heap.size → o b ≠ 0 → b ∈ D) : Mod D w0 w' := by
  obtain ⟨⟨S, m1, s1⟩, n1, z1⟩ := t
  refine m.step m1 (fun b hb => ?_)
  by_cases q : b < w0.heap.size
  · exact .inl (hD b q (s1 b hb))
  · exact .inr (by omega)
/-- All old blocks of an owner. -/
def ownB (w : World) (o : Nat → Nat) : List Nat := (List.range w.heap.size).filter fun b => decide (o b ≠ 0)
theorem ownB_mem {b : Nat} (h : b ∈ ownB w o) : o b ≠ 0 := by
  have := (List.mem_filter.1 h).2
  simpa using this
theorem ownB_in (z : w2.heap.size = w.heap.size) : ∀ b, b < w2.heap.size → o b ≠ 0 → b ∈ ownB w o := fun b h q => List.mem_filter.2 ⟨List.mem_range.2 (by omega), by simpa using q⟩
end
end Go.Proofs.Eng

/- A pair of ends, what each has let out, what each has sent. -/
namespace Go.Proofs.Ytjjgojgahibpgaa
open Go.RowKit Go.Proofs.Eng Go.Proofs.Codec Go.Proofs.Link
set_option linter.unusedSimpArgs false
set_option linter.unusedVariables false set_option maxRecDepth 10000
attribute [local irreducible] T TL LV TH TA
def upd {α : Type} (f : Nat → α) (k : Nat) (v : α) : Nat → α := fun j => if j = k then v else f j
theorem upd_at {α : Type} (f : Nat → α) (k : Nat) (v : α) : upd f k v k = v := if_pos rfl
theorem upd_ne {α : Type} (f : Nat → α) {k j : Nat} (v : α) (h : ¬ j = k) : upd f k v j = f j := if_neg h
structure PM where
  N : Nat → SV
  S : Nat → SV
  xs : Nat → List SV
  ys : Nat → List SV
  T : Nat → Nat
def pairV (pa pb : Nat) (M : PM) : List Value := [ptr pa, ptr pb, slV (M.N 0), slV (M.N 1), slV (M.S 0), slV (M.S 1), .int .i64 (M.T 0 : Int), .int .i64 (M.T 1 : Int)]
structure PairM (w0 w : World) (base pp pa pb : Nat) (M : PM) (Fr L : Nat → List Bs) (g : Nat → Nat) : Prop where
  blk : Blk w pp 56 (pairV pa pb M)
  nw : ∀ k, Own w base 23 1 (M.N k).1 (M.N k).2.1 (M.N k).2.2 (slVs (M.xs k))
  sn : ∀ k, Own w base 23 1 (M.S k).1 (M.S k).2.1 (M.S k).2.2 (slVs (M.ys k))
  fr : ∀ k i, i < (M.xs k).length → Rd w ((M.xs k).getD i (none, 0, 0)).1 ((M.xs k).getD i (none, 0, 0)).2.1 1 (bv ((Fr k).getD i []))
  fl : ∀ k, (M.xs k).length = (Fr k).length
  bd : ∀ k i, i < (M.ys k).length → Rd w0 ((M.ys k).getD i (none, 0, 0)).1 ((M.ys k).getD i (none, 0, 0)).2.1 1 (bv ((L k).getD i []))
  bl : ∀ k, (M.ys k).length = (L k).length
  gp : g pp = 1
  gN : ∀ k, ∀ b ∈ blkL (M.N k).1, g b = 3 * k + 2
  gS : ∀ k, ∀ b ∈ blkL (M.S k).1, g b = 3 * k + 3
  gF : ∀ k i, i < (M.xs k).length → ∀ b ∈ blkL ((M.xs k).getD i (none, 0, 0)).1, g b = 3 * k + 4
  old : ∀ b, g b ≠ 0 → base ≤ b ∧ b < w.heap.size
section
variable {w0 w w' : World} {base pp pa pb : Nat} {M : PM} {Fr L : Nat → List Bs} {g : Nat → Nat} {S : List Nat}
theorem PairM.mod (h : PairM w0 w base pp pa pb M Fr L g) (hm : Eng.Mod S w w') (hS : ∀ b ∈ S, g b = 0) : PairM w0 w' base pp pa pb M Fr L g :=
  have nin : ∀ b k, g b = k + 1 → b ∉ S := fun b k e q => by rw [hS b q] at e; cases e
  { h with
    blk := h.blk.mod hm (nin pp 0 h.gp)
    nw := fun k => (h.nw k).modL hm (fun b hb => nin b _ (h.gN k b hb))
    sn := fun k => (h.sn k).modL hm (fun b hb => nin b _ (h.gS k b hb))
    fr := fun k i hi => (h.fr k i hi).mod hm (off_of fun b hb => nin b _ (h.gF k i hi b hb))
    old := fun b hb => by have := h.old b hb; have := hm.size; omega }
theorem PairM.ext (h : PairM w0 w base pp pa pb M Fr L g) (e : Ext w w') : PairM w0 w' base pp pa pb M Fr L g := h.mod e (fun b hb => by cases hb)
theorem PairM.tn (h : PairM w0 w base pp pa pb M Fr L g) {o o' : Nat → Nat} (t : Tn o o' w w') (hd : ∀ b, o b = 0 ∨ g b = 0) : PairM w0 w' base pp pa pb M Fr L g ∧ ∀ b, o' b = 0 ∨ g b = 0 := by
  obtain ⟨⟨S, m1, s1⟩, n1, z1⟩ := t
  refine ⟨h.mod m1 (fun b hb => (hd b).resolve_left (s1 b hb)), fun b => ?_⟩
  by_cases q : o' b = 0
  · exact .inl q
  · right
    rcases n1 b q with h1 | h1
    · exact (hd b).resolve_left h1
    · by_cases y : g b = 0
      · exact y
      · have := (h.old b y).2; omega
theorem PairM.told (h : PairM w0 w base pp pa pb M Fr L g) {T' : Nat → Nat} (hm : Eng.Mod [pp] w w') (hb : Blk w' pp 56 (pairV pa pb { M with T := T' })) :
    PairM w0 w' base pp pa pb { M with T := T' } Fr L g ∧ Tn g g w w' := by
  have nin : ∀ b k, g b = k + 2 → b ∉ [pp] := fun b k e q => by rw [List.mem_singleton.1 q, h.gp] at e; omega
  exact ⟨{ h with
    blk := hb
    nw := fun k => (h.nw k).modL hm (fun b hb => nin b _ (h.gN k b hb))
    sn := fun k => (h.sn k).modL hm (fun b hb => nin b _ (h.gS k b hb))
    fr := fun k i hi => (h.fr k i hi).mod hm (off_of fun b hb => nin b _ (h.gF k i hi b hb))
    old := fun b hb => by have := h.old b hb; have := hm.size; omega }, ⟨[pp], hm, fun b hb => by rw [List.mem_singleton.1 hb, h.gp]; decide⟩, fun b hb => .inl hb, hm.size⟩
/-- What a row's owner is when it has grown. -/
theorem own_grow {B : Nat} {A A' : Option Addr} {z : Nat} (hz : z ≠ 0) (hA : ∀ b ∈ blkL A, g b = z) (hn : ∀ b ∈ blkL A', b ∈ blkL A ∨ B ≤ b) (hold : ∀ b, g b ≠ 0 → b < B) :
    (∀ b ∈ blkL A', updF g (blkL A') z b = z) ∧ (∀ b j, g b = j → j ≠ 0 → updF g (blkL A') z b = j) ∧ ∀ b, updF g (blkL A') z b ≠ 0 → g b ≠ 0 ∨ B ≤ b := by
  refine ⟨fun b hb => updF_in hb, fun b j e hj => ?_, fun b hb => ?_⟩
  · by_cases q : b ∈ blkL A'
    · rcases hn b q with h1 | h1
      · rw [updF_in q, ← e, hA b h1]
      · have := hold b (by omega); omega
    · rw [updF_out q, e]
  · by_cases q : b ∈ blkL A'
    · rcases hn b q with h1 | h1
      · left; rw [hA b h1]; exact hz
      · exact .inr h1
    · rw [updF_out q] at hb; exact .inl hb
/-- One more is sent. -/
theorem PairM.send (h : PairM w0 w base pp pa pb M Fr L g) (k : Nat) {x y : SV} {l : Bs} {w1 w2 w3 : World} (e1 : Ext w w1) (m2 : Eng.Mod (blkL (M.S k).1) w1 w2) (hy : Own w2 base 23 1 y.1 y.2.1 y.2.2 (slVs (M.ys k ++ [x]))) (hn : Near (M.S k).1 y.1 w1)
    (m3 : Eng.Mod [pp] w2 w3) (hb : Blk w3 pp 56 (pairV pa pb { M with S := upd M.S k y, ys := upd M.ys k (M.ys k ++ [x]) })) (hx : Rd w0 x.1 x.2.1 1 (bv l)) :
    ∃ g', PairM w0 w3 base pp pa pb { M with S := upd M.S k y, ys := upd M.ys k (M.ys k ++ [x]) } Fr (upd L k (L k ++ [l])) g' ∧ Tn g g' w w3 := by
  have z1 := e1.size
  have z2 := m2.size
  have z3 := m3.size
  have hpl := h.old pp (by rw [h.gp]; decide)
  have hn' : ∀ b ∈ blkL y.1, b ∈ blkL (M.S k).1 ∨ w.heap.size ≤ b := fun b hb => (Near.blk hn b hb).imp id (fun q => by omega)
  obtain ⟨o1, o2, o3⟩ := own_grow (g := g) (z := 3 * k + 3) (by omega) (h.gS k) hn' (fun b hb => (h.old b hb).2)
  have hS : ∀ b ∈ pp :: blkL (M.S k).1, g b = 1 ∨ g b = 3 * k + 3 := fun b hb => by
    rcases List.mem_cons.1 hb with rfl | hb
    · exact .inl h.gp
    · exact .inr (h.gS k b hb)
  have m13 : Eng.Mod (pp :: blkL (M.S k).1) w w3 := ((e1.mono (S' := pp :: blkL (M.S k).1) (by simp)).step m2 (fun b hb => .inl (List.mem_cons_of_mem _ hb))).step m3 (fun b hb => .inl (by rw [List.mem_singleton.1 hb]; exact List.mem_cons_self))
  have nin : ∀ b z, g b = z → z ≠ 1 → z ≠ 3 * k + 3 → b ∉ pp :: blkL (M.S k).1 := fun b z e a1 a2 q => by rcases hS b q with h | h <;> omega
  have hyp : ∀ b ∈ blkL y.1, b ∉ [pp] := fun b hb q => by
    rw [List.mem_singleton] at q
    rcases hn' b hb with h1 | h1
    · have := h.gS k b h1; rw [q, h.gp] at this; omega
    · omega
  have hy3 : Own w3 base 23 1 y.1 y.2.1 y.2.2 (slVs (M.ys k ++ [x])) := hy.modL m3 hyp
  refine ⟨updF g (blkL y.1) (3 * k + 3), ⟨hb, fun j => ?_, fun j => ?_, fun j i hi => ?_, h.fl, fun j i hi => ?_, fun j => ?_, o2 _ _ h.gp (by decide), fun j b hb => o2 _ _ (h.gN j b hb) (by omega), fun j b hb => ?_, fun j i hi b hb => o2 _ _ (h.gF j i hi b hb) (by omega), fun b hb => ?_⟩, ⟨_, m13, fun b hb => by rcases hS b hb with h | h <;> omega⟩, o3, by omega⟩
  · exact (h.nw j).modL m13 (fun b hb => nin b _ (h.gN j b hb) (by omega) (by omega))
  · by_cases e : j = k
    · subst e
      simp only [upd_at]
      exact hy3
    · simp only [upd_ne _ _ e]
      exact (h.sn j).modL m13 (fun b hb => nin b _ (h.gS j b hb) (by omega) (by omega))
  · exact (h.fr j i hi).mod m13 (off_of fun b hb => nin b _ (h.gF j i hi b hb) (by omega) (by omega))
  · by_cases e : j = k
    · subst e
      simp only [upd_at] at hi ⊢
      have hl := h.bl j
      by_cases q : i < (M.ys j).length
      · have e1 : (M.ys j ++ [x]).getD i (none, 0, 0) = (M.ys j).getD i (none, 0, 0) := by simp [List.getD_eq_getElem?_getD, List.getElem?_append_left q]
        have e2 : (L j ++ [l]).getD i [] = (L j).getD i [] := by simp [List.getD_eq_getElem?_getD, List.getElem?_append_left (by omega : i < (L j).length)]
        rw [e1, e2]
        exact h.bd j i q
      · simp only [List.length_append, List.length_cons, List.length_nil] at hi
        have hi' : i = (M.ys j).length := by omega
        have e1 : (M.ys j ++ [x]).getD i (none, 0, 0) = x := by subst hi'; simp [List.getD_eq_getElem?_getD]
        have e2 : (L j ++ [l]).getD i [] = l := by rw [show i = (L j).length by omega]; simp [List.getD_eq_getElem?_getD]
        rw [e1, e2]
        exact hx
    · simp only [upd_ne _ _ e] at hi ⊢
      exact h.bd j i hi
  · by_cases e : j = k
    · subst e
      simp only [upd_at, List.length_append, List.length_cons, List.length_nil, h.bl j]
    · simp only [upd_ne _ _ e]
      exact h.bl j
  · by_cases e : j = k
    · subst e
      simp only [upd_at] at hb
      exact o1 b hb
    · simp only [upd_ne _ _ e] at hb
      exact o2 _ _ (h.gS j b hb) (by omega)
  · by_cases q : b ∈ blkL y.1
    · have := hy3.bl b q; omega
    · rw [updF_out q] at hb
      have := h.old b hb; omega
/-- Frames go out. -/
theorem PairM.out (h : PairM w0 w base pp pa pb M Fr L g) (k : Nat) {zs : List SV} {fs : List Bs} {y : SV} {w1 w2 w3 : World} (e1 : Ext w w1) (m2 : Eng.Mod (blkL (M.N k).1) w1 w2) (hy : Own w2 base 23 1 y.1 y.2.1 y.2.2 (slVs (M.xs k ++ zs))) (hn : Near (M.N k).1 y.1 w1)
    (m3 : Eng.Mod [pp] w2 w3) (hb : Blk w3 pp 56 (pairV pa pb { M with N := upd M.N k y, xs := upd M.xs k (M.xs k ++ zs) })) {B : Nat} (hz : Bods w B zs fs) (hB : base ≤ B) (hg : ∀ b ∈ blkS zs, g b = 0) :
    ∃ g', PairM w0 w3 base pp pa pb { M with N := upd M.N k y, xs := upd M.xs k (M.xs k ++ zs) } (upd Fr k (Fr k ++ fs)) L g' ∧ (∀ b, g' b ≠ 0 → g b ≠ 0 ∨ w.heap.size ≤ b ∨ b ∈ blkS zs) ∧ ∃ S, Eng.Mod S w w3 ∧ ∀ b ∈ S, g b ≠ 0 := by
  have z1 := e1.size
  have z2 := m2.size
  have z3 := m3.size
  have hpl := h.old pp (by rw [h.gp]; decide)
  have hn' : ∀ b ∈ blkL y.1, b ∈ blkL (M.N k).1 ∨ w.heap.size ≤ b := fun b hb => (Near.blk hn b hb).imp id (fun q => by omega)
  obtain ⟨o1, o2, o3⟩ := own_grow (g := g) (z := 3 * k + 2) (by omega) (h.gN k) hn' (fun b hb => (h.old b hb).2)
  have hS : ∀ b ∈ pp :: blkL (M.N k).1, g b = 1 ∨ g b = 3 * k + 2 := fun b hb => by
    rcases List.mem_cons.1 hb with rfl | hb
    · exact .inl h.gp
    · exact .inr (h.gN k b hb)
  have m13 : Eng.Mod (pp :: blkL (M.N k).1) w w3 := ((e1.mono (S' := pp :: blkL (M.N k).1) (by simp)).step m2 (fun b hb => .inl (List.mem_cons_of_mem _ hb))).step m3 (fun b hb => .inl (by rw [List.mem_singleton.1 hb]; exact List.mem_cons_self))
  have nin : ∀ b z, g b = z → z ≠ 1 → z ≠ 3 * k + 2 → b ∉ pp :: blkL (M.N k).1 := fun b z e a1 a2 q => by rcases hS b q with h | h <;> omega
  have hyp : ∀ b ∈ blkL y.1, b ∉ [pp] := fun b hb q => by
    rw [List.mem_singleton] at q
    rcases hn' b hb with h1 | h1
    · have := h.gN k b h1; rw [q, h.gp] at this; omega
    · omega
  have hzl := hz.lt
  have hzy : ∀ b ∈ blkS zs, b ∉ blkL y.1 := fun b hb q => by
    rcases hn' b q with h1 | h1
    · have := h.gN k b h1; have := hg b hb; omega
    · have := (hzl b hb).2; omega
  have hy3 : Own w3 base 23 1 y.1 y.2.1 y.2.2 (slVs (M.xs k ++ zs)) := hy.modL m3 hyp
  have keep : ∀ b j, g b = j → j ≠ 0 → updF (updF g (blkL y.1) (3 * k + 2)) (blkS zs) (3 * k + 4) b = j := fun b j e hj => by
    rw [updF_out (fun q => by have := hg b q; omega)]
    exact o2 b j e hj
  have hzlen := hz.len
  refine ⟨updF (updF g (blkL y.1) (3 * k + 2)) (blkS zs) (3 * k + 4), ⟨hb, fun j => ?_, fun j => ?_, fun j i hi => ?_, fun j => ?_, h.bd, h.bl, keep _ _ h.gp (by decide), fun j b hb => ?_, fun j b hb => keep _ _ (h.gS j b hb) (by omega), fun j i hi b hb => ?_, fun b hb => ?_⟩, fun b hb => ?_, ⟨_, m13, fun b hb => by rcases hS b hb with h | h <;> omega⟩⟩
  · by_cases e : j = k
    · subst e
      simp only [upd_at]
      exact hy3
    · simp only [upd_ne _ _ e]
      exact (h.nw j).modL m13 (fun b hb => nin b _ (h.gN j b hb) (by omega) (by omega))
  · exact (h.sn j).modL m13 (fun b hb => nin b _ (h.gS j b hb) (by omega) (by omega))
  · have hold : ∀ j i, i < (M.xs j).length → Rd w3 ((M.xs j).getD i (none, 0, 0)).1 ((M.xs j).getD i (none, 0, 0)).2.1 1 (bv ((Fr j).getD i [])) := fun j i hi => (h.fr j i hi).mod m13 (off_of fun b hb => nin b _ (h.gF j i hi b hb) (by omega) (by omega))
    by_cases e : j = k
    · subst e
      simp only [upd_at] at hi ⊢
      have hl := h.fl j
      by_cases q : i < (M.xs j).length
      · have e1 : (M.xs j ++ zs).getD i (none, 0, 0) = (M.xs j).getD i (none, 0, 0) := by simp [List.getD_eq_getElem?_getD, List.getElem?_append_left q]
        have e2 : (Fr j ++ fs).getD i [] = (Fr j).getD i [] := by simp [List.getD_eq_getElem?_getD, List.getElem?_append_left (by omega : i < (Fr j).length)]
        rw [e1, e2]
        exact hold j i q
      · simp only [List.length_append] at hi
        have e1 : (M.xs j ++ zs).getD i (none, 0, 0) = zs.getD (i - (M.xs j).length) (none, 0, 0) := by simp [List.getD_eq_getElem?_getD, List.getElem?_append_right (by omega : (M.xs j).length ≤ i)]
        have e2 : (Fr j ++ fs).getD i [] = fs.getD (i - (M.xs j).length) [] := by rw [hl]; simp [List.getD_eq_getElem?_getD, List.getElem?_append_right (by omega : (Fr j).length ≤ i)]
        rw [e1, e2]
        have := Bods.get (i - (M.xs j).length) hz (by omega)
        have hin : ∀ b ∈ blkL (zs.getD (i - (M.xs j).length) (none, 0, 0)).1, b ∈ blkS zs := fun b hb => blkS_get (by omega) hb
        exact (Own.rd this).mod m13 (off_of fun b hb q => by have h1 := hg b (hin b hb); rcases hS b q with h | h <;> omega)
    · simp only [upd_ne _ _ e] at hi ⊢
      exact hold j i hi
  · by_cases e : j = k
    · subst e
      simp only [upd_at, List.length_append, h.fl j, hzlen]
    · simp only [upd_ne _ _ e]
      exact h.fl j
  · by_cases e : j = k
    · subst e
      simp only [upd_at] at hb
      rw [updF_out (fun q => hzy b q hb)]
      exact o1 b hb
    · simp only [upd_ne _ _ e] at hb
      exact keep _ _ (h.gN j b hb) (by omega)
  · by_cases e : j = k
    · subst e
      simp only [upd_at] at hi hb
      by_cases q : i < (M.xs j).length
      · rw [show (M.xs j ++ zs).getD i (none, 0, 0) = (M.xs j).getD i (none, 0, 0) by simp [List.getD_eq_getElem?_getD, List.getElem?_append_left q]] at hb
        exact keep _ _ (h.gF j i q b hb) (by omega)
      · simp only [List.length_append] at hi
        rw [show (M.xs j ++ zs).getD i (none, 0, 0) = zs.getD (i - (M.xs j).length) (none, 0, 0) by simp [List.getD_eq_getElem?_getD, List.getElem?_append_right (by omega : (M.xs j).length ≤ i)]] at hb
        exact updF_in (blkS_get (by omega) hb)
    · simp only [upd_ne _ _ e] at hi hb
      exact keep _ _ (h.gF j i hi b hb) (by omega)
  · by_cases q : b ∈ blkS zs
    · have := hzl b q; omega
    · rw [updF_out q] at hb
      by_cases q2 : b ∈ blkL y.1
      · have := hy3.bl b q2; omega
      · rw [updF_out q2] at hb
        have := h.old b hb; omega
  · by_cases q : b ∈ blkS zs
    · exact .inr (.inr q)
    · rw [updF_out q] at hb
      rcases o3 b hb with h1 | h1
      · exact .inl h1
      · exact .inr (.inl h1)
end
/-- Two ends and their pair, apart. -/
structure P3 (w0 w : World) (ba pa : Nat) (ma : EM) (fa : Nat → Nat) (ea : ES) (bb pb : Nat) (mb : EM) (fb : Nat → Nat) (eb : ES) (bp pp : Nat) (M : PM) (Fr L : Nat → List Bs) (g : Nat → Nat) : Prop where
  e : Ext w0 w
  A : EndM w ba pa ma fa ea
  B : EndM w bb pb mb fb eb
  C : PairM w0 w bp pp pa pb M Fr L g
  dj : ∀ b, fa b = 0 ∨ fb b = 0
  da : ∀ b, fa b = 0 ∨ g b = 0
  db : ∀ b, fb b = 0 ∨ g b = 0
  ha : w0.heap.size ≤ ba
  hb : w0.heap.size ≤ bb
  hp : w0.heap.size ≤ bp
section
variable {w0 w w' : World} {ba pa bb pb bp pp : Nat} {ma mb m' : EM} {fa fb f' : Nat → Nat} {ea eb es' : ES} {M : PM} {Fr L : Nat → List Bs} {g g' : Nat → Nat} {S : List Nat}
theorem P3.a (T : P3 w0 w ba pa ma fa ea bb pb mb fb eb bp pp M Fr L g) (h : EndM w' ba pa m' f' es') (t : Turns fa f' w w') : P3 w0 w' ba pa m' f' es' bb pb mb fb eb bp pp M Fr L g := by
  obtain ⟨h2, d2⟩ := T.B.other t T.dj
  obtain ⟨h3, d3⟩ := T.C.tn t T.da
  exact ⟨t.ext0 T.e (fun b hb => Nat.le_trans T.ha (T.A.ki.old b hb).1), h, h2, h3, d2, d3, T.db, T.ha, T.hb, T.hp⟩
theorem P3.b (T : P3 w0 w ba pa ma fa ea bb pb mb fb eb bp pp M Fr L g) (h : EndM w' bb pb m' f' es') (t : Turns fb f' w w') : P3 w0 w' ba pa ma fa ea bb pb m' f' es' bp pp M Fr L g := by
  obtain ⟨h2, d2⟩ := T.A.other t (fun b => (T.dj b).symm)
  obtain ⟨h3, d3⟩ := T.C.tn t T.db
  exact ⟨t.ext0 T.e (fun b hb => Nat.le_trans T.hb (T.B.ki.old b hb).1), h2, h, h3, fun b => (d2 b).symm, T.da, d3, T.ha, T.hb, T.hp⟩
theorem P3.ext (T : P3 w0 w ba pa ma fa ea bb pb mb fb eb bp pp M Fr L g) (e : Ext w w') : P3 w0 w' ba pa ma fa ea bb pb mb fb eb bp pp M Fr L g := ⟨T.e.ext e, T.A.ext e, T.B.ext e, T.C.ext e, T.dj, T.da, T.db, T.ha, T.hb, T.hp⟩
theorem P3.c (T : P3 w0 w ba pa ma fa ea bb pb mb fb eb bp pp M Fr L g) {M' : PM} {Fr' L' : Nat → List Bs} (h : PairM w0 w' bp pp pa pb M' Fr' L' g') (t : Turns g g' w w') : P3 w0 w' ba pa ma fa ea bb pb mb fb eb bp pp M' Fr' L' g' := by
  obtain ⟨h2, d2⟩ := T.A.other t (fun b => (T.da b).symm)
  obtain ⟨h3, d3⟩ := T.B.other t (fun b => (T.db b).symm)
  exact ⟨t.ext0 T.e (fun b hb => Nat.le_trans T.hp (T.C.old b hb).1), h2, h3, h, T.dj, fun b => (d2 b).symm, fun b => (d3 b).symm, T.ha, T.hb, T.hp⟩
/-- What is nobody's own may turn. -/
theorem P3.mod (T : P3 w0 w ba pa ma fa ea bb pb mb fb eb bp pp M Fr L g) (m : Eng.Mod S w w') (h0 : ∀ b ∈ S, w0.heap.size ≤ b) (h1 : ∀ b ∈ S, fa b = 0) (h2 : ∀ b ∈ S, fb b = 0) (h3 : ∀ b ∈ S, g b = 0) : P3 w0 w' ba pa ma fa ea bb pb mb fb eb bp pp M Fr L g :=
  ⟨T.e.step m (fun b q => .inr (h0 b q)), T.A.mod m h1, T.B.mod m h2, T.C.mod m h3, T.dj, T.da, T.db, T.ha, T.hb, T.hp⟩
/-- All old blocks that one of the three owns. -/
def own3 (w : World) (fa fb g : Nat → Nat) : List Nat := (List.range w.heap.size).filter fun b => decide (fa b ≠ 0 ∨ fb b ≠ 0 ∨ g b ≠ 0)
theorem own3_mem {b : Nat} (h : b ∈ own3 w fa fb g) : fa b ≠ 0 ∨ fb b ≠ 0 ∨ g b ≠ 0 := by
  have := (List.mem_filter.1 h).2
  simpa using this
theorem P3.own (T : P3 w0 w ba pa ma fa ea bb pb mb fb eb bp pp M Fr L g) {b : Nat} (h : fa b ≠ 0 ∨ fb b ≠ 0 ∨ g b ≠ 0) : w0.heap.size ≤ b := by
  have h2 := T.ha
  have h3 := T.hb
  have h4 := T.hp
  rcases h with q' | q' | q'
  · have := (T.A.ki.old b q').1; omega
  · have := (T.B.ki.old b q').1; omega
  · have := (T.C.old b q').1; omega
theorem P3.off (T : P3 w0 w ba pa ma fa ea bb pb mb fb eb bp pp M Fr L g) {A : Option Addr} (h : Lo A w0.heap.size) : Off A (own3 w fa fb g) := off_of fun b q q' => by
  have h1 := Lo.blk h b q
  have h2 := T.own (own3_mem q')
  omega
end
end Go.Proofs.Ytjjgojgahibpgaa

/- How a net lies in memory (the program's, the document's: Lay says which). -/
namespace Go.Proofs.Ytjjgojgahibpgaa
open Go.RowKit Go.Proofs.Eng Go.Proofs.Codec Go.Proofs.Link
set_option linter.unusedSimpArgs false
set_option linter.unusedVariables false set_option maxRecDepth 10000
attribute [local irreducible] T TL LV TH TA
def rowF (N : Nat) (g : Nat → Value) : List Value := (List.range N).map g
@[simp] theorem rowF_len (N : Nat) (g : Nat → Value) : (rowF N g).length = N := by simp [rowF]
theorem rowF_get {N i : Nat} (g : Nat → Value) (h : i < N) : (rowF N g)[i]? = some (g i) := by simp [rowF, h]
theorem rowF_cong {N : Nat} {g g' : Nat → Value} (h : ∀ i, i < N → g i = g' i) : rowF N g = rowF N g' := by
  unfold rowF
  exact List.map_congr_left fun i hi => h i (List.mem_range.1 hi)
theorem rowF_set (N i : Nat) (g : Nat → Value) (v : Value) : (rowF N g).set i v = rowF N (upd g i v) := by
  apply List.ext_getElem?
  intro k
  rw [List.getElem?_set]
  by_cases e : i = k
  · subst e
    rw [if_pos rfl]
    by_cases q : i < N
    · rw [if_pos (by simpa using q), rowF_get _ q, upd_at]
    · rw [if_neg (by simpa using q), List.getElem?_eq_none (by simp; omega)]
  · rw [if_neg e]
    by_cases q : k < N
    · rw [rowF_get _ q, rowF_get _ q, upd_ne _ _ (fun y => e y.symm)]
    · rw [List.getElem?_eq_none (by simp; omega), List.getElem?_eq_none (by simp; omega)]
theorem rowF_succ (N : Nat) (g : Nat → Value) : rowF (N + 1) g = rowF N g ++ [g N] := by unfold rowF; rw [List.range_succ, List.map_append]; rfl
def pkV (x : PK × SV) : List Value := [.int .i64 (x.1.fr : Int), .int .i64 (x.1.to : Int), slV x.2]
theorem pkV_len (x : PK × SV) : (pkV x).length = 3 := rfl
theorem pkV_one (x : PK × SV) : ∀ u ∈ pkV x, u.oneCell' = true := by
  intro u hu
  simp only [pkV, List.mem_cons, List.not_mem_nil, or_false] at hu
  rcases hu with rfl | rfl | rfl <;> rfl
def pk0 : PK × SV := (⟨0, 0, []⟩, (none, 0, 0))
structure NM where
  s1 : SV
  r1 : Nat → SV
  ev : Nat → Nat → Value
  s2 : SV
  r2 : Nat → SV
  s3 : SV
  y : List (PK × SV)
/-- How one end lies, the numbers of the types, how a cell says that two are parted. -/
structure Lay where
  Q : World → Nat → Nat → Nat → Value → (Nat → Nat) → ES → Prop
  pv : Bool → Value
  t1 : TypeId
  t2 : TypeId
  pt : TypeId
  nt : TypeId
  nv : SV → SV → SV → Nat → List Value
  qm : ∀ {w w' : World} {base a c : Nat} {v : Value} {f : Nat → Nat} {es : ES} {S : List Nat}, Q w base a c v f es → Eng.Mod S w w' → (∀ b ∈ S, f b = 0) → Q w' base a c v f es
  qo : ∀ {w : World} {base a c : Nat} {v : Value} {f : Nat → Nat} {es : ES}, Q w base a c v f es → ∀ b, f b ≠ 0 → base ≤ b ∧ b < w.heap.size
structure NetG (Y : Lay) (R : Nat) (w : World) (base p : Nat) (M : NM) (F : Nat → Nat → Nat → Nat) (h : Nat → Nat) (ns : NS) : Prop where
  blk : Blk w p Y.nt (Y.nv M.s1 M.s2 M.s3 ns.pat)
  o1 : Own w base Y.t1 1 M.s1.1 M.s1.2.1 M.s1.2.2 (rowF R fun a => slV (M.r1 a))
  q1 : ∀ a, a < R → Rd w (M.r1 a).1 (M.r1 a).2.1 1 (rowF ns.N (M.ev a))
  o2 : Own w base Y.t2 1 M.s2.1 M.s2.2.1 M.s2.2.2 (rowF R fun a => slV (M.r2 a))
  q2 : ∀ a, a < R → Own w base Y.pt 1 (M.r2 a).1 (M.r2 a).2.1 (M.r2 a).2.2 (rowF ns.N fun c => Y.pv (ns.P a c))
  o3 : Own w base 103 3 M.s3.1 M.s3.2.1 M.s3.2.2 (rowV pkV M.y)
  wy : ns.way = M.y.map (·.1)
  fr : ∀ x ∈ M.y, Rd w x.2.1 x.2.2.1 1 (bv x.1.b) ∧ x.2.2.1 ≤ x.2.2.2
  en : ∀ a c, a < R → c < ns.N → Y.Q w base a c (M.ev a c) (F a c) (ns.E a c)
  hp : h p = 1
  h2 : ∀ a, a < R → ∀ b ∈ blkL (M.r1 a).1, h b = 2
  h3 : ∀ a, a < R → ∀ b ∈ blkL (M.r2 a).1, h b = 3 + a
  h11 : ∀ b ∈ blkL M.s1.1, h b = 11
  h12 : ∀ b ∈ blkL M.s3.1, h b = 12
  h13 : ∀ x ∈ M.y, ∀ b ∈ blkL x.2.1, h b = 13
  h14 : ∀ b ∈ blkL M.s2.1, h b = 14
  he : ∀ a c, a < R → c < ns.N → ∀ b, F a c b ≠ 0 → h b = 15 + (a * 8 + c)
  old : ∀ b, h b ≠ 0 → base ≤ b ∧ b < w.heap.size
  rn : R ≤ 8
  nn : ns.N ≤ 8
section
variable {Y : Lay} {R : Nat} {w w' w2 w0 : World} {base p : Nat} {M : NM} {F : Nat → Nat → Nat → Nat} {h h' h0 : Nat → Nat} {ns : NS} {S : List Nat}
theorem NetG.e_mod (g : NetG Y R w base p M F h ns) (hm : Eng.Mod S w w') (hS : ∀ b ∈ S, h b < 15) {a c : Nat} (ha : a < R) (hc : c < ns.N) : Y.Q w' base a c (M.ev a c) (F a c) (ns.E a c) :=
  Y.qm (g.en a c ha hc) hm (fun b hb => by
    by_cases q : F a c b = 0
    · exact q
    · have := g.he a c ha hc b q; have := hS b hb; omega)
theorem NetG.mod (g : NetG Y R w base p M F h ns) (hm : Eng.Mod S w w') (hS : ∀ b ∈ S, h b = 0) : NetG Y R w' base p M F h ns :=
  have nin : ∀ b k, h b = k + 1 → b ∉ S := fun b k e q => by rw [hS b q] at e; cases e
  { g with
    blk := g.blk.mod hm (nin p 0 g.hp)
    o1 := g.o1.modL hm (fun b hb => nin b _ (g.h11 b hb))
    q1 := fun a ha => (g.q1 a ha).mod hm (off_of fun b hb => nin b _ (g.h2 a ha b hb))
    o2 := g.o2.modL hm (fun b hb => nin b _ (g.h14 b hb))
    q2 := fun a ha => (g.q2 a ha).modL hm (fun b hb => nin b (2 + a) (by rw [g.h3 a ha b hb]; omega))
    o3 := g.o3.modL hm (fun b hb => nin b _ (g.h12 b hb))
    fr := fun x hx => ⟨(g.fr x hx).1.mod hm (off_of fun b hb => nin b _ (g.h13 x hx b hb)), (g.fr x hx).2⟩
    en := fun a c ha hc => g.e_mod hm (fun b hb => by rw [hS b hb]; decide) ha hc
    old := fun b hb => by have := g.old b hb; have := hm.size; omega }
theorem NetG.ext (g : NetG Y R w base p M F h ns) (e : Ext w w') : NetG Y R w' base p M F h ns := g.mod e (fun b hb => by cases hb)
/-- More is owned. -/
theorem NetG.more (g : NetG Y R w base p M F h ns) (hk : ∀ b, h b ≠ 0 → h' b = h b) (ho : ∀ b, h' b ≠ 0 → base ≤ b ∧ b < w.heap.size) : NetG Y R w base p M F h' ns :=
  have kp : ∀ {b k}, h b = k + 1 → h' b = k + 1 := fun {b k} e => by rw [hk b (by omega), e]
  { g with
    hp := kp g.hp
    h2 := fun a ha b hb => kp (g.h2 a ha b hb)
    h3 := fun a ha b hb => by have := kp (k := 2 + a) (by rw [g.h3 a ha b hb]; omega : h b = 2 + a + 1); omega
    h11 := fun b hb => kp (g.h11 b hb)
    h12 := fun b hb => kp (g.h12 b hb)
    h13 := fun x hx b hb => kp (g.h13 x hx b hb)
    h14 := fun b hb => kp (g.h14 b hb)
    he := fun a c ha hc b hb => by rw [hk b (by have := g.he a c ha hc b hb; omega)]; exact g.he a c ha hc b hb
    old := ho }
theorem NetG.cong (g : NetG Y R w base p M F h ns) {E' : Nat → Nat → ES} (hE : ∀ a c, a < R → c < ns.N → E' a c = ns.E a c) : NetG Y R w base p M F h { ns with E := E' } :=
  { g with en := fun a c ha hc => by show Y.Q w base a c (M.ev a c) (F a c) (E' a c); rw [hE a c ha hc]; exact g.en a c ha hc }
theorem NetG.bw (g : NetG Y R w base p M F h ns) : base ≤ p ∧ p < w.heap.size := g.old p (by rw [g.hp]; decide)
/-- One end turns. -/
theorem NetG.end_ (g : NetG Y R w base p M F h ns) {a c : Nat} (ha : a < R) (hc : c < ns.N) {f' : Nat → Nat} {es' : ES} (hq : Y.Q w' base a c (M.ev a c) f' es') (t : Turns (F a c) f' w w') :
    ∃ h', NetG Y R w' base p M (upd2 F a c f') h' { ns with E := upd2 ns.E a c es' } ∧ Tn h h' w w' ∧ (∀ b, h b = 0 → b < w.heap.size ∨ f' b = 0 → h' b = 0) ∧ ∀ b, F a c b ≠ 0 → f' b = 0 → h' b = 0 := by
  obtain ⟨⟨S, hm, hS⟩, hn, hz⟩ := t
  have hS' : ∀ b ∈ S, h b = 15 + (a * 8 + c) := fun b hb => g.he a c ha hc b (hS b hb)
  have nin : ∀ b k, h b = k → k < 15 → b ∉ S := fun b k e hk q => by have := hS' b q; omega
  have hnn := g.nn
  have hrn := g.rn
  have hf : ∀ b, f' b ≠ 0 → h b = 15 + (a * 8 + c) ∨ w.heap.size ≤ b := fun b hb => (hn b hb).imp (g.he a c ha hc b) id
  have hh0 : ∀ b, w.heap.size ≤ b → h b = 0 := fun b hb => by
    by_cases q : h b = 0
    · exact q
    · have := (g.old b q).2; omega
  obtain ⟨h', hh'⟩ : ∃ h' : Nat → Nat, h' = fun b => if f' b ≠ 0 then 15 + (a * 8 + c) else if h b = 15 + (a * 8 + c) then 0 else h b := ⟨_, rfl⟩
  have k1 : ∀ b, f' b ≠ 0 → h' b = 15 + (a * 8 + c) := fun b hb => by rw [hh']; exact if_pos hb
  have k0 : ∀ b, f' b = 0 → h' b = if h b = 15 + (a * 8 + c) then 0 else h b := fun b q => by rw [hh']; exact if_neg (fun y => y q)
  have k2 : ∀ b, h b ≠ 0 → h b ≠ 15 + (a * 8 + c) → h' b = h b := fun b hb ht => by
    by_cases q : f' b = 0
    · rw [k0 b q, if_neg ht]
    · rw [k1 b q]
      rcases hf b q with y | y
      · exact y.symm
      · exact absurd (hh0 b y) hb
  have k3 : ∀ b, h' b ≠ 0 → h b ≠ 0 ∨ f' b ≠ 0 := fun b hb => by
    by_cases q : f' b = 0
    · left
      rw [k0 b q] at hb
      split at hb
      · exact absurd rfl hb
      · exact hb
    · exact .inr q
  have kp : ∀ {b k}, h b = k + 1 → k < 14 → h' b = k + 1 := fun {b k} e hk => by rw [k2 b (by omega) (by omega), e]
  refine ⟨h', {
    blk := g.blk.mod hm (nin p _ g.hp (by decide))
    o1 := g.o1.modL hm (fun b hb => nin b _ (g.h11 b hb) (by decide))
    q1 := fun x hx => (g.q1 x hx).mod hm (off_of fun b hb => nin b _ (g.h2 x hx b hb) (by decide))
    o2 := g.o2.modL hm (fun b hb => nin b _ (g.h14 b hb) (by decide))
    q2 := fun x hx => (g.q2 x hx).modL hm (fun b hb => nin b _ (g.h3 x hx b hb) (by omega))
    o3 := g.o3.modL hm (fun b hb => nin b _ (g.h12 b hb) (by decide))
    wy := g.wy
    fr := fun x hx => ⟨(g.fr x hx).1.mod hm (off_of fun b hb => nin b _ (g.h13 x hx b hb) (by decide)), (g.fr x hx).2⟩
    en := fun x y hx hy => ?_
    hp := kp g.hp (by decide)
    h2 := fun x hx b hb => kp (g.h2 x hx b hb) (by decide)
    h3 := fun x hx b hb => by have := kp (k := 2 + x) (by rw [g.h3 x hx b hb]; omega : h b = 2 + x + 1) (by omega); omega
    h11 := fun b hb => kp (g.h11 b hb) (by decide)
    h12 := fun b hb => kp (g.h12 b hb) (by decide)
    h13 := fun x hx b hb => kp (g.h13 x hx b hb) (by decide)
    h14 := fun b hb => kp (g.h14 b hb) (by decide)
    he := fun x y hx hy b hb => ?_
    old := fun b hb => ?_
    rn := g.rn
    nn := g.nn }, ⟨⟨S, hm, fun b hb => by rw [hS' b hb]; omega⟩, fun b hb => ?_, hz⟩, fun b hb hl => ?_, fun b hb hl => ?_⟩
  · show Y.Q w' base x y (M.ev x y) (upd2 F a c f' x y) (upd2 ns.E a c es' x y)
    by_cases e : x = a ∧ y = c
    · obtain ⟨rfl, rfl⟩ := e
      rw [upd2_at, upd2_at]
      exact hq
    · rw [upd2_ne _ _ e, upd2_ne _ _ e]
      refine Y.qm (g.en x y hx hy) hm (fun b hb => ?_)
      by_cases q : F x y b = 0
      · exact q
      · have h1 := g.he x y hx hy b q
        have h2 := hS' b hb
        simp only at hy
        exact absurd ⟨by omega, by omega⟩ e
  · by_cases e : x = a ∧ y = c
    · obtain ⟨rfl, rfl⟩ := e
      rw [upd2_at] at hb
      exact k1 b hb
    · rw [upd2_ne _ _ e] at hb
      have h1 := g.he x y hx hy b hb
      simp only at hy
      rw [k2 b (by omega) (fun y => e ⟨by omega, by omega⟩), h1]
  · rcases k3 b hb with q | q
    · have := g.old b q; omega
    · exact Y.qo hq b q
  · rcases k3 b hb with q | q
    · exact .inl q
    · rcases hf b q with y | y
      · left; omega
      · exact .inr y
  · by_cases q : h' b = 0
    · exact q
    · rcases k3 b q with y | y
      · exact absurd hb y
      · rcases hf b y with z | z
        · omega
        · rcases hl with hl | hl
          · omega
          · exact absurd hl y
  · rw [k0 b hl, if_pos (g.he a c ha hc b hb)]
/-- What is under way turns. -/
theorem NetG.wayT (g : NetG Y R w base p M F h ns) (hm : Eng.Mod S w w2) (hS : ∀ b ∈ S, h b = 1 ∨ h b = 12) {s3 : SV} {y : List (PK × SV)} (hb : Blk w2 p Y.nt (Y.nv M.s1 M.s2 s3 ns.pat))
    (ho : Own w2 base 103 3 s3.1 s3.2.1 s3.2.2 (rowV pkV y)) (hn : ∀ b ∈ blkL s3.1, b ∈ blkL M.s3.1 ∨ w.heap.size ≤ b)
    (hy : ∀ x ∈ y, x ∈ M.y ∨ (Rd w2 x.2.1 x.2.2.1 1 (bv x.1.b) ∧ x.2.2.1 ≤ x.2.2.2 ∧ ∀ b ∈ blkL x.2.1, h b = 0 ∧ base ≤ b ∧ b < w.heap.size)) (t : Tn h0 h w0 w) (hX : ∀ x ∈ y, x ∈ M.y ∨ ∀ b ∈ blkL x.2.1, w0.heap.size ≤ b) (hb0 : ∀ b, h0 b ≠ 0 → b < w0.heap.size) :
    ∃ h', NetG Y R w2 base p { M with s3 := s3, y := y } F h' { ns with way := y.map (·.1) } ∧ Tn h0 h' w0 w2 ∧ ∀ b, h b = 0 → b < w.heap.size → (∀ x ∈ y, b ∉ blkL x.2.1) → h' b = 0 := by
  have nin : ∀ b k, h b = k → k ≠ 1 → k ≠ 12 → b ∉ S := fun b k e k1 k2 q => by rcases hS b q with h | h <;> omega
  have hrn := g.rn
  have z1 := hm.size
  have hh0 : ∀ b, w.heap.size ≤ b → h b = 0 := fun b hb => by
    by_cases q : h b = 0
    · exact q
    · have := (g.old b q).2; omega
  obtain ⟨X, hXd⟩ : ∃ X, X = y.flatMap fun x => blkL x.2.1 := ⟨_, rfl⟩
  have hXm : ∀ b, b ∈ X ↔ ∃ x ∈ y, b ∈ blkL x.2.1 := fun b => by rw [hXd, List.mem_flatMap]
  have hX13 : ∀ b ∈ X, h b = 13 ∨ (h b = 0 ∧ base ≤ b ∧ b < w.heap.size) := fun b hb => by
    obtain ⟨x, hx, hbx⟩ := (hXm b).1 hb
    rcases hy x hx with q | q
    · exact .inl (g.h13 x q b hbx)
    · exact .inr (q.2.2 b hbx)
  have h12' : ∀ b ∈ blkL s3.1, h b = 12 ∨ w.heap.size ≤ b := fun b hb => (hn b hb).imp (g.h12 b) id
  obtain ⟨h', hh'⟩ : ∃ h' : Nat → Nat, h' = updF (updF h (blkL s3.1) 12) X 13 := ⟨_, rfl⟩
  have k1 : ∀ b ∈ X, h' b = 13 := fun b hb => by rw [hh']; exact updF_in hb
  have k2 : ∀ b ∈ blkL s3.1, h' b = 12 := fun b hb => by
    rw [hh', updF_out (fun q => ?_), updF_in hb]
    rcases hX13 b q with h1 | h1 <;> rcases h12' b hb with h2 | h2
    · omega
    · have := hh0 b h2; omega
    · omega
    · omega
  have k3 : ∀ b, h b ≠ 0 → h' b = h b := fun b hb => by
    by_cases q : b ∈ X
    · rw [k1 b q]
      rcases hX13 b q with h1 | h1 <;> omega
    · by_cases q2 : b ∈ blkL s3.1
      · rw [k2 b q2]
        rcases h12' b q2 with h2 | h2
        · exact h2.symm
        · exact absurd (hh0 b h2) hb
      · rw [hh', updF_out q, updF_out q2]
  have k4 : ∀ b, h' b ≠ 0 → h b ≠ 0 ∨ b ∈ X ∨ (b ∈ blkL s3.1 ∧ w.heap.size ≤ b) := fun b hb => by
    by_cases q : b ∈ X
    · exact .inr (.inl q)
    · by_cases q2 : b ∈ blkL s3.1
      · rcases h12' b q2 with h2 | h2
        · left; omega
        · exact .inr (.inr ⟨q2, h2⟩)
      · rw [hh', updF_out q, updF_out q2] at hb
        exact .inl hb
  have kp : ∀ {b k}, h b = k + 1 → h' b = k + 1 := fun {b k} e => by rw [k3 b (by omega), e]
  refine ⟨h', {
    blk := hb
    o1 := g.o1.modL hm (fun b hb => nin b _ (g.h11 b hb) (by decide) (by decide))
    q1 := fun x hx => (g.q1 x hx).mod hm (off_of fun b hb => nin b _ (g.h2 x hx b hb) (by decide) (by decide))
    o2 := g.o2.modL hm (fun b hb => nin b _ (g.h14 b hb) (by decide) (by decide))
    q2 := fun x hx => (g.q2 x hx).modL hm (fun b hb => nin b _ (g.h3 x hx b hb) (by omega) (by omega))
    o3 := ho
    wy := rfl
    fr := fun x hx => (hy x hx).elim (fun q => ⟨(g.fr x q).1.mod hm (off_of fun b hb => nin b _ (g.h13 x q b hb) (by decide) (by decide)), (g.fr x q).2⟩) (fun q => ⟨q.1, q.2.1⟩)
    en := fun x y hx hy => g.e_mod hm (fun b hb => by rcases hS b hb with q | q <;> omega) hx hy
    hp := kp g.hp
    h2 := fun x hx b hb => kp (g.h2 x hx b hb)
    h3 := fun x hx b hb => by have := kp (k := 2 + x) (by rw [g.h3 x hx b hb]; omega : h b = 2 + x + 1); omega
    h11 := fun b hb => kp (g.h11 b hb)
    h12 := k2
    h13 := fun x hx b hb => k1 b ((hXm b).2 ⟨x, hx, hb⟩)
    h14 := fun b hb => kp (g.h14 b hb)
    he := fun x y hx hy b hb => by rw [k3 b (by have := g.he x y hx hy b hb; omega)]; exact g.he x y hx hy b hb
    old := fun b hb => ?_
    rn := g.rn
    nn := g.nn }, ?_, fun b hb hl hx => ?_⟩
  · rcases k4 b hb with q | q | q
    · have := g.old b q; omega
    · rcases hX13 b q with h1 | h1
      · have := g.old b (by omega); omega
      · omega
    · have := ho.bl b q.1; omega
  · obtain ⟨⟨S0, m1, s1⟩, n1, z0⟩ := t
    refine ⟨⟨S0 ++ S.filter (fun x => decide (x < w0.heap.size)), ?_, ?_⟩, fun b hb => ?_, by omega⟩
    · refine Mod.step (m1.mono (fun x hx => .inl (List.mem_append_left _ hx))) hm (fun x hx => ?_)
      by_cases q : x < w0.heap.size
      · exact .inl (List.mem_append_right _ (List.mem_filter.2 ⟨hx, by simpa using q⟩))
      · exact .inr (by omega)
    · intro x hx
      rcases List.mem_append.1 hx with hx | hx
      · exact s1 x hx
      · obtain ⟨q1, q2⟩ := List.mem_filter.1 hx
        simp only [decide_eq_true_eq] at q2
        rcases n1 x (by rcases hS x q1 with h | h <;> omega) with h | h
        · exact h
        · omega
    · rcases k4 b hb with q | q | q
      · exact n1 b q
      · obtain ⟨x, hx, hbx⟩ := (hXm b).1 q
        rcases hX x hx with y | y
        · exact n1 b (by rw [g.h13 x y b hbx]; decide)
        · exact .inr (y b hbx)
      · exact .inr (by omega)
  · by_cases q : h' b = 0
    · exact q
    · rcases k4 b q with y | y | y
      · exact absurd hb y
      · obtain ⟨x, hx2, hbx⟩ := (hXm b).1 y
        exact absurd hbx (hx x hx2)
      · omega
/-- Who is parted turns, in one row. -/
theorem NetG.cell (g : NetG Y R w base p M F h ns) {a : Nat} (ha : a < R) {P' : Nat → Nat → Bool} (hP : ∀ x c, x ≠ a → P' x c = ns.P x c) (hm : Eng.Mod (blkL (M.r2 a).1) w w2)
    (ho : Own w2 base Y.pt 1 (M.r2 a).1 (M.r2 a).2.1 (M.r2 a).2.2 (rowF ns.N fun c => Y.pv (P' a c))) : NetG Y R w2 base p M F h { ns with P := P' } ∧ Tn h h w w2 := by
  have hrn := g.rn
  have nin : ∀ b k, h b = k → k ≠ 3 + a → b ∉ blkL (M.r2 a).1 := fun b k e k1 q => by have := g.h3 a ha b q; omega
  refine ⟨{ g with
    blk := g.blk.mod hm (nin p _ g.hp (by omega))
    o1 := g.o1.modL hm (fun b hb => nin b _ (g.h11 b hb) (by omega))
    q1 := fun x hx => (g.q1 x hx).mod hm (off_of fun b hb => nin b _ (g.h2 x hx b hb) (by omega))
    o2 := g.o2.modL hm (fun b hb => nin b _ (g.h14 b hb) (by omega))
    q2 := fun x hx => ?_
    o3 := g.o3.modL hm (fun b hb => nin b _ (g.h12 b hb) (by omega))
    fr := fun x hx => ⟨(g.fr x hx).1.mod hm (off_of fun b hb => nin b _ (g.h13 x hx b hb) (by omega)), (g.fr x hx).2⟩
    en := fun x c hx hc => g.e_mod hm (fun b hb => by rw [g.h3 a ha b hb]; omega) hx hc
    old := fun b hb => by have := g.old b hb; have := hm.size; omega }, ⟨⟨_, hm, fun b hb => by rw [g.h3 a ha b hb]; omega⟩, fun b hb => .inl hb, hm.size⟩⟩
  by_cases e : x = a
  · subst e; exact ho
  · have := (g.q2 x hx).modL hm (fun b hb => nin b _ (g.h3 x hx b hb) (by omega))
    have e2 : (rowF ns.N fun c => Y.pv (P' x c)) = rowF ns.N fun c => Y.pv (ns.P x c) := rowF_cong fun c _ => by rw [hP x c e]
    show Own w2 base Y.pt 1 _ _ _ (rowF ns.N fun c => Y.pv (P' x c))
    rw [e2]
    exact this
end
/-- The program's. -/
def QP (w : World) (base a c : Nat) (v : Value) (f : Nat → Nat) (es : ES) : Prop := if a = c then v = .pointer none ∧ (∀ b, f b = 0) ∧ ∃ W P, es = nE W P else ∃ bs p m, base ≤ bs ∧ v = ptr p ∧ EndM w bs p m f es
def LayP : Lay where
  Q := QP
  pv := fun b => .int .i64 (if b then 1 else 0)
  t1 := 133
  t2 := 105
  pt := 3
  nt := 132
  nv := fun s1 s2 s3 pat => [.int .i64 (pat : Int), slV s1, slV s2, slV s3]
  qm := fun {w w' base a c v f es S} h hm hS => by
    unfold QP at h ⊢
    split
    · rename_i e; rw [if_pos e] at h; exact h
    · rename_i e; rw [if_neg e] at h
      obtain ⟨bs, p, m, h1, h2, h3⟩ := h
      exact ⟨bs, p, m, h1, h2, h3.mod hm hS⟩
  qo := fun {w base a c v f es} h b hb => by
    unfold QP at h
    split at h
    · exact absurd (h.2.1 b) hb
    · obtain ⟨bs, p, m, h1, h2, h3⟩ := h
      have := h3.ki.old b hb
      omega
/-- The document's. -/
def QR (w : World) (base a c : Nat) (v : Value) (f : Nat → Nat) (es : ES) : Prop := ∃ bs p m, base ≤ bs ∧ v = ptr p ∧ REndM w bs p m f es
def LayR : Lay where
  Q := QR
  pv := fun b => .bool b
  t1 := 136
  t2 := 137
  pt := 4
  nt := 101
  nv := fun s1 s2 s3 pat => [slV s1, slV s2, slV s3, .int .i64 (pat : Int)]
  qm := fun {w w' base a c v f es S} h hm hS => by
    obtain ⟨bs, p, m, h1, h2, h3⟩ := h
    exact ⟨bs, p, m, h1, h2, h3.mod hm hS⟩
  qo := fun {w base a c v f es} h b hb => by
    obtain ⟨bs, p, m, h1, h2, h3⟩ := h
    have := h3.ki.old b hb
    omega
end Go.Proofs.Ytjjgojgahibpgaa

/- A net on which nobody is parted any more: all of it comes, within the rounds. -/
namespace Go.Proofs.Ytjjgojgahibpgaa
open Go.Proofs.Eng Go.Proofs.Codec Go.Proofs.Link
set_option linter.unusedSimpArgs false
set_option linter.unusedVariables false
def sm (g : Nat → Nat) : Nat → Nat
  | 0 => 0
  | k + 1 => sm g k + g k
theorem sm_le {g h : Nat → Nat} : ∀ n, (∀ i, i < n → g i ≤ h i) → sm g n ≤ sm h n
  | 0, _ => Nat.le_refl _
  | n + 1, q => by
    have h1 := sm_le n (fun i hi => q i (by omega))
    have h2 := q n (by omega)
    unfold sm
    omega
theorem sm_eq {g h : Nat → Nat} (n : Nat) (q : ∀ i, i < n → g i = h i) : sm g n = sm h n := Nat.le_antisymm (sm_le n fun i hi => Nat.le_of_eq (q i hi)) (sm_le n fun i hi => Nat.le_of_eq (q i hi).symm)
theorem sm_lt {g h : Nat → Nat} : ∀ n {i}, i < n → (∀ j, j < n → g j ≤ h j) → g i < h i → sm g n < sm h n
  | 0, i, hi, _, _ => by omega
  | n + 1, i, hi, q, hl => by
    have h1 := sm_le n (fun i hi => q i (by omega) : ∀ i, i < n → g i ≤ h i)
    have h2 := q n (by omega)
    unfold sm
    by_cases e : i = n
    · subst e; omega
    · have := sm_lt n (i := i) (by omega) (fun j hj => q j (by omega)) hl
      omega
theorem sm_at {g : Nat → Nat} : ∀ n {i}, i < n → g i ≤ sm g n
  | 0, i, hi => by omega
  | n + 1, i, hi => by
    unfold sm
    by_cases e : i = n
    · subst e; omega
    · have := sm_at (g := g) n (i := i) (by omega)
      omega
theorem sm_one {g h : Nat → Nat} {a : Nat} (ha : h a ≤ g a + 1) (ho : ∀ i, i ≠ a → h i = g i) : ∀ n, sm h n ≤ sm g n + 1 ∧ (n ≤ a → sm h n = sm g n)
  | 0 => ⟨Nat.zero_le _, fun _ => rfl⟩
  | n + 1 => by
    obtain ⟨h1, h2⟩ := sm_one ha ho n
    unfold sm
    by_cases e : n = a
    · subst e
      have := h2 (Nat.le_refl _)
      exact ⟨by omega, fun q => by omega⟩
    · have := ho n e
      exact ⟨by omega, fun q => by have := h2 (by omega); omega⟩
theorem sm_mul (g : Nat → Nat) (c : Nat) : ∀ n, (∀ i, i < n → g i ≤ c) → sm g n ≤ n * c
  | 0, _ => by simp [sm]
  | n + 1, q => by
    have h1 := sm_mul g c n (fun i hi => q i (by omega))
    have h2 := q n (by omega)
    unfold sm
    rw [Nat.succ_mul]
    omega
theorem sm_add (g h : Nat → Nat) : ∀ n, sm (fun i => g i + h i) n = sm g n + sm h n
  | 0 => rfl
  | n + 1 => by
    have := sm_add g h n
    unfold sm
    omega
def s2 (N : Nat) (g : Nat → Nat → Nat) : Nat := sm (fun a => sm (g a) N) N
theorem s2_le {N : Nat} {g h : Nat → Nat → Nat} (q : ∀ a c, a < N → c < N → g a c ≤ h a c) : s2 N g ≤ s2 N h := sm_le N fun a ha => sm_le N fun c hc => q a c ha hc
theorem s2_lt {N : Nat} {g h : Nat → Nat → Nat} (q : ∀ a c, a < N → c < N → g a c ≤ h a c) {a c : Nat} (ha : a < N) (hc : c < N) (hl : g a c < h a c) : s2 N g < s2 N h :=
  sm_lt N ha (fun j hj => sm_le N fun c hc => q j c hj hc) (sm_lt N hc (fun j hj => q a j ha hj) hl)
theorem s2_at {N : Nat} {g : Nat → Nat → Nat} {a c : Nat} (ha : a < N) (hc : c < N) : g a c ≤ s2 N g := Nat.le_trans (sm_at N hc) (sm_at (g := fun a => sm (g a) N) N ha)
def rE (es : ES) : Nat := es.new.length + es.fly.length
theorem restR_sm (ns : NS) (a : Nat) : ∀ k, restR ns a k = sm (fun c => rE (ns.E a c)) k
  | 0 => rfl
  | k + 1 => by
    unfold restR sm
    rw [restR_sm ns a k]
    rfl
theorem restA_sm (ns : NS) : ∀ k, restA ns k = sm (fun a => sm (fun c => rE (ns.E a c)) ns.N) k
  | 0 => rfl
  | k + 1 => by
    unfold restA sm
    rw [restA_sm ns k, restR_sm]
theorem restN_s2 (ns : NS) : restN ns = s2 ns.N fun a c => rE (ns.E a c) := restA_sm ns ns.N
theorem fill_rE : ∀ (f : Nat) (s : ES), rE (fillE f s) = rE s
  | 0, s => rfl
  | f + 1, s => by
    rw [fillE_succ]
    split
    · cases hn : s.new with
      | nil => rfl
      | cons b t =>
        simp only
        rw [fill_rE f]
        simp only [rE, hn, List.length_append, List.length_cons, List.length_nil]
        omega
    · rfl
theorem out_rE (s : ES) : rE (outE s).1 = rE s := by
  rw [← fill_rE s.new.length s]
  show (fillE s.new.length s).new.length + ((fillE s.new.length s).fly.map undue).length = _
  rw [List.length_map]
  rfl
theorem out_len (s : ES) : (outE s).2.length ≤ rE s + 1 := by
  have h := fill_rE s.new.length s
  unfold outE
  simp only
  split
  · simp
  · unfold dueB
    rw [List.length_map]
    have := List.length_filter_le (·.due) (fillE s.new.length s).fly
    unfold rE at h ⊢
    omega
theorem tick_rE (s : ES) : rE (tickE s) = rE s := by unfold rE tickE; rw [List.length_map]
theorem next_rE (s : ES) : rE (nextE s).1 = rE s := by unfold nextE; cases s.come <;> rfl
theorem recv_rE (s : ES) (b : Bs) : rE (recvE s b).1 ≤ rE s := by
  have hk : ∀ k, rE (ackE s k) ≤ rE s := fun k => by
    have : (ackE s k).fly.length ≤ s.fly.length := List.length_filter_le _ _
    have h2 : (ackE s k).new = s.new := rfl
    unfold rE
    rw [h2]
    omega
  have hd : ∀ (e : ES) q b, rE (dataE e q b) = rE e := fun e q b => by
    obtain ⟨k1, k2, k3, -⟩ := data_keeps e q b
    unfold rE
    rw [k2, k3]
  unfold recvE
  simp only
  split
  · exact Nat.le_refl _
  · split
    · exact Nat.le_refl _
    · split
      · exact Nat.le_refl _
      · split
        · exact hk _
        · simp only [hd]; exact hk _
theorem recvs_rE (l : List Bs) : ∀ s : ES, rE (recvs s l) ≤ rE s := by
  induction l with
  | nil => intro s; exact Nat.le_refl _
  | cons x l ih => intro s; exact Nat.le_trans (ih _) (recv_rE s x)
theorem send_rE (s : ES) (b : Bs) : rE (sendE s b).1 ≤ rE s + 1 := by
  unfold sendE
  split
  · exact Nat.le_succ _
  · split
    · exact Nat.le_succ _
    · simp only [rE, List.length_append, List.length_cons, List.length_nil]; omega
/-! ## All that is under way comes -/
theorem recvs_cons (s : ES) (x : Bs) (l : List Bs) : recvs s (x :: l) = recvs (recvE s x).1 l := rfl
theorem fra_cons (p : PK) (t : List PK) (a c : Nat) : fra (p :: t) a c = if p.fr = a ∧ p.to = c then p.b :: fra t a c else fra t a c := by
  unfold fra
  by_cases h : p.fr = a ∧ p.to = c
  · rw [List.filter_cons_of_pos (by simpa using h), List.map_cons, if_pos h]
  · rw [List.filter_cons_of_neg (by simpa using h), if_neg h]
theorem delR_all : ∀ (way : List PK) (ns : NS), ns.way = way → (delR way.length ns).way = [] ∧ ∀ x y, (delR way.length ns).E x y = recvs (ns.E x y) (fra way y x)
  | [], ns, h => ⟨h, fun x y => rfl⟩
  | p :: t, ns, h => by
    have h1 : delN ns 0 = ({ ns with E := upd2 ns.E p.to p.fr (recvE (ns.E p.to p.fr) p.b).1, way := t }, (recvE (ns.E p.to p.fr) p.b).2) := by
      unfold delN
      rw [h]
      rfl
    obtain ⟨g1, g2⟩ := delR_all t (delN ns 0).1 (by rw [h1])
    rw [List.length_cons]
    refine ⟨g1, fun x y => ?_⟩
    show (delR t.length (delN ns 0).1).E x y = _
    rw [g2, h1, fra_cons]
    simp only
    by_cases e : x = p.to ∧ y = p.fr
    · obtain ⟨rfl, rfl⟩ := e
      rw [upd2_at, if_pos ⟨rfl, rfl⟩, recvs_cons]
    · rw [upd2_ne _ _ e, if_neg (fun q => e ⟨q.2.symm, q.1.symm⟩)]
/-! ## All that is let out is under way -/
theorem tickR_E : ∀ (k : Nat) (ns : NS) (x y : Nat), (tickR k ns).E x y = ticks k (ns.E x y)
  | 0, _, _, _ => rfl
  | k + 1, ns, x, y => by
    show tickE ((tickR k ns).E x y) = tickE (ticks k (ns.E x y))
    rw [tickR_E k]
def olen (ns : NS) (a c : Nat) : Nat := (outE (ns.E a c)).2.length
theorem letK_E (a : Nat) : ∀ (k : Nat) (ns : NS) (x y : Nat), (letK a k ns).E x y = if x = a ∧ y < k then (outE (ns.E x y)).1 else ns.E x y
  | 0, ns, x, y => by rw [if_neg (fun q => by omega)]; rfl
  | k + 1, ns, x, y => by
    show upd2 (letK a k ns).E a k (outE ((letK a k ns).E a k)).1 x y = _
    by_cases e : x = a ∧ y = k
    · obtain ⟨rfl, rfl⟩ := e
      rw [upd2_at, letK_E x y, if_neg (fun q => by omega), if_pos ⟨rfl, by omega⟩]
    · rw [upd2_ne _ _ e, letK_E a k]
      by_cases e2 : x = a ∧ y < k
      · rw [if_pos e2, if_pos ⟨e2.1, by omega⟩]
      · rw [if_neg e2, if_neg (fun q => e2 ⟨q.1, by have := q.2; have : y ≠ k := fun z => e ⟨q.1, z⟩; omega⟩)]
theorem letK_way (a : Nat) {N : Nat} : ∀ (k : Nat) (ns : NS), k ≤ N → (∀ c, c < N → ns.P a c = true → (outE (ns.E a c)).2 = []) → ns.way.length + sm (olen ns a) k ≤ 4096 →
    (letK a k ns).way.length = ns.way.length + sm (olen ns a) k ∧ ∀ x y, fra (letK a k ns).way x y = fra ns.way x y ++ (if x = a ∧ y < k then (outE (ns.E a y)).2 else [])
  | 0, ns, _, _, _ => ⟨rfl, fun x y => by rw [if_neg (fun q => by omega), List.append_nil]; rfl⟩
  | k + 1, ns, hk, hP, hb => by
    have hs : sm (olen ns a) (k + 1) = sm (olen ns a) k + olen ns a k := rfl
    have ho : olen ns a k = (outE (ns.E a k)).2.length := rfl
    obtain ⟨h1, h2⟩ := letK_way a k ns (by omega) hP (by omega)
    have hE : (letK a k ns).E a k = ns.E a k := by rw [letK_E, if_neg (fun q => by omega)]
    have hPk : (letK a k ns).P = ns.P := (letK_N a k ns).2.2.2
    have hw : (letK a (k + 1) ns).way = (letK a k ns).way ++ (outE (ns.E a k)).2.map (PK.mk a k) := by
      show (if (letK a k ns).P a k then (letK a k ns).way else ((outE ((letK a k ns).E a k)).2.map (PK.mk a k)).foldl capA (letK a k ns).way) = _
      rw [hE, hPk]
      split
      · rename_i q
        rw [hP k (by omega) q]
        simp
      · obtain ⟨j, -, -, h5⟩ := cap_fold ((outE (ns.E a k)).2.map (PK.mk a k)) (letK a k ns).way
        refine h5 ?_
        rw [List.length_map, h1]
        omega
    rw [hw]
    refine ⟨by rw [List.length_append, h1, List.length_map, hs]; omega, fun x y => ?_⟩
    rw [fra_append, h2, List.append_assoc]
    congr 1
    by_cases e : x = a ∧ y = k
    · obtain ⟨rfl, rfl⟩ := e
      rw [fra_mk, if_neg (fun q => by omega), if_pos ⟨rfl, by omega⟩, List.nil_append]
    · rw [fra_mk_ne _ _ _ _ _ e, List.append_nil]
      by_cases e2 : x = a ∧ y < k
      · rw [if_pos e2, if_pos ⟨e2.1, by omega⟩]
      · rw [if_neg e2, if_neg (fun q => e2 ⟨q.1, by have := q.2; have : y ≠ k := fun z => e ⟨q.1, z⟩; omega⟩)]
theorem letR_E {N : Nat} : ∀ (k : Nat) (ns : NS), ns.N = N → ∀ (x y : Nat), (letR k ns).E x y = if x < k ∧ y < N then (outE (ns.E x y)).1 else ns.E x y
  | 0, ns, _, x, y => by rw [if_neg (fun q => by omega)]; rfl
  | k + 1, ns, hN, x, y => by
    show (letK k ns.N (letR k ns)).E x y = _
    rw [letK_E, hN, letR_E k ns hN]
    by_cases e : x = k ∧ y < N
    · rw [if_pos e, if_neg (fun q => by omega), if_pos ⟨by omega, e.2⟩]
    · rw [if_neg e]
      by_cases e2 : x < k ∧ y < N
      · rw [if_pos e2, if_pos ⟨by omega, e2.2⟩]
      · rw [if_neg e2, if_neg (fun q => e2 ⟨by have := q.1; have : x ≠ k := fun z => e ⟨z, q.2⟩; omega, q.2⟩)]
theorem letR_way {N : Nat} : ∀ (k : Nat) (ns : NS), ns.N = N → k ≤ N → (∀ a c, a < N → c < N → ns.P a c = true → (outE (ns.E a c)).2 = []) → ns.way.length + sm (fun a => sm (olen ns a) N) k ≤ 4096 →
    (letR k ns).way.length = ns.way.length + sm (fun a => sm (olen ns a) N) k ∧ ∀ x y, fra (letR k ns).way x y = fra ns.way x y ++ (if x < k ∧ y < N then (outE (ns.E x y)).2 else [])
  | 0, ns, _, _, _, _ => ⟨rfl, fun x y => by rw [if_neg (fun q => by omega), List.append_nil]; rfl⟩
  | k + 1, ns, hN, hk, hP, hb => by
    have hs : sm (fun a => sm (olen ns a) N) (k + 1) = sm (fun a => sm (olen ns a) N) k + sm (olen ns k) N := rfl
    obtain ⟨h1, h2⟩ := letR_way k ns hN (by omega) hP (by omega)
    have hE : ∀ c, (letR k ns).E k c = ns.E k c := fun c => by rw [letR_E k ns hN, if_neg (fun q => by omega)]
    have hPk : (letR k ns).P = ns.P := (letR_N k ns).2.2.2
    have ho : olen (letR k ns) k = olen ns k := by funext c; unfold olen; rw [hE]
    obtain ⟨g1, g2⟩ := letK_way k (N := N) N (letR k ns) (Nat.le_refl _) (fun c hc q => by rw [hPk] at q; rw [hE]; exact hP k c (by omega) hc q) (by rw [ho, h1]; omega)
    have hL : letR (k + 1) ns = letK k N (letR k ns) := by rw [← hN]; rfl
    rw [hL]
    refine ⟨by rw [g1, ho, h1, hs]; omega, fun x y => ?_⟩
    rw [g2, h2, hE, List.append_assoc]
    congr 1
    by_cases e : x = k ∧ y < N
    · obtain ⟨rfl, hy⟩ := e
      rw [if_neg (fun q => Nat.lt_irrefl _ q.1), if_pos ⟨rfl, hy⟩, if_pos ⟨Nat.lt_succ_self _, hy⟩, List.nil_append]
    · rw [if_neg e, List.append_nil]
      by_cases e2 : x < k ∧ y < N
      · rw [if_pos e2, if_pos ⟨by omega, e2.2⟩]
      · rw [if_neg e2, if_neg (fun q => e2 ⟨by have := q.1; have : x ≠ k := fun z => e ⟨z, q.2⟩; omega, q.2⟩)]
/-! ## A round -/
section
variable {k : Nat} {ns : NS} {L : LL} {T : Nat → Nat → Nat}
theorem ticks_rE (k : Nat) (s : ES) : rE (ticks k s) = rE s := by
  induction k with
  | zero => rfl
  | succ k ih => show rE (tickE (ticks k s)) = _; rw [tick_rE, ih]
theorem round_way (ns : NS) : (roundN ns).way = [] := (delR_all _ _ rfl).1
theorem round_rE (ns : NS) (x y : Nat) : rE ((roundN ns).E x y) ≤ rE (ns.E x y) := by
  unfold roundN
  rw [(delR_all _ _ rfl).2]
  refine Nat.le_trans (recvs_rE _ _) ?_
  unfold sentN
  rw [letR_E ns.N (tickR ns.pat ns) (tickR_N ns.pat ns).1, tickR_E]
  split
  · rw [out_rE, ticks_rE]; exact Nat.le_refl _
  · rw [ticks_rE]; exact Nat.le_refl _
theorem round_rest (ns : NS) : restN (roundN ns) ≤ restN ns := by
  rw [restN_s2, restN_s2, (roundN_N ns).1]
  exact s2_le fun a c _ _ => round_rE ns a c
theorem s2_const (N c : Nat) (hN : N ≤ 8) : s2 N (fun _ _ => c) ≤ 64 * c := by
  have h1 := sm_mul (fun _ : Nat => sm (fun _ => c) N) (N * c) N (fun i _ => sm_mul (fun _ => c) c N (fun _ _ => Nat.le_refl _))
  have h2 := Nat.mul_le_mul_right c hN
  have h3 := Nat.mul_le_mul hN h2
  exact Nat.le_trans h1 (Nat.le_trans h3 (by omega))
theorem s2_add (N : Nat) (g h : Nat → Nat → Nat) : s2 N (fun a c => g a c + h a c) = s2 N g + s2 N h := by
  unfold s2
  rw [← sm_add]
  exact sm_eq N fun a _ => sm_add (g a) (h a) N
/-- Nothing is lost: what each end then has. -/
theorem round_E (h : NI k ns L T) (hw : ns.way = []) (hr : restN ns ≤ 400) (hP : ∀ a c, a < ns.N → c < ns.N → a ≠ c → ns.P a c = false) {x y : Nat} (hx : x < ns.N) (hy : y < ns.N) :
    (roundN ns).E x y = recvs (outE (ticks ns.pat (ns.E x y))).1 (outE (ticks ns.pat (ns.E y x))).2 := by
  have hT := tickR_N ns.pat ns
  have hI := h.tickR ns.pat
  have hrT : s2 ns.N (fun a c => rE ((tickR ns.pat ns).E a c)) ≤ 400 := by
    rw [restN_s2] at hr
    refine Nat.le_trans (s2_le fun a c _ _ => ?_) hr
    rw [tickR_E, ticks_rE]
    exact Nat.le_refl _
  have hb : s2 ns.N (olen (tickR ns.pat ns)) ≤ 464 := by
    have h1 : s2 ns.N (olen (tickR ns.pat ns)) ≤ s2 ns.N (fun a c => rE ((tickR ns.pat ns).E a c) + 1) := s2_le fun a c _ _ => out_len _
    rw [s2_add] at h1
    have h2 := s2_const ns.N 1 h.n2.2
    omega
  obtain ⟨-, g2⟩ := letR_way ns.N (tickR ns.pat ns) hT.1 (Nat.le_refl _) (fun a c ha hc q => by
    by_cases e : a = c
    · subst e
      have := hI.dg a (by rw [hT.1]; exact ha)
      rw [this, nE_out]
    · rw [hT.2.2.2.1, hP a c ha hc e] at q
      cases q) (by
    rw [hT.2.2.2.2, hw]
    unfold s2 at hb
    simp only [List.length_nil]
    omega)
  unfold roundN
  rw [(delR_all _ _ rfl).2]
  unfold sentN
  rw [letR_E ns.N (tickR ns.pat ns) hT.1, if_pos ⟨hx, hy⟩, g2, if_pos ⟨hy, hx⟩, hT.2.2.2.2, hw, tickR_E, tickR_E]
  rfl
/-- What holds behind a round in which nothing is lost. -/
def QE (a b : ES) : Prop := b.exp = a.next ∧ (a.fly ≠ [] → b.owed = true)
def pE (a : ES) : Nat := 2 * a.new.length + a.fly.length
theorem len0 {α β : Type} {l : List α} {l' : List β} (e : l.length = l'.length) : l = [] ↔ l' = [] := by
  constructor
  · intro q; rw [q] at e; exact List.eq_nil_of_length_eq_zero e.symm
  · intro q; rw [q] at e; exact List.eq_nil_of_length_eq_zero e
theorem fill_add (f : Nat) (s : ES) : ∃ x : List Msg, (fillE f s).fly = s.fly ++ x ∧ s.new.length = (fillE f s).new.length + x.length ∧ ∀ m ∈ x, s.next ≤ m.seq := by
  induction f generalizing s with
  | zero => exact ⟨[], by simp [fillE], by simp [fillE], fun m hm => by cases hm⟩
  | succ f ih =>
    rw [fillE_succ]
    split
    · cases hn : s.new with
      | nil => exact ⟨[], by simp, by simp [hn], fun m hm => by cases hm⟩
      | cons b t =>
        obtain ⟨x, h1, h2, h3⟩ := ih { s with fly := s.fly ++ [⟨s.next, b, 0, true⟩], new := t, next := s.next + 1 }
        refine ⟨⟨s.next, b, 0, true⟩ :: x, by simp only; rw [h1]; simp, by simp only [List.length_cons] at h2 ⊢; omega, fun m hm => ?_⟩
        rcases List.mem_cons.1 hm with rfl | hm
        · exact Nat.le_refl _
        · have := h3 m hm
          simp only at this
          omega
    · exact ⟨[], by simp, by simp, fun m hm => by cases hm⟩
theorem pair_round {W P : Nat} {L M : List Bs} {T U : Nat} {F G : List Bs} {a b : ES} (hP : 1 ≤ P) (hW : 1 ≤ W ∧ W ≤ 256) (h : Meet W P W P L M T U F G a b) :
    QE (recvs (outE (ticks P a)).1 (outE (ticks P b)).2) (recvs (outE (ticks P b)).1 (outE (ticks P a)).2) ∧
      (QE a b → pE (recvs (outE (ticks P a)).1 (outE (ticks P b)).2) ≤ pE a ∧ (0 < pE a → pE (recvs (outE (ticks P a)).1 (outE (ticks P b)).2) < pE a)) := by
  have h1 := h.ticks hP P
  have hda := ticks_due (P := P) h.wa.pa (fun q hq => (h.wa.fb q hq).2.2)
  have h2 := (h1.swap.ticks hP P).swap
  have hdb := ticks_due (P := P) h.wb.pa (fun q hq => (h.wb.fb q hq).2.2)
  obtain ⟨ta1, ta2, ta3, ta4, ta5, ta6, ta7⟩ := ticks_same P a
  obtain ⟨tb1, tb2, tb3, tb4, tb5, tb6, tb7⟩ := ticks_same P b
  have hwa := h2.wa.wi
  have hsb : ∀ m ∈ (ticks P a).fly, m.seq < (ticks P a).next := fun m hm => (h2.wa.fb m hm).2.1
  generalize ticks P a = a1 at h1 hda h2 ta1 ta2 ta3 ta4 ta5 ta6 ta7 hwa hsb
  generalize ticks P b = b1 at h2 hdb tb1 tb2 tb3 tb4 tb5 tb6 tb7
  obtain ⟨g1, x1, n1, m1, f1, o1, s1⟩ := half hP hW ((h2.swap.out hP).swap) hda
  obtain ⟨g2, x2, n2, m2, f2, o2, s2⟩ := half hP hW ((h2.out hP).swap) hdb
  have hae := len0 ta7
  refine ⟨⟨by rw [x1, m2], fun q => o1 (fun z => q ?_)⟩, fun hq => ?_⟩
  · rw [f2, z]
    split <;> rfl
  obtain ⟨x, hx1, hx2, hx3⟩ := fill_add a1.new.length a1
  have hfl : (outE a1).1.fly = (a1.fly ++ x).map undue := by rw [← hx1]; rfl
  have hnew : (outE a1).1.new.length = a.new.length - x.length := by
    show (fillE a1.new.length a1).new.length = _
    rw [← ta2]
    omega
  have hxn : x.length ≤ a.new.length := by rw [← ta2]; omega
  have hlen : (recvs (outE a1).1 (outE b1).2).fly.length ≤ x.length := by
    by_cases z : a1.fly = []
    · have : (outE a1).1.fly.length = x.length := by rw [hfl, z]; simp
      rw [f2]
      split
      · omega
      · have h3 := List.length_filter_le (fun m : Msg => !decide (m.seq < b1.exp)) (outE a1).1.fly
        unfold ackF
        omega
    · have how : b1.owed = true := by rw [tb4]; exact hq.2 (fun y => z (hae.2 y))
      rw [f2, if_neg (s2 (.inr how)), hfl, List.map_append]
      have hbx : b1.exp = a1.next := by rw [tb3, hq.1, ta1]
      have : ackF b1.exp (a1.fly.map undue) = [] := ackF_all (fun m hm => by
        obtain ⟨m', hm', rfl⟩ := List.mem_map.1 hm
        rw [hbx]
        exact hsb m' hm')
      unfold ackF at this ⊢
      rw [List.filter_append, this, List.nil_append]
      have h3 := List.length_filter_le (fun m : Msg => !decide (m.seq < b1.exp)) (x.map undue)
      rw [List.length_map] at h3
      exact h3
  have hn2 : (recvs (outE a1).1 (outE b1).2).new.length = a.new.length - x.length := by rw [n2]; exact hnew
  unfold pE
  refine ⟨by omega, fun hp => ?_⟩
  by_cases z : a.fly = []
  · have hz : a1.fly = [] := hae.2 z
    have hne : a1.new ≠ [] := fun y => by
      rw [ta2] at y
      rw [z, y] at hp
      simp at hp
    have hW1 := (fill_less (s := a1) (by omega) hz hne).1
    have h0 : a.fly.length = 0 := by rw [z]; rfl
    omega
  · have : 0 < a.fly.length := List.length_pos_iff.2 z
    omega
def QN (ns : NS) : Prop := ∀ a c, a < ns.N → c < ns.N → a ≠ c → QE (ns.E a c) (ns.E c a)
def potN (ns : NS) : Nat := s2 ns.N fun a c => pE (ns.E a c)
theorem pE_r (s : ES) : rE s ≤ pE s ∧ pE s ≤ 2 * rE s := by unfold rE pE; omega
theorem pot_r (ns : NS) : restN ns ≤ potN ns ∧ potN ns ≤ 2 * restN ns := by
  rw [restN_s2]
  refine ⟨s2_le fun a c _ _ => (pE_r _).1, ?_⟩
  have : s2 ns.N (fun a c => rE (ns.E a c) + rE (ns.E a c)) = s2 ns.N (fun a c => rE (ns.E a c)) + s2 ns.N (fun a c => rE (ns.E a c)) := s2_add _ _ _
  have h2 : potN ns ≤ s2 ns.N (fun a c => rE (ns.E a c) + rE (ns.E a c)) := s2_le fun a c _ _ => by have := (pE_r (ns.E a c)).2; omega
  omega
theorem s2_pos {N : Nat} {g : Nat → Nat → Nat} (h : 0 < s2 N g) : ∃ a c, a < N ∧ c < N ∧ 0 < g a c := by
  have sp : ∀ (g : Nat → Nat) (n : Nat), 0 < sm g n → ∃ i, i < n ∧ 0 < g i := fun g n => by
    induction n with
    | zero => intro q; simp [sm] at q
    | succ n ih =>
      intro q
      unfold sm at q
      by_cases z : 0 < g n
      · exact ⟨n, by omega, z⟩
      · obtain ⟨i, h1, h2⟩ := ih (by omega)
        exact ⟨i, by omega, h2⟩
  obtain ⟨a, ha, h1⟩ := sp _ _ h
  obtain ⟨c, hc, h2⟩ := sp _ _ h1
  exact ⟨a, c, ha, hc, h2⟩
theorem round_Q (h : NI k ns L T) (hw : ns.way = []) (hr : restN ns ≤ 400) (hP : ∀ a c, a < ns.N → c < ns.N → a ≠ c → ns.P a c = false) :
    QN (roundN ns) ∧ (QN ns → 0 < restN ns → potN (roundN ns) < potN ns) := by
  have hN := (roundN_N ns).1
  refine ⟨fun a c ha hc e => ?_, fun hq hp => ?_⟩
  · rw [hN] at ha hc
    rw [round_E h hw hr hP ha hc, round_E h hw hr hP hc ha]
    exact (pair_round h.pa.1 h.wi (h.mt a c ha hc e)).1
  · unfold potN
    rw [hN]
    have hd : ∀ a, a < ns.N → pE ((roundN ns).E a a) = 0 ∧ pE (ns.E a a) = 0 := fun a ha => by
      have h1 := h.round.dg a (by rw [hN]; exact ha)
      have h2 := h.dg a ha
      rw [h1, h2]
      exact ⟨rfl, rfl⟩
    have hle : ∀ a c, a < ns.N → c < ns.N → pE ((roundN ns).E a c) ≤ pE (ns.E a c) := fun a c ha hc => by
      by_cases e : a = c
      · subst e
        rw [(hd a ha).1]; exact Nat.zero_le _
      · rw [round_E h hw hr hP ha hc]
        exact ((pair_round h.pa.1 h.wi (h.mt a c ha hc e)).2 (hq a c ha hc e)).1
    obtain ⟨a, c, ha, hc, hpos⟩ := s2_pos (N := ns.N) (g := fun a c => pE (ns.E a c)) (by have := (pot_r ns).1; unfold potN at this; omega)
    refine s2_lt hle ha hc ?_
    by_cases e : a = c
    · subst e
      rw [(hd a ha).2] at hpos
      exact absurd hpos (Nat.lt_irrefl _)
    · show pE ((roundN ns).E a c) < pE (ns.E a c)
      rw [round_E h hw hr hP ha hc]
      exact ((pair_round h.pa.1 h.wi (h.mt a c ha hc e)).2 (hq a c ha hc e)).2 hpos
theorem drain_zero (f : Nat) (h : restN ns = 0) : drainN f ns = (ns, 0) := by
  cases f with
  | zero => rfl
  | succ f => unfold drainN; rw [if_pos h]
theorem heal_Q : ∀ (f : Nat) {ns : NS}, NI k ns L T → ns.way = [] → restN ns ≤ 400 → (∀ a c, a < ns.N → c < ns.N → a ≠ c → ns.P a c = false) → QN ns → potN ns ≤ f → restN (drainN f ns).1 = 0
  | 0, ns, h, hw, hr, hP, hq, hf => by have := (pot_r ns).1; show restN ns = 0; omega
  | f + 1, ns, h, hw, hr, hP, hq, hf => by
    by_cases z : restN ns = 0
    · rw [drain_zero _ z]; exact z
    · unfold drainN
      rw [if_neg z]
      obtain ⟨g1, g2⟩ := round_Q h hw hr hP
      have hN := roundN_N ns
      exact heal_Q f h.round (round_way ns) (by have := round_rest ns; omega) (by rw [hN.1, hN.2.2.2]; exact hP) g1 (by have := g2 hq (by omega); omega)
theorem heal (h : NI k ns L T) (hr : restN ns ≤ 400) (hP : ∀ a c, a < ns.N → c < ns.N → a ≠ c → ns.P a c = false) : restN (drainN (2 * restN ns + 2) ns).1 = 0 := by
  by_cases z : restN ns = 0
  · rw [drain_zero _ z]; exact z
  have hN := roundN_N ns
  have hN2 := roundN_N (roundN ns)
  have r1 := round_rest ns
  have r2 := round_rest (roundN ns)
  have e1 : drainN (2 * restN ns + 2) ns = ((drainN (2 * restN ns + 1) (roundN ns)).1, (drainN (2 * restN ns + 1) (roundN ns)).2 + 1) := by
    rw [show 2 * restN ns + 2 = (2 * restN ns + 1) + 1 from rfl]
    conv => lhs; unfold drainN
    rw [if_neg z]
  rw [e1]
  simp only
  have hP1 : ∀ a c, a < (roundN ns).N → c < (roundN ns).N → a ≠ c → (roundN ns).P a c = false := by rw [hN.1, hN.2.2.2]; exact hP
  by_cases z1 : restN (roundN ns) = 0
  · rw [drain_zero _ z1]; exact z1
  have e2 : drainN (2 * restN ns + 1) (roundN ns) = ((drainN (2 * restN ns) (roundN (roundN ns))).1, (drainN (2 * restN ns) (roundN (roundN ns))).2 + 1) := by
    conv => lhs; unfold drainN
    rw [if_neg z1]
  rw [e2]
  simp only
  refine heal_Q _ h.round.round (round_way _) (by omega) (by rw [hN2.1, hN2.2.2.2]; exact hP1) (round_Q h.round (round_way ns) (by omega) hP1).1 ?_
  have := (pot_r (roundN (roundN ns))).2
  omega
/-- Nothing is left: all of it has come. -/
theorem healed (h : NI k ns L T) (hr : restN ns = 0) {a c : Nat} (ha : a < ns.N) (hc : c < ns.N) (hac : a ≠ c) : (ns.E c a).exp = (L a c).length := by
  have h0 : rE (ns.E a c) ≤ restN ns := by rw [restN_s2]; exact s2_at (g := fun a c => rE (ns.E a c)) ha hc
  obtain ⟨lo, d⟩ := (h.mt a c ha hc hac).d
  have d1 := congrArg List.length d.new
  have d2 := congrArg List.length d.fly
  rw [List.length_drop] at d1
  rw [List.length_map, List.length_range'] at d2
  have d3 := d.lor
  have d4 := d.ex
  have d5 := d.nl
  have d6 := d.lon
  unfold rE at h0
  omega
end
end Go.Proofs.Ytjjgojgahibpgaa

/- What is done to a net, in plain words. -/
namespace Go.Proofs.Ytjjgojgahibpgaa
open Go.Proofs.Eng Go.Proofs.Codec Go.Proofs.Link
set_option linter.unusedSimpArgs false
set_option linter.unusedVariables false
def inN (n : Nat) (i : Int) : Bool := decide (0 ≤ i ∧ i < n)
theorem inN_nat {n : Nat} {i : Int} (h : inN n i = true) : ∃ k : Nat, i = k ∧ k < n := by
  unfold inN at h
  rw [decide_eq_true_eq] at h
  exact ⟨i.toNat, by omega, by omega⟩
theorem inN_t {n k : Nat} (h : k < n) : inN n (k : Int) = true := by
  unfold inN
  rw [decide_eq_true_eq]
  omega
theorem twoN_nat {ns : NS} {a c : Int} (h : twoN ns a c = true) : ∃ x y : Nat, a = x ∧ c = y ∧ x < ns.N ∧ y < ns.N ∧ x ≠ y := by
  unfold twoN at h
  rw [decide_eq_true_eq] at h
  exact ⟨a.toNat, c.toNat, by omega, by omega, by omega, by omega, by omega⟩
theorem twoN_t {ns : NS} {x y : Nat} (h1 : x < ns.N) (h2 : y < ns.N) (h3 : x ≠ y) : twoN ns x y = true := by
  unfold twoN
  rw [decide_eq_true_eq]
  omega
def sendX (ns : NS) (a c : Int) (b : Bs) : NS × Nat := if twoN ns a c = true then sendN ns a.toNat c.toNat b else (ns, 2)
def letX (ns : NS) (a : Int) : NS × Nat := if inN ns.N a = true then (letK a.toNat ns.N ns, letC a.toNat ns.N ns) else (ns, 0)
def delX (ns : NS) (i : Int) : NS × Nat := if inN ns.way.length i = true then delN ns i.toNat else (ns, 7)
def dropX (ns : NS) (i : Int) : NS × Bool := if inN ns.way.length i = true then (dropN ns i.toNat, true) else (ns, false)
def dblX (ns : NS) (i : Int) : NS × Bool := if inN ns.way.length i = true ∧ ns.way.length < 4096 then (dblN ns i.toNat, true) else (ns, false)
def partX (ns : NS) (a c : Int) (v : Bool) : NS × Bool := if twoN ns a c = true ∧ ns.P a.toNat c.toNat ≠ v then (setN ns a.toNat c.toNat v, true) else (ns, false)
def nextX (ns : NS) (a : Int) : NS × Option (Nat × Bs) := if inN ns.N a = true then (match firstN ns a.toNat ns.N with
  | none => (ns, none)
  | some c => (nextN ns a.toNat c, some (c, (ns.E a.toNat c).come.headD []))) else (ns, none)
def drainX (ns : NS) (r : Int) : NS × Nat := drainN r.toNat ns
theorem first_some {ns : NS} {a : Nat} : ∀ {k c : Nat}, firstN ns a k = some c → c < k ∧ (ns.E a c).come ≠ [] ∧ ∀ j, j < c → (ns.E a j).come = []
  | 0, c, h => by cases h
  | k + 1, c, h => by
    unfold firstN at h
    cases hf : firstN ns a k with
    | some d =>
      rw [hf] at h
      cases h
      obtain ⟨h1, h2, h3⟩ := first_some hf
      exact ⟨by omega, h2, h3⟩
    | none =>
      rw [hf] at h
      simp only at h
      split at h
      · cases h
      · rename_i z
        cases h
        refine ⟨by omega, z, fun j hj => ?_⟩
        by_cases y : (ns.E a j).come = []
        · exact y
        · exfalso
          have : ∀ n, j < n → firstN ns a n ≠ none := fun n => by
            induction n with
            | zero => intro q; omega
            | succ n ih =>
              intro q e
              unfold firstN at e
              by_cases z2 : j < n
              · cases h5 : firstN ns a n with
                | none => exact ih z2 h5
                | some d => rw [h5] at e; cases e
              · obtain rfl : j = n := by omega
                cases h5 : firstN ns a j with
                | none =>
                  rw [h5] at e
                  simp only [if_neg y] at e
                  cases e
                | some d => rw [h5] at e; cases e
          exact this k hj hf
theorem first_none {ns : NS} {a : Nat} : ∀ {k : Nat}, firstN ns a k = none → ∀ j, j < k → (ns.E a j).come = []
  | 0, _, j, hj => by omega
  | k + 1, h, j, hj => by
    unfold firstN at h
    cases hf : firstN ns a k with
    | some d => rw [hf] at h; cases h
    | none =>
      rw [hf] at h
      simp only at h
      split at h
      · rename_i z
        by_cases e : j = k
        · subst e; exact z
        · exact first_none hf j (by omega)
      · cases h
theorem let1_diag {k : Nat} {ns : NS} {L : LL} {T : Nat → Nat → Nat} (h : NI k ns L T) {a : Nat} (ha : a < ns.N) : let1 ns a a = ns ∧ (outE (ns.E a a)).2 = [] := by
  have h0 := h.dg a ha
  refine ⟨?_, by rw [h0, nE_out]⟩
  unfold let1
  rw [h0, nE_out]
  simp only [List.map_nil, List.foldl_nil, ite_self]
  rw [← h0, upd2_same]
/-- One thing that is done (the kinds as in the law). -/
structure DD where
  kd : Int
  a : Int
  c : Int
  b : Bs
def didX (ns : NS) (d : DD) : NS :=
  if d.kd = 1 then (sendX ns d.a d.c d.b).1 else if d.kd = 2 then (letX ns d.a).1 else if d.kd = 3 then (delX ns d.a).1 else if d.kd = 4 then (dropX ns d.a).1 else if d.kd = 5 then (dblX ns d.a).1
  else if d.kd = 6 then (partX ns d.a d.c true).1 else if d.kd = 7 then (partX ns d.a d.c false).1 else if d.kd = 8 then tickN ns else if d.kd = 9 then (nextX ns d.a).1 else if d.kd = 10 then (drainX ns d.a).1 else ns
/-- What holds, whoever has told how much. -/
def NJ (k : Nat) (ns : NS) : Prop := ∃ L T, NI k ns L T
section
variable {k : Nat} {ns : NS} {L : LL} {T : Nat → Nat → Nat}
theorem NI.sendX (h : NI k ns L T) (hk : k < 600) (a c : Int) (b : Bs) : ∃ L', NI (k + 1) (sendX ns a c b).1 L' T := by
  unfold Go.Proofs.Ytjjgojgahibpgaa.sendX
  split
  · rename_i q
    obtain ⟨x, y, rfl, rfl, hx, hy, hxy⟩ := twoN_nat q
    simp only [Int.toNat_natCast]
    by_cases h0 : (sendN ns x y b).2 = 0
    · exact ⟨_, h.send hk hx hy hxy b h0⟩
    · rw [send_no ns x y b h0]; exact ⟨_, h.mono (Nat.le_succ k)⟩
  · exact ⟨_, h.mono (Nat.le_succ k)⟩
theorem NI.letX (h : NI k ns L T) (a : Int) : NI k (letX ns a).1 L T := by
  unfold Go.Proofs.Ytjjgojgahibpgaa.letX
  split
  · rename_i q
    obtain ⟨x, rfl, hx⟩ := inN_nat q
    exact h.letK hx ns.N (Nat.le_refl _)
  · exact h
theorem NI.delX (h : NI k ns L T) (i : Int) : NI k (delX ns i).1 L T ∧ ((delX ns i).2 = 0 ∨ (delX ns i).2 = 7 ∧ inN ns.way.length i = false) := by
  unfold Go.Proofs.Ytjjgojgahibpgaa.delX
  split
  · rename_i q
    obtain ⟨x, rfl, hx⟩ := inN_nat q
    simp only [Int.toNat_natCast]
    obtain ⟨g1, g2⟩ := h.del (List.getElem?_eq_getElem hx)
    exact ⟨g1, .inl g2⟩
  · rename_i q
    exact ⟨h, .inr ⟨rfl, by simpa using q⟩⟩
theorem NI.dropX (h : NI k ns L T) (i : Int) : NI k (dropX ns i).1 L T := by
  unfold Go.Proofs.Ytjjgojgahibpgaa.dropX
  split
  · exact h.drop _
  · exact h
theorem NI.dblX (h : NI k ns L T) (i : Int) : NI k (dblX ns i).1 L T := by
  unfold Go.Proofs.Ytjjgojgahibpgaa.dblX
  split
  · rename_i q; exact h.dbl q.2 _
  · exact h
theorem NI.partX (h : NI k ns L T) (a c : Int) (v : Bool) : NI k (partX ns a c v).1 L T := by
  unfold Go.Proofs.Ytjjgojgahibpgaa.partX
  split
  · exact h.set _ _ _
  · exact h
theorem NI.nextX (h : NI k ns L T) (a : Int) : ∃ T', NI k (nextX ns a).1 L T' := by
  unfold Go.Proofs.Ytjjgojgahibpgaa.nextX
  split
  · rename_i q
    obtain ⟨x, rfl, hx⟩ := inN_nat q
    simp only [Int.toNat_natCast]
    cases hf : firstN ns x ns.N with
    | none => exact ⟨_, h⟩
    | some c =>
      obtain ⟨h1, h2, -⟩ := first_some hf
      obtain ⟨b, t, he⟩ := List.exists_cons_of_ne_nil h2
      exact ⟨_, (h.next hx h1 he).2.2⟩
  · exact ⟨_, h⟩
theorem sendX_N (a c : Int) (b : Bs) : (sendX ns a c b).1.N = ns.N ∧ (sendX ns a c b).1.win = ns.win ∧ (sendX ns a c b).1.pat = ns.pat := by unfold sendX; split <;> exact ⟨rfl, rfl, rfl⟩
theorem letX_N (a : Int) : (letX ns a).1.N = ns.N ∧ (letX ns a).1.win = ns.win ∧ (letX ns a).1.pat = ns.pat := by
  unfold letX
  split
  · have := letK_N a.toNat ns.N ns; exact ⟨this.1, this.2.1, this.2.2.1⟩
  · exact ⟨rfl, rfl, rfl⟩
theorem delX_N (i : Int) : (delX ns i).1.N = ns.N ∧ (delX ns i).1.win = ns.win ∧ (delX ns i).1.pat = ns.pat := by
  unfold delX delN
  split
  · split <;> exact ⟨rfl, rfl, rfl⟩
  · exact ⟨rfl, rfl, rfl⟩
theorem dropX_N (i : Int) : (dropX ns i).1.N = ns.N ∧ (dropX ns i).1.win = ns.win ∧ (dropX ns i).1.pat = ns.pat := by unfold dropX; split <;> exact ⟨rfl, rfl, rfl⟩
theorem dblX_N (i : Int) : (dblX ns i).1.N = ns.N ∧ (dblX ns i).1.win = ns.win ∧ (dblX ns i).1.pat = ns.pat := by
  unfold dblX dblN
  split
  · split <;> exact ⟨rfl, rfl, rfl⟩
  · exact ⟨rfl, rfl, rfl⟩
theorem partX_N (a c : Int) (v : Bool) : (partX ns a c v).1.N = ns.N ∧ (partX ns a c v).1.win = ns.win ∧ (partX ns a c v).1.pat = ns.pat := by unfold partX; split <;> exact ⟨rfl, rfl, rfl⟩
end
end Go.Proofs.Ytjjgojgahibpgaa

/- What is under way grows, shrinks. -/
namespace Go.Proofs.Ytjjgojgahibpgaa
open Go.RowKit Go.Proofs.Eng Go.Proofs.Codec Go.Proofs.Link
set_option linter.unusedSimpArgs false
set_option linter.unusedVariables false set_option maxRecDepth 10000
attribute [local irreducible] T TL LV TH TA
section
variable {Y : Lay} {R : Nat} {w w' w1 w2 w3 w0 : World} {base p : Nat} {M : NM} {F : Nat → Nat → Nat → Nat} {h h' h0 : Nat → Nat} {ns : NS}
theorem NetG.l1 (g : NetG Y R w base p M F h ns) : M.s1.2.1 = R := by have := g.o1.len; rw [rowF_len] at this; omega
theorem NetG.l2 (g : NetG Y R w base p M F h ns) : M.s2.2.1 = R := by have := g.o2.len; rw [rowF_len] at this; omega
theorem NetG.l3 (g : NetG Y R w base p M F h ns) : M.s3.2.1 = M.y.length ∧ M.y.length = ns.way.length := by
  have := g.o3.len
  rw [rowV_len pkV_len] at this
  have h2 := congrArg List.length g.wy
  rw [List.length_map] at h2
  omega
theorem NetG.lr (g : NetG Y R w base p M F h ns) {a : Nat} (ha : a < R) : (M.r1 a).2.1 = ns.N ∧ (M.r2 a).2.1 = ns.N := by
  have h1 := (g.q1 a ha).1
  have h2 := (g.q2 a ha).len
  rw [rowF_len] at h1 h2
  omega
theorem NetG.tn (g : NetG Y R w base p M F h ns) {o o' : Nat → Nat} (t : Tn o o' w w') (hd : ∀ b, o b = 0 ∨ h b = 0) : NetG Y R w' base p M F h ns ∧ ∀ b, o' b = 0 ∨ h b = 0 := by
  obtain ⟨⟨S, m1, s1⟩, n1, z1⟩ := t
  refine ⟨g.mod m1 (fun b hb => (hd b).resolve_left (s1 b hb)), fun b => ?_⟩
  by_cases q : o' b = 0
  · exact .inl q
  · right
    rcases n1 b q with h1 | h1
    · exact (hd b).resolve_left h1
    · by_cases y : h b = 0
      · exact y
      · have := (g.old b y).2; omega
theorem NetG.p3 (g : NetG Y R w base p M F h ns) : ∀ b ∈ blkL M.s3.1, b ∉ [p] := fun b hb q => by
  rw [List.mem_singleton] at q
  have h1 := g.h12 b hb
  rw [q, g.hp] at h1
  omega
/-- One more is under way. -/
theorem NetG.push (g : NetG Y R w base p M F h ns) {s3 : SV} {x : PK × SV} (e1 : Ext w w1) (m2 : Eng.Mod (blkL M.s3.1) w1 w2) (ho : Own w2 base 103 3 s3.1 s3.2.1 s3.2.2 (rowV pkV (M.y ++ [x]))) (hn : Near M.s3.1 s3.1 w1)
    (m3 : Eng.Mod [p] w2 w3) (hb : Blk w3 p Y.nt (Y.nv M.s1 M.s2 s3 ns.pat)) (t : Tn h0 h w0 w) (hb0 : ∀ b, h0 b ≠ 0 → b < w0.heap.size)
    (hx : x ∈ M.y ∨ (Rd w x.2.1 x.2.2.1 1 (bv x.1.b) ∧ x.2.2.1 ≤ x.2.2.2 ∧ ∀ b ∈ blkL x.2.1, h b = 0 ∧ base ≤ b ∧ b < w.heap.size ∧ w0.heap.size ≤ b)) :
    ∃ h', NetG Y R w3 base p { M with s3 := s3, y := M.y ++ [x] } F h' { ns with way := ns.way ++ [x.1] } ∧ Tn h0 h' w0 w3 ∧ ∀ b, h b = 0 → b < w.heap.size → b ∉ blkL x.2.1 → h' b = 0 := by
  have z1 := e1.size
  have z2 := m2.size
  have hn' : ∀ b ∈ blkL s3.1, b ∈ blkL M.s3.1 ∨ w.heap.size ≤ b := fun b hb => (Near.blk hn b hb).imp id (fun q => by omega)
  have M13 : Eng.Mod (p :: blkL M.s3.1) w w3 := ((e1.mono (S' := p :: blkL M.s3.1) (by simp)).step m2 (fun b hb => .inl (List.mem_cons_of_mem _ hb))).step m3 (fun b hb => .inl (by rw [List.mem_singleton.1 hb]; exact List.mem_cons_self))
  have hS : ∀ b ∈ p :: blkL M.s3.1, h b = 1 ∨ h b = 12 := fun b hb => by
    rcases List.mem_cons.1 hb with rfl | hb
    · exact .inl g.hp
    · exact .inr (g.h12 b hb)
  have hpn : ∀ b ∈ blkL s3.1, b ∉ [p] := fun b hb q => by
    rcases hn' b hb with h1 | h1
    · exact g.p3 b h1 q
    · rw [List.mem_singleton.1 q] at h1
      have := g.bw.2
      omega
  have hM13 : Eng.Mod (p :: blkL M.s3.1) w w3 := M13
  obtain ⟨h', g', t', z'⟩ := g.wayT hM13 hS hb (ho.modL m3 hpn) hn' (y := M.y ++ [x]) (fun y hy => by
    rcases List.mem_append.1 hy with q | q
    · exact .inl q
    · rw [List.mem_singleton.1 q]
      rcases hx with hx | ⟨k1, k2, k3⟩
      · exact .inl hx
      · exact .inr ⟨k1.mod M13 (off_of fun b hb q => by have := (k3 b hb).1; rcases hS b q with h | h <;> omega), k2, fun b hb => by have := k3 b hb; exact ⟨this.1, this.2.1, this.2.2.1⟩⟩) t (fun y hy => by
    rcases List.mem_append.1 hy with q | q
    · exact .inl q
    · rw [List.mem_singleton.1 q]
      rcases hx with hx | ⟨k1, k2, k3⟩
      · exact .inl hx
      · exact .inr (fun b hb => (k3 b hb).2.2.2)) hb0
  refine ⟨h', ?_, t', fun b hb hl hx' => z' b hb hl (fun y hy q => ?_)⟩
  · rw [List.map_append] at g'
    rw [g.wy]
    exact g'
  · rcases List.mem_append.1 hy with q2 | q2
    · have := g.h13 y q2 b q; omega
    · rw [List.mem_singleton.1 q2] at q; exact hx' q
/-- One is gone. -/
theorem NetG.pull (g : NetG Y R w base p M F h ns) {s3 : SV} (i : Nat) {S : List Nat} (hm : Eng.Mod S w w3) (hS : ∀ b ∈ S, h b = 1 ∨ h b = 12) (hb : Blk w3 p Y.nt (Y.nv M.s1 M.s2 s3 ns.pat))
    (ho : Own w3 base 103 3 s3.1 s3.2.1 s3.2.2 (rowV pkV (M.y.eraseIdx i))) (hn : ∀ b ∈ blkL s3.1, b ∈ blkL M.s3.1 ∨ w.heap.size ≤ b) (t : Tn h0 h w0 w) (hb0 : ∀ b, h0 b ≠ 0 → b < w0.heap.size) :
    ∃ h', NetG Y R w3 base p { M with s3 := s3, y := M.y.eraseIdx i } F h' { ns with way := ns.way.eraseIdx i } ∧ Tn h0 h' w0 w3 ∧ (∀ b, h b = 0 → b < w.heap.size → h' b = 0) := by
  have hsub : ∀ x ∈ M.y.eraseIdx i, x ∈ M.y := fun x hx => (List.eraseIdx_sublist _ _).subset hx
  obtain ⟨h', g', t', z'⟩ := g.wayT hm hS hb ho hn (fun x hx => .inl (hsub x hx)) t (fun x hx => .inl (hsub x hx)) hb0
  refine ⟨h', ?_, t', fun b hb hl => z' b hb hl (fun y hy q => by have := g.h13 y (hsub y hy) b q; omega)⟩
  rw [g.wy]
  have e : (M.y.eraseIdx i).map (·.1) = (M.y.map (·.1)).eraseIdx i := by simp [List.eraseIdx_eq_take_drop_succ, List.map_take, List.map_drop]
  rw [← e]
  exact g'
end
end Go.Proofs.Ytjjgojgahibpgaa

/- An argument that is a row, opened element by element. -/
namespace Go.Proofs.Eng
open Go.RowKit Go.WideShapes
set_option linter.unusedSimpArgs false
set_option linter.unusedVariables false
theorem rows_of {α : Type} {g : α → List Value} {Q : α → Prop} {w : World} {e : Ty} {M : Nat} (h : ∀ (x : List Value) (k : Nat), k ≤ M → FitB w e x k → 1 ≤ k ∧ ∃ a, x = g a ∧ Q a) :
    ∀ (xs : List (List Value)) (ms : List Nat), xs.length = ms.length → ms.sum ≤ M → (∀ (i : Nat) (x : List Value) (k : Nat), xs[i]? = some x → ms[i]? = some k → x.length = e.size ∧ FitB w e x k) → ∃ l : List α, rowV g l = xs.flatten ∧ (∀ a ∈ l, Q a) ∧ l.length = xs.length ∧ xs.length ≤ ms.sum
  | [], [], _, _, _ => ⟨[], rfl, fun a ha => (by cases ha), rfl, Nat.le_refl _⟩
  | [], _ :: _, hl, _, _ => by simp at hl
  | _ :: _, [], hl, _, _ => by simp at hl
  | x :: xs, k :: ms, hl, hs, hk => by
    simp only [List.sum_cons] at hs
    obtain ⟨l, h1, h2, h3, h4⟩ := rows_of h xs ms (by simpa using hl) (by omega) (fun i x k a b => hk (i + 1) x k (by simpa using a) (by simpa using b))
    obtain ⟨h5, a, rfl, ha⟩ := h x k (by omega) (hk 0 x k rfl rfl).2
    exact ⟨a :: l, by rw [rowV_cons, h1]; simp, fun b hb => by
      rcases List.mem_cons.1 hb with rfl | hb
      · exact ha
      · exact h2 b hb, by simp [h3], by simp only [List.length_cons, List.sum_cons]; omega⟩
/-- A row inside an argument. -/
theorem FitB.row {α : Type} {g : α → List Value} {Q : α → Prop} {w : World} {e : Ty} {M k : Nat} (h : ∀ (x : List Value) (k : Nat), k ≤ M → FitB w e x k → 1 ≤ k ∧ ∃ a, x = g a ∧ Q a) {x : List Value} (hx : FitB w (.slice e) x k) (hk : k ≤ M) :
    1 ≤ k ∧ ∃ (A : Option Addr) (n c : Nat) (l : List α), x = [.slice A n c] ∧ n ≤ c ∧ c ≤ maxLen ∧ n < k ∧ l.length = n ∧ Rd w A n e.size (rowV g l) ∧ ∀ a ∈ l, Q a := by
  obtain ⟨A, n, c, xs, ms, h1, h2, h3, h4, h5, h6, h7, h8⟩ := hx
  obtain ⟨l, g1, g2, g3, g4⟩ := rows_of h xs ms (by omega) (by omega) h8
  exact ⟨by omega, A, n, c, l, h1, h2, h3, by omega, by omega, by rw [g1]; exact h7, g2⟩
end Go.Proofs.Eng

/- x & 1 on an int. -/
namespace Go.Proofs.Eng
open Go.RowKit
set_option linter.unusedSimpArgs false
set_option linter.unusedVariables false
section
variable {q : Qm} {P : Program} {fn : Func} {R : Ending → World → Prop} {M : Md} {n : Nat} {st : Slots} {k : List Item} {w : World} {ops rest : List Oper}
  {d : Nat} {ty : TypeId} {ps : String} {af : Array Edge} {X Y : Operand} {t t2 : TypeId} {x y : Int} {K : IntKind}
end
end Go.Proofs.Eng

/- Arrays in memory: an element's place, a whole one read, one built. -/
namespace Go.Proofs.Eng
open Go.RowKit
set_option linter.unusedSimpArgs false
set_option linter.unusedVariables false
set_option linter.unusedSectionVars false
section
variable {q : Qm} {P : Program} {fn : Func} {R : Ending → World → Prop} {M : Md} {n : Nat} {st : Slots} {k : List Item} {w w0 : World} {ops rest : List Oper}
  {d : Nat} {ty : TypeId} {ps : String} {af : Array Edge} {X I : Operand} {t e : TypeId} {by_ s : Nat} {z : Value} {i : Int} {L : IntKind}
end
end Go.Proofs.Eng

namespace Go.Proofs.Ytjjgojgahibpgaa
open Go.RowKit Go.Proofs.Eng Go.Proofs.Codec Go.Proofs.Link
set_option linter.unusedSimpArgs false
set_option linter.unusedVariables false set_option maxRecDepth 10000
attribute [local irreducible] T TL LV TH TA
/-- A move in a row. -/
structure MV where
  who : Int
  kd : Int
  A : Option Addr
  n : Nat
  c : Nat
  pl : Int
  b : Bs
def mv0 : MV := ⟨0, 0, none, 0, 0, 0, []⟩
def mvV (x : MV) : List Value := [.int .i64 x.who, .int .i64 x.kd, .slice x.A x.n x.c, .int .i64 x.pl]
structure MvOk (w : World) (x : MV) : Prop where
  rd : Rd w x.A x.n 1 (bv x.b)
  nc : x.n ≤ x.c
  cm : x.c ≤ 9223372036854775807
  nb : x.n ≤ 1048576
  wh : -9223372036854775808 ≤ x.who ∧ x.who ≤ 9223372036854775807
  pl : -9223372036854775808 ≤ x.pl ∧ x.pl ≤ 9223372036854775807
theorem MvOk.be {w w' : World} {x : MV} (h : MvOk w x) (e : Ext w w') : MvOk w' x := { h with rd := h.rd.be e }
abbrev tyMove : Ty := .struct (.cons (.int .i64) (.cons (.int .i64) (.cons (.slice (.int .u8)) (.cons (.int .i64) .unit))))
abbrev tyNet : Ty := .struct (.cons (.array 2 (.int .i64)) (.cons (.array 2 (.int .i64)) (.cons (.slice tyMove) .unit)))
def i64ok (z : Int) : Prop := -9223372036854775808 ≤ z ∧ z ≤ 9223372036854775807
end Go.Proofs.Ytjjgojgahibpgaa

namespace Go.Proofs.Ytjjgojgahibpgaa
open Go.RowKit Go.Proofs.Eng Go.Proofs.Codec Go.Proofs.Link
set_option linter.unusedSimpArgs false
set_option linter.unusedVariables false set_option maxRecDepth 10000
attribute [local irreducible] T TL LV TH TA
set_option maxHeartbeats 3200000
/-- A row of bytes that neither end owns. -/
def Gv (w : World) (base : Nat) (x : SV) (l : Bs) (fa fb : Nat → Nat) : Prop := Body w base x l ∧ (∀ b ∈ blkL x.1, fa b = 0) ∧ ∀ b ∈ blkL x.1, fb b = 0
theorem Gv.a {w w' : World} {base : Nat} {x : SV} {l : Bs} {fa fb fa' : Nat → Nat} (h : Gv w base x l fa fb) (t : Turns fa fa' w w') : Gv w' base x l fa' fb := by
  obtain ⟨h1, h2⟩ := h.1.turn t h.2.1
  exact ⟨h1, h2, h.2.2⟩
theorem Gv.b {w w' : World} {base : Nat} {x : SV} {l : Bs} {fa fb fb' : Nat → Nat} (h : Gv w base x l fa fb) (t : Turns fb fb' w w') : Gv w' base x l fa fb' := by
  obtain ⟨h1, h2⟩ := h.1.turn t h.2.2
  exact ⟨h1, h.2.1, h2⟩
theorem Gv.mod {w w' : World} {base : Nat} {x : SV} {l : Bs} {fa fb : Nat → Nat} {S : List Nat} (h : Gv w base x l fa fb) (m : Eng.Mod S w w') (hS : ∀ b ∈ blkL x.1, b ∉ S) : Gv w' base x l fa fb := ⟨h.1.mod m hS, h.2⟩
theorem Gv.ext {w w' : World} {base : Nat} {x : SV} {l : Bs} {fa fb : Nat → Nat} (h : Gv w base x l fa fb) (m : Ext w w') : Gv w' base x l fa fb := h.mod m (fun b q q' => by cases q')
/-- What stands at an act's end. -/
def PlI (w w' : World) (ba pa bb pb : Nat) (Wn Pn i base : Nat) (g : SV) (l : Bs) : Prop :=
  ∃ ma fa mb fb es, PR w w' ba pa ma fa es bb pb mb fb es ∧ WinI Wn Pn i es ∧ Srt es ∧ Gv w' base g l fa fb
end Go.Proofs.Ytjjgojgahibpgaa

namespace Go.Proofs.Ytjjgojgahibpgaa
open Go.RowKit Go.Proofs.Eng Go.Proofs.Codec Go.Proofs.Link
set_option linter.unusedSimpArgs false
set_option linter.unusedVariables false set_option maxRecDepth 10000
attribute [local irreducible] T TL LV TH TA
set_option maxHeartbeats 3200000
def PM0 : PM := ⟨fun _ => (none, 0, 0), fun _ => (none, 0, 0), fun _ => [], fun _ => [], fun _ => 0⟩
theorem goodE_nat {W P : Int} (h : goodE W P = true) : ∃ w p : Nat, W = (w : Int) ∧ P = (p : Int) ∧ (1 ≤ w ∧ w ≤ 256) ∧ (1 ≤ p ∧ p ≤ 1000) := by
  unfold goodE at h
  rw [decide_eq_true_eq] at h
  obtain ⟨w, rfl⟩ := Int.eq_ofNat_of_zero_le (show 0 ≤ W by omega)
  obtain ⟨p, rfl⟩ := Int.eq_ofNat_of_zero_le (show 0 ≤ P by omega)
  exact ⟨w, p, rfl, rfl, by omega, by omega⟩
section
variable {w0 : World} {W P V Q ba pa bb pb bp pp : Nat} {ma mb : EM} {fa fb : Nat → Nat} {ea eb : ES} {M : PM} {Fr L : Nat → List Bs} {g : Nat → Nat}
end
def totM (l : List MV) (i : Nat) : Nat := ((l.take i).map fun x => x.n).sum
theorem getMem {α : Type} {l : List α} {i : Nat} {d : α} (h : i < l.length) : l.getD i d ∈ l := by rw [List.getD_eq_getElem?_getD, List.getElem?_eq_getElem h]; exact List.getElem_mem _
end Go.Proofs.Ytjjgojgahibpgaa

namespace Go.Proofs.Ytjjgojgahibpgaa
open Go.RowKit Go.Proofs.Eng Go.Proofs.Codec Go.Proofs.Link
set_option linter.unusedSimpArgs false
set_option linter.unusedVariables false set_option maxRecDepth 10000
attribute [local irreducible] T TL LV TH TA
set_option maxHeartbeats 6400000
theorem Blk.turn {w w' : World} {b : Nat} {t : TypeId} {cs : List Value} {f f' : Nat → Nat} (k : Blk w b t cs) (tn : Turns f f' w w') (h : f b = 0) : Blk w' b t cs := by
  obtain ⟨⟨S, m1, s1⟩, n1, z1⟩ := tn
  exact k.mod m1 (fun q => s1 b q h)
/-- A pair as it stands behind i moves. -/
def MP (w0 w : World) (W P V Q ba pa bb pb bp pp i : Nat) : Prop :=
  ∃ ma fa ea mb fb eb M Fr L g, P3 w0 w ba pa ma fa ea bb pb mb fb eb bp pp M Fr L g ∧ Meet W P V Q (L 0) (L 1) (M.T 0) (M.T 1) (Fr 0) (Fr 1) ea eb ∧ (L 0).length ≤ i ∧ (L 1).length ≤ i ∧ (Fr 0).length ≤ i * 300 ∧ (Fr 1).length ≤ i * 300
theorem GoodF.short {L : List Bs} {nx ex : Nat} {fr : Bs} (h : GoodF L nx ex fr) (hb : ∀ x ∈ L, x.length ≤ 4096) (hn : nx ≤ 2 ^ 62) (he : ex ≤ 2 ^ 62) : fr.length ≤ 70000 := by
  rcases h with ⟨q, a, b, rfl, g1, g2, g3⟩ | ⟨a, rfl, g2⟩
  · have h1 := hb b (List.mem_of_getElem? g3)
    have h2 := dataL_len (seq := q) (ack := a) (body := b) (by omega) (by omega)
    rw [frame_len]; omega
  · have h2 := encU_len64 (show a < 2 ^ 64 by omega)
    rw [frame_len]
    simp only [ackL, List.length_append, List.length_cons, List.length_nil]
    omega
end Go.Proofs.Ytjjgojgahibpgaa

namespace Go.Proofs.Ytjjgojgahibpgaa
open Go.RowKit Go.Proofs.Eng Go.Proofs.Codec Go.Proofs.Link
set_option linter.unusedSimpArgs false
set_option linter.unusedVariables false set_option maxRecDepth 10000
attribute [local irreducible] T TL LV TH TA
set_option maxHeartbeats 3200000
section
variable {base p : Nat} {M : NM} {F : Nat → Nat → Nat → Nat} {h : Nat → Nat} {ns : NS} {k : Nat} {L : LL} {U : Nat → Nat → Nat}
theorem NetG.kP {R : Nat} {w : World} (g : NetG LayP R w base p M F h ns) : Blk w p 132 [.int .i64 (ns.pat : Int), slV M.s1, slV M.s2, slV M.s3] := g.blk
theorem two_c (a c : Int) (w : World) (g : NetG LayP ns.N w base p M F h ns) : Ret Try.prog 74 [ptr p, .int .i64 a, .int .i64 c] w (fun v w' => v = .bool (twoN ns a c) ∧ w' = w) := by
  have hk := g.kP
  have hl := g.l1
  unfold twoN
  refine ret_T (n := 40) Try.func74 rfl rfl ?_
  by_cases h1 : 0 ≤ a
  · by_cases h2 : 0 ≤ c
    · by_cases h3 : a < (ns.N : Int)
      · have h3' : a < ((M.s1.2.1 : Nat) : Int) := by omega
        by_cases h4 : c < (ns.N : Int)
        · have h4' : c < ((M.s1.2.1 : Nat) : Int) := by omega
          by_cases h5 : a = c
          · repeat (first | refine T_seq ?_ | refine T_region ?_ | refine TL_lt_t (hk := ?_) | refine TL_ge_t (hk := ?_) | refine TL_ne_f (hk := ?_) | refine TL_pnn_t TE (hk := ?_) | refine TL_nil ?_ | refine TL_move (hk := ?_) | refine TL_assign (hk := ?_) | refine TL_load TE (hk := ?_) | refine TL_fieldAddr TE (hk := ?_) | refine TL_len TE (hk := ?_) | refine TL_yes (hk := ?_) | refine TL_pick_t (hk := ?_) | refine TL_nilCheck (hk := ?_))
            exact T_ret1 rfl rfl ⟨by simp [h5], rfl⟩
          · repeat (first | refine T_seq ?_ | refine T_region ?_ | refine TL_lt_t (hk := ?_) | refine TL_ge_t (hk := ?_) | refine TL_ne_t (hk := ?_) | refine TL_pnn_t TE (hk := ?_) | refine TL_nil ?_ | refine TL_move (hk := ?_) | refine TL_assign (hk := ?_) | refine TL_load TE (hk := ?_) | refine TL_fieldAddr TE (hk := ?_) | refine TL_len TE (hk := ?_) | refine TL_yes (hk := ?_) | refine TL_pick_t (hk := ?_) | refine TL_nilCheck (hk := ?_))
            exact T_ret1 rfl rfl ⟨by simp [h1, h2, h3, h4, h5], rfl⟩
        · have h4' : ¬ c < ((M.s1.2.1 : Nat) : Int) := by omega
          repeat (first | refine T_seq ?_ | refine T_region ?_ | refine TL_lt_t (hk := ?_) | refine TL_lt_f (hk := ?_) | refine TL_ge_t (hk := ?_) | refine TL_pnn_t TE (hk := ?_) | refine TL_nil ?_ | refine TL_move (hk := ?_) | refine TL_assign (hk := ?_) | refine TL_load TE (hk := ?_) | refine TL_fieldAddr TE (hk := ?_) | refine TL_len TE (hk := ?_) | refine TL_yes (hk := ?_) | refine TL_no (hk := ?_) | refine TL_pick_t (hk := ?_) | refine TL_pick_f (hk := ?_) | refine TL_nilCheck (hk := ?_))
          exact T_ret1 rfl rfl ⟨by simp [h4], rfl⟩
      · have h3' : ¬ a < ((M.s1.2.1 : Nat) : Int) := by omega
        repeat (first | refine T_seq ?_ | refine T_region ?_ | refine TL_lt_f (hk := ?_) | refine TL_ge_t (hk := ?_) | refine TL_pnn_t TE (hk := ?_) | refine TL_nil ?_ | refine TL_move (hk := ?_) | refine TL_assign (hk := ?_) | refine TL_load TE (hk := ?_) | refine TL_fieldAddr TE (hk := ?_) | refine TL_len TE (hk := ?_) | refine TL_yes (hk := ?_) | refine TL_no (hk := ?_) | refine TL_pick_t (hk := ?_) | refine TL_pick_f (hk := ?_) | refine TL_nilCheck (hk := ?_))
        exact T_ret1 rfl rfl ⟨by simp [h3], rfl⟩
    · repeat (first | refine T_seq ?_ | refine T_region ?_ | refine TL_ge_t (hk := ?_) | refine TL_ge_f (hk := ?_) | refine TL_pnn_t TE (hk := ?_) | refine TL_nil ?_ | refine TL_move (hk := ?_) | refine TL_assign (hk := ?_) | refine TL_yes (hk := ?_) | refine TL_no (hk := ?_) | refine TL_pick_t (hk := ?_) | refine TL_pick_f (hk := ?_))
      exact T_ret1 rfl rfl ⟨by simp [h2], rfl⟩
  · repeat (first | refine T_seq ?_ | refine T_region ?_ | refine TL_ge_f (hk := ?_) | refine TL_pnn_t TE (hk := ?_) | refine TL_nil ?_ | refine TL_move (hk := ?_) | refine TL_assign (hk := ?_) | refine TL_yes (hk := ?_) | refine TL_no (hk := ?_) | refine TL_pick_t (hk := ?_) | refine TL_pick_f (hk := ?_))
    exact T_ret1 rfl rfl ⟨by simp [h1], rfl⟩
theorem there_c (i : Int) (w : World) (g : NetG LayP ns.N w base p M F h ns) : Ret Try.prog 75 [ptr p, .int .i64 i] w (fun v w' => v = .bool (inN ns.way.length i) ∧ w' = w) := by
  have hk := g.kP
  obtain ⟨hl, hl2⟩ := g.l3
  unfold inN
  refine ret_T (n := 20) Try.func75 rfl rfl ?_
  by_cases h1 : 0 ≤ i
  · by_cases h3 : i < (ns.way.length : Int)
    · have h3' : i < ((M.s3.2.1 : Nat) : Int) := by omega
      repeat (first | refine T_seq ?_ | refine T_region ?_ | refine TL_lt_t (hk := ?_) | refine TL_ge_t (hk := ?_) | refine TL_pnn_t TE (hk := ?_) | refine TL_nil ?_ | refine TL_move (hk := ?_) | refine TL_assign (hk := ?_) | refine TL_load TE (hk := ?_) | refine TL_fieldAddr TE (hk := ?_) | refine TL_len TE (hk := ?_) | refine TL_yes (hk := ?_) | refine TL_pick_t (hk := ?_) | refine TL_nilCheck (hk := ?_))
      exact T_ret1 rfl rfl ⟨by simp [h1, h3], rfl⟩
    · have h3' : ¬ i < ((M.s3.2.1 : Nat) : Int) := by omega
      repeat (first | refine T_seq ?_ | refine T_region ?_ | refine TL_lt_f (hk := ?_) | refine TL_ge_t (hk := ?_) | refine TL_pnn_t TE (hk := ?_) | refine TL_nil ?_ | refine TL_move (hk := ?_) | refine TL_assign (hk := ?_) | refine TL_load TE (hk := ?_) | refine TL_fieldAddr TE (hk := ?_) | refine TL_len TE (hk := ?_) | refine TL_yes (hk := ?_) | refine TL_pick_t (hk := ?_) | refine TL_nilCheck (hk := ?_))
      exact T_ret1 rfl rfl ⟨by simp [h1, h3], rfl⟩
  · repeat (first | refine T_seq ?_ | refine T_region ?_ | refine TL_ge_f (hk := ?_) | refine TL_pnn_t TE (hk := ?_) | refine TL_nil ?_ | refine TL_move (hk := ?_) | refine TL_assign (hk := ?_) | refine TL_yes (hk := ?_) | refine TL_no (hk := ?_) | refine TL_pick_t (hk := ?_) | refine TL_pick_f (hk := ?_))
    exact T_ret1 rfl rfl ⟨by simp [h1], rfl⟩
theorem QP.get {w : World} {a c : Nat} {v : Value} {f : Nat → Nat} {es : ES} (q : QP w base a c v f es) (hac : a ≠ c) : ∃ bs p m, base ≤ bs ∧ v = ptr p ∧ EndM w bs p m f es := by
  unfold QP at q
  rwa [if_neg hac] at q
theorem QP.mk {w : World} {a c bs p : Nat} {m : EM} {f : Nat → Nat} {es : ES} (hac : a ≠ c) (hb : base ≤ bs) (h : EndM w bs p m f es) : QP w base a c (ptr p) f es := by
  unfold QP
  rw [if_neg hac]
  exact ⟨bs, p, m, hb, rfl, h⟩
theorem NSend_c (a c : Int) (B : Option Addr) (n cc : Nat) (l : Bs) (w : World) (g : NetG LayP ns.N w base p M F h ns) (hI : NI k ns L U) (hr : Rd w B n 1 (bv l)) (hn : n ≤ 70368744177664) :
    Ret Try.prog 46 [ptr p, .int .i64 a, .int .i64 c, .slice B n cc] w (fun v w' => (twoN ns a c = false ∧ v = .int .i64 2 ∧ w' = w) ∨ ∃ x y : Nat, a = x ∧ c = y ∧ x < ns.N ∧ y < ns.N ∧ x ≠ y ∧ v = .int .i64 ((sendN ns x y l).2 : Int) ∧ ∃ F' h', NetG LayP ns.N w' base p M F' h' (sendN ns x y l).1 ∧ Tn h h' w w') := by
  have hk := g.kP
  have hl := g.l1
  have hcn := g.nn
  refine ret_T (n := 28) Try.func46 rfl rfl ?_
  repeat (first | refine T_seq ?_ | refine T_region ?_ | refine T_cond_false rfl ?_ | refine T_skip ?_ | refine TL_pnil_f TE (hk := ?_) | refine TL_nil ?_ | refine TL_move (hk := ?_) | refine TL_assign (hk := ?_))
  refine TL_call TE (hc := two_c a c _ g) (hk := ?_)
  rintro _ _ ⟨rfl, rfl⟩
  by_cases h1 : twoN ns a c = true
  · have h2 : 0 ≤ a ∧ 0 ≤ c ∧ a < ns.N ∧ c < ns.N ∧ a ≠ c := by unfold twoN at h1; simpa using h1
    obtain ⟨x, rfl⟩ : ∃ x : Nat, a = x := ⟨a.toNat, by omega⟩
    obtain ⟨y, rfl⟩ : ∃ y : Nat, c = y := ⟨c.toNat, by omega⟩
    have hx : x < ns.N := by omega
    have hy : y < ns.N := by omega
    have hxy : x ≠ y := by omega
    obtain ⟨bs, q, m, hbs, hv, hE⟩ := (g.en x y hx hy).get hxy
    have r1 := g.o1.rd
    have hv1 := rowF_get (fun a => slV (M.r1 a)) hx
    have r2 := g.q1 x hx
    have hv2 := rowF_get (M.ev x) hy
    rw [hv] at hv2
    have hlx := (g.lr hx).1
    have ok := hI.ok hx hy
    have hs1 := ok.tot
    rw [h1]
    repeat (first | refine T_seq ?_ | refine T_region ?_ | refine T_cond_false rfl ?_ | refine T_skip ?_ | refine TL_nil ?_ | refine TL_move (hk := ?_) | refine TL_load TE (hk := ?_) | refine TL_load_rd TE (hk := ?_) | refine TL_fieldAddr TE (hk := ?_) | refine TL_indexAddr1n TE (hk := ?_) | refine TL_nilCheck (hk := ?_) | refine TL_not (hk := ?_))
    refine TL_call TE (hc := Send_c B n cc l _ hE hE.bw (by omega) hr hn) (hk := ?_)
    rintro _ w1 ⟨rfl, m1, f1, h1, t1⟩
    obtain ⟨h', g', t', -, -⟩ := g.end_ (f' := f1) (es' := (sendE (ns.E x y) l).1) hx hy (by rw [hv]; exact QP.mk hxy hbs h1) t1
    repeat (first | refine TL_nil ?_ | refine TL_assign (hk := ?_))
    exact T_ret1 rfl rfl (.inr ⟨x, y, rfl, rfl, hx, hy, hxy, rfl, _, h', g', t'⟩)
  · have h1 : twoN ns a c = false := by simpa using h1
    rw [h1]
    repeat (first | refine T_seq ?_ | refine T_region ?_ | refine T_cond_true rfl ?_ | refine TL_nil ?_ | refine TL_assign (hk := ?_) | refine TL_not (hk := ?_))
    exact T_ret1 rfl rfl (.inl ⟨rfl, rfl, rfl⟩)
end
end Go.Proofs.Ytjjgojgahibpgaa

namespace Go.Proofs.Ytjjgojgahibpgaa
open Go.RowKit Go.Proofs.Eng Go.Proofs.Codec Go.Proofs.Link
set_option linter.unusedSimpArgs false
set_option linter.unusedVariables false set_option maxRecDepth 10000
attribute [local irreducible] T TL LV TH TA
set_option maxHeartbeats 3200000
section
variable {base p : Nat} {M : NM} {F : Nat → Nat → Nat → Nat} {h : Nat → Nat} {ns : NS} {k : Nat} {L : LL} {U : Nat → Nat → Nat}
theorem restR_le (hI : NI k ns L U) {a : Nat} (ha : a < ns.N) : ∀ c, c ≤ ns.N → restR ns a c ≤ c * 100000
  | 0, _ => by simp [restR]
  | c + 1, hc => by
    have h1 := restR_le hI ha c (by omega)
    have h2 := (hI.ok ha (by omega : c < ns.N)).tot
    unfold restR
    rw [Nat.succ_mul]
    omega
theorem restA_le (hI : NI k ns L U) : ∀ a, a ≤ ns.N → restA ns a ≤ a * 800000
  | 0, _ => by simp [restA]
  | a + 1, ha => by
    have h1 := restA_le hI a (by omega)
    have h2 := restR_le hI (by omega : a < ns.N) ns.N (Nat.le_refl _)
    have h3 := hI.n2
    have h4 := Nat.mul_le_mul_right 100000 h3.2
    unfold restA
    rw [Nat.succ_mul]
    omega
theorem QP.nil {w : World} {a : Nat} {v : Value} {f : Nat → Nat} {es : ES} (q : QP w base a a v f es) : v = .pointer none ∧ (∀ b, f b = 0) ∧ ∃ W P, es = nE W P := by
  unfold QP at q
  rwa [if_pos rfl] at q
theorem NRest_c (w : World) (g : NetG LayP ns.N w base p M F h ns) (hI : NI k ns L U) : Ret Try.prog 54 [ptr p] w (fun v w' => v = .int .i64 (restN ns : Int) ∧ w' = w) := by
  have hk := g.kP
  have hl := g.l1
  have hcn := g.nn
  have r1 := g.o1.rd
  refine ret_T (n := 35) Try.func54 rfl rfl ?_
  repeat (first | refine T_seq ?_ | refine T_region ?_ | refine T_cond_false rfl ?_ | refine T_block ?_ | refine T_skip ?_ | refine TL_pnil_f TE (hk := ?_) | refine TL_nil ?_ | refine TL_move (hk := ?_) | refine TL_assign (hk := ?_) | refine TL_load TE (hk := ?_) | refine TL_fieldAddr TE (hk := ?_) | refine TL_len TE (hk := ?_) | refine TL_nilCheck (hk := ?_))
  refine T_loop (ι := Nat) (fun i => [(15, .int .i64 (i : Int)), (3, .int .i64 (restA ns i : Int)), (14, .int .i64 ((M.s1.2.1 : Nat) : Int)), (13, slV M.s1)]) (fun i w' => w' = w ∧ i ≤ ns.N) (fun i => ns.N - i) 0 (.c rfl (.c rfl (.c rfl (.c rfl (.n))))) ⟨rfl, Nat.zero_le _⟩ ?_
  rintro i w1 ⟨rfl, hi⟩ ih
  have hb1 := restA_le hI i hi
  by_cases hlt : i < ns.N
  · have hv1 := rowF_get (fun a => slV (M.r1 a)) hlt
    have r2 := g.q1 i hlt
    have hlx := (g.lr hlt).1
    have hA : M.s1.1 ≠ none := by obtain ⟨_, _, hq, _⟩ := r1.2 (by omega); rw [hq]; simp
    have hb4 := restR_le hI hlt ns.N (Nat.le_refl _)
    have hb5 := Nat.mul_le_mul_right 100000 hcn
    repeat (first | refine T_seq ?_ | refine T_region ?_ | refine T_cond_true rfl ?_ | refine T_block ?_ | refine T_skip ?_ | refine TL_lt_t (hk := ?_) | refine TL_nil ?_ | refine TL_move (hk := ?_) | refine TL_assign (hk := ?_) | refine TL_load_rd TE (hk := ?_) | refine TL_indexAddr1n TE (hk := ?_) | refine TL_len TE (hk := ?_))
    refine T_loop (ι := Nat) (fun j => [(21, .int .i64 (j : Int)), (3, .int .i64 ((restA ns i + restR ns i j : Nat) : Int)), (20, .int .i64 (((M.r1 i).2.1 : Nat) : Int)), (19, slV (M.r1 i)), (15, .int .i64 (i : Int)), (14, .int .i64 ((M.s1.2.1 : Nat) : Int)), (13, slV M.s1)]) (fun j w' => w' = w1 ∧ j ≤ ns.N) (fun j => ns.N - j) 0 (.c rfl (.c rfl (.c rfl (.c rfl (.c rfl (.c rfl (.c rfl (.n)))))))) ⟨rfl, Nat.zero_le _⟩ ?_
    rintro j _ ⟨rfl, hj⟩ ih2
    have hb2 := restR_le hI hlt j hj
    by_cases hjt : j < ns.N
    · have hv2 := rowF_get (M.ev i) hjt
      have hA2 : (M.r1 i).1 ≠ none := by obtain ⟨_, _, hq, _⟩ := r2.2 (by omega); rw [hq]; simp
      have q := g.en i j hlt hjt
      have hb3 := restR_le hI hlt (j + 1) (by omega)
      have hb6 : restR ns i (j + 1) = restR ns i j + ((ns.E i j).new.length + (ns.E i j).fly.length) := rfl
      have hb7 := Nat.mul_le_mul_right 100000 (show j + 1 ≤ 8 by omega)
      have hc : ((restA ns i + restR ns i j : Nat) : Int) + (((ns.E i j).new.length : Int) + ((ns.E i j).fly.length : Int)) = ((restA ns i + restR ns i (j + 1) : Nat) : Int) := by omega
      by_cases hij : i = j
      · subst hij
        obtain ⟨hv, -, W, P, he⟩ := QP.nil q
        rw [he] at hc hb6
        simp only [nE, List.length_nil] at hc hb6
        have hc2 : ((restA ns i + restR ns i i : Nat) : Int) + (0 + 0) = ((restA ns i + restR ns i (i + 1) : Nat) : Int) := by omega
        rw [hv] at hv2
        repeat (first | refine T_seq ?_ | refine T_region ?_ | refine T_cond_true rfl ?_ | refine T_block ?_ | refine T_skip ?_ | refine TL_lt_t (hk := ?_) | refine TL_nil ?_ | refine TL_move (hk := ?_) | refine TL_assign (hk := ?_) | refine TL_load_rd TE (hk := ?_) | refine TL_indexAddr1n TE (hk := ?_))
        refine TL_call TE (hc := EUnsent_n (.bool true) _) (hk := ?_)
        rintro _ _ ⟨rfl, rfl⟩
        repeat (refine TL_move (hk := ?_))
        refine TL_call TE (hc := EFlying_n (.bool true) _) (hk := ?_)
        rintro _ _ ⟨rfl, rfl⟩
        repeat (first | refine T_region ?_ | refine T_inBlock ?_ | refine TL_add (hk := ?_) | refine TL_nil ?_ | refine TL_move (hk := ?_) | refine TL_assign (hk := ?_))
        rw [hc2]
        --
        exact ih2 (i + 1) _ _ (by omega) ⟨rfl, by omega⟩ (.c rfl (.c rfl (.c rfl (.c rfl (.c rfl (.c rfl (.c rfl (.n))))))))
      · obtain ⟨bs, q', m, hbs, hv, hE⟩ := QP.get q hij
        rw [hv] at hv2
        repeat (first | refine T_seq ?_ | refine T_region ?_ | refine T_cond_true rfl ?_ | refine T_block ?_ | refine T_skip ?_ | refine TL_lt_t (hk := ?_) | refine TL_nil ?_ | refine TL_move (hk := ?_) | refine TL_assign (hk := ?_) | refine TL_load_rd TE (hk := ?_) | refine TL_indexAddr1n TE (hk := ?_))
        refine TL_call TE (hc := Unsent_c _ hE) (hk := ?_)
        rintro _ _ ⟨rfl, rfl⟩
        repeat (refine TL_move (hk := ?_))
        refine TL_call TE (hc := Flying_c _ hE) (hk := ?_)
        rintro _ _ ⟨rfl, rfl⟩
        repeat (first | refine T_region ?_ | refine T_inBlock ?_ | refine TL_add (hk := ?_) | refine TL_nil ?_ | refine TL_move (hk := ?_) | refine TL_assign (hk := ?_))
        rw [hc]
        --
        exact ih2 (j + 1) _ _ (by omega) ⟨rfl, by omega⟩ (.c rfl (.c rfl (.c rfl (.c rfl (.c rfl (.c rfl (.c rfl (.n))))))))
    · have hje : ns.N = j := by omega
      have hc : restA ns i + restR ns i j = restA ns (i + 1) := by rw [← hje]; rfl
      rw [hc]
      clear ih2
      repeat (first | refine T_seq ?_ | refine T_region ?_ | refine T_cond_false rfl ?_ | refine T_inBlock ?_ | refine T_exit rfl ?_ | refine TL_add (hk := ?_) | refine TL_lt_f (hk := ?_) | refine TL_nil ?_ | refine TL_move (hk := ?_))
      exact ih (i + 1) _ _ (by omega) ⟨rfl, by omega⟩ (.c rfl (.c rfl (.c rfl (.c rfl (.n)))))
  · have hie : ns.N = i := by omega
    have hc : restA ns i = restN ns := by rw [← hie]; rfl
    rw [hc]
    clear ih
    repeat (first | refine T_seq ?_ | refine T_region ?_ | refine T_cond_false rfl ?_ | refine T_exit rfl ?_ | refine TL_lt_f (hk := ?_) | refine TL_nil ?_ | refine TL_move (hk := ?_) | refine TL_assign (hk := ?_))
    exact T_ret1 rfl rfl ⟨rfl, rfl⟩
end
end Go.Proofs.Ytjjgojgahibpgaa

namespace Go.Proofs.Ytjjgojgahibpgaa
open Go.RowKit Go.Proofs.Eng Go.Proofs.Codec Go.Proofs.Link
set_option linter.unusedSimpArgs false
set_option linter.unusedVariables false set_option maxRecDepth 10000
attribute [local irreducible] T TL LV TH TA
set_option maxHeartbeats 3200000
section
variable {base p : Nat} {M : NM} {F : Nat → Nat → Nat → Nat} {h : Nat → Nat} {ns : NS} {k : Nat} {L : LL} {U : Nat → Nat → Nat}
theorem letC_le (hI : NI k ns L U) {a : Nat} (ha : a < ns.N) : ∀ c, c ≤ ns.N → letC a c ns ≤ c * 100001
  | 0, _ => by simp [letC]
  | c + 1, hc => by
    have h1 := letC_le hI ha c (by omega)
    have hN := (letK_N a c ns).1
    have h2 := ((hI.letK ha c (by omega)).ok (a := a) (c := c) (by rw [hN]; exact ha) (by rw [hN]; omega)).tot
    have h3 := out_len ((letK a c ns).E a c)
    unfold rE at h3
    unfold letC
    rw [Nat.succ_mul]
    omega
theorem cap_len (l : List PK) : ∀ way : List PK, way.length ≤ 4096 → (l.foldl capA way).length ≤ 4096 := fun way hw => by
  obtain ⟨_, _, h, _⟩ := cap_fold l way
  exact h hw
theorem fold_take (g : Bs → PK) (l : List Bs) (way : List PK) (j : Nat) (hj : j < l.length) : ((l.take (j + 1)).map g).foldl capA way = capA (((l.take j).map g).foldl capA way) (g (l.getD j [])) := by
  rw [List.take_succ_eq_append_getElem hj, List.map_append, List.foldl_append, List.getD_eq_getElem?_getD, List.getElem?_eq_getElem hj]
  rfl
/-- What is left of what was let out. -/
structure OutL (w0 w : World) (O : SV) (xs : List SV) (bs : List Bs) (h : Nat → Nat) (j : Nat) : Prop where
  rd : Rd w O.1 O.2.1 1 (slVs xs)
  oz : ∀ b ∈ blkL O.1, h b = 0 ∧ b < w.heap.size
  lo : O.2.1 = bs.length
  lx : xs.length = bs.length
  od : ∀ b ∈ blkS xs, b ∉ blkL O.1
  nd : (blkS xs).Nodup
  bd : ∀ i, j ≤ i → i < xs.length → Rd w (xs.getD i (none, 0, 0)).1 (xs.getD i (none, 0, 0)).2.1 1 (bv (bs.getD i [])) ∧ (xs.getD i (none, 0, 0)).2.1 ≤ (xs.getD i (none, 0, 0)).2.2 ∧ ∀ b ∈ blkL (xs.getD i (none, 0, 0)).1, h b = 0 ∧ b < w.heap.size ∧ w0.heap.size ≤ b
theorem OutL.tn {w0 w w' : World} {O : SV} {xs : List SV} {bs : List Bs} {h h' : Nat → Nat} {j : Nat} (l : OutL w0 w O xs bs h j) (t : Tn h h' w w') : OutL w0 w' O xs bs h' j := by
  obtain ⟨⟨S, m, s⟩, n, z⟩ := id t
  exact { l with
    rd := l.rd.mod m (off_of fun b hb q => s b q (l.oz b hb).1)
    oz := fun b hb => ⟨t.old (l.oz b hb).1 (l.oz b hb).2, by have := (l.oz b hb).2; omega⟩
    bd := fun i h1 h2 => by
      obtain ⟨g1, g2, g3⟩ := l.bd i h1 h2
      exact ⟨g1.mod m (off_of fun b hb q => s b q (g3 b hb).1), g2, fun b hb => ⟨t.old (g3 b hb).1 (g3 b hb).2.1, by have := (g3 b hb).2.1; omega, (g3 b hb).2.2⟩⟩ }
/-- One of them has come under way. -/
theorem OutL.push {w0 w w' : World} {O : SV} {xs : List SV} {bs : List Bs} {h h' : Nat → Nat} {j : Nat} (l : OutL w0 w O xs bs h j) (hj : j < xs.length) {S : List Nat} (m : Eng.Mod S w w') (hS : ∀ b ∈ S, h b ≠ 0)
    (hz : ∀ b, h b = 0 → b < w.heap.size → b ∉ blkL (xs.getD j (none, 0, 0)).1 → h' b = 0) : OutL w0 w' O xs bs h' (j + 1) := by
  have z := m.size
  exact { l with
    rd := l.rd.mod m (off_of fun b hb q => hS b q (l.oz b hb).1)
    oz := fun b hb => ⟨hz b (l.oz b hb).1 (l.oz b hb).2 (fun q => l.od b (blkS_get hj q) hb), by have := (l.oz b hb).2; omega⟩
    bd := fun i h1 h2 => by
      obtain ⟨g1, g2, g3⟩ := l.bd i (by omega) h2
      exact ⟨g1.mod m (off_of fun b hb q => hS b q (g3 b hb).1), g2, fun b hb => ⟨hz b (g3 b hb).1 (g3 b hb).2.1 (blkS_disj l.nd h2 hj (by omega) b hb), by have := (g3 b hb).2.1; omega, (g3 b hb).2.2⟩⟩ }
theorem OutL.of {w0 w : World} {O : SV} {xs : List SV} {bs : List Bs} {h : Nat → Nat} {B : Nat} (o : OutP w B O xs bs) (hB : w0.heap.size ≤ B) (h1 : ∀ b ∈ blkL O.1, h b = 0) (h2 : ∀ b ∈ blkS xs, h b = 0) : OutL w0 w O xs bs h 0 :=
  { rd := o.own.rd, oz := fun b hb => ⟨h1 b hb, Lo.blk o.own.lo b hb⟩, lo := by have := o.own.len; have h3 := o.bod.len; rw [slVs_length] at this; omega, lx := o.bod.len, od := o.off, nd := o.nd
    bd := fun i _ hi => by
      have g := o.bod.get i hi
      exact ⟨g.rd, (Own.cap g).1, fun b hb => ⟨h2 b (blkS_get hi hb), (g.lt b hb).2, by have := (g.lt b hb).1; omega⟩⟩ }
theorem OutL.skip {w0 w : World} {O : SV} {xs : List SV} {bs : List Bs} {h : Nat → Nat} {j : Nat} (l : OutL w0 w O xs bs h j) : OutL w0 w O xs bs h (j + 1) := { l with bd := fun i h1 h2 => l.bd i (by omega) h2 }
end
end Go.Proofs.Ytjjgojgahibpgaa

namespace Go.Proofs.Ytjjgojgahibpgaa
open Go.RowKit Go.Proofs.Eng Go.Proofs.Codec Go.Proofs.Link
set_option linter.unusedSimpArgs false
set_option linter.unusedVariables false set_option maxRecDepth 10000
attribute [local irreducible] T TL LV TH TA
set_option maxHeartbeats 3200000
section
variable {base p : Nat} {M : NM} {F : Nat → Nat → Nat → Nat} {h : Nat → Nat} {ns : NS} {k : Nat} {L : LL} {U : Nat → Nat → Nat}
theorem NLet_c (a : Int) (w : World) (g : NetG LayP ns.N w base p M F h ns) (hI : NI k ns L U) :
    Ret Try.prog 47 [ptr p, .int .i64 a] w (fun v w' => v = .int .i64 ((letX ns a).2 : Int) ∧ ∃ M' F' h', NetG LayP ns.N w' base p M' F' h' (letX ns a).1 ∧ Tn h h' w w') := by
  have hk := g.kP
  have hl := g.l1
  have hcn := g.nn
  unfold letX
  refine ret_T (n := 82) Try.func47 rfl rfl ?_
  by_cases h1 : inN ns.N a = true
  · obtain ⟨x, rfl, hx⟩ := inN_nat h1
    rw [if_pos h1]
    simp only [Int.toNat_natCast]
    clear h1
    have h0 : (0 : Int) ≤ (x : Int) := by omega
    have hx' : (x : Int) < ((M.s1.2.1 : Nat) : Int) := by omega
    have r1 := g.o1.rd
    have hv1 := rowF_get (fun a => slV (M.r1 a)) hx
    have hlx := (g.lr hx).1
    have hb0 : ∀ b, h b ≠ 0 → b < w.heap.size := fun b hb => (g.old b hb).2
    have hbw := g.bw
    repeat (first | refine T_seq ?_ | refine T_region ?_ | refine T_cond_false rfl ?_ | refine T_block ?_ | refine T_skip ?_ | refine TL_lt_f (hk := ?_) | refine TL_ge_f (hk := ?_) | refine TL_pnil_f TE (hk := ?_) | refine TL_nil ?_ | refine TL_move (hk := ?_) | refine TL_assign (hk := ?_) | refine TL_load TE (hk := ?_) | refine TL_load_rd TE (hk := ?_) | refine TL_fieldAddr TE (hk := ?_) | refine TL_indexAddr1n TE (hk := ?_) | refine TL_len TE (hk := ?_) | refine TL_yes (hk := ?_) | refine TL_pick_f (hk := ?_) | refine TL_nilCheck (hk := ?_))
    refine T_loop (ι := Nat) (fun i => [(33, .int .i64 (i : Int)), (32, .int .i64 (((M.r1 x).2.1 : Nat) : Int)), (31, slV (M.r1 x)), (5, .int .i64 ((letC x i ns : Nat) : Int)), (0, ptr p), (1, .int .i64 (x : Int))])
      (fun i w' => i ≤ ns.N ∧ ∃ s3 y F' h', NetG LayP ns.N w' base p { M with s3 := s3, y := y } F' h' (letK x i ns) ∧ Tn h h' w w') (fun i => ns.N - i) 0 (.c rfl (.c rfl (.c rfl (.c rfl (.c rfl (.c rfl (.n))))))) ⟨Nat.zero_le _, M.s3, M.y, F, h, g, Tn.refl _ _⟩ ?_
    clear hk
    rintro i w1 ⟨hi, s3, y, F1, h1, g1, t1⟩ ih
    have hN1 := letK_N x i ns
    have hI1 := hI.letK hx i hi
    have hcl := letC_le hI hx i hi
    by_cases hlt : i < ns.N
    · have hcl2 := letC_le hI hx (i + 1) (by omega)
      have hcm := Nat.mul_le_mul_right 100001 (show i + 1 ≤ 8 by omega)
      have r1 := g1.o1.rd
      have r2 := g1.q1 x hx
      simp only at r1 r2
      rw [hN1.1] at r2
      have hv2 := rowF_get (M.ev x) hlt
      have hA2 : (M.r1 x).1 ≠ none := by obtain ⟨_, _, hq, _⟩ := r2.2 (by omega); rw [hq]; simp
      have q := g1.en x i hx (by rw [hN1.1]; exact hlt)
      by_cases hxi : x = i
      · subst hxi
        obtain ⟨hv, -, -⟩ := QP.nil q
        simp only at hv
        rw [hv] at hv2
        obtain ⟨hd1, hd2⟩ := let1_diag hI1 (a := x) (by rw [hN1.1]; exact hlt)
        have hcs : letC x (x + 1) ns = letC x x ns := by
          show letC x x ns + _ = _
          rw [hd2]; rfl
        have hks : letK x (x + 1) ns = letK x x ns := hd1
        repeat (first | refine T_seq ?_ | refine T_region ?_ | refine T_cond_true rfl ?_ | refine T_block ?_ | refine T_skip ?_ | refine TL_lt_t (hk := ?_) | refine TL_nil ?_ | refine TL_move (hk := ?_) | refine TL_assign (hk := ?_) | refine TL_load_rd TE (hk := ?_) | refine TL_indexAddr1n TE (hk := ?_))
        refine TL_call TE (hc := EOut_n (.bool true) _) (hk := ?_)
        rintro _ w1 ⟨rfl, rfl⟩
        repeat (first | refine T_block ?_ | refine TL_nil ?_ | refine TL_move (hk := ?_) | refine TL_len TE (hk := ?_))
        refine T_loop (ι := Nat) (fun j => [(41, .int .i64 (j : Int)), (40, .int .i64 0), (33, .int .i64 (x : Int)), (32, .int .i64 (((M.r1 x).2.1 : Nat) : Int)), (31, slV (M.r1 x)), (5, .int .i64 ((letC x x ns : Nat) : Int)), (0, ptr p), (1, .int .i64 (x : Int))]) (fun j w' => j = 0 ∧ w' = w1) (fun j => 0) 0 (.c rfl (.c rfl (.c rfl (.c rfl (.c rfl (.c rfl (.c rfl (.c rfl (.n))))))))) ⟨rfl, rfl⟩ ?_
        rintro j _ ⟨rfl, rfl⟩ -
        repeat (first | refine T_seq ?_ | refine T_region ?_ | refine T_cond_false rfl ?_ | refine T_inBlock ?_ | refine T_exit rfl ?_ | refine TL_add (hk := ?_) | refine TL_lt_f (hk := ?_) | refine TL_nil ?_ | refine TL_move (hk := ?_))
        exact ih (x + 1) _ _ (by omega) ⟨by omega, s3, y, F1, h1, by rw [hks]; exact g1, t1⟩ (by rw [hcs]; exact (.c rfl (.c rfl (.c rfl (.c rfl (.c rfl (.c rfl (.n))))))))
      · obtain ⟨bs, q', m, hbs, hv, hE⟩ := QP.get q hxi
        simp only at hv
        rw [hv] at hv2
        have ok := hI1.ok (a := x) (c := i) (by rw [hN1.1]; exact hx) (by rw [hN1.1]; exact hlt)
        repeat (first | refine T_seq ?_ | refine T_region ?_ | refine T_cond_true rfl ?_ | refine T_block ?_ | refine T_skip ?_ | refine TL_lt_t (hk := ?_) | refine TL_nil ?_ | refine TL_move (hk := ?_) | refine TL_assign (hk := ?_) | refine TL_load_rd TE (hk := ?_) | refine TL_indexAddr1n TE (hk := ?_))
        refine TL_call TE (hc := Out_c _ hE hE.bw ok) (hk := ?_)
        rintro _ w2 ⟨O, xs, m2, f2, rfl, E2, t2, o2, fo2, fx2⟩
        obtain ⟨es, hes⟩ : ∃ es, (letK x i ns).E x i = es := ⟨_, rfl⟩
        have hC : letC x (i + 1) ns = letC x i ns + (outE es).2.length := by rw [← hes]; rfl
        rw [hes] at E2 o2
        obtain ⟨h2, g2, t12, hz2, -⟩ := g1.end_ (f' := f2) (es' := (outE es).1) hx (by rw [hN1.1]; exact hlt) (by simp only; rw [hv]; exact QP.mk hxi hbs E2) t2
        have hnew : ∀ b, w1.heap.size ≤ b → h1 b = 0 := fun b hb => by
          by_cases z : h1 b = 0
          · exact z
          · have := (g1.old b z).2; omega
        have hOl := OutL.of (w0 := w) o2 t1.size (h := h2) (fun b hb => hz2 b (hnew b (Hi.blk o2.own.hi b hb)) (.inr (fo2 b hb))) (fun b hb => hz2 b (hnew b (o2.bod.lt b hb).1) (.inr (fx2 b hb)))
        replace t12 := t1.trans t12
        have hwl := hI1.wl
        have hlo := hOl.lo
        have hon : (outE es).2.length ≤ 100001 := by
          have h3 := out_len es
          have h4 := ok.tot
          rw [hes] at h4
          unfold rE at h3
          omega
        obtain ⟨Pv, hPv⟩ : ∃ Pv, ns.P x i = Pv := ⟨_, rfl⟩
        obtain ⟨wy, hwy⟩ : ∃ wy : Nat → List PK, wy = fun j => if Pv then (letK x i ns).way else (((outE es).2.take j).map (PK.mk x i)).foldl capA (letK x i ns).way := ⟨_, rfl⟩
        have hw0 : wy 0 = (letK x i ns).way := by rw [hwy]; simp
        have hwe : letK x (i + 1) ns = { letK x i ns with E := upd2 (letK x i ns).E x i (outE es).1, way := wy (outE es).2.length } := by
          show let1 (letK x i ns) x i = _
          unfold let1
          rw [hes, hN1.2.2.2, hPv, hwy]
          simp only [List.take_length, hN1.2.2.2]
        have hwl2 : ∀ j, (wy j).length ≤ 4096 := fun j => by
          rw [hwy]
          simp only
          split
          · exact hwl
          · exact cap_len _ _ hwl
        have hcnt : letC x i ns + (outE es).2.length ≤ 2000000 := by omega
        clear r1 r2 q hE E2 t2 o2 fo2 fx2 hz2 hnew g1 t1 hcl hcl2 hcm hon ok
        repeat (first | refine T_block ?_ | refine TL_nil ?_ | refine TL_move (hk := ?_) | refine TL_len TE (hk := ?_))
        refine T_loop (ι := Nat) (fun j => [(41, .int .i64 (j : Int)), (40, .int .i64 ((O.2.1 : Nat) : Int)), (39, slV O), (6, .int .i64 (i : Int)), (33, .int .i64 (i : Int)), (32, .int .i64 (((M.r1 x).2.1 : Nat) : Int)), (31, slV (M.r1 x)), (5, .int .i64 ((letC x i ns + j : Nat) : Int)), (0, ptr p), (1, .int .i64 (x : Int))])
          (fun j w' => j ≤ (outE es).2.length ∧ ∃ s3 y h', NetG LayP ns.N w' base p { M with s3 := s3, y := y } (upd2 F1 x i f2) h' { letK x i ns with E := upd2 (letK x i ns).E x i (outE es).1, way := wy j } ∧ Tn h h' w w' ∧ OutL w w' O xs (outE es).2 h' j) (fun j => (outE es).2.length - j) 0 (.c rfl (.c rfl (.c rfl (.c rfl (.c rfl (.c rfl (.c rfl (.c rfl (.c rfl (.c rfl (.n)))))))))))
          ⟨Nat.zero_le _, s3, y, h2, by rw [hw0]; exact g2, t12, hOl⟩ ?_
        clear g2 t12 hOl s3 y h2 h1
        rintro j w3 ⟨hj, s3, y, h3, g3, t3, l3⟩ ih2
        have hC2 : ((letC x i ns + j : Nat) : Int) + 1 = ((letC x i ns + (j + 1) : Nat) : Int) := by omega
        by_cases hjt : j < (outE es).2.length
        · have rO := l3.rd
          have hjx : j < xs.length := by have := l3.lx; omega
          have hOn : O.1 ≠ none := by obtain ⟨_, _, hq, _⟩ := rO.2 (by omega); rw [hq]; simp
          have hvx := slVs_get xs j hjx
          have hbd := l3.bd j (Nat.le_refl _) hjx
          have hk3 := g3.kP
          have hl2 := g3.l2
          have rp1 := g3.o2.rd
          have hvp1 := rowF_get (fun a => slV (M.r2 a)) hx
          have rp2 := (g3.q2 x hx).rd
          have hvp2 := rowF_get (fun c => LayP.pv ((letK x i ns).P x c)) (N := (letK x i ns).N) (by rw [hN1.1]; exact hlt)
          rw [hN1.2.2.2, hPv] at hvp2
          have hlx2 := (g3.lr hx).2
          simp only at hk3 hl2 rp1 rp2 hlx2
          rw [hN1.2.2.2] at rp2
          have hbw3 := g3.bw
          have hh0 : ∀ b, h3 b ≠ 0 → b < w3.heap.size := fun b hb => (g3.old b hb).2
          obtain ⟨hy1, hy2⟩ := g3.l3
          simp only at hy1 hy2
          have hwj := hwl2 j
          rw [hN1.1] at hlx2
          obtain ⟨pi, hpi⟩ : ∃ z : Int, z = (if Pv then 1 else 0) := ⟨_, rfl⟩
          rw [show LayP.pv Pv = (.int .i64 (if Pv then 1 else 0) : Value) from rfl, ← hpi] at hvp2
          generalize hz : xs.getD j (none, 0, 0) = z at hvx hbd
          repeat (first | refine T_seq ?_ | refine T_region ?_ | refine T_cond_true rfl ?_ | refine T_block ?_ | refine T_skip ?_ | refine TL_add (hk := ?_) | refine TL_lt_t (hk := ?_) | refine TL_nil ?_ | refine TL_move (hk := ?_) | refine TL_assign (hk := ?_) | refine TL_load TE (hk := ?_) | refine TL_load_rd TE (hk := ?_) | refine TL_fieldAddr TE (hk := ?_) | refine TL_indexAddr1n TE (hk := ?_) | refine TL_nilCheck (hk := ?_))
          by_cases hPt : Pv = true
          · subst hPt
            have hws : wy (j + 1) = wy j := by rw [hwy]; rfl
            have hpz : ¬ pi = 0 := by rw [hpi]; decide
            repeat (first | refine T_region ?_ | refine T_cond_false rfl ?_ | refine T_inBlock ?_ | refine T_skip ?_ | refine TL_add (hk := ?_) | refine TL_eq_f (hk := ?_) | refine TL_nil ?_ | refine TL_move (hk := ?_) | refine TL_no (hk := ?_) | refine TL_pick_f (hk := ?_))
            exact ih2 (j + 1) _ _ (by omega) ⟨by omega, s3, y, h3, by rw [hws]; exact g3, t3, l3.skip⟩ (by rw [← hC2]; exact (.c rfl (.c rfl (.c rfl (.c rfl (.c rfl (.c rfl (.c rfl (.c rfl (.c rfl (.c rfl (.n))))))))))))
          · have hPt : Pv = false := by simpa using hPt
            subst hPt
            have hpz : pi = 0 := by rw [hpi]; rfl
            have hws : wy (j + 1) = capA (wy j) ⟨x, i, (outE es).2.getD j []⟩ := by
              rw [hwy]
              simp only [Bool.false_eq_true, if_false]
              exact fold_take (PK.mk x i) _ _ j hjt
            by_cases hfull : (wy j).length < 4096
            · have hs3l : ((s3.2.1 : Nat) : Int) < 4096 := by omega
              unfold capA at hws
              rw [if_pos hfull] at hws
              repeat (first | refine T_region ?_ | refine T_cond_true rfl ?_ | refine TL_lt_t (hk := ?_) | refine TL_eq_t (hk := ?_) | refine TL_nil ?_ | refine TL_move (hk := ?_) | refine TL_load TE (hk := ?_) | refine TL_fieldAddr TE (hk := ?_) | refine TL_len TE (hk := ?_) | refine TL_yes (hk := ?_) | refine TL_pick_t (hk := ?_) | refine TL_nilCheck (hk := ?_) | refine TL_build TE (hk := ?_))
              refine TL_buildSliceA TE (hk := ?_); intro b4 w4 e4 h4 h4' k4
              replace k4 : Blk w4 b4 103 (rowV pkV [((⟨x, i, (outE es).2.getD j []⟩, z) : PK × SV)]) := k4
              have r4 : Rd w4 (some ⟨b4, 0, none⟩) 1 3 (rowV pkV [((⟨x, i, (outE es).2.getD j []⟩, z) : PK × SV)]) := Rd.blk k4 rfl
              have o3 := g3.o3.be e4
              simp only at o3
              have z4 := e4.size
              have hp3 := g3.p3
              simp only at hp3
              have hk4 := hk3.be e4
              --
              refine TL_append TE (ho := o3) (hr := r4) (h1 := rowV_one pkV_one _) (hk := ?_); intro A5 c5 w5 o5 m5 n5
              rw [← rowV_append] at o5
              have hk5 := hk4.mod m5 (fun q => hp3 p q (by simp))
              repeat (first | refine TL_fieldAddr TE (hk := ?_) | refine TL_nilCheck (hk := ?_))
              refine TL_store TE (hb := hk5) (hk := ?_); intro w6 m6 z6 k6
              obtain ⟨h6, g6, t6, hz6⟩ := g3.push (s3 := (A5, s3.2.1 + 1, c5)) (x := (⟨x, i, (outE es).2.getD j []⟩, z)) e4 m5 o5 n5 m6 k6 t3 hb0 (.inr ⟨hbd.1, hbd.2.1, fun b hb => ⟨(hbd.2.2 b hb).1, by have := (hbd.2.2 b hb).2.2; have := hbw; omega, (hbd.2.2 b hb).2.1, (hbd.2.2 b hb).2.2⟩⟩)
              have hMod : Eng.Mod (p :: blkL s3.1) w3 w6 := ((e4.mono (S' := p :: blkL s3.1) (by simp)).step m5 (fun b hb => .inl (List.mem_cons_of_mem _ hb))).step m6 (fun b hb => .inl (by rw [List.mem_singleton.1 hb]; exact List.mem_cons_self))
              have l6 := l3.push (h' := h6) hjx hMod (fun b hb => by
                rcases List.mem_cons.1 hb with rfl | hb
                · rw [g3.hp]; decide
                · rw [g3.h12 b hb]; decide) (by rw [hz]; exact hz6)
              repeat (first | refine T_region ?_ | refine T_inBlock ?_ | refine TL_add (hk := ?_) | refine TL_nil ?_ | refine TL_move (hk := ?_))
              exact ih2 (j + 1) _ _ (by omega) ⟨by omega, _, _, h6, by rw [hws]; exact g6, t6, l6⟩ (by rw [← hC2]; exact (.c rfl (.c rfl (.c rfl (.c rfl (.c rfl (.c rfl (.c rfl (.c rfl (.c rfl (.c rfl (.n))))))))))))
            · have hs3l : ¬ ((s3.2.1 : Nat) : Int) < 4096 := by omega
              clear hx' h0
              unfold capA at hws
              rw [if_neg hfull] at hws
              repeat (first | refine T_region ?_ | refine T_cond_false rfl ?_ | refine T_inBlock ?_ | refine T_skip ?_ | refine TL_add (hk := ?_) | refine TL_lt_f (hk := ?_) | refine TL_eq_t (hk := ?_) | refine TL_nil ?_ | refine TL_move (hk := ?_) | refine TL_load TE (hk := ?_) | refine TL_fieldAddr TE (hk := ?_) | refine TL_len TE (hk := ?_) | refine TL_yes (hk := ?_) | refine TL_pick_t (hk := ?_) | refine TL_nilCheck (hk := ?_))
              exact ih2 (j + 1) _ _ (by omega) ⟨by omega, s3, y, h3, by rw [hws]; exact g3, t3, l3.skip⟩ (by rw [← hC2]; exact (.c rfl (.c rfl (.c rfl (.c rfl (.c rfl (.c rfl (.c rfl (.c rfl (.c rfl (.c rfl (.n))))))))))))
        · have hje : (outE es).2.length = j := by omega
          clear ih2
          rw [← hje]
          rw [hje] at hwe
          repeat (first | refine T_seq ?_ | refine T_region ?_ | refine T_cond_false rfl ?_ | refine T_inBlock ?_ | refine T_exit rfl ?_ | refine TL_add (hk := ?_) | refine TL_lt_f (hk := ?_) | refine TL_nil ?_ | refine TL_move (hk := ?_))
          exact ih (i + 1) _ _ (by omega) ⟨by omega, s3, y, _, h3, by rw [hwe]; exact g3, t3⟩ (by rw [hC]; exact (.c rfl (.c rfl (.c rfl (.c rfl (.c rfl (.c rfl (.n))))))))
    · have hie : ns.N = i := by omega
      clear ih
      rw [← hie] at g1
      repeat (first | refine T_seq ?_ | refine T_region ?_ | refine T_cond_false rfl ?_ | refine T_exit rfl ?_ | refine TL_lt_f (hk := ?_) | refine TL_nil ?_ | refine TL_move (hk := ?_) | refine TL_assign (hk := ?_))
      rw [← hie]
      exact T_ret1 rfl rfl ⟨rfl, _, F1, h1, g1, t1⟩
  · rw [if_neg h1]
    have h1' : ¬ (0 ≤ a ∧ a < ns.N) := by unfold inN at h1; simpa using h1
    by_cases h2 : 0 ≤ a
    · have h3 : ((M.s1.2.1 : Nat) : Int) ≤ a := by omega
      repeat (first | refine T_seq ?_ | refine T_region ?_ | refine T_cond_true rfl ?_ | refine TL_lt_f (hk := ?_) | refine TL_ge_t (hk := ?_) | refine TL_pnil_f TE (hk := ?_) | refine TL_nil ?_ | refine TL_move (hk := ?_) | refine TL_assign (hk := ?_) | refine TL_load TE (hk := ?_) | refine TL_fieldAddr TE (hk := ?_) | refine TL_len TE (hk := ?_) | refine TL_yes (hk := ?_) | refine TL_pick_f (hk := ?_) | refine TL_nilCheck (hk := ?_))
      exact T_ret1 rfl rfl ⟨rfl, M, F, h, g, Tn.refl _ _⟩
    · repeat (first | refine T_seq ?_ | refine T_region ?_ | refine T_cond_true rfl ?_ | refine TL_lt_t (hk := ?_) | refine TL_pnil_f TE (hk := ?_) | refine TL_nil ?_ | refine TL_move (hk := ?_) | refine TL_assign (hk := ?_) | refine TL_yes (hk := ?_) | refine TL_no (hk := ?_) | refine TL_pick_t (hk := ?_) | refine TL_pick_f (hk := ?_))
      exact T_ret1 rfl rfl ⟨rfl, M, F, h, g, Tn.refl _ _⟩
end
end Go.Proofs.Ytjjgojgahibpgaa

/- s[i:j:k]; an append that stays within its own row. -/
namespace Go.Proofs.Eng
open Go.RowKit
set_option linter.unusedSimpArgs false
set_option linter.unusedVariables false
set_option linter.unusedSectionVars false
section
variable {q : Qm} {P : Program} {fn : Func} {R : Ending → World → Prop} {M : Md} {n : Nat} {st : Slots} {k : List Item} {w : World} {ops rest : List Oper}
  {d : Nat} {ty : TypeId} {ps : String} {af : Array Edge} {X Y V Z : Operand} {t e : TypeId} {by_ s base m c m2 c2 i : Nat} {z : Value} {A A2 : Option Addr} {xs ys : List Value} {L L2 L3 : IntKind}
theorem TL_slice3 {j j2 j3 : Int} (E : Env P) (hx : ev st X = some (.slice A m c) := by exact rfl) (hy : ev st Y = some (.int L j) := by exact rfl) (hV : ev st V = some (.int L2 j2) := by exact rfl) (hZ : ev st Z = some (.int L3 j3) := by exact rfl) (ht : E.und t = some (.slice e) := by exact rfl) (he : E.inf e = some (s, by_, z) := by exact rfl) (hd : Nat.blt d n = true := by exact rfl) (h0 : 0 ≤ j := by first | assumption | omega) (h1 : j ≤ j2 := by first | assumption | omega) (h2 : j2 ≤ j3 := by first | assumption | omega) (h3 : j3 ≤ (c : Int) := by first | assumption | omega)
    (hk : TL q P fn R M n ((d, .slice (if j3.toNat = j.toNat then A else A.map (·.add (j.toNat * s))) (j2.toNat - j.toNat) (j3.toNat - j.toNat)) :: st) ops rest k w) : TL q P fn R M n st ops (⟨some d, .slice t X (some Y) (some V) (some Z), ty, ps, af, none⟩ :: rest) k w :=
  TL_val_w hd (fun w ρ h => by
    have a1 : 0 ≤ j2 := by omega
    have a2 : 0 ≤ j3 := by omega
    have a3 : j ≤ (j2.toNat : Int) := by omega
    have a4 : j2 ≤ (j3.toNat : Int) := by omega
    have a5 : j2 ≤ max j3 0 := by omega
    have a6 : j ≤ max j2 0 := by omega
    simp [execOp, Instr.sliceAt, Instr.slice, Instr.sliceBounds, Instr.sliceBound, asIntOf, run_underlying (E.und_ok _ _ ht), h _ _ hx, h _ _ hy, h _ _ hV, h _ _ hZ, h0, h1, h2, h3, a1, a2, a3, a4, a5, a6, run_sizeOf' (E.inf_ok _ _ _ _ he)]) hk
theorem run_append_within (ht : P.underlying t = some (.slice e)) (hi : ∃ i, P.info? e = some i ∧ i.size = s ∧ i.bytes = by_ ∧ i.zero = some z) (hsz : 0 < s)
    (ho : Own w base e s A m c xs) (hr : Rd w A2 m2 s ys) (h1 : ∀ u ∈ ys, u.oneCell' = true) (hroom : i + m2 ≤ m) (tt : TypeId) :
    ∃ w', (Builtin.append_ #[t, t] tt #[.slice A i c, .slice A2 m2 c2]).run P w = .ok (.slice A (i + m2) c) w' ∧ Mod (blkL A) w w' ∧ w'.heap.size = w.heap.size ∧ Own w' base e s A m c (xs.take (i * s) ++ ys ++ xs.drop ((i + m2) * s)) := by
  obtain ⟨it, i1, i2, i3, i4⟩ := id hi
  rcases Nat.eq_zero_or_pos m2 with h0 | h0
  · subst h0
    have hy : ys = [] := List.eq_nil_of_length_eq_zero (by simpa using hr.1)
    subst hy
    have hl : ∀ (x : Addr), (loadCells x 0).run P w = .ok #[] w := fun x => by simpa using run_loadCells_list (P := P) w x [] (by simp)
    have hc : i ≤ c := by have := ho.cap.1; omega
    refine ⟨w, ?_, Mod.refl _ _, rfl, by simpa using ho⟩
    cases A <;> cases A2 <;> simp [Builtin.append_, run_underlying ht, sizeOf, typeInfo, i1, Builtin.lenOf, Builtin.firstCells, hc, storeCells, hl]
  · obtain ⟨hxl, ⟨_, hz⟩ | ⟨g, cap, cur, hv, hg, hh, hnc, hcm, hcs, htk⟩⟩ := id ho
    · omega
    · cases hv
      obtain ⟨b2, o2, rfl, hb2', hc2⟩ := hr.2 (by omega)
      have hsrc : ∀ j u, ys[j]? = some u → w.cell? ((⟨b2, o2, none⟩ : Addr).add j) = some u := fun j u hu => by
        rw [← hc2 j u hu]
        congr 1
        unfold Addr.add
        by_cases h : j = 0 <;> simp [h]
      have hk : Blk w g e cur.toList := by unfold Blk; simpa using hh
      have hcl : cur.toList.length = cur.size := Array.length_toList
      have h8 : (i + m2) * s = i * s + m2 * s := Nat.add_mul _ _ _
      have h9 : (i + m2) * s ≤ m * s := Nat.mul_le_mul_right _ hroom
      have h10 : m * s ≤ c * s := Nat.mul_le_mul_right _ hnc
      have hys := hr.1
      have hfit : 0 + i * s + 0 + ys.length ≤ cur.toList.length := by omega
      obtain ⟨w', g1, g2, g3, g4⟩ := run_storeAll (P := P) (b := g) (o := 0 + i * s) ys cur.toList 0 w hk hfit h1
      rw [Nat.add_zero, Nat.zero_add] at g4
      have hfc := run_firstCells_some (P := P) w it.size m2 ⟨b2, o2, none⟩ m2 c2 ys (by rw [i2]; exact hr.1) hsrc
      have hroom' : i + m2 ≤ c := by omega
      refine ⟨w', ?_, g2, g3, ?_, .inr ⟨g, c, (setAll cur.toList (i * s) ys).toArray, rfl, hg, g4, hnc, hcm, by simp [setAll_length]; exact hcs, ?_⟩⟩
      · rw [i2] at hfc
        rw [Nat.zero_add] at g1
        simp [Builtin.append_, run_underlying ht, sizeOf, typeInfo, i1, i2, Builtin.lenOf, hroom', hfc, Addr.add_lit, g1]
      · simp only [List.length_append, List.length_take, List.length_drop, hxl, hys]
        omega
      · simp only [List.toList_toArray]
        rw [setAll_eq _ _ _ (by omega), ← htk, h8]
        apply List.ext_getElem?
        intro j
        simp only [List.getElem?_take, List.getElem?_append, List.getElem?_drop, List.length_append, List.length_take, List.length_drop, hys]
        grind
theorem TL_append_within (E : Env P) (ho : Own w base e s A m c xs) (hr : Rd w A2 m2 s ys) (h1 : ∀ u ∈ ys, u.oneCell' = true) (hroom : i + m2 ≤ m) (hx : ev st X = some (.slice A i c) := by exact rfl) (hy : ev st Y = some (.slice A2 m2 c2) := by exact rfl) (ht : E.und t = some (.slice e) := by exact rfl) (he : E.inf e = some (s, by_, z) := by exact rfl) (hsz : Nat.blt 0 s = true := by exact rfl) (hd : Nat.blt d n = true := by exact rfl)
    (hf : Fl q (rest.length + 1) := by first | exact trivial | exact rfl) (hq : ∀ w', Mod (blkL A) w w' → Kp q w' := by exact fun _ _ => trivial)
    (hk : ∀ w', Own w' base e s A m c (xs.take (i * s) ++ ys ++ xs.drop ((i + m2) * s)) → Mod (blkL A) w w' → w'.heap.size = w.heap.size → TL q P fn R M n ((d, .slice A (i + m2) c) :: st) ops rest k w') :
    TL q P fn R M n st ops (⟨some d, .call { callee := .builtin .append, args := #[X, Y], argTypes := #[t, t] }, ty, ps, af, none⟩ :: rest) k w := by
  obtain ⟨w', g1, g2, g3, g4⟩ := run_append_within (E.und_ok _ _ ht) (E.inf_ok _ _ _ _ he) (by simpa [Nat.blt_eq] using hsz) ho hr h1 hroom (c2 := c2) ty
  refine TL_new (w' := w') hd (fun ρ h => ?_) hf (hq _ g2) (hk w' g4 g2 g3)
  simp only [execOp, resolve, invoke, builtin, Sem.run_bind, Sem.run_pure, Result.andThen_ok, List.map_toArray, List.map_cons, List.map_nil, h _ _ hx, h _ _ hy, g1]
variable {S S2 : List UInt8} {t2 : TypeId}
end
end Go.Proofs.Eng

/- A load in a region walked move by move, when nothing else may come up: out of the world as it is then. -/
namespace Go.Proofs.Eng
open Go.RowKit
set_option linter.unusedSimpArgs false
set_option linter.unusedVariables false
set_option linter.unusedSectionVars false
section
variable {q : Qm} {P : Program} {fn : Func} {R : Ending → World → Prop} {M : Md} {n : Nat} {st : Slots} {k : List Item} {w : World} {ops rest : List Oper}
  {d : Nat} {ty : TypeId} {ps : String} {af : Array Edge} {X : Operand} {t : TypeId} {dsc : TypeDesc} {v : Value}
end
end Go.Proofs.Eng

/- A load of a struct out of a row in a region walked move by move, when nothing else may come up. -/
namespace Go.Proofs.Eng
open Go.RowKit
set_option linter.unusedSimpArgs false
set_option linter.unusedVariables false
set_option linter.unusedSectionVars false
section
variable {q : Qm} {P : Program} {fn : Func} {R : Ending → World → Prop} {M : Md} {n : Nat} {st : Slots} {k : List Item} {w : World} {ops rest : List Oper}
  {d : Nat} {ty : TypeId} {ps : String} {af : Array Edge} {X : Operand} {t : TypeId} {m s j by_ : Nat} {z : Value} {A : Option Addr}
theorem TLN_loada {xs cs : List Value} {fl : List (Nat × TypeId)} (E : Env P) (hx : ev st X = some (.pointer (some (adr A j))) := by exact rfl) (ht : E.fld t = some fl := by exact rfl) (hr : Rd w A m s xs) (hc : (xs.drop j).take cs.length = cs) (hi : E.inf t = some (cs.length, by_, z) := by exact rfl) (h0 : 0 < cs.length := by exact Nat.succ_pos _) (hd : Nat.blt d n = true := by exact rfl)
    (hf : Fl q (rest.length + 1) := by first | exact trivial | exact rfl) (hq : Kp q w) (hk : TL q P fn R M n ((d, .agg cs.toArray) :: st) ops rest k w) : TL q P fn R M n st ops (⟨some d, .load t X, ty, ps, af, none⟩ :: rest) k w :=
  TL_new (w' := w) hd (fun ρ h => by
    have h1 := load_cells (P := P) hr hc h0
    simp [execOp, Instr.loadAt, h _ _ hx, Instr.sureAddr, loadVar, run_isAgg_fld E ht, run_sizeOf' (E.inf_ok _ _ _ _ hi), h1]) hf hq hk
end
end Go.Proofs.Eng

namespace Go.Proofs.Ytjjgojgahibpgaa
open Go.RowKit Go.Proofs.Eng Go.Proofs.Codec Go.Proofs.Link
set_option linter.unusedSimpArgs false
set_option linter.unusedVariables false set_option maxRecDepth 10000
attribute [local irreducible] T TL LV TH TA
set_option maxHeartbeats 3200000
theorem PDelete_c (A : Option Addr) (n c base i : Nat) (q : List (PK × SV)) (w : World) (h : Own w base 103 3 A n c (rowV pkV q)) (hi : i < n) (hn : n ≤ 1000000) (hbw : base ≤ w.heap.size) :
    Ret Try.prog 76 [.slice A n c, .int .i64 (i : Int), .int .i64 ((i + 1 : Nat) : Int)] w (fun v w' => v = .slice A (n - 1) c ∧ Eng.Mod (blkL A) w w' ∧ Own w' base 103 3 A (n - 1) c (rowV pkV (q.eraseIdx i))) := by
  have hl : q.length = n := by have := h.len; rw [rowV_len pkV_len] at this; omega
  have hcap := h.cap
  have hne : ¬ (i : Int) = ((i + 1 : Nat) : Int) := by omega
  rw [List.eraseIdx_eq_take_drop_succ]
  refine ret_T (n := 33) Try.func76 rfl rfl ?_
  repeat (first | refine T_seq ?_ | refine T_region ?_ | refine TL_nil ?_ | refine TL_move (hk := ?_) | refine TL_assign (hk := ?_) | refine TL_len TE (hk := ?_))
  refine TL_slice3 TE (hk := ?_)
  repeat (first | refine T_seq ?_ | refine T_region ?_ | refine T_cond_false rfl ?_ | refine T_skip ?_ | refine TL_eq_f (hk := ?_) | refine TL_nil ?_ | refine TL_move (hk := ?_) | refine TL_assign (hk := ?_) | refine TL_len TE (hk := ?_))
  refine T_region_any TE.mixed (blkL A) ?_; intro w1 e1 z1
  have h1 := h.be e1
  have r1 : Rd w1 (cutA A c (i + 1) 3) (n - (i + 1)) 3 (rowV pkV (q.drop (i + 1))) := by
    have := Rd.cut (l := i + 1) (h := n) (c := c) h1.rd (by omega) (Nat.le_refl _) hcap.1
    rwa [rowV_drop pkV_len, List.take_of_length_le (by rw [rowV_len pkV_len, List.length_drop]; omega)] at this
  (refine TA_take 0 rfl (by kernel_rfl) (by kernel_rfl) (by kernel_rfl) ?_; (repeat (first | refine TL_move (hk := ?_) | refine TL_slice_hi TE (hk := ?_) | refine TL_slice_lo TE (hk := ?_))); refine TL_nil_p ?_); (refine TA_take 1 rfl (by kernel_rfl) (by kernel_rfl) (by kernel_rfl) ?_; (repeat (first | refine TL_move (hk := ?_) | refine TL_slice_hi TE (hk := ?_) | refine TL_slice_lo TE (hk := ?_))); refine TL_nil_p ?_); (refine TA_take 2 rfl (by kernel_rfl) (by kernel_rfl) (by kernel_rfl) ?_; (repeat (first | refine TL_move (hk := ?_) | refine TL_slice_hi TE (hk := ?_) | refine TL_slice_lo TE (hk := ?_))); refine TL_nil_p ?_); (refine TA_take 3 rfl (by kernel_rfl) (by kernel_rfl) (by kernel_rfl) ?_; (repeat (first | refine TL_move (hk := ?_) | refine TL_slice_hi TE (hk := ?_) | refine TL_slice_lo TE (hk := ?_))); refine TL_nil_p ?_); (refine TA_take 4 rfl (by kernel_rfl) (by kernel_rfl) (by kernel_rfl) ?_; (repeat (first | refine TL_move (hk := ?_) | refine TL_slice_hi TE (hk := ?_) | refine TL_slice_lo TE (hk := ?_))); refine TL_nil_p ?_); (refine TA_take 5 rfl (by kernel_rfl) (by kernel_rfl) (by kernel_rfl) ?_; (repeat (first | refine TL_move (hk := ?_) | refine TL_slice_hi TE (hk := ?_) | refine TL_slice_lo TE (hk := ?_))); refine TL_nil_p ?_)
  refine TA_one 6 rfl (by kernel_rfl) (by kernel_rfl) ?_
  refine TL_append_within TE h1 r1 (rowV_one pkV_one _) (i := i) (by omega) (hf := rfl) (hq := fun w' m => m) (hk := ?_); intro w2 o2 m2 z2
  rw [rowV_take pkV_len, ← rowV_append, rowV_drop pkV_len, ← rowV_append] at o2
  refine TL_nil_p ?_
  (refine TA_one 7 rfl (by kernel_rfl) (by kernel_rfl) ?_; (repeat (refine TL_assign (hk := ?_))); refine TL_nil_p ?_)
  refine TA_done (by kernel_rfl) ?_
  repeat (first | refine T_seq ?_ | refine T_region ?_ | refine TL_move (hk := ?_) | refine TL_len TE (hk := ?_) | refine TL_slice_lh TE (hk := ?_))
  refine TL_clear TE o2 (hk := ?_); intro w3 m3 z3 o3
  have hlen : ((i + (n - (i + 1)) : Nat) : Int).toNat = n - 1 := by omega
  have hlen2 : i + (n - (i + 1)) = n - 1 := by omega
  rw [hlen] at o3
  rw [rowV_take pkV_len, List.take_append_of_le_length (by simp; omega), List.take_of_length_le (by simp; omega)] at o3
  repeat (first | refine T_seq ?_ | refine T_region ?_ | refine TL_nil ?_ | refine TL_move (hk := ?_) | refine TL_assign (hk := ?_))
  exact T_ret1 rfl rfl ⟨by rw [hlen2], ((e1.mono (by simp)).trans m2).trans m3, o3⟩
section
variable {base p : Nat} {M : NM} {F : Nat → Nat → Nat → Nat} {h : Nat → Nat} {ns : NS} {k : Nat} {L : LL} {U : Nat → Nat → Nat}
theorem NDrop_c (i : Int) (w : World) (g : NetG LayP ns.N w base p M F h ns) (hI : NI k ns L U) :
    Ret Try.prog 49 [ptr p, .int .i64 i] w (fun v w' => v = .bool (dropX ns i).2 ∧ ∃ M' F' h', NetG LayP ns.N w' base p M' F' h' (dropX ns i).1 ∧ Tn h h' w w') := by
  have hk := g.kP
  have hb0 : ∀ b, h b ≠ 0 → b < w.heap.size := fun b hb => (g.old b hb).2
  have hbw := g.bw
  have hwl := hI.wl
  obtain ⟨hl1, hl2⟩ := g.l3
  unfold dropX
  refine ret_T (n := 20) Try.func49 rfl rfl ?_
  repeat (first | refine T_seq ?_ | refine T_region ?_ | refine TL_nil ?_ | refine TL_move (hk := ?_) | refine TL_assign (hk := ?_))
  refine TL_call TE (hc := there_c i _ g) (hk := ?_)
  rintro _ _ ⟨rfl, rfl⟩
  by_cases h1 : inN ns.way.length i = true
  · obtain ⟨x, rfl, hx⟩ := inN_nat h1
    have hc : (x : Int) + 1 = ((x + 1 : Nat) : Int) := by omega
    rw [h1, if_pos rfl]
    simp only [Int.toNat_natCast]
    repeat (first | refine T_seq ?_ | refine T_region ?_ | refine T_cond_false rfl ?_ | refine T_skip ?_ | refine TL_add (hk := ?_) | refine TL_nil ?_ | refine TL_move (hk := ?_) | refine TL_load TE (hk := ?_) | refine TL_fieldAddr TE (hk := ?_) | refine TL_nilCheck (hk := ?_) | refine TL_not (hk := ?_))
    rw [hc]
    refine TL_call TE (hc := PDelete_c M.s3.1 M.s3.2.1 M.s3.2.2 base x M.y _ g.o3 (by omega) (by omega) (by omega)) (hk := ?_)
    rintro _ w1 ⟨rfl, m1, o1⟩
    have hk1 := hk.mod m1 (fun q => g.p3 p q (by simp))
    repeat (first | refine TL_fieldAddr TE (hk := ?_) | refine TL_nilCheck (hk := ?_))
    refine TL_store TE (hb := hk1) (hk := ?_); intro w2 m2 z2 k2
    have hpn := g.p3
    have hM : Eng.Mod (p :: blkL M.s3.1) _ w2 := (m1.mono (S' := p :: blkL M.s3.1) (fun b hb => .inl (List.mem_cons_of_mem _ hb))).step m2 (fun b hb => .inl (by rw [List.mem_singleton.1 hb]; exact List.mem_cons_self))
    obtain ⟨h', g', t', -⟩ := g.pull (s3 := (M.s3.1, M.s3.2.1 - 1, M.s3.2.2)) x hM (fun b hb => by
      rcases List.mem_cons.1 hb with rfl | hb
      · exact .inl g.hp
      · exact .inr (g.h12 b hb)) k2 (o1.modL m2 hpn) (fun b hb => .inl hb) (Tn.refl _ _) hb0
    repeat (first | refine T_seq ?_ | refine T_region ?_ | refine TL_nil ?_ | refine TL_assign (hk := ?_))
    exact T_ret1 rfl rfl ⟨rfl, _, F, h', g', t'⟩
  · have h1 : inN ns.way.length i = false := by simpa using h1
    rw [h1, if_neg (by decide)]
    repeat (first | refine T_seq ?_ | refine T_region ?_ | refine T_cond_true rfl ?_ | refine TL_nil ?_ | refine TL_assign (hk := ?_) | refine TL_not (hk := ?_))
    exact T_ret1 rfl rfl ⟨rfl, M, F, h, g, Tn.refl _ _⟩
theorem NDouble_c (i : Int) (w : World) (g : NetG LayP ns.N w base p M F h ns) (hI : NI k ns L U) :
    Ret Try.prog 50 [ptr p, .int .i64 i] w (fun v w' => v = .bool (dblX ns i).2 ∧ ∃ M' F' h', NetG LayP ns.N w' base p M' F' h' (dblX ns i).1 ∧ Tn h h' w w') := by
  have hk := g.kP
  have hb0 : ∀ b, h b ≠ 0 → b < w.heap.size := fun b hb => (g.old b hb).2
  have hbw := g.bw
  have hwl := hI.wl
  obtain ⟨hl1, hl2⟩ := g.l3
  unfold dblX
  refine ret_T (n := 33) Try.func50 rfl rfl ?_
  repeat (first | refine T_seq ?_ | refine T_region ?_ | refine TL_nil ?_ | refine TL_move (hk := ?_) | refine TL_assign (hk := ?_))
  refine TL_call TE (hc := there_c i _ g) (hk := ?_)
  rintro _ _ ⟨rfl, rfl⟩
  by_cases h1 : inN ns.way.length i = true
  · obtain ⟨x, rfl, hx⟩ := inN_nat h1
    rw [h1]
    by_cases hfull : ns.way.length < 4096
    · rw [if_pos ⟨rfl, hfull⟩]
      simp only [Int.toNat_natCast]
      have hnf : ¬ (4096 : Int) ≤ ((M.s3.2.1 : Nat) : Int) := by omega
      have hxs : ((x : Nat) : Int) < ((M.s3.2.1 : Nat) : Int) := by omega
      have hpD : p ∉ blkL M.s3.1 := fun q => g.p3 p q (by simp)
      repeat (first | refine T_seq ?_ | refine T_cond_false rfl ?_ | refine T_skip ?_ | refine TL_ge_f (hk := ?_) | refine TL_nil ?_ | refine TL_move (hk := ?_) | refine TL_load TE (hk := ?_) | refine TL_fieldAddr TE (hk := ?_) | refine TL_len TE (hk := ?_) | refine TL_yes (hk := ?_) | refine TL_pick_f (hk := ?_) | refine TL_nilCheck (hk := ?_) | refine TL_not (hk := ?_))
      refine T_region_anyz TE.mixed (blkL M.s3.1) (some 16) ?_; intro w1 e1 z1
      have g1 := g.ext e1
      have hk1 := hk.be e1
      have r1 := g1.o3.rd
      have hel := rowV_elem pkV_len M.y x pk0 (by omega)
      (refine TA_take 0 rfl (by kernel_rfl) (by kernel_rfl) (by kernel_rfl) ?_; (repeat (first | refine TL_move (hk := ?_) | refine TLP_load TE (hk := ?_) | refine TL_fieldAddr TE (hk := ?_) | refine TL_indexAddrn TE (hk := ?_) | refine TL_nilCheck (hk := ?_))); refine TL_nil_p ?_); (refine TA_take 1 rfl (by kernel_rfl) (by kernel_rfl) (by kernel_rfl) ?_; (repeat (first | refine TL_move (hk := ?_) | refine TLP_load TE (hk := ?_) | refine TL_fieldAddr TE (hk := ?_) | refine TL_indexAddrn TE (hk := ?_) | refine TL_nilCheck (hk := ?_))); refine TL_nil_p ?_); (refine TA_take 2 rfl (by kernel_rfl) (by kernel_rfl) (by kernel_rfl) ?_; (repeat (first | refine TL_move (hk := ?_) | refine TLP_load TE (hk := ?_) | refine TL_fieldAddr TE (hk := ?_) | refine TL_indexAddrn TE (hk := ?_) | refine TL_nilCheck (hk := ?_))); refine TL_nil_p ?_); (refine TA_take 3 rfl (by kernel_rfl) (by kernel_rfl) (by kernel_rfl) ?_; (repeat (first | refine TL_move (hk := ?_) | refine TLP_load TE (hk := ?_) | refine TL_fieldAddr TE (hk := ?_) | refine TL_indexAddrn TE (hk := ?_) | refine TL_nilCheck (hk := ?_))); refine TL_nil_p ?_); (refine TA_take 4 rfl (by kernel_rfl) (by kernel_rfl) (by kernel_rfl) ?_; (repeat (first | refine TL_move (hk := ?_) | refine TLP_load TE (hk := ?_) | refine TL_fieldAddr TE (hk := ?_) | refine TL_indexAddrn TE (hk := ?_) | refine TL_nilCheck (hk := ?_))); refine TL_nil_p ?_); (refine TA_take 5 rfl (by kernel_rfl) (by kernel_rfl) (by kernel_rfl) ?_; (repeat (first | refine TL_move (hk := ?_) | refine TLP_load TE (hk := ?_) | refine TL_fieldAddr TE (hk := ?_) | refine TL_indexAddrn TE (hk := ?_) | refine TL_nilCheck (hk := ?_))); refine TL_nil_p ?_); (refine TA_take 6 rfl (by kernel_rfl) (by kernel_rfl) (by kernel_rfl) ?_; (repeat (first | refine TL_move (hk := ?_) | refine TLP_load TE (hk := ?_) | refine TL_fieldAddr TE (hk := ?_) | refine TL_indexAddrn TE (hk := ?_) | refine TL_nilCheck (hk := ?_))); refine TL_nil_p ?_); (refine TA_take 7 rfl (by kernel_rfl) (by kernel_rfl) (by kernel_rfl) ?_; (repeat (first | refine TL_move (hk := ?_) | refine TLP_load TE (hk := ?_) | refine TL_fieldAddr TE (hk := ?_) | refine TL_indexAddrn TE (hk := ?_) | refine TL_nilCheck (hk := ?_))); refine TL_nil_p ?_); (refine TA_take 8 rfl (by kernel_rfl) (by kernel_rfl) (by kernel_rfl) ?_; (repeat (first | refine TL_move (hk := ?_) | refine TLP_load TE (hk := ?_) | refine TL_fieldAddr TE (hk := ?_) | refine TL_indexAddrn TE (hk := ?_) | refine TL_nilCheck (hk := ?_))); refine TL_nil_p ?_); (refine TA_take 9 rfl (by kernel_rfl) (by kernel_rfl) (by kernel_rfl) ?_; (repeat (first | refine TL_move (hk := ?_) | refine TLP_load TE (hk := ?_) | refine TL_fieldAddr TE (hk := ?_) | refine TL_indexAddrn TE (hk := ?_) | refine TL_nilCheck (hk := ?_))); refine TL_nil_p ?_); (refine TA_take 10 rfl (by kernel_rfl) (by kernel_rfl) (by kernel_rfl) ?_; (repeat (first | refine TL_move (hk := ?_) | refine TLP_load TE (hk := ?_) | refine TL_fieldAddr TE (hk := ?_) | refine TL_indexAddrn TE (hk := ?_) | refine TL_nilCheck (hk := ?_))); refine TL_nil_p ?_)
      refine TA_one 11 rfl (by kernel_rfl) (by kernel_rfl) ?_
      refine TLN_loada TE (cs := pkV (M.y.getD x pk0)) (hr := r1) (hc := hel) (hq := (Mod.refl _ _)) (hk := ?_)
      refine TL_nil_p ?_
      refine TA_one 12 rfl (by kernel_rfl) (by kernel_rfl) ?_
      refine TL_buildSliceA TE (hf := rfl) (hq := fun w' h => (Ext.un h)) (hk := ?_); intro b8 w8 e8 h8 h8' k8
      replace k8 : Blk w8 b8 103 (rowV pkV [M.y.getD x pk0]) := k8
      have r8 : Rd w8 (some ⟨b8, 0, none⟩) 1 3 (rowV pkV [M.y.getD x pk0]) := Rd.blk k8 rfl
      have g8 := g1.ext e8
      have hk8 := hk1.be e8
      have z8 := g8.bw
      refine TL_nil_p ?_
      refine TA_one 13 rfl (by kernel_rfl) (by kernel_rfl) ?_
      refine TL_append TE (ho := g8.o3) (hr := r8) (h1 := rowV_one pkV_one _) (hf := rfl) (hq := fun w' m => (Ext.un e8).trans m) (hk := ?_); intro A9 c9 w9 o9 m9 n9
      rw [← rowV_append] at o9
      have hk9 := hk8.mod m9 hpD
      refine TL_nil_p ?_
      (refine TA_one 14 rfl (by kernel_rfl) (by kernel_rfl) ?_; (repeat (first | refine TL_fieldAddr TE (hk := ?_) | refine TL_nilCheck (hk := ?_))); refine TL_nil_p ?_); (refine TA_one 15 rfl (by kernel_rfl) (by kernel_rfl) ?_; (repeat (first | refine TL_fieldAddr TE (hk := ?_) | refine TL_nilCheck (hk := ?_))); refine TL_nil_p ?_)
      refine TA_one 16 rfl (by kernel_rfl) (by kernel_rfl) ?_
      refine TL_store TE (hb := hk9) (hf := rfl) (hq := fun _ _ _ => trivial) (hk := ?_); intro w10 m10 z10 k10
      refine TL_nil_z (by kernel_rfl) ?_
      have hmem : M.y.getD x pk0 ∈ M.y := getMem (by omega)
      have hw : ns.way[x]? = some (M.y.getD x pk0).1 := by
        rw [g.wy, List.getElem?_map, List.getD_eq_getElem?_getD, List.getElem?_eq_getElem (by omega)]
        rfl
      obtain ⟨h', g', t', -⟩ := g8.push (s3 := (A9, M.s3.2.1 + 1, c9)) (x := M.y.getD x pk0) (Mod.refl _ _) m9 o9 n9 m10 k10 (Tn.ext (e1.ext e8)) hb0 (.inl hmem)
      repeat (first | refine T_seq ?_ | refine T_region ?_ | refine TL_nil ?_ | refine TL_assign (hk := ?_))
      refine T_ret1 rfl rfl ⟨rfl, { M with s3 := (A9, M.s3.2.1 + 1, c9), y := M.y ++ [M.y.getD x pk0] }, F, h', ?_, t'⟩
      unfold dblN
      rw [hw]
      exact g'
    · have hnf : (4096 : Int) ≤ ((M.s3.2.1 : Nat) : Int) := by omega
      rw [if_neg (fun q => hfull q.2)]
      repeat (first | refine T_seq ?_ | refine T_region ?_ | refine T_cond_true rfl ?_ | refine TL_ge_t (hk := ?_) | refine TL_nil ?_ | refine TL_move (hk := ?_) | refine TL_assign (hk := ?_) | refine TL_load TE (hk := ?_) | refine TL_fieldAddr TE (hk := ?_) | refine TL_len TE (hk := ?_) | refine TL_yes (hk := ?_) | refine TL_pick_f (hk := ?_) | refine TL_nilCheck (hk := ?_) | refine TL_not (hk := ?_))
      exact T_ret1 rfl rfl ⟨rfl, M, F, h, g, Tn.refl _ _⟩
  · have h1 : inN ns.way.length i = false := by simpa using h1
    rw [h1, if_neg (fun q => by cases q.1)]
    repeat (first | refine T_seq ?_ | refine T_region ?_ | refine T_cond_true rfl ?_ | refine TL_nil ?_ | refine TL_move (hk := ?_) | refine TL_assign (hk := ?_) | refine TL_no (hk := ?_) | refine TL_pick_t (hk := ?_) | refine TL_not (hk := ?_))
    exact T_ret1 rfl rfl ⟨rfl, M, F, h, g, Tn.refl _ _⟩
end
end Go.Proofs.Ytjjgojgahibpgaa

namespace Go.Proofs.Ytjjgojgahibpgaa
open Go.RowKit Go.Proofs.Eng Go.Proofs.Codec Go.Proofs.Link
set_option linter.unusedSimpArgs false
set_option linter.unusedVariables false set_option maxRecDepth 10000
attribute [local irreducible] T TL LV TH TA
set_option maxHeartbeats 3200000
section
variable {base p : Nat} {M : NM} {F : Nat → Nat → Nat → Nat} {h : Nat → Nat} {ns : NS} {k : Nat} {L : LL} {U : Nat → Nat → Nat}
theorem NI.short (hI : NI k ns L U) {x : PK} (hx : x ∈ ns.way) : x.b.length ≤ 70000 := by
  obtain ⟨h1, h2, h3⟩ := hI.wk x hx
  have m := hI.mt x.fr x.to h1 h2 h3
  obtain ⟨lo, d⟩ := m.d
  obtain ⟨lu, e⟩ := m.e
  have a1 := d.nl
  have a2 := m.hL
  have a3 := e.ex
  have a4 := e.nl
  have a5 := m.hM
  exact (m.f x.b (fra_mem.2 ⟨x, hx, rfl, rfl, rfl⟩)).short d.len (by omega) (by omega)
/-- What an end's own memory is apart from. -/
theorem NetG.offE {Y : Lay} {R : Nat} {w w1 : World} (g : NetG Y R w base p M F h ns) {a c : Nat} (ha : a < R) (hc : c < ns.N) : p ∉ ownB w1 (F a c) ∧ Off M.s1.1 (ownB w1 (F a c)) ∧ (∀ x, x < R → Off (M.r1 x).1 (ownB w1 (F a c))) ∧ (∀ x ∈ M.y, Off x.2.1 (ownB w1 (F a c))) ∧ ∀ b, h b = 0 → b ∉ ownB w1 (F a c) := by
  have key : ∀ b ∈ ownB w1 (F a c), h b = 15 + (a * 8 + c) := fun b hb => g.he a c ha hc b (ownB_mem hb)
  have hrn := g.rn
  exact ⟨fun q => by have := key p q; rw [g.hp] at this; omega, off_of fun b hb q => by have := key b q; have := g.h11 b hb; omega, fun x hx => off_of fun b hb q => by have := key b q; have := g.h2 x hx b hb; omega, fun x hx => off_of fun b hb q => by have := key b q; have := g.h13 x hx b hb; omega, fun b hb q => by have := key b q; omega⟩
theorem NDeliver_c (i : Int) (w : World) (g : NetG LayP ns.N w base p M F h ns) (hI : NI k ns L U) :
    Ret Try.prog 48 [ptr p, .int .i64 i] w (fun v w' => v = .int .i64 ((delX ns i).2 : Int) ∧ ∃ M' F' h', NetG LayP ns.N w' base p M' F' h' (delX ns i).1 ∧ Tn h h' w w') := by
  have hk := g.kP
  have hb0 : ∀ b, h b ≠ 0 → b < w.heap.size := fun b hb => (g.old b hb).2
  have hbw := g.bw
  have hwl := hI.wl
  obtain ⟨hl1, hl2⟩ := g.l3
  unfold delX
  refine ret_T (n := 45) Try.func48 rfl rfl ?_
  repeat (first | refine T_seq ?_ | refine T_region ?_ | refine T_cond_false rfl ?_ | refine T_skip ?_ | refine TL_pnil_f TE (hk := ?_) | refine TL_nil ?_ | refine TL_move (hk := ?_) | refine TL_assign (hk := ?_))
  refine TL_call TE (hc := there_c i _ g) (hk := ?_)
  rintro _ w ⟨rfl, rfl⟩
  by_cases h1 : inN ns.way.length i = true
  · obtain ⟨x, rfl, hx⟩ := inN_nat h1
    have hc : (x : Int) + 1 = ((x + 1 : Nat) : Int) := by omega
    have hxs : ((x : Nat) : Int) < ((M.s3.2.1 : Nat) : Int) := by omega
    have hel := rowV_elem pkV_len M.y x pk0 (by omega)
    have hmem : M.y.getD x pk0 ∈ M.y := getMem (by omega)
    obtain ⟨z, hz⟩ : ∃ z, M.y.getD x pk0 = z := ⟨_, rfl⟩
    rw [hz] at hel hmem
    have hw : ns.way[x]? = some z.1 := by
      rw [g.wy, List.getElem?_map, ← hz, List.getD_eq_getElem?_getD, List.getElem?_eq_getElem (by omega)]
      rfl
    have hzw : z.1 ∈ ns.way := List.mem_of_getElem? hw
    obtain ⟨hz1, hz2, hz3⟩ := hI.wk z.1 hzw
    have hzs := hI.short hzw
    have hfr := g.fr z hmem
    have r3 := g.o3.rd
    rw [h1, if_pos rfl]
    simp only [Int.toNat_natCast]
    repeat (first | refine T_seq ?_ | refine T_region ?_ | refine T_cond_false rfl ?_ | refine T_skip ?_ | refine TL_nil ?_ | refine TL_move (hk := ?_) | refine TL_load TE (hk := ?_) | refine TL_fieldAddr TE (hk := ?_) | refine TL_indexAddrn TE (hk := ?_) | refine TL_nilCheck (hk := ?_) | refine TL_not (hk := ?_))
    refine TL_loada TE (cs := pkV z) (hx := rfl) (ht := rfl) (hi := rfl) (hr := r3) (hc := hel) (h0 := Nat.succ_pos _) (hk := ?_)
    --
    refine TL_alloc TE (hk := ?_); intro b5 w1 e1 h1 h1' k1
    --
    refine TL_storea TE (hk := ?_); intro w2 m2 z2 k2
    replace k2 : Blk w2 b5 103 (pkV z) := k2
    unfold pkV at k2
    have e02 : Ext w w2 := Mod.step e1 m2 (by simp; omega)
    have g2 := g.ext e02
    have hk2 := hk.be e02
    have hn2 := g2.bw
    clear k1 r3
    repeat (first | refine T_seq ?_ | refine T_region ?_ | refine TL_add (hk := ?_) | refine TL_nil ?_ | refine TL_move (hk := ?_) | refine TL_load TE (hk := ?_) | refine TL_fieldAddr TE (hk := ?_) | refine TL_nilCheck (hk := ?_))
    rw [hc]
    refine TL_call TE (hc := PDelete_c M.s3.1 M.s3.2.1 M.s3.2.2 base x M.y _ g2.o3 (by omega) (by omega) (by omega)) (hk := ?_)
    rintro _ w3 ⟨rfl, m3, o3⟩
    have hk3 := hk2.mod m3 (fun q => g2.p3 p q (by simp))
    have k3 := k2.mod m3 (fun q => by have := g.h12 b5 q; have := hb0 b5 (by omega); omega)
    repeat (first | refine TL_fieldAddr TE (hk := ?_) | refine TL_nilCheck (hk := ?_))
    refine TL_store TE (hb := hk3) (hk := ?_); intro w4 m4 z4 k4
    have hpn := g.p3
    have hM : Eng.Mod (p :: blkL M.s3.1) w2 w4 := (m3.mono (S' := p :: blkL M.s3.1) (fun b hb => .inl (List.mem_cons_of_mem _ hb))).step m4 (fun b hb => .inl (by rw [List.mem_singleton.1 hb]; exact List.mem_cons_self))
    have hS4 : ∀ b ∈ p :: blkL M.s3.1, h b = 1 ∨ h b = 12 := fun b hb => by
      rcases List.mem_cons.1 hb with rfl | hb
      · exact .inl g.hp
      · exact .inr (g.h12 b hb)
    have b5z : h b5 = 0 := by
      by_cases q : h b5 = 0
      · exact q
      · have := hb0 b5 q; omega
    have k4' := k3.mod m4 (fun q => by rw [List.mem_singleton.1 q, g.hp] at b5z; cases b5z)
    obtain ⟨h', g', t', hz'⟩ := g2.pull (w0 := w) (s3 := (M.s3.1, M.s3.2.1 - 1, M.s3.2.2)) x hM hS4 k4 (o3.modL m4 hpn) (fun b hb => .inl hb) (Tn.ext e02) hb0
    have hfr4 : Rd w4 z.2.1 z.2.2.1 1 (bv z.1.b) := (hfr.1.be e02).mod hM (off_of fun b hb q => by have := g.h13 z hmem b hb; rcases hS4 b q with h | h <;> omega)
    have hb5' : h' b5 = 0 := hz' b5 b5z (by have := m2.size; omega)
    have hlen := hfr.1.1
    have hcap := hfr.2
    rw [bv_length] at hlen
    have hfz : ∀ b ∈ blkL z.2.1, F z.1.to z.1.fr b = 0 := fun b hb => by
      by_cases q : F z.1.to z.1.fr b = 0
      · exact q
      · have := g.he z.1.to z.1.fr hz2 hz1 b q; have := g.h13 z hmem b hb; omega
    clear hk hk2 hk3 k2 k3 hfr m4 m3 m2 hM o3 g2
    have hk4 := g'.kP
    have r1 := g'.o1.rd
    have hl := g'.l1
    have hv1 := rowF_get (fun a => slV (M.r1 a)) hz2
    have r2 := g'.q1 z.1.to hz2
    have hv2 := rowF_get (M.ev z.1.to) hz1
    have hlx := (g'.lr hz2).1
    have q := g'.en z.1.to z.1.fr hz2 hz1
    obtain ⟨bs, q', m, hbs, hv, hE⟩ := QP.get q (Ne.symm hz3)
    simp only at hk4 r1 r2 hl hlx hv hE
    rw [hv] at hv2
    have ok := hI.ok hz2 hz1
    repeat (first | refine T_seq ?_ | refine TL_nil ?_)
    refine T_region_any TE.mixed (ownB w4 (F z.1.to z.1.fr)) ?_; intro w5 e5 z5
    obtain ⟨d1, d2, d3, -, d5⟩ := g'.offE (w1 := w4) hz2 hz1
    have d3 := d3 z.1.to hz2
    have d5 := d5 b5 hb5'
    simp only at d2 d3
    have g5 := g'.ext e5
    have r1 := r1.be e5
    have r2 := r2.be e5
    have hk5 := hk4.be e5
    have k5 := k4'.be e5
    have hE5 := hE.ext e5
    have hfr5 := hfr4.be e5
    (refine TA_take 0 rfl (by kernel_rfl) (by kernel_rfl) (by kernel_rfl) ?_; (repeat (first | refine TL_move (hk := ?_) | refine TLP_load TE (hk := ?_) | refine TLP_load_rd TE (hk := ?_) | refine TL_fieldAddr TE (hk := ?_) | refine TL_indexAddr1n TE (hk := ?_) | refine TL_nilCheck (hk := ?_))); refine TL_nil_p ?_); (refine TA_take 1 rfl (by kernel_rfl) (by kernel_rfl) (by kernel_rfl) ?_; (repeat (first | refine TL_move (hk := ?_) | refine TLP_load TE (hk := ?_) | refine TLP_load_rd TE (hk := ?_) | refine TL_fieldAddr TE (hk := ?_) | refine TL_indexAddr1n TE (hk := ?_) | refine TL_nilCheck (hk := ?_))); refine TL_nil_p ?_); (refine TA_take 2 rfl (by kernel_rfl) (by kernel_rfl) (by kernel_rfl) ?_; (repeat (first | refine TL_move (hk := ?_) | refine TLP_load TE (hk := ?_) | refine TLP_load_rd TE (hk := ?_) | refine TL_fieldAddr TE (hk := ?_) | refine TL_indexAddr1n TE (hk := ?_) | refine TL_nilCheck (hk := ?_))); refine TL_nil_p ?_); (refine TA_take 3 rfl (by kernel_rfl) (by kernel_rfl) (by kernel_rfl) ?_; (repeat (first | refine TL_move (hk := ?_) | refine TLP_load TE (hk := ?_) | refine TLP_load_rd TE (hk := ?_) | refine TL_fieldAddr TE (hk := ?_) | refine TL_indexAddr1n TE (hk := ?_) | refine TL_nilCheck (hk := ?_))); refine TL_nil_p ?_); (refine TA_take 4 rfl (by kernel_rfl) (by kernel_rfl) (by kernel_rfl) ?_; (repeat (first | refine TL_move (hk := ?_) | refine TLP_load TE (hk := ?_) | refine TLP_load_rd TE (hk := ?_) | refine TL_fieldAddr TE (hk := ?_) | refine TL_indexAddr1n TE (hk := ?_) | refine TL_nilCheck (hk := ?_))); refine TL_nil_p ?_); (refine TA_take 5 rfl (by kernel_rfl) (by kernel_rfl) (by kernel_rfl) ?_; (repeat (first | refine TL_move (hk := ?_) | refine TLP_load TE (hk := ?_) | refine TLP_load_rd TE (hk := ?_) | refine TL_fieldAddr TE (hk := ?_) | refine TL_indexAddr1n TE (hk := ?_) | refine TL_nilCheck (hk := ?_))); refine TL_nil_p ?_); (refine TA_take 6 rfl (by kernel_rfl) (by kernel_rfl) (by kernel_rfl) ?_; (repeat (first | refine TL_move (hk := ?_) | refine TLP_load TE (hk := ?_) | refine TLP_load_rd TE (hk := ?_) | refine TL_fieldAddr TE (hk := ?_) | refine TL_indexAddr1n TE (hk := ?_) | refine TL_nilCheck (hk := ?_))); refine TL_nil_p ?_); (refine TA_take 7 rfl (by kernel_rfl) (by kernel_rfl) (by kernel_rfl) ?_; (repeat (first | refine TL_move (hk := ?_) | refine TLP_load TE (hk := ?_) | refine TLP_load_rd TE (hk := ?_) | refine TL_fieldAddr TE (hk := ?_) | refine TL_indexAddr1n TE (hk := ?_) | refine TL_nilCheck (hk := ?_))); refine TL_nil_p ?_); (refine TA_take 8 rfl (by kernel_rfl) (by kernel_rfl) (by kernel_rfl) ?_; (repeat (first | refine TL_move (hk := ?_) | refine TLP_load TE (hk := ?_) | refine TLP_load_rd TE (hk := ?_) | refine TL_fieldAddr TE (hk := ?_) | refine TL_indexAddr1n TE (hk := ?_) | refine TL_nilCheck (hk := ?_))); refine TL_nil_p ?_); (refine TA_take 9 rfl (by kernel_rfl) (by kernel_rfl) (by kernel_rfl) ?_; (repeat (first | refine TL_move (hk := ?_) | refine TLP_load TE (hk := ?_) | refine TLP_load_rd TE (hk := ?_) | refine TL_fieldAddr TE (hk := ?_) | refine TL_indexAddr1n TE (hk := ?_) | refine TL_nilCheck (hk := ?_))); refine TL_nil_p ?_); (refine TA_take 10 rfl (by kernel_rfl) (by kernel_rfl) (by kernel_rfl) ?_; (repeat (first | refine TL_move (hk := ?_) | refine TLP_load TE (hk := ?_) | refine TLP_load_rd TE (hk := ?_) | refine TL_fieldAddr TE (hk := ?_) | refine TL_indexAddr1n TE (hk := ?_) | refine TL_nilCheck (hk := ?_))); refine TL_nil_p ?_); (refine TA_take 11 rfl (by kernel_rfl) (by kernel_rfl) (by kernel_rfl) ?_; (repeat (first | refine TL_move (hk := ?_) | refine TLP_load TE (hk := ?_) | refine TLP_load_rd TE (hk := ?_) | refine TL_fieldAddr TE (hk := ?_) | refine TL_indexAddr1n TE (hk := ?_) | refine TL_nilCheck (hk := ?_))); refine TL_nil_p ?_); (refine TA_take 12 rfl (by kernel_rfl) (by kernel_rfl) (by kernel_rfl) ?_; (repeat (first | refine TL_move (hk := ?_) | refine TLP_load TE (hk := ?_) | refine TLP_load_rd TE (hk := ?_) | refine TL_fieldAddr TE (hk := ?_) | refine TL_indexAddr1n TE (hk := ?_) | refine TL_nilCheck (hk := ?_))); refine TL_nil_p ?_); (refine TA_take 13 rfl (by kernel_rfl) (by kernel_rfl) (by kernel_rfl) ?_; (repeat (first | refine TL_move (hk := ?_) | refine TLP_load TE (hk := ?_) | refine TLP_load_rd TE (hk := ?_) | refine TL_fieldAddr TE (hk := ?_) | refine TL_indexAddr1n TE (hk := ?_) | refine TL_nilCheck (hk := ?_))); refine TL_nil_p ?_)
    refine TA_one 14 rfl (by kernel_rfl) (by kernel_rfl) ?_; (try refine TL_yes (hk := ?_)); refine TL_call TE (hc := (Receive_c z.2.1 z.2.2.1 z.2.2.2 z.1.b _ hE5 hE5.bw ok hfr5 (by omega) hcap)) (hq := (by rintro _ w7 ⟨rfl, m', f', h', t'⟩; exact Tn.inD (o' := f') t' (Mod.refl _ _) (ownB_in z5))) (hk := ?_)
    rintro _ w6 ⟨rfl, m6, f6, E6, t6⟩
    obtain ⟨h6, g6, t6', -, -⟩ := g5.end_ (f' := f6) (es' := (recvE (ns.E z.1.to z.1.fr) z.1.b).1) hz2 hz1 (by simp only; rw [hv]; exact QP.mk (Ne.symm hz3) hbs E6) t6
    refine TL_nil_p ?_
    (refine TA_one 15 rfl (by kernel_rfl) (by kernel_rfl) ?_; (repeat (refine TL_assign (hk := ?_))); refine TL_nil_p ?_)
    refine TA_done (by kernel_rfl) ?_
    --
    refine T_ret1 rfl rfl ⟨?_, { M with s3 := (M.s3.1, M.s3.2.1 - 1, M.s3.2.2), y := M.y.eraseIdx x }, upd2 F z.1.to z.1.fr f6, h6, ?_, (t'.trans (Tn.ext e5)).trans t6'⟩
    · unfold delN; rw [hw]
    · unfold delN; rw [hw]; exact g6
  · have h1 : inN ns.way.length i = false := by simpa using h1
    rw [h1, if_neg (by decide)]
    repeat (first | refine T_seq ?_ | refine T_region ?_ | refine T_cond_true rfl ?_ | refine TL_nil ?_ | refine TL_assign (hk := ?_) | refine TL_not (hk := ?_))
    exact T_ret1 rfl rfl ⟨rfl, M, F, h, g, Tn.refl _ _⟩
end
end Go.Proofs.Ytjjgojgahibpgaa

namespace Go.Proofs.Ytjjgojgahibpgaa
open Go.RowKit Go.Proofs.Eng Go.Proofs.Codec Go.Proofs.Link
set_option linter.unusedSimpArgs false
set_option linter.unusedVariables false set_option maxRecDepth 10000
attribute [local irreducible] T TL LV TH TA
set_option maxHeartbeats 3200000
theorem first_no {ns : NS} {a : Nat} : ∀ k, (∀ j, j < k → (ns.E a j).come = []) → firstN ns a k = none
  | 0, _ => rfl
  | k + 1, h => by
    unfold firstN
    rw [first_no k (fun j hj => h j (by omega))]
    simp only
    rw [if_pos (h k (by omega))]
theorem first_at {ns : NS} {a i : Nat} (h : ∀ j, j < i → (ns.E a j).come = []) (hi : (ns.E a i).come ≠ []) : ∀ k, i < k → firstN ns a k = some i
  | 0, hk => by omega
  | k + 1, hk => by
    unfold firstN
    by_cases e : i = k
    · subst e
      rw [first_no i h]
      simp only
      rw [if_neg hi]
    · rw [first_at h hi k (by omega)]
section
variable {base p : Nat} {M : NM} {F : Nat → Nat → Nat → Nat} {h : Nat → Nat} {ns : NS} {k : Nat} {L : LL} {U : Nat → Nat → Nat}
theorem rowF_upd {N j : Nat} {P : Nat → Bool} {v : Bool} {pv : Bool → Value} {P' : Nat → Bool} (h : ∀ c, P' c = if c = j then v else P c) : (rowF N fun c => pv (P c)).set j (pv v) = rowF N fun c => pv (P' c) := by
  rw [rowF_set]
  refine rowF_cong fun i _ => ?_
  rw [h i]
  unfold upd
  split <;> rfl
theorem set_c (a c : Int) (v : Bool) (t : Int) (ht : t = if v then 1 else 0) (w : World) (g : NetG LayP ns.N w base p M F h ns) :
    Ret Try.prog 77 [ptr p, .int .i64 a, .int .i64 c, .int .i64 t] w (fun u w' => u = .bool (partX ns a c v).2 ∧ NetG LayP ns.N w' base p M F h (partX ns a c v).1 ∧ Tn h h w w') := by
  have hk := g.kP
  have hl2 := g.l2
  unfold partX
  refine ret_T (n := 48) Try.func77 rfl rfl ?_
  repeat (first | refine T_seq ?_ | refine T_region ?_ | refine TL_nil ?_ | refine TL_move (hk := ?_) | refine TL_assign (hk := ?_))
  refine TL_call TE (hc := two_c a c _ g) (hk := ?_)
  rintro _ _ ⟨rfl, rfl⟩
  by_cases h1 : twoN ns a c = true
  · obtain ⟨x, y, rfl, rfl, hx, hy, hxy⟩ := twoN_nat h1
    have r1 := g.o2.rd
    have hv1 := rowF_get (fun a => slV (M.r2 a)) hx
    have hv1' := rowF_get (fun a => slV (M.r2 a)) hy
    have r2 := (g.q2 x hx).rd
    have hv2 := rowF_get (fun c => LayP.pv (ns.P x c)) hy
    have hlx := (g.lr hx).2
    have hly := (g.lr hy).2
    obtain ⟨pi, hpi⟩ : ∃ z : Int, z = (if ns.P x y then 1 else 0) := ⟨_, rfl⟩
    rw [show LayP.pv (ns.P x y) = (.int .i64 (if ns.P x y then 1 else 0) : Value) from rfl, ← hpi] at hv2
    rw [h1]
    simp only [Int.toNat_natCast]
    by_cases h2 : ns.P x y = v
    · have he : pi = t := by rw [hpi, ht, h2]
      rw [if_neg (fun q => q.2 h2)]
      repeat (first | refine T_seq ?_ | refine T_region ?_ | refine T_cond_true rfl ?_ | refine TL_eq_t (hk := ?_) | refine TL_nil ?_ | refine TL_move (hk := ?_) | refine TL_assign (hk := ?_) | refine TL_load TE (hk := ?_) | refine TL_load_rd TE (hk := ?_) | refine TL_fieldAddr TE (hk := ?_) | refine TL_indexAddr1n TE (hk := ?_) | refine TL_yes (hk := ?_) | refine TL_pick_f (hk := ?_) | refine TL_nilCheck (hk := ?_) | refine TL_not (hk := ?_))
      exact T_ret1 rfl rfl ⟨rfl, g, Tn.refl _ _⟩
    · have he : ¬ pi = t := by
        rw [hpi, ht]
        cases v <;> cases hq : ns.P x y <;> simp_all
      rw [if_pos ⟨trivial, h2⟩]
      have hrn := g.nn
      have hne : ∀ z, z < ns.N → ∀ u, u < ns.N → z ≠ u → ∀ b ∈ blkL (M.r2 z).1, b ∉ blkL (M.r2 u).1 := fun z hz u hu e b hb q => by have := g.h3 z hz b hb; have := g.h3 u hu b q; omega
      have hD : ∀ b ∈ blkL (M.r2 x).1 ++ blkL (M.r2 y).1, h b = 3 + x ∨ h b = 3 + y := fun b hb => by
        rcases List.mem_append.1 hb with q | q
        · exact .inl (g.h3 x hx b q)
        · exact .inr (g.h3 y hy b q)
      have hpD : p ∉ blkL (M.r2 x).1 ++ blkL (M.r2 y).1 := fun q => by have := g.hp; rcases hD p q with h | h <;> omega
      have hsD : Off M.s2.1 (blkL (M.r2 x).1 ++ blkL (M.r2 y).1) := off_of fun b hb q => by have := g.h14 b hb; rcases hD b q with h | h <;> omega
      repeat (first | refine T_seq ?_ | refine T_cond_false rfl ?_ | refine T_skip ?_ | refine TL_eq_f (hk := ?_) | refine TL_nil ?_ | refine TL_move (hk := ?_) | refine TL_load TE (hk := ?_) | refine TL_load_rd TE (hk := ?_) | refine TL_fieldAddr TE (hk := ?_) | refine TL_indexAddr1n TE (hk := ?_) | refine TL_yes (hk := ?_) | refine TL_pick_f (hk := ?_) | refine TL_nilCheck (hk := ?_) | refine TL_not (hk := ?_))
      refine T_region_any TE.mixed (blkL (M.r2 x).1 ++ blkL (M.r2 y).1) ?_; intro w1 e1 z1
      have g1 := g.ext e1
      have hk1 := hk.be e1
      have r11 := r1.be e1
      (refine TA_take 0 rfl (by kernel_rfl) (by kernel_rfl) (by kernel_rfl) ?_; (repeat (first | refine TL_move (hk := ?_) | refine TLP_load TE (hk := ?_) | refine TLP_load_rd TE (hk := ?_) | refine TL_fieldAddr TE (hk := ?_) | refine TL_indexAddr1n TE (hk := ?_) | refine TL_nilCheck (hk := ?_))); refine TL_nil_p ?_); (refine TA_take 1 rfl (by kernel_rfl) (by kernel_rfl) (by kernel_rfl) ?_; (repeat (first | refine TL_move (hk := ?_) | refine TLP_load TE (hk := ?_) | refine TLP_load_rd TE (hk := ?_) | refine TL_fieldAddr TE (hk := ?_) | refine TL_indexAddr1n TE (hk := ?_) | refine TL_nilCheck (hk := ?_))); refine TL_nil_p ?_); (refine TA_take 2 rfl (by kernel_rfl) (by kernel_rfl) (by kernel_rfl) ?_; (repeat (first | refine TL_move (hk := ?_) | refine TLP_load TE (hk := ?_) | refine TLP_load_rd TE (hk := ?_) | refine TL_fieldAddr TE (hk := ?_) | refine TL_indexAddr1n TE (hk := ?_) | refine TL_nilCheck (hk := ?_))); refine TL_nil_p ?_); (refine TA_take 3 rfl (by kernel_rfl) (by kernel_rfl) (by kernel_rfl) ?_; (repeat (first | refine TL_move (hk := ?_) | refine TLP_load TE (hk := ?_) | refine TLP_load_rd TE (hk := ?_) | refine TL_fieldAddr TE (hk := ?_) | refine TL_indexAddr1n TE (hk := ?_) | refine TL_nilCheck (hk := ?_))); refine TL_nil_p ?_); (refine TA_take 4 rfl (by kernel_rfl) (by kernel_rfl) (by kernel_rfl) ?_; (repeat (first | refine TL_move (hk := ?_) | refine TLP_load TE (hk := ?_) | refine TLP_load_rd TE (hk := ?_) | refine TL_fieldAddr TE (hk := ?_) | refine TL_indexAddr1n TE (hk := ?_) | refine TL_nilCheck (hk := ?_))); refine TL_nil_p ?_); (refine TA_take 5 rfl (by kernel_rfl) (by kernel_rfl) (by kernel_rfl) ?_; (repeat (first | refine TL_move (hk := ?_) | refine TLP_load TE (hk := ?_) | refine TLP_load_rd TE (hk := ?_) | refine TL_fieldAddr TE (hk := ?_) | refine TL_indexAddr1n TE (hk := ?_) | refine TL_nilCheck (hk := ?_))); refine TL_nil_p ?_); (refine TA_take 6 rfl (by kernel_rfl) (by kernel_rfl) (by kernel_rfl) ?_; (repeat (first | refine TL_move (hk := ?_) | refine TLP_load TE (hk := ?_) | refine TLP_load_rd TE (hk := ?_) | refine TL_fieldAddr TE (hk := ?_) | refine TL_indexAddr1n TE (hk := ?_) | refine TL_nilCheck (hk := ?_))); refine TL_nil_p ?_); (refine TA_take 7 rfl (by kernel_rfl) (by kernel_rfl) (by kernel_rfl) ?_; (repeat (first | refine TL_move (hk := ?_) | refine TLP_load TE (hk := ?_) | refine TLP_load_rd TE (hk := ?_) | refine TL_fieldAddr TE (hk := ?_) | refine TL_indexAddr1n TE (hk := ?_) | refine TL_nilCheck (hk := ?_))); refine TL_nil_p ?_); (refine TA_take 8 rfl (by kernel_rfl) (by kernel_rfl) (by kernel_rfl) ?_; (repeat (first | refine TL_move (hk := ?_) | refine TLP_load TE (hk := ?_) | refine TLP_load_rd TE (hk := ?_) | refine TL_fieldAddr TE (hk := ?_) | refine TL_indexAddr1n TE (hk := ?_) | refine TL_nilCheck (hk := ?_))); refine TL_nil_p ?_); (refine TA_take 9 rfl (by kernel_rfl) (by kernel_rfl) (by kernel_rfl) ?_; (repeat (first | refine TL_move (hk := ?_) | refine TLP_load TE (hk := ?_) | refine TLP_load_rd TE (hk := ?_) | refine TL_fieldAddr TE (hk := ?_) | refine TL_indexAddr1n TE (hk := ?_) | refine TL_nilCheck (hk := ?_))); refine TL_nil_p ?_); (refine TA_take 10 rfl (by kernel_rfl) (by kernel_rfl) (by kernel_rfl) ?_; (repeat (first | refine TL_move (hk := ?_) | refine TLP_load TE (hk := ?_) | refine TLP_load_rd TE (hk := ?_) | refine TL_fieldAddr TE (hk := ?_) | refine TL_indexAddr1n TE (hk := ?_) | refine TL_nilCheck (hk := ?_))); refine TL_nil_p ?_); (refine TA_take 11 rfl (by kernel_rfl) (by kernel_rfl) (by kernel_rfl) ?_; (repeat (first | refine TL_move (hk := ?_) | refine TLP_load TE (hk := ?_) | refine TLP_load_rd TE (hk := ?_) | refine TL_fieldAddr TE (hk := ?_) | refine TL_indexAddr1n TE (hk := ?_) | refine TL_nilCheck (hk := ?_))); refine TL_nil_p ?_); (refine TA_take 12 rfl (by kernel_rfl) (by kernel_rfl) (by kernel_rfl) ?_; (repeat (first | refine TL_move (hk := ?_) | refine TLP_load TE (hk := ?_) | refine TLP_load_rd TE (hk := ?_) | refine TL_fieldAddr TE (hk := ?_) | refine TL_indexAddr1n TE (hk := ?_) | refine TL_nilCheck (hk := ?_))); refine TL_nil_p ?_); (refine TA_take 13 rfl (by kernel_rfl) (by kernel_rfl) (by kernel_rfl) ?_; (repeat (first | refine TL_move (hk := ?_) | refine TLP_load TE (hk := ?_) | refine TLP_load_rd TE (hk := ?_) | refine TL_fieldAddr TE (hk := ?_) | refine TL_indexAddr1n TE (hk := ?_) | refine TL_nilCheck (hk := ?_))); refine TL_nil_p ?_); (refine TA_take 14 rfl (by kernel_rfl) (by kernel_rfl) (by kernel_rfl) ?_; (repeat (first | refine TL_move (hk := ?_) | refine TLP_load TE (hk := ?_) | refine TLP_load_rd TE (hk := ?_) | refine TL_fieldAddr TE (hk := ?_) | refine TL_indexAddr1n TE (hk := ?_) | refine TL_nilCheck (hk := ?_))); refine TL_nil_p ?_); (refine TA_take 15 rfl (by kernel_rfl) (by kernel_rfl) (by kernel_rfl) ?_; (repeat (first | refine TL_move (hk := ?_) | refine TLP_load TE (hk := ?_) | refine TLP_load_rd TE (hk := ?_) | refine TL_fieldAddr TE (hk := ?_) | refine TL_indexAddr1n TE (hk := ?_) | refine TL_nilCheck (hk := ?_))); refine TL_nil_p ?_); (refine TA_take 16 rfl (by kernel_rfl) (by kernel_rfl) (by kernel_rfl) ?_; (repeat (first | refine TL_move (hk := ?_) | refine TLP_load TE (hk := ?_) | refine TLP_load_rd TE (hk := ?_) | refine TL_fieldAddr TE (hk := ?_) | refine TL_indexAddr1n TE (hk := ?_) | refine TL_nilCheck (hk := ?_))); refine TL_nil_p ?_); (refine TA_take 17 rfl (by kernel_rfl) (by kernel_rfl) (by kernel_rfl) ?_; (repeat (first | refine TL_move (hk := ?_) | refine TLP_load TE (hk := ?_) | refine TLP_load_rd TE (hk := ?_) | refine TL_fieldAddr TE (hk := ?_) | refine TL_indexAddr1n TE (hk := ?_) | refine TL_nilCheck (hk := ?_))); refine TL_nil_p ?_); (refine TA_take 18 rfl (by kernel_rfl) (by kernel_rfl) (by kernel_rfl) ?_; (repeat (first | refine TL_move (hk := ?_) | refine TLP_load TE (hk := ?_) | refine TLP_load_rd TE (hk := ?_) | refine TL_fieldAddr TE (hk := ?_) | refine TL_indexAddr1n TE (hk := ?_) | refine TL_nilCheck (hk := ?_))); refine TL_nil_p ?_)
      refine TA_one 19 rfl (by kernel_rfl) (by kernel_rfl) ?_
      refine TL_store_own TE (ho := g1.q2 x hx) (hj := by rw [rowF_len]; exact hy) (hf := rfl) (hq := fun w' m z => m.mono (fun b hb => .inl (List.mem_append_left _ hb))) (hk := ?_); intro w2 m2 z2 o2
      rw [ht, show (Value.int .i64 (if v then 1 else 0)) = LayP.pv v from rfl, rowF_upd (P' := fun c => upd2 ns.P x y v x c) (fun c => by
        by_cases e : c = y
        · subst e; rw [upd2_at, if_pos rfl]
        · rw [upd2_ne _ _ (fun q => e q.2), if_neg e])] at o2
      obtain ⟨g2, t2⟩ := g1.cell hx (P' := upd2 ns.P x y v) (fun x' c e => upd2_ne _ _ (fun q => e q.1)) m2 o2
      have o2y := g2.q2 y hy
      simp only at o2y
      refine TL_nil_p ?_
      (refine TA_one 20 rfl (by kernel_rfl) (by kernel_rfl) ?_; (repeat (refine TL_indexAddr1n TE (hk := ?_))); refine TL_nil_p ?_)
      refine TA_one 21 rfl (by kernel_rfl) (by kernel_rfl) ?_
      refine TL_store_own TE (ho := o2y) (hj := by rw [rowF_len]; exact hx) (hf := rfl) (hq := fun w' m z => (m2.mono (fun b hb => .inl (List.mem_append_left _ hb))).trans (m.mono (fun b hb => .inl (List.mem_append_right _ hb)))) (hk := ?_); intro w3 m3 z3 o3
      rw [ht, show (Value.int .i64 (if v then 1 else 0)) = LayP.pv v from rfl, rowF_upd (P' := fun c => upd2 (upd2 ns.P x y v) y x v y c) (fun c => by
        by_cases e : c = x
        · subst e; rw [upd2_at, if_pos rfl]
        · rw [upd2_ne _ _ (fun q => e q.2), if_neg e])] at o3
      obtain ⟨g3, t3⟩ := g2.cell hy (P' := upd2 (upd2 ns.P x y v) y x v) (fun x' c e => upd2_ne _ _ (fun q => e q.1)) m3 o3
      refine TL_nil_p ?_
      refine TA_done (by kernel_rfl) ?_
      repeat (first | refine T_seq ?_ | refine T_region ?_ | refine TL_nil ?_ | refine TL_assign (hk := ?_))
      exact T_ret1 rfl rfl ⟨rfl, g3, ((Tn.ext e1).trans t2).trans t3⟩
  · have h1 : twoN ns a c = false := by simpa using h1
    rw [h1, if_neg (fun q => by cases q.1)]
    repeat (first | refine T_seq ?_ | refine T_region ?_ | refine T_cond_true rfl ?_ | refine TL_nil ?_ | refine TL_move (hk := ?_) | refine TL_assign (hk := ?_) | refine TL_no (hk := ?_) | refine TL_pick_t (hk := ?_) | refine TL_not (hk := ?_))
    exact T_ret1 rfl rfl ⟨rfl, g, Tn.refl _ _⟩
theorem NPart_c (a c : Int) (w : World) (g : NetG LayP ns.N w base p M F h ns) :
    Ret Try.prog 51 [ptr p, .int .i64 a, .int .i64 c] w (fun u w' => u = .bool (partX ns a c true).2 ∧ NetG LayP ns.N w' base p M F h (partX ns a c true).1 ∧ Tn h h w w') := by
  refine ret_T (n := 11) Try.func51 rfl rfl ?_
  repeat (first | refine T_seq ?_ | refine T_region ?_ | refine TL_nil ?_ | refine TL_move (hk := ?_) | refine TL_assign (hk := ?_))
  refine TL_call TE (hc := set_c a c true 1 rfl _ g) (hk := ?_)
  rintro _ w1 ⟨rfl, g1, t1⟩
  repeat (first | refine TL_nil ?_ | refine TL_assign (hk := ?_))
  exact T_ret1 rfl rfl ⟨rfl, g1, t1⟩
theorem NJoin_c (a c : Int) (w : World) (g : NetG LayP ns.N w base p M F h ns) :
    Ret Try.prog 52 [ptr p, .int .i64 a, .int .i64 c] w (fun u w' => u = .bool (partX ns a c false).2 ∧ NetG LayP ns.N w' base p M F h (partX ns a c false).1 ∧ Tn h h w w') := by
  refine ret_T (n := 11) Try.func52 rfl rfl ?_
  repeat (first | refine T_seq ?_ | refine T_region ?_ | refine TL_nil ?_ | refine TL_move (hk := ?_) | refine TL_assign (hk := ?_))
  refine TL_call TE (hc := set_c a c false 0 rfl _ g) (hk := ?_)
  rintro _ w1 ⟨rfl, g1, t1⟩
  repeat (first | refine TL_nil ?_ | refine TL_assign (hk := ?_))
  exact T_ret1 rfl rfl ⟨rfl, g1, t1⟩
/-- As far as it has ticked. -/
def tickP (ns : NS) (i j : Nat) : NS := { ns with E := fun x y => if x < i ∨ (x = i ∧ y < j) then tickE (ns.E x y) else ns.E x y }
theorem NTick_c (w : World) (g : NetG LayP ns.N w base p M F h ns) (hI : NI k ns L U) :
    Ret Try.prog 44 [ptr p] w (fun u w' => ∃ F' h', NetG LayP ns.N w' base p M F' h' (tickN ns) ∧ Tn h h' w w') := by
  have hk := g.kP
  have hl := g.l1
  have hcn := g.nn
  refine ret_T (n := 27) Try.func44 rfl rfl ?_
  repeat (first | refine T_seq ?_ | refine T_region ?_ | refine T_cond_false rfl ?_ | refine T_block ?_ | refine T_skip ?_ | refine TL_pnil_f TE (hk := ?_) | refine TL_nil ?_ | refine TL_move (hk := ?_) | refine TL_load TE (hk := ?_) | refine TL_fieldAddr TE (hk := ?_) | refine TL_len TE (hk := ?_) | refine TL_nilCheck (hk := ?_))
  refine T_loop (ι := Nat) (fun i => [(13, .int .i64 (i : Int)), (12, .int .i64 ((M.s1.2.1 : Nat) : Int)), (11, slV M.s1)]) (fun i w' => i ≤ ns.N ∧ ∃ F' h', NetG LayP ns.N w' base p M F' h' (tickP ns i 0) ∧ Tn h h' w w') (fun i => ns.N - i) 0 (.c rfl (.c rfl (.c rfl (.n)))) ⟨Nat.zero_le _, F, h, g.cong (fun a c ha hc => if_neg (fun q => by omega)), Tn.refl _ _⟩ ?_
  rintro i w1 ⟨hi, F1, h1, g1, t1⟩ ih
  by_cases hlt : i < ns.N
  · have hv1 := rowF_get (fun a => slV (M.r1 a)) hlt
    have r1 := g1.o1.rd
    have hlx := (g1.lr hlt).1
    have hA : M.s1.1 ≠ none := by obtain ⟨_, _, hq, _⟩ := r1.2 (by omega); rw [hq]; simp
    replace hlx : (M.r1 i).2.1 = ns.N := hlx
    repeat (first | refine T_seq ?_ | refine T_region ?_ | refine T_cond_true rfl ?_ | refine T_block ?_ | refine T_skip ?_ | refine TL_lt_t (hk := ?_) | refine TL_nil ?_ | refine TL_move (hk := ?_) | refine TL_assign (hk := ?_) | refine TL_load_rd TE (hk := ?_) | refine TL_indexAddr1n TE (hk := ?_) | refine TL_len TE (hk := ?_))
    refine T_loop (ι := Nat) (fun j => [(19, .int .i64 (j : Int)), (18, .int .i64 (((M.r1 i).2.1 : Nat) : Int)), (17, slV (M.r1 i)), (13, .int .i64 (i : Int)), (12, .int .i64 ((M.s1.2.1 : Nat) : Int)), (11, slV M.s1)])
      (fun j w' => j ≤ ns.N ∧ ∃ F' h', NetG LayP ns.N w' base p M F' h' (tickP ns i j) ∧ Tn h h' w w') (fun j => ns.N - j) 0 (.c rfl (.c rfl (.c rfl (.c rfl (.c rfl (.c rfl (.n))))))) ⟨Nat.zero_le _, F1, h1, g1, t1⟩ ?_
    clear r1 g1 t1 h1 F1
    rintro j w2 ⟨hj, F1, h1, g1, t1⟩ ih2
    by_cases hjt : j < ns.N
    · have r2 := g1.q1 i hlt
      replace r2 : Rd w2 (M.r1 i).1 (M.r1 i).2.1 1 (rowF ns.N (M.ev i)) := r2
      have hv2 := rowF_get (M.ev i) hjt
      have hA2 : (M.r1 i).1 ≠ none := by obtain ⟨_, _, hq, _⟩ := r2.2 (by omega); rw [hq]; simp
      have q := g1.en i j hlt hjt
      have hEij : (tickP ns i j).E i j = ns.E i j := if_neg (fun q => by omega)
      rw [hEij] at q
      have hnext : ∀ x y, x < ns.N → y < ns.N → (tickP ns i (j + 1)).E x y = upd2 (tickP ns i j).E i j (tickE (ns.E i j)) x y := fun x y hx hy => by
        by_cases e : x = i ∧ y = j
        · obtain ⟨rfl, rfl⟩ := e
          rw [upd2_at]
          exact if_pos (.inr ⟨rfl, Nat.lt_succ_self _⟩)
        · rw [upd2_ne _ _ e]
          show (if _ then _ else _) = (if _ then _ else _)
          by_cases e2 : x < i ∨ (x = i ∧ y < j)
          · rw [if_pos e2, if_pos (e2.imp id (fun q => ⟨q.1, by omega⟩))]
          · rw [if_neg e2, if_neg (fun q => q.elim (fun z => e2 (.inl z)) (fun z => by
              by_cases y' : y = j
              · exact e ⟨z.1, y'⟩
              · exact e2 (.inr ⟨z.1, by omega⟩)))]
      by_cases hij : i = j
      · subst hij
        obtain ⟨hv, -⟩ := QP.nil q
        rw [hv] at hv2
        repeat (first | refine T_seq ?_ | refine T_region ?_ | refine T_cond_true rfl ?_ | refine T_block ?_ | refine T_skip ?_ | refine TL_lt_t (hk := ?_) | refine TL_nil ?_ | refine TL_move (hk := ?_) | refine TL_assign (hk := ?_) | refine TL_load_rd TE (hk := ?_) | refine TL_indexAddr1n TE (hk := ?_))
        refine TL_call TE (hc := ETick_n _) (hk := ?_)
        rintro _ _ rfl
        repeat (first | refine T_region ?_ | refine T_inBlock ?_ | refine TL_add (hk := ?_) | refine TL_nil ?_ | refine TL_move (hk := ?_))
        refine ih2 (i + 1) _ _ (by omega) ⟨by omega, F1, h1, g1.cong (E' := (tickP ns i (i + 1)).E) (fun x y hx hy => ?_), t1⟩ (.c rfl (.c rfl (.c rfl (.c rfl (.c rfl (.c rfl (.n)))))))
        rw [hnext x y hx hy, hI.dg i hlt, nE_tick, ← hI.dg i hlt, ← hEij, upd2_same]
      · obtain ⟨bs, q', m, hbs, hv, hE⟩ := QP.get q hij
        rw [hv] at hv2
        have ok := hI.win hlt hjt
        have hfw := ok.fw
        have hw2 := hI.wi
        repeat (first | refine T_seq ?_ | refine T_region ?_ | refine T_cond_true rfl ?_ | refine T_block ?_ | refine T_skip ?_ | refine TL_lt_t (hk := ?_) | refine TL_nil ?_ | refine TL_move (hk := ?_) | refine TL_assign (hk := ?_) | refine TL_load_rd TE (hk := ?_) | refine TL_indexAddr1n TE (hk := ?_))
        refine TL_call TE (hc := Tick_c _ hE (by omega) (fun q hq => by have := (ok.fb q hq).2.2; have := hI.pa; omega)) (hk := ?_)
        rintro _ w3 ⟨m3, E3, t3⟩
        obtain ⟨h3, g3, t3', -, -⟩ := g1.end_ (f' := F1 i j) (es' := tickE (ns.E i j)) hlt hjt (by rw [hv]; exact QP.mk hij hbs E3) t3
        repeat (first | refine T_region ?_ | refine T_inBlock ?_ | refine TL_add (hk := ?_) | refine TL_nil ?_ | refine TL_move (hk := ?_))
        exact ih2 (j + 1) _ _ (by omega) ⟨by omega, _, h3, g3.cong (E' := (tickP ns i (j + 1)).E) hnext, t1.trans t3'⟩ (.c rfl (.c rfl (.c rfl (.c rfl (.c rfl (.c rfl (.n)))))))
    · have hje : ns.N = j := by omega
      clear ih2
      repeat (first | refine T_seq ?_ | refine T_region ?_ | refine T_cond_false rfl ?_ | refine T_inBlock ?_ | refine T_exit rfl ?_ | refine TL_add (hk := ?_) | refine TL_lt_f (hk := ?_) | refine TL_nil ?_ | refine TL_move (hk := ?_))
      refine ih (i + 1) _ _ (by omega) ⟨by omega, F1, h1, g1.cong (E' := (tickP ns (i + 1) 0).E) (fun x y hx hy => ?_), t1⟩ (.c rfl (.c rfl (.c rfl (.n))))
      show (if _ then _ else _) = (if _ then _ else _)
      replace hy : y < ns.N := hy
      by_cases e : x < i + 1
      · rw [if_pos (.inl e), if_pos (by omega)]
      · rw [if_neg (fun q => by omega), if_neg (fun q => by omega)]
  · clear ih
    repeat (first | refine T_seq ?_ | refine T_region ?_ | refine T_cond_false rfl ?_ | refine T_exit rfl ?_ | refine TL_lt_f (hk := ?_) | refine TL_nil ?_)
    refine T_end0 rfl ⟨F1, h1, g1.cong (E' := (tickN ns).E) (fun x y hx hy => ?_), t1⟩
    exact (if_pos (.inl (by omega))).symm
theorem NNext_c (a : Int) (w : World) (g : NetG LayP ns.N w base p M F h ns) (hI : NI k ns L U) :
    Ret Try.prog 45 [ptr p, .int .i64 a] w (fun v w' => match nextX ns a with
      | (_, none) => v = .tuple #[.int .i64 0, .slice none 0 0, .bool false] ∧ w' = w
      | (ns', some (c, b)) => ∃ x F' h', v = .tuple #[.int .i64 (c : Int), slV x, .bool true] ∧ NetG LayP ns.N w' base p M F' h' ns' ∧ Tn h h' w w' ∧ Body w' base x b ∧ ∀ u ∈ blkL x.1, h' u = 0 ∧ h u ≠ 0) := by
  have hk := g.kP
  have hl := g.l1
  have hcn := g.nn
  unfold nextX
  refine ret_T (n := 48) Try.func45 rfl rfl ?_
  by_cases h1 : inN ns.N a = true
  · obtain ⟨x, rfl, hx⟩ := inN_nat h1
    rw [if_pos h1]
    simp only [Int.toNat_natCast]
    clear h1
    have h0 : (0 : Int) ≤ (x : Int) := by omega
    have hx' : (x : Int) < ((M.s1.2.1 : Nat) : Int) := by omega
    have r1 := g.o1.rd
    have hv1 := rowF_get (fun a => slV (M.r1 a)) hx
    have hlx := (g.lr hx).1
    have r2 := g.q1 x hx
    repeat (first | refine T_seq ?_ | refine T_region ?_ | refine T_cond_false rfl ?_ | refine T_block ?_ | refine T_skip ?_ | refine TL_lt_f (hk := ?_) | refine TL_ge_f (hk := ?_) | refine TL_pnil_f TE (hk := ?_) | refine TL_nil ?_ | refine TL_move (hk := ?_) | refine TL_assign (hk := ?_) | refine TL_load TE (hk := ?_) | refine TL_load_rd TE (hk := ?_) | refine TL_fieldAddr TE (hk := ?_) | refine TL_indexAddr1n TE (hk := ?_) | refine TL_len TE (hk := ?_) | refine TL_yes (hk := ?_) | refine TL_pick_f (hk := ?_) | refine TL_nilCheck (hk := ?_))
    clear hx' h0
    refine T_loop (ι := Nat) (fun i => [(34, .int .i64 (i : Int)), (33, .int .i64 (((M.r1 x).2.1 : Nat) : Int)), (32, slV (M.r1 x)), (4, .int .i64 0), (5, .slice none 0 0), (6, .bool false)])
      (fun i w' => i ≤ ns.N ∧ (∀ j, j < i → (ns.E x j).come = []) ∧ w' = w) (fun i => ns.N - i) 0 (.c rfl (.c rfl (.c rfl (.c rfl (.c rfl (.c rfl (.n))))))) ⟨Nat.zero_le _, fun j hj => by omega, rfl⟩ ?_
    rintro i w1 ⟨hi, hno, rfl⟩ ih
    by_cases hlt : i < ns.N
    · have hv2 := rowF_get (M.ev x) hlt
      have hA2 : (M.r1 x).1 ≠ none := by obtain ⟨_, _, hq, _⟩ := r2.2 (by omega); rw [hq]; simp
      have q := g.en x i hx hlt
      have hno2 : (ns.E x i).come = [] → ∀ j, j < i + 1 → (ns.E x j).come = [] := fun e j hj => by
        by_cases z : j = i
        · rw [z]; exact e
        · exact hno j (by omega)
      by_cases hij : x = i
      · subst hij
        obtain ⟨hv, -⟩ := QP.nil q
        rw [hv] at hv2
        have hce : (ns.E x x).come = [] := by rw [hI.dg x hx]; rfl
        repeat (first | refine T_seq ?_ | refine T_region ?_ | refine T_cond_true rfl ?_ | refine T_block ?_ | refine T_skip ?_ | refine TL_lt_t (hk := ?_) | refine TL_nil ?_ | refine TL_move (hk := ?_) | refine TL_assign (hk := ?_) | refine TL_load_rd TE (hk := ?_) | refine TL_indexAddr1n TE (hk := ?_))
        refine TL_call TE (hc := ENext_n _) (hk := ?_)
        rintro _ w1 ⟨rfl, rfl⟩
        repeat (first | refine T_seq ?_ | refine T_region ?_ | refine T_cond_false rfl ?_ | refine T_inBlock ?_ | refine T_skip ?_ | refine TL_add (hk := ?_) | refine TL_nil ?_ | refine TL_move (hk := ?_) | refine TL_assign (hk := ?_) | refine TL_extract (hk := ?_))
        exact ih (x + 1) _ _ (by omega) ⟨by omega, hno2 hce, rfl⟩ (.c rfl (.c rfl (.c rfl (.c rfl (.c rfl (.c rfl (.n)))))))
      · obtain ⟨bs, q', m, hbs, hv, hE⟩ := QP.get q hij
        rw [hv] at hv2
        have hn := Next_c _ hE
        unfold nextE at hn
        cases hc : (ns.E x i).come with
        | nil =>
          rw [hc] at hn
          simp only at hn
          repeat (first | refine T_seq ?_ | refine T_region ?_ | refine T_cond_true rfl ?_ | refine T_block ?_ | refine T_skip ?_ | refine TL_lt_t (hk := ?_) | refine TL_nil ?_ | refine TL_move (hk := ?_) | refine TL_assign (hk := ?_) | refine TL_load_rd TE (hk := ?_) | refine TL_indexAddr1n TE (hk := ?_))
          refine TL_call TE (hc := hn) (hk := ?_)
          rintro _ w1 ⟨rfl, rfl⟩
          repeat (first | refine T_seq ?_ | refine T_region ?_ | refine T_cond_false rfl ?_ | refine T_inBlock ?_ | refine T_skip ?_ | refine TL_add (hk := ?_) | refine TL_nil ?_ | refine TL_move (hk := ?_) | refine TL_assign (hk := ?_) | refine TL_extract (hk := ?_))
          exact ih (i + 1) _ _ (by omega) ⟨by omega, hno2 hc, rfl⟩ (.c rfl (.c rfl (.c rfl (.c rfl (.c rfl (.c rfl (.n)))))))
        | cons b t =>
          rw [hc] at hn
          simp only at hn
          have hf := first_at hno (by rw [hc]; simp) ns.N hlt
          rw [hf]
          simp only
          clear ih
          repeat (first | refine T_seq ?_ | refine T_region ?_ | refine T_cond_true rfl ?_ | refine T_block ?_ | refine T_skip ?_ | refine TL_lt_t (hk := ?_) | refine TL_nil ?_ | refine TL_move (hk := ?_) | refine TL_assign (hk := ?_) | refine TL_load_rd TE (hk := ?_) | refine TL_indexAddr1n TE (hk := ?_))
          refine TL_call TE (hc := hn) (hk := ?_)
          rintro _ w2 ⟨y, m2, f2, rfl, E2, t2, hy, fy, fy6⟩
          obtain ⟨h2, g2, t2', hz2, hz3⟩ := g.end_ (f' := f2) (es' := { ns.E x i with come := t }) hx hlt (by rw [hv]; exact QP.mk hij hbs E2) t2
          repeat (first | refine T_seq ?_ | refine T_region ?_ | refine T_cond_true rfl ?_ | refine TL_nil ?_ | refine TL_move (hk := ?_) | refine TL_assign (hk := ?_) | refine TL_extract (hk := ?_))
          refine T_ret3 rfl rfl rfl rfl ⟨y, upd2 F x i f2, h2, rfl, ?_, t2', ?_, fun u hu => ⟨hz3 u (by rw [fy6 u hu]; decide) (fy u hu), ?_⟩⟩
          · have : nextN ns x i = { ns with E := upd2 ns.E x i { ns.E x i with come := t } } := by
              unfold nextN nextE
              rw [hc]
            rw [this]
            exact g2
          · rw [hc]; exact Own.weaken hy hbs
          · rw [g.he x i hx hlt u (by rw [fy6 u hu]; decide)]; omega
    · have hie : ns.N = i := by omega
      rw [first_no ns.N (by rw [hie]; exact hno)]
      simp only
      clear ih
      repeat (first | refine T_seq ?_ | refine T_region ?_ | refine T_cond_false rfl ?_ | refine T_exit rfl ?_ | refine TL_lt_f (hk := ?_) | refine TL_nil ?_ | refine TL_assign (hk := ?_))
      exact T_ret3 rfl rfl rfl rfl ⟨rfl, rfl⟩
  · rw [if_neg h1]
    have h1' : ¬ (0 ≤ a ∧ a < ns.N) := by unfold inN at h1; simpa using h1
    by_cases h2 : 0 ≤ a
    · have h3 : ((M.s1.2.1 : Nat) : Int) ≤ a := by omega
      repeat (first | refine T_seq ?_ | refine T_region ?_ | refine T_cond_true rfl ?_ | refine TL_lt_f (hk := ?_) | refine TL_ge_t (hk := ?_) | refine TL_pnil_f TE (hk := ?_) | refine TL_nil ?_ | refine TL_move (hk := ?_) | refine TL_assign (hk := ?_) | refine TL_load TE (hk := ?_) | refine TL_fieldAddr TE (hk := ?_) | refine TL_len TE (hk := ?_) | refine TL_yes (hk := ?_) | refine TL_pick_f (hk := ?_) | refine TL_nilCheck (hk := ?_))
      exact T_ret3 rfl rfl rfl rfl ⟨rfl, rfl⟩
    · repeat (first | refine T_seq ?_ | refine T_region ?_ | refine T_cond_true rfl ?_ | refine TL_lt_t (hk := ?_) | refine TL_pnil_f TE (hk := ?_) | refine TL_nil ?_ | refine TL_move (hk := ?_) | refine TL_assign (hk := ?_) | refine TL_yes (hk := ?_) | refine TL_no (hk := ?_) | refine TL_pick_t (hk := ?_) | refine TL_pick_f (hk := ?_))
      exact T_ret3 rfl rfl rfl rfl ⟨rfl, rfl⟩
end
end Go.Proofs.Ytjjgojgahibpgaa

namespace Go.Proofs.Ytjjgojgahibpgaa
open Go.RowKit Go.Proofs.Eng Go.Proofs.Codec Go.Proofs.Link
set_option linter.unusedSimpArgs false
set_option linter.unusedVariables false set_option maxRecDepth 10000
attribute [local irreducible] T TL LV TH TA
set_option maxHeartbeats 3200000
section
variable {base p : Nat} {M : NM} {F : Nat → Nat → Nat → Nat} {h : Nat → Nat} {ns : NS} {k : Nat} {L : LL} {U : Nat → Nat → Nat}
/-- A net has turned into this one. -/
def DnP (Y : Lay) (N : Nat) (h : Nat → Nat) (w w' : World) (base p : Nat) (ns : NS) : Prop := ns.N = N ∧ ∃ M' F' h', NetG Y ns.N w' base p M' F' h' ns ∧ Tn h h' w w'
theorem DnP.of {Y : Lay} {N : Nat} {w w' w2 : World} {h h' : Nat → Nat} {M' : NM} {F' : Nat → Nat → Nat → Nat} {ns' : NS} (t : Tn h h' w w') {h2 : Nat → Nat} (g : NetG Y N w2 base p M' F' h2 ns') (hN : ns'.N = N) (t2 : Tn h' h2 w' w2) : DnP Y N h w w2 base p ns' :=
  ⟨hN, M', F', h2, by rw [hN]; exact g, t.trans t2⟩
theorem delR_succ (ns : NS) {x : PK} {t : List PK} (h : ns.way = x :: t) : delR ns.way.length ns = delR (delN ns 0).1.way.length (delN ns 0).1 := by
  have e : (delN ns 0).1.way = t := by unfold delN; rw [h]; rfl
  rw [e, h]
  rfl
theorem NDrain_c (r : Int) (w : World) (hr : r ≤ 1000000) (g : NetG LayP ns.N w base p M F h ns) (hI : NI k ns L U) :
    Ret Try.prog 55 [ptr p, .int .i64 r] w (fun v w' => v = .int .i64 ((drainX ns r).2 : Int) ∧ ∃ M' F' h', NetG LayP ns.N w' base p M' F' h' (drainX ns r).1 ∧ Tn h h' w w') := by
  unfold drainX
  obtain ⟨R, hR⟩ : ∃ R, r.toNat = R := ⟨_, rfl⟩
  rw [hR]
  refine ret_T (n := 47) Try.func55 rfl rfl ?_
  repeat (first | refine T_seq ?_ | refine T_region ?_ | refine T_block ?_ | refine TL_nil ?_ | refine TL_assign (hk := ?_))
  refine T_loop (ι := Nat) (fun d => [(5, .int .i64 (d : Int)), (0, ptr p), (1, .int .i64 r)])
    (fun d w' => d ≤ R ∧ ∃ ns', DnP LayP ns.N h w w' base p ns' ∧ NI k ns' L U ∧ drainN R ns = ((drainN (R - d) ns').1, (drainN (R - d) ns').2 + d)) (fun d => R - d) 0 (.c rfl (.c rfl (.c rfl (.n)))) ⟨Nat.zero_le _, ns, ⟨rfl, M, F, h, g, Tn.refl _ _⟩, hI, rfl⟩ ?_
  rintro d w1 ⟨hd, n1, ⟨hN, M1, F1, h1, g1, t1⟩, hI1, hE⟩ ih
  have hpa := hI1.pa
  have hn2 := hI1.n2
  by_cases hlt : (d : Int) < r
  · repeat (first | refine T_seq ?_ | refine T_region ?_ | refine TL_lt_t (hk := ?_) | refine TL_move (hk := ?_) | refine TL_yes (hk := ?_))
    refine TL_call TE (hc := NRest_c _ g1 hI1) (hk := ?_)
    rintro _ w1 ⟨rfl, rfl⟩
    obtain ⟨f, hf⟩ : ∃ f, R - d = f + 1 := ⟨R - d - 1, by omega⟩
    rw [hf] at hE
    by_cases hz : restN n1 = 0
    · have hz' : ((restN n1 : Nat) : Int) = 0 := by omega
      rw [drain_zero _ hz] at hE
      clear ih
      repeat (first | refine T_seq ?_ | refine T_region ?_ | refine T_cond_false rfl ?_ | refine T_exit rfl ?_ | refine TL_ne_f (hk := ?_) | refine TL_nil ?_ | refine TL_move (hk := ?_) | refine TL_assign (hk := ?_) | refine TL_yes (hk := ?_) | refine TL_pick_t (hk := ?_))
      rw [hE]
      exact T_ret1 rfl rfl ⟨by simp, M1, F1, h1, by rw [← hN]; exact g1, t1⟩
    · have hz' : ¬ ((restN n1 : Nat) : Int) = 0 := by omega
      have hE2 : drainN (f + 1) n1 = ((drainN f (roundN n1)).1, (drainN f (roundN n1)).2 + 1) := by
        conv => lhs; unfold drainN
        rw [if_neg hz]
      rw [hE2] at hE
      have hk1 := g1.kP
      clear hlt
      repeat (first | refine T_seq ?_ | refine T_region ?_ | refine T_cond_true rfl ?_ | refine T_block ?_ | refine T_skip ?_ | refine TL_ne_t (hk := ?_) | refine TL_nil ?_ | refine TL_move (hk := ?_) | refine TL_load TE (hk := ?_) | refine TL_fieldAddr TE (hk := ?_) | refine TL_yes (hk := ?_) | refine TL_pick_t (hk := ?_) | refine TL_nilCheck (hk := ?_))
      refine T_loop (ι := Nat) (fun i => [(19, .int .i64 (i : Int)), (18, .int .i64 (n1.pat : Int)), (5, .int .i64 (d : Int)), (0, ptr p), (1, .int .i64 r)])
        (fun i w' => i ≤ n1.pat ∧ DnP LayP ns.N h w w' base p (tickR i n1)) (fun i => n1.pat - i) 0 (.c rfl (.c rfl (.c rfl (.c rfl (.c rfl (.n)))))) ⟨Nat.zero_le _, hN, M1, F1, h1, g1, t1⟩ ?_
      clear g1 t1 hk1 M1 F1 h1
      rintro i w2 ⟨hi, hN2, M2, F2, h2, g2, t2⟩ ih2
      have hI2 := hI1.tickR i
      by_cases hit : i < n1.pat
      · repeat (first | refine T_seq ?_ | refine T_region ?_ | refine T_cond_true rfl ?_ | refine T_block ?_ | refine T_skip ?_ | refine TL_lt_t (hk := ?_) | refine TL_nil ?_ | refine TL_move (hk := ?_))
        refine TL_call TE (hc := NTick_c _ g2 hI2) (hk := ?_)
        rintro _ w3 ⟨F3, h3, g3, t3⟩
        repeat (first | refine T_region ?_ | refine T_inBlock ?_ | refine TL_add (hk := ?_) | refine TL_nil ?_ | refine TL_move (hk := ?_))
        exact ih2 (i + 1) _ _ (by omega) ⟨by omega, DnP.of t2 (by rw [← hN2]; exact g3) hN2 t3⟩ (.c rfl (.c rfl (.c rfl (.c rfl (.c rfl (.n))))))
      clear ih2
      obtain rfl : n1.pat = i := by omega
      have hk2 := g2.kP
      have hl2 := g2.l1
      repeat (first | refine T_seq ?_ | refine T_region ?_ | refine T_cond_false rfl ?_ | refine T_block ?_ | refine T_exit rfl ?_ | refine TL_lt_f (hk := ?_) | refine TL_nil ?_ | refine TL_move (hk := ?_) | refine TL_load TE (hk := ?_) | refine TL_fieldAddr TE (hk := ?_) | refine TL_len TE (hk := ?_) | refine TL_nilCheck (hk := ?_))
      refine T_loop (ι := Nat) (fun i => [(29, .int .i64 (i : Int)), (28, .int .i64 ((M2.s1.2.1 : Nat) : Int)), (5, .int .i64 (d : Int)), (0, ptr p), (1, .int .i64 r)])
        (fun i w' => i ≤ ns.N ∧ DnP LayP ns.N h w w' base p (letR i (tickR n1.pat n1))) (fun i => ns.N - i) 0 (.c rfl (.c rfl (.c rfl (.c rfl (.c rfl (.n)))))) ⟨Nat.zero_le _, hN2, M2, F2, h2, g2, t2⟩ ?_
      rw [hN2] at hl2
      clear g2 t2 hk2 F2 h2
      rintro i w2 ⟨hi, hN3, M3, F3, h3, g3, t3⟩ ih3
      have hI3 := hI2.letR i (by omega)
      by_cases hit : i < ns.N
      · repeat (first | refine T_seq ?_ | refine T_region ?_ | refine T_cond_true rfl ?_ | refine T_block ?_ | refine T_skip ?_ | refine TL_lt_t (hk := ?_) | refine TL_nil ?_ | refine TL_move (hk := ?_) | refine TL_assign (hk := ?_))
        refine TL_call TE (hc := NLet_c (i : Int) _ g3 hI3) (hk := ?_)
        rintro _ w4 ⟨rfl, M4, F4, h4, g4, t4⟩
        have hx : (letX (letR i (tickR n1.pat n1)) (i : Int)).1 = letR (i + 1) (tickR n1.pat n1) := by
          unfold letX
          rw [if_pos (inN_t (by omega))]
          simp only [Int.toNat_natCast]
          show letK i (letR i (tickR n1.pat n1)).N _ = letK i (tickR n1.pat n1).N _
          rw [hN3, hN2]
        rw [hx] at g4
        repeat (first | refine T_region ?_ | refine T_inBlock ?_ | refine TL_add (hk := ?_) | refine TL_nil ?_ | refine TL_move (hk := ?_))
        refine ih3 (i + 1) _ _ (by omega) ⟨by omega, DnP.of t3 (by rw [← hN3]; exact g4) ?_ t4⟩ (.c rfl (.c rfl (.c rfl (.c rfl (.c rfl (.n))))))
        rw [(letR_N _ _).1, hN2]
      clear ih3
      obtain rfl : ns.N = i := by omega
      have hS : sentN n1 = letR ns.N (tickR n1.pat n1) := by unfold sentN; rw [hN]
      have hR1 : roundN n1 = delR (sentN n1).way.length (sentN n1) := rfl
      rw [← hS] at g3 hI3 hN3

      repeat (first | refine T_seq ?_ | refine T_region ?_ | refine T_cond_false rfl ?_ | refine T_block ?_ | refine T_exit rfl ?_ | refine TL_lt_f (hk := ?_) | refine TL_nil ?_)
      refine T_loop (ι := Nat) (fun i => [(5, .int .i64 (d : Int)), (0, ptr p), (1, .int .i64 r)])
        (fun i w' => ∃ n4, DnP LayP ns.N h w w' base p n4 ∧ NI k n4 L U ∧ roundN n1 = delR n4.way.length n4 ∧ n4.way.length = i) (fun i => i) (sentN n1).way.length (.c rfl (.c rfl (.c rfl (.n)))) ⟨sentN n1, ⟨hN3, M3, F3, h3, g3, t3⟩, hI3, hR1, rfl⟩ ?_
      clear g3 t3 hI3 hR1 M3 F3 h3 hN3 hS hI2 hN2
      rintro i w3 ⟨n4, ⟨hN4, M4, F4, h4, g4, t4⟩, hI4, hR4, hi4⟩ ih4
      have hk4 := g4.kP
      obtain ⟨hl4, hl5⟩ := g4.l3
      by_cases hpos : 0 < i
      · obtain ⟨x, t, hw⟩ : ∃ x t, n4.way = x :: t := by
          cases hw : n4.way with
          | nil => rw [hw] at hi4; simp at hi4; omega
          | cons x t => exact ⟨x, t, rfl⟩
        repeat (first | refine T_seq ?_ | refine T_region ?_ | refine T_cond_true rfl ?_ | refine T_block ?_ | refine T_skip ?_ | refine TL_gt_t (hk := ?_) | refine TL_nil ?_ | refine TL_move (hk := ?_) | refine TL_load TE (hk := ?_) | refine TL_fieldAddr TE (hk := ?_) | refine TL_len TE (hk := ?_) | refine TL_nilCheck (hk := ?_))
        refine TL_call TE (hc := NDeliver_c 0 _ g4 hI4) (hk := ?_)
        rintro _ w4 ⟨rfl, M5, F5, h5, g5, t5⟩
        have hdx : delX n4 0 = delN n4 0 := by
          unfold delX
          rw [if_pos (by unfold inN; rw [decide_eq_true_eq]; omega)]
          rfl
        have hI5 := (hI4.delX 0).1
        have hN5 := (delX_N (ns := n4) 0).1
        rw [hdx] at g5 hI5 hN5
        have hle : (delN n4 0).1.way.length = i - 1 := by
          have : (delN n4 0).1.way = t := by unfold delN; rw [hw]; rfl
          rw [this]
          rw [hw] at hi4
          simp at hi4
          omega
        repeat (first | refine T_inBlock ?_ | refine TL_nil ?_)
        exact ih4 (i - 1) _ _ (by omega) ⟨_, DnP.of t4 (by rw [← hN4]; exact g5) (by omega) t5, hI5, by rw [hR4]; exact delR_succ n4 hw, hle⟩ (.c rfl (.c rfl (.c rfl (.n))))
      clear ih4
      have hd0 : n4 = roundN n1 := by
        rw [hR4, hi4]
        obtain rfl : i = 0 := by omega
        rfl
      subst hd0
      repeat (first | refine T_seq ?_ | refine T_region ?_ | refine T_cond_false rfl ?_ | refine T_inBlock ?_ | refine T_exit rfl ?_ | refine TL_add (hk := ?_) | refine TL_gt_f (hk := ?_) | refine TL_nil ?_ | refine TL_move (hk := ?_) | refine TL_assign (hk := ?_) | refine TL_load TE (hk := ?_) | refine TL_fieldAddr TE (hk := ?_) | refine TL_len TE (hk := ?_) | refine TL_nilCheck (hk := ?_))
      refine ih (d + 1) _ _ (by omega) ⟨by omega, _, ⟨hN4, M4, F4, h4, g4, t4⟩, hI4, ?_⟩ (.c rfl (.c rfl (.c rfl (.n))))
      rw [hE, show R - (d + 1) = f by omega]
      simp only [Prod.mk.injEq, true_and]
      omega
  · have h0 : R - d = 0 := by omega
    rw [h0] at hE
    clear ih
    repeat (first | refine T_seq ?_ | refine T_region ?_ | refine T_cond_false rfl ?_ | refine T_exit rfl ?_ | refine TL_lt_f (hk := ?_) | refine TL_nil ?_ | refine TL_move (hk := ?_) | refine TL_assign (hk := ?_) | refine TL_no (hk := ?_) | refine TL_pick_f (hk := ?_))
    rw [hE]
    exact T_ret1 rfl rfl ⟨by simp [drainN], M1, F1, h1, by rw [← hN]; exact g1, t1⟩
end
end Go.Proofs.Ytjjgojgahibpgaa

namespace Go.Proofs.Ytjjgojgahibpgaa
open Go.RowKit Go.Proofs.Eng Go.Proofs.Codec Go.Proofs.Link
set_option linter.unusedSimpArgs false
set_option linter.unusedVariables false set_option maxRecDepth 10000
attribute [local irreducible] T TL LV TH TA
set_option maxHeartbeats 3200000
/-- Packets that are told: each frame a copy. -/
structure PkO (w : World) (B : Nat) (O : SV) (ys : List (PK × SV)) (way : List PK) : Prop where
  own : Own w B 103 3 O.1 O.2.1 O.2.2 (rowV pkV ys)
  eq : ys.map (·.1) = way
  bod : Bods w B (ys.map (·.2)) (way.map (·.b))
  off : ∀ b ∈ blkS (ys.map (·.2)), b ∉ blkL O.1
  nd : (blkS (ys.map (·.2))).Nodup
theorem PkO.be {w w' : World} {B : Nat} {O : SV} {ys : List (PK × SV)} {way : List PK} (h : PkO w B O ys way) (e : Ext w w') : PkO w' B O ys way := { h with own := h.own.be e, bod := h.bod.mod e (fun b _ q => by cases q) }
theorem PkO.nil (w : World) (B : Nat) : PkO w B (none, 0, 0) [] [] := { own := Own.nil _ _ _ _, eq := rfl, bod := trivial, off := fun b hb => by simp at hb, nd := by simp }
theorem PkO.add {w w1 w2 w3 : World} {B : Nat} {O : SV} {ys : List (PK × SV)} {way : List PK} (h : PkO w B O ys way) (hB : B ≤ w.heap.size) {x : PK} {sv : SV} {A : Option Addr} {n c : Nat} (e1 : Ext w w1) (hx : Body w1 w.heap.size sv x.b) (e2 : Ext w1 w2)
    (m3 : Eng.Mod (blkL O.1) w2 w3) (o3 : Own w3 B 103 3 A n c (rowV pkV (ys ++ [(x, sv)]))) (near : Near O.1 A w2) : PkO w3 B (A, n, c) (ys ++ [(x, sv)]) (way ++ [x]) := by
  have z1 := e1.size
  have z2 := e2.size
  have hO : ∀ b ∈ blkL O.1, b < w.heap.size := fun b hb => (Lo.blk h.own.lo b hb)
  have hX : ∀ b ∈ blkL sv.1, w.heap.size ≤ b ∧ b < w1.heap.size := fun b hb => hx.lt b hb
  have hY : ∀ b ∈ blkS (ys.map (·.2)), b < w.heap.size := fun b hb => (h.bod.lt b hb).2
  have hA : ∀ b ∈ blkL A, b ∈ blkL O.1 ∨ w2.heap.size ≤ b := fun b hb => Near.blk near b hb
  have hs : blkS ((ys ++ [(x, sv)]).map (·.2)) = blkS (ys.map (·.2)) ++ blkL sv.1 := by simp [blkS]
  refine { own := o3, eq := by rw [List.map_append, h.eq]; rfl, bod := ?_, off := fun b hb q => ?_, nd := ?_ }
  · rw [List.map_append, List.map_append]
    refine Bods.snoc ((h.bod.mod (e1.ext e2) (fun b _ q => by cases q)).mod m3 h.off) ?_
    exact ((hx.mod e2 (fun b _ q => by cases q)).mod m3 (fun b hb q => by have := hX b hb; have := hO b q; omega)).weaken hB
  · rw [hs, List.mem_append] at hb
    rcases hb with hb | hb
    · rcases hA b q with h1 | h1
      · exact h.off b hb h1
      · have := hY b hb; omega
    · have := hX b hb
      rcases hA b q with h1 | h1
      · have := hO b h1; omega
      · omega
  · rw [hs, List.nodup_append]
    exact ⟨h.nd, blkL_nodup _, fun a ha b hb e => by have := hY a ha; have := hX b hb; omega⟩
section
variable {base p : Nat} {M : NM} {F : Nat → Nat → Nat → Nat} {h : Nat → Nat} {ns : NS} {k : Nat} {L : LL} {U : Nat → Nat → Nat}
theorem NPackets_c (w : World) (g : NetG LayP ns.N w base p M F h ns) (hI : NI k ns L U) :
    Ret Try.prog 53 [ptr p] w (fun v w' => ∃ O ys, v = slV O ∧ Ext w w' ∧ PkO w' w.heap.size O ys ns.way) := by
  have hk := g.kP
  obtain ⟨hl1, hl2⟩ := g.l3
  have hwl := hI.wl
  have r0 := g.o3.rd
  refine ret_T (n := 27) Try.func53 rfl rfl ?_
  repeat (first | refine T_seq ?_ | refine T_region ?_ | refine T_cond_false rfl ?_ | refine T_block ?_ | refine T_skip ?_ | refine TL_pnil_f TE (hk := ?_) | refine TL_nil ?_ | refine TL_move (hk := ?_) | refine TL_assign (hk := ?_) | refine TL_load TE (hk := ?_) | refine TL_fieldAddr TE (hk := ?_) | refine TL_len TE (hk := ?_) | refine TL_nilCheck (hk := ?_))
  refine T_loop (ι := Nat × SV) (fun i => [(13, .int .i64 (i.1 : Int)), (12, .int .i64 ((M.s3.2.1 : Nat) : Int)), (11, slV M.s3), (3, slV i.2)])
    (fun i w' => i.1 ≤ M.y.length ∧ Ext w w' ∧ ∃ ys, PkO w' w.heap.size i.2 ys (ns.way.take i.1)) (fun i => M.y.length - i.1) (0, (none, 0, 0)) (.c rfl (.c rfl (.c rfl (.c rfl (.n))))) ⟨Nat.zero_le _, Mod.refl _ _, [], PkO.nil _ _⟩ ?_
  rintro ⟨i, O⟩ w1 ⟨hi, e1, ys, hP⟩ ih
  simp only at hi e1 hP ih
  have z1 := e1.size
  have hyl : ys.length = i := by have := congrArg List.length hP.eq; rw [List.length_map, List.length_take] at this; omega
  have hol : O.2.1 = i := by have := hP.own.len; rw [rowV_len pkV_len] at this; omega
  by_cases hlt : i < M.y.length
  · have r1 := r0.be e1
    have hel := rowV_elem pkV_len M.y i pk0 hlt
    have hmem : M.y.getD i pk0 ∈ M.y := getMem hlt
    obtain ⟨z, hz⟩ : ∃ z, M.y.getD i pk0 = z := ⟨_, rfl⟩
    rw [hz] at hel hmem
    have hw : ns.way[i]? = some z.1 := by
      rw [g.wy, List.getElem?_map, ← hz, List.getD_eq_getElem?_getD, List.getElem?_eq_getElem (by omega)]
      rfl
    have htk : ns.way.take (i + 1) = ns.way.take i ++ [z.1] := by
      rw [List.take_succ_eq_append_getElem (by omega)]
      rw [List.getElem?_eq_getElem (by omega)] at hw
      rw [Option.some.inj hw]
    have hzs := hI.short (List.mem_of_getElem? hw)
    have hfr := (g.fr z hmem).1.be e1
    have hln := hfr.1
    rw [bv_length] at hln
    have hA : M.s3.1 ≠ none := by obtain ⟨_, _, hq, _⟩ := r1.2 (by omega); rw [hq]; simp
    repeat (first | refine T_seq ?_ | refine T_region ?_ | refine T_cond_true rfl ?_ | refine T_block ?_ | refine T_skip ?_ | refine TL_lt_t (hk := ?_) | refine TL_nil ?_ | refine TL_indexAddrn TE (hk := ?_))
    refine TL_loada TE (cs := pkV z) (hx := rfl) (ht := rfl) (hi := rfl) (hr := r1) (hc := hel) (h0 := Nat.succ_pos _) (hk := ?_)
    --
    refine TL_alloc TE (hk := ?_); intro b5 w2 e2 h2 h2' k2
    --
    refine TL_storea TE (hk := ?_); intro w3 m3 z3 k3
    replace k3 : Blk w3 b5 103 [.int .i64 (z.1.fr : Int), .int .i64 (z.1.to : Int), slV z.2] := k3
    have e13 : Ext w1 w3 := Mod.step e2 m3 (by simp; omega)
    have hfr3 := hfr.be e13
    have z13 := e13.size
    clear k2 r1
    repeat (first | refine T_seq ?_ | refine T_region ?_ | refine TL_nil ?_ | refine TL_load TE (hk := ?_) | refine TL_fieldAddr TE (hk := ?_))
    refine TL_call TE (hc := Clone_c z.2.1 z.2.2.1 z.2.2.2 z.1.b _ hfr3 (by omega)) (hk := ?_)
    rintro _ w4 ⟨A4, c4, rfl, e4, o4⟩
    have k4 := k3.be e4
    have z4 := e4.size
    have o4' : Body w4 w1.heap.size (A4, z.2.2.1, c4) z.1.b := Own.weaken o4 z13
    have e14 := e13.ext e4
    repeat (refine TL_fieldAddr TE (hk := ?_))
    refine TL_store TE (hb := k4) (hk := ?_); intro w5 m5 z5 k5
    have e45 : Ext w1 w5 := Mod.step e14 m5 (by simp; omega)
    have o5 : Body w5 w1.heap.size (A4, z.2.2.1, c4) z.1.b := o4'.mod m5 (fun b hb q => by have := Hi.blk o4.hi b hb; rw [List.mem_singleton] at q; omega)
    replace k5 : Blk w5 b5 103 [.int .i64 (z.1.fr : Int), .int .i64 (z.1.to : Int), slV (A4, z.2.2.1, c4)] := k5
    clear k4 k3 m3 m5 hfr3 o4 o4'
    repeat (first | refine T_region ?_ | refine TL_nil ?_ | refine TL_move (hk := ?_))
    refine TL_loadb TE (cs := [.int .i64 (z.1.fr : Int), .int .i64 (z.1.to : Int), slV (A4, z.2.2.1, c4)]) (o := 0) rfl rfl k5 rfl rfl (Nat.succ_pos _) (hk := ?_)
    --
    refine TL_buildSliceA TE (hk := ?_); intro b6 w6 e6 h6 h6' k6
    replace k6 : Blk w6 b6 103 (rowV pkV [((z.1, (A4, z.2.2.1, c4)) : PK × SV)]) := k6
    have r6 : Rd w6 (some ⟨b6, 0, none⟩) 1 3 (rowV pkV [((z.1, (A4, z.2.2.1, c4)) : PK × SV)]) := Rd.blk k6 rfl
    have oO := (hP.own.be e45).be e6
    have z5' := e45.size
    have z6 := e6.size
    --
    refine TL_append TE (ho := oO) (hr := r6) (h1 := rowV_one pkV_one _) (hk := ?_); intro A7 c7 w7 o7 m7 n7
    rw [← rowV_append] at o7
    have hP7 := hP.add z1 (x := z.1) e45 o5 e6 m7 o7 n7
    rw [← htk] at hP7
    have hMO : Ext w w7 := Mod.step ((e1.ext e45).ext e6) m7 (fun b hb => .inr (Hi.blk hP.own.hi b hb))
    repeat (first | refine T_region ?_ | refine T_inBlock ?_ | refine TL_add (hk := ?_) | refine TL_nil ?_ | refine TL_move (hk := ?_) | refine TL_assign (hk := ?_))
    exact ih (i + 1, (A7, O.2.1 + 1, c7)) _ _ (by simp only; omega) ⟨by simp only; omega, hMO, _, hP7⟩ (.c rfl (.c rfl (.c rfl (.c rfl (.n)))))
  · have hie : i = ns.way.length := by omega
    rw [hie, List.take_length] at hP
    clear ih
    repeat (first | refine T_seq ?_ | refine T_region ?_ | refine T_cond_false rfl ?_ | refine T_exit rfl ?_ | refine TL_lt_f (hk := ?_) | refine TL_nil ?_ | refine TL_move (hk := ?_) | refine TL_assign (hk := ?_))
    exact T_ret1 rfl rfl ⟨O, ys, rfl, e1, hP⟩
end
end Go.Proofs.Ytjjgojgahibpgaa

namespace Go.Proofs.Ytjjgojgahibpgaa
open Go.RowKit Go.Proofs.Eng Go.Proofs.Codec Go.Proofs.Link
set_option linter.unusedSimpArgs false
set_option linter.unusedVariables false set_option maxRecDepth 10000
attribute [local irreducible] T TL LV TH TA
set_option maxHeartbeats 3200000
section
variable {Y : Lay} {R : Nat} {w w5 : World} {base p : Nat} {M : NM} {F : Nat → Nat → Nat → Nat} {h : Nat → Nat} {ns : NS} {S : List Nat}
/-- A row more. -/
theorem NetG.row (g : NetG Y R w base p M F h ns) (hy : M.y = []) (hR : R < 8) (hm : Eng.Mod S w w5) (hS : ∀ b ∈ S, h b = 1 ∨ h b = 11 ∨ h b = 14) {s1 s2 r1 r2 : SV} {ev : Nat → Value} {f : Nat → Nat → Nat} {G : Nat → Nat}
    (hb : Blk w5 p Y.nt (Y.nv s1 s2 M.s3 ns.pat)) (o1 : Own w5 base Y.t1 1 s1.1 s1.2.1 s1.2.2 ((rowF R fun a => slV (M.r1 a)) ++ [slV r1])) (q1 : Rd w5 r1.1 r1.2.1 1 (rowF ns.N ev))
    (o2 : Own w5 base Y.t2 1 s2.1 s2.2.1 s2.2.2 ((rowF R fun a => slV (M.r2 a)) ++ [slV r2])) (q2 : Own w5 base Y.pt 1 r2.1 r2.2.1 r2.2.2 (rowF ns.N fun c => Y.pv (ns.P R c)))
    (en : ∀ c, c < ns.N → Y.Q w5 base R c (ev c) (f c) (ns.E R c)) (hG : ∀ b, G b ≠ 0 → base ≤ b ∧ b < w5.heap.size)
    (k1 : ∀ b ∈ blkL s1.1, b ∈ blkL M.s1.1 ∨ (w.heap.size ≤ b ∧ G b = 11)) (k2 : ∀ b ∈ blkL s2.1, b ∈ blkL M.s2.1 ∨ (w.heap.size ≤ b ∧ G b = 14)) (k3 : ∀ b ∈ blkL r1.1, w.heap.size ≤ b ∧ G b = 2) (k4 : ∀ b ∈ blkL r2.1, w.heap.size ≤ b ∧ G b = 3 + R)
    (k5 : ∀ c, c < ns.N → ∀ b, f c b ≠ 0 → w.heap.size ≤ b ∧ G b = 15 + (R * 8 + c)) :
    ∃ h', NetG Y (R + 1) w5 base p { M with s1 := s1, s2 := s2, r1 := upd M.r1 R r1, r2 := upd M.r2 R r2, ev := fun a c => if a = R then ev c else M.ev a c } (fun a c => if a = R then f c else F a c) h' ns := by
  have z := hm.size
  have h0 : ∀ b, w.heap.size ≤ b → h b = 0 := fun b hb => by
    by_cases q : h b = 0
    · exact q
    · have := (g.old b q).2; omega
  obtain ⟨h', hh⟩ : ∃ h' : Nat → Nat, h' = fun b => if h b = 0 then G b else h b := ⟨_, rfl⟩
  have kp : ∀ {b k}, h b = k + 1 → h' b = k + 1 := fun {b k} e => by rw [hh]; simp only; rw [if_neg (by omega), e]
  have kn : ∀ {b k}, w.heap.size ≤ b → G b = k → h' b = k := fun {b k} e1 e2 => by rw [hh]; simp only; rw [if_pos (h0 b e1), e2]
  have nin : ∀ b k, h b = k → k ≠ 1 → k ≠ 11 → k ≠ 14 → b ∉ S := fun b k e a1 a2 a3 q => by rcases hS b q with h | h | h <;> omega
  have nn := g.nn
  refine ⟨h', {
    blk := hb
    o1 := ?_
    q1 := fun a ha => ?_
    o2 := ?_
    q2 := fun a ha => ?_
    o3 := g.o3.modL hm (fun b hb => nin b _ (g.h12 b hb) (by decide) (by decide) (by decide))
    wy := g.wy
    fr := fun x hx => by rw [show M.y = [] from hy] at hx; cases hx
    en := fun a c ha hc => ?_
    hp := kp g.hp
    h2 := fun a ha b hb => ?_
    h3 := fun a ha b hb => ?_
    h11 := fun b hb => ?_
    h12 := fun b hb => kp (g.h12 b hb)
    h13 := fun x hx => by rw [show M.y = [] from hy] at hx; cases hx
    h14 := fun b hb => ?_
    he := fun a c ha hc b hb => ?_
    old := fun b hb => ?_
    rn := by omega
    nn := g.nn }⟩
  · have e : (rowF (R + 1) fun a => slV (upd M.r1 R r1 a)) = (rowF R fun a => slV (M.r1 a)) ++ [slV r1] := by
      rw [rowF_succ, upd_at, rowF_cong (g' := fun a => slV (M.r1 a)) (fun i hi => by rw [upd_ne _ _ (by omega)])]
    show Own w5 base Y.t1 1 s1.1 s1.2.1 s1.2.2 (rowF (R + 1) fun a => slV (upd M.r1 R r1 a))
    rw [e]
    exact o1
  · simp only
    by_cases e : a = R
    · subst e
      rw [upd_at, rowF_cong (g' := ev) (fun i hi => if_pos rfl)]
      exact q1
    · rw [upd_ne _ _ e, rowF_cong (g' := M.ev a) (fun i hi => if_neg e)]
      exact (g.q1 a (by omega)).mod hm (off_of fun b hb => nin b _ (g.h2 a (by omega) b hb) (by decide) (by decide) (by decide))
  · have e : (rowF (R + 1) fun a => slV (upd M.r2 R r2 a)) = (rowF R fun a => slV (M.r2 a)) ++ [slV r2] := by
      rw [rowF_succ, upd_at, rowF_cong (g' := fun a => slV (M.r2 a)) (fun i hi => by rw [upd_ne _ _ (by omega)])]
    show Own w5 base Y.t2 1 s2.1 s2.2.1 s2.2.2 (rowF (R + 1) fun a => slV (upd M.r2 R r2 a))
    rw [e]
    exact o2
  · simp only
    by_cases e : a = R
    · subst e
      rw [upd_at]
      exact q2
    · rw [upd_ne _ _ e]
      exact (g.q2 a (by omega)).modL hm (fun b hb => nin b _ (g.h3 a (by omega) b hb) (by omega) (by omega) (by omega))
  · simp only
    by_cases e : a = R
    · subst e
      rw [if_pos rfl, if_pos rfl]
      exact en c hc
    · rw [if_neg e, if_neg e]
      exact g.e_mod hm (fun b hb => by rcases hS b hb with h | h | h <;> omega) (by omega) hc
  · (try simp only at hb)
    by_cases e : a = R
    · subst e
      rw [upd_at] at hb
      exact kn (k3 b hb).1 (k3 b hb).2
    · rw [upd_ne _ _ e] at hb
      exact kp (g.h2 a (by omega) b hb)
  · (try simp only at hb)
    by_cases e : a = R
    · subst e
      rw [upd_at] at hb
      exact kn (k4 b hb).1 (k4 b hb).2
    · rw [upd_ne _ _ e] at hb
      have := kp (k := 2 + a) (by rw [g.h3 a (by omega) b hb]; omega : h b = 2 + a + 1)
      omega
  · rcases k1 b hb with q | q
    · exact kp (g.h11 b q)
    · exact kn q.1 q.2
  · rcases k2 b hb with q | q
    · exact kp (g.h14 b q)
    · exact kn q.1 q.2
  · (try simp only at hb)
    by_cases e : a = R
    · subst e
      rw [if_pos rfl] at hb
      exact kn (k5 c hc b hb).1 (k5 c hc b hb).2
    · rw [if_neg e] at hb
      have h1 := g.he a c (by omega) hc b hb
      have := kp (k := 14 + (a * 8 + c)) (by omega : h b = 14 + (a * 8 + c) + 1)
      omega
  · rw [hh] at hb
    simp only at hb
    by_cases q : h b = 0
    · rw [if_pos q] at hb; exact hG b hb
    · have := g.old b q; omega
end
def newX (N W P : Int) : Bool := decide (2 ≤ N ∧ N ≤ 8) && goodE W P
def nsN (N W P : Nat) : NS := ⟨N, W, P, fun _ _ => nE W P, fun _ _ => false, []⟩
def NM0 : NM := ⟨(none, 0, 0), fun _ => (none, 0, 0), fun _ _ => .pointer none, (none, 0, 0), fun _ => (none, 0, 0), (none, 0, 0), []⟩
theorem rowF_rep (N : Nat) (v : Value) : List.replicate N v = rowF N fun _ => v := by
  apply List.ext_getElem
  · simp
  · intro i h1 h2
    simp [rowF]
theorem NNewNet_c (N W P : Int) (w : World) (hN : -9223372036854775808 ≤ N ∧ N ≤ 9223372036854775807) (hW : -9223372036854775808 ≤ W ∧ W ≤ 9223372036854775807) (hP : -9223372036854775808 ≤ P ∧ P ≤ 9223372036854775807) :
    Ret Try.prog 58 [.int .i64 N, .int .i64 W, .int .i64 P] w (fun v w' => Ext w w' ∧ ((newX N W P = false ∧ v = .tuple #[.pointer none, .int .i64 2]) ∨
      ∃ n W' P' : Nat, N = n ∧ W = W' ∧ P = P' ∧ 2 ≤ n ∧ n ≤ 8 ∧ (1 ≤ W' ∧ W' ≤ 256) ∧ (1 ≤ P' ∧ P' ≤ 1000) ∧ newX N W P = true ∧ ∃ p M F h, v = .tuple #[ptr p, .int .i64 0] ∧ NetG LayP n w' w.heap.size p M F h (nsN n W' P'))) := by
  unfold newX
  refine ret_T (n := 74) Try.func58 rfl rfl ?_
  by_cases h1 : 2 ≤ N
  · by_cases h2 : N ≤ 8
    · obtain ⟨n, rfl⟩ := Int.eq_ofNat_of_zero_le (show 0 ≤ N by omega)
      have hn : 2 ≤ n ∧ n ≤ 8 := by omega
      rw [show (decide (2 ≤ (n : Int) ∧ (n : Int) ≤ 8)) = true from decide_eq_true ⟨h1, h2⟩]
      rw [Bool.true_and]
      repeat (first | refine T_seq ?_ | refine T_region ?_ | refine T_cond_false rfl ?_ | refine T_skip ?_ | refine TL_lt_f (hk := ?_) | refine TL_gt_f (hk := ?_) | refine TL_nil ?_ | refine TL_move (hk := ?_) | refine TL_assign (hk := ?_) | refine TL_yes (hk := ?_) | refine TL_pick_f (hk := ?_) | refine TL_build TE (hk := ?_))
      refine TL_box (hk := ?_); intro p w1 e1 p1 p1' k1
      clear h1 h2
      replace k1 : Blk w1 p 132 [.int .i64 P, slV (none, 0, 0), slV (none, 0, 0), slV (none, 0, 0)] := k1
      have hb1 := e1.size
      repeat (first | refine T_seq ?_ | refine T_region ?_ | refine T_block ?_ | refine TL_nil ?_ | refine TL_move (hk := ?_) | refine TL_assign (hk := ?_))
      refine T_loop (ι := Nat) (fun i => [(24, .int .i64 (i : Int)), (23, .int .i64 (n : Int)), (8, ptr p), (0, .int .i64 (n : Int)), (1, .int .i64 W), (2, .int .i64 P), (6, .pointer none)])
        (fun i w' => i ≤ n ∧ Ext w w' ∧ ((i = 0 ∧ w' = w1) ∨ ∃ W' P' : Nat, W = W' ∧ P = P' ∧ (1 ≤ W' ∧ W' ≤ 256) ∧ (1 ≤ P' ∧ P' ≤ 1000) ∧ ∃ M F h, M.y = [] ∧ M.s3 = (none, 0, 0) ∧ NetG LayP i w' w.heap.size p M F h (nsN n W' P'))) (fun i => n - i) 0 (.c rfl (.c rfl (.c rfl (.c rfl (.c rfl (.c rfl (.c rfl (.n)))))))) ⟨Nat.zero_le _, e1, .inl ⟨rfl, rfl⟩⟩ ?_
      rintro i w2 ⟨hi, e2, hst⟩ ih
      by_cases hlt : i < n
      · have hz2 : w1.heap.size ≤ w2.heap.size ∨ True := .inr trivial
        have hs2 := e2.size
        repeat (first | refine T_seq ?_ | refine T_region ?_ | refine T_cond_true rfl ?_ | refine T_block ?_ | refine T_skip ?_ | refine TL_lt_t (hk := ?_) | refine TL_nil ?_ | refine TL_move (hk := ?_) | refine TL_assign (hk := ?_))
        refine TL_makeSlice TE (m := n) (hk := ?_); intro b3 w3 e3 p3 p3' k3
        rw [rowF_rep] at k3
        have z3 := e3.size
        have o3 : Own w3 w2.heap.size 35 1 (some ⟨b3, 0, none⟩) n n (rowF n fun _ => .pointer none) := Own.of_blk k3 p3 (by simp) (by unfold maxLen; omega)
        repeat (first | refine T_seq ?_ | refine T_region ?_ | refine T_block ?_ | refine TL_nil ?_ | refine TL_move (hk := ?_) | refine TL_assign (hk := ?_) | refine TL_len TE (hk := ?_))
        refine T_loop (ι := Nat) (fun c => [(31, .int .i64 (c : Int)), (30, .int .i64 (n : Int)), (10, .slice (some ⟨b3, 0, none⟩) n n), (9, .int .i64 (i : Int)), (24, .int .i64 (i : Int)), (23, .int .i64 (n : Int)), (8, ptr p), (0, .int .i64 (n : Int)), (1, .int .i64 W), (2, .int .i64 P), (6, .pointer none)])
          (fun c w' => c ≤ n ∧ Ext w2 w' ∧ w3.heap.size ≤ w'.heap.size ∧ (0 < c → goodE W P = true) ∧ ∃ (ev : Nat → Value) (f : Nat → Nat → Nat) (G : Nat → Nat), Own w' w2.heap.size 35 1 (some ⟨b3, 0, none⟩) n n (rowF n fun x => if x < c then ev x else .pointer none) ∧
            (∀ x, x < c → QP w' w2.heap.size i x (ev x) (f x) (nE W.toNat P.toNat) ∧ ∀ b, f x b ≠ 0 → G b = 15 + (i * 8 + x)) ∧ (∀ b, G b ≠ 0 → w3.heap.size ≤ b ∧ b < w'.heap.size)) (fun c => n - c) 0 (.c rfl (.c rfl (.c rfl (.c rfl (.c rfl (.c rfl (.c rfl (.c rfl (.c rfl (.c rfl (.c rfl (.n))))))))))))
          ⟨Nat.zero_le _, e3, Nat.le_refl _, fun q => by omega, fun _ => .pointer none, fun _ _ => 0, fun _ => 0, by simpa using o3, fun x hx => by omega, fun b hb => absurd rfl hb⟩ ?_
        clear o3 k3
        rintro c w4 ⟨hc, e4, z4, hgd, ev, f, G, o4, hq4, hG4⟩ ih2
        by_cases hct : c < n
        · repeat (first | refine T_seq ?_ | refine T_region ?_ | refine T_cond_true rfl ?_ | refine T_block ?_ | refine T_skip ?_ | refine TL_lt_t (hk := ?_) | refine TL_nil ?_ | refine TL_move (hk := ?_) | refine TL_assign (hk := ?_))
          refine TL_call TE (hc := LNew_c W P _ hW hP) (hk := ?_)
          rintro _ w5 ⟨e5, ⟨hg, rfl⟩ | ⟨hg, q, m, f5, rfl, hE⟩⟩
          · clear ih ih2
            repeat (first | refine T_seq ?_ | refine T_region ?_ | refine T_cond_true rfl ?_ | refine TL_ne_t (hk := ?_) | refine TL_nil ?_ | refine TL_move (hk := ?_) | refine TL_assign (hk := ?_) | refine TL_extract (hk := ?_))
            exact T_ret2 rfl rfl rfl ⟨(e2.ext e4).ext e5, .inl ⟨hg, rfl⟩⟩
          have o5 := o4.be e5
          have z5 := e5.size
          replace hE : EndM w5 w4.heap.size q m f5 (nE W.toNat P.toNat) := hE
          have hG5 : ∀ b, G b ≠ 0 → w3.heap.size ≤ b ∧ b < w5.heap.size := fun b hb => by have := hG4 b hb; omega
          have hq5 : ∀ x, x < c → QP w5 w2.heap.size i x (ev x) (f x) (nE W.toNat P.toNat) ∧ ∀ b, f x b ≠ 0 → G b = 15 + (i * 8 + x) := fun x hx => ⟨LayP.qm (hq4 x hx).1 e5 (fun b hb => by cases hb), (hq4 x hx).2⟩
          have h0c : (0 : Int) ≤ (c : Int) := by omega
          by_cases hci : c = i
          · subst hci
            repeat (first | refine T_seq ?_ | refine T_region ?_ | refine T_cond_false rfl ?_ | refine T_inBlock ?_ | refine T_skip ?_ | refine TL_add (hk := ?_) | refine TL_ne_f (hk := ?_) | refine TL_nil ?_ | refine TL_move (hk := ?_) | refine TL_assign (hk := ?_) | refine TL_extract (hk := ?_))
            refine ih2 (c + 1) _ _ (by omega) ⟨by omega, e4.ext e5, by omega, fun _ => hg, upd ev c (.pointer none), upd f c (fun _ => 0), G, ?_, fun x hx => ?_, hG5⟩ (.c rfl (.c rfl (.c rfl (.c rfl (.c rfl (.c rfl (.c rfl (.c rfl (.c rfl (.c rfl (.c rfl (.n))))))))))))
            · rw [rowF_cong (g' := fun x => if x < c then ev x else .pointer none) (fun x hx => ?_)]
              · exact o5
              · unfold upd
                by_cases e : x = c
                · subst e; rw [if_pos (by omega), if_pos rfl, if_neg (by omega)]
                · by_cases e2 : x < c
                  · rw [if_pos (by omega), if_neg e, if_pos e2]
                  · rw [if_neg (by omega), if_neg e2]
            · by_cases e : x = c
              · subst e
                rw [upd_at, upd_at]
                unfold QP
                rw [if_pos rfl]
                exact ⟨⟨rfl, fun b => rfl, _, _, rfl⟩, fun b hb => absurd rfl hb⟩
              · rw [upd_ne _ _ e, upd_ne _ _ e]
                exact hq5 x (by omega)
          · have hci' : ¬ (c : Int) = (i : Int) := by omega
            repeat (first | refine T_seq ?_ | refine T_region ?_ | refine T_cond_true rfl ?_ | refine T_cond_false rfl ?_ | refine T_skip ?_ | refine TL_ne_t (hk := ?_) | refine TL_ne_f (hk := ?_) | refine TL_nil ?_ | refine TL_move (hk := ?_) | refine TL_assign (hk := ?_) | refine TL_indexAddr1n TE (hk := ?_) | refine TL_extract (hk := ?_))
            refine TL_store_own TE (ho := o5) (hj := by rw [rowF_len]; exact hct) (hk := ?_); intro w6 m6 z6 o6
            have hb3 : ∀ b ∈ blkL (some (⟨b3, 0, none⟩ : Addr)), b = b3 := fun b hb => by simpa [blkL] using hb
            have e26 : Ext w2 w6 := Mod.step (e4.ext e5) m6 (fun b hb => by rw [hb3 b hb]; right; omega)
            have hE6 : EndM w6 w4.heap.size q m f5 (nE W.toNat P.toNat) := hE.mod m6 (fun b hb => by
              rw [hb3 b hb]
              by_cases y : f5 b3 = 0
              · exact y
              · have := (hE.ki.old b3 y).1; omega)
            have z4' := e4.size
            repeat (first | refine T_region ?_ | refine T_inBlock ?_ | refine TL_add (hk := ?_) | refine TL_nil ?_ | refine TL_move (hk := ?_))
            refine ih2 (c + 1) _ _ (by omega) ⟨by omega, e26, by omega, fun _ => hg, upd ev c (ptr q), upd f c f5, fun b => if f5 b = 0 then G b else 15 + (i * 8 + c), ?_, fun x hx => ?_, fun b hb => ?_⟩ (.c rfl (.c rfl (.c rfl (.c rfl (.c rfl (.c rfl (.c rfl (.c rfl (.c rfl (.c rfl (.c rfl (.n))))))))))))
            · rw [rowF_set] at o6
              rw [rowF_cong (g' := upd (fun x => if x < c then ev x else .pointer none) c (ptr q)) (fun x hx => ?_)]
              · exact o6
              · show (if x < c + 1 then (if x = c then ptr q else ev x) else .pointer none) = (if x = c then ptr q else if x < c then ev x else .pointer none)
                by_cases e : x = c
                · subst e; rw [if_pos (by omega), if_pos rfl, if_pos rfl]
                · by_cases e2 : x < c
                  · rw [if_pos (by omega), if_neg e, if_neg e, if_pos e2]
                  · rw [if_neg (by omega), if_neg e, if_neg e2]
            · by_cases e : x = c
              · subst e
                rw [upd_at, upd_at]
                exact ⟨QP.mk (Ne.symm hci) (by omega) hE6, fun b hb => by simp only; rw [if_neg hb]⟩
              · rw [upd_ne _ _ e, upd_ne _ _ e]
                obtain ⟨g1, g2⟩ := hq5 x (by omega)
                refine ⟨LayP.qm g1 m6 (fun b hb => ?_), fun b hb => ?_⟩
                · rw [hb3 b hb]
                  by_cases y : f x b3 = 0
                  · exact y
                  · have h3 := g2 b3 y; have := hG4 b3 (by omega); omega
                · have h3 := g2 b hb
                  have h4 := hG4 b (by omega)
                  have : f5 b = 0 := by
                    by_cases y : f5 b = 0
                    · exact y
                    · have := (hE.ki.old b y).1; omega
                  simp only
                  rw [if_pos this]
                  exact h3
            · simp only at hb
              by_cases y : f5 b = 0
              · rw [if_pos y] at hb; have := hG5 b hb; omega
              · have := hE.ki.old b y; omega
        · obtain rfl : c = n := by omega
          have hgd := hgd (by omega)
          obtain ⟨W', P', rfl, rfl, hW', hP'⟩ := goodE_nat hgd
          simp only [Int.toNat_natCast] at hq4
          obtain ⟨M, F, h, hy, hs3, g⟩ : ∃ M F h, M.y = [] ∧ M.s3 = (none, 0, 0) ∧ NetG LayP i w2 w.heap.size p M F h (nsN c W' P') := by
            rcases hst with ⟨rfl, rfl⟩ | ⟨W2, P2, hW2, hP2, -, -, M, F, h, hy, hs, g⟩
            · refine ⟨NM0, fun _ _ _ => 0, fun b => if b = p then 1 else 0, rfl, rfl, { blk := k1, o1 := Own.nil _ _ _ _, q1 := fun a ha => (by omega), o2 := Own.nil _ _ _ _, q2 := fun a ha => (by omega), o3 := Own.nil _ _ _ _, wy := rfl, fr := fun x hx => (by cases hx), en := fun a c ha => (by omega), hp := if_pos rfl, h2 := fun a ha => (by omega), h3 := fun a ha => (by omega), h11 := fun b hb => (by cases hb), h12 := fun b hb => (by cases hb), h13 := fun x hx => (by cases hx), h14 := fun b hb => (by cases hb), he := fun a c ha => (by omega), old := fun b hb => ?_, rn := by omega, nn := hn.2 }⟩
              by_cases e : b = p
              · subst e; exact ⟨p1, p1'⟩
              · rw [if_neg e] at hb; exact absurd rfl hb
            · have : W' = W2 := by omega
              have : P' = P2 := by omega
              subst W2
              subst P2
              exact ⟨M, F, h, hy, hs, g⟩
          clear hst ih2
          have hbw := g.bw
          have rn := g.rn
          have hl1 := g.l1
          have hl2 := g.l2
          have hk4 := g.kP.be e4
          have g4 := g.ext e4
          have hp4 : p ∉ blkL M.s1.1 := fun q => by have := g.h11 p q; rw [g.hp] at this; omega
          have hp4' : p ∉ blkL M.s2.1 := fun q => by have := g.h14 p q; rw [g.hp] at this; omega
          have z24 := e4.size
          repeat (first | refine T_seq ?_ | refine T_region ?_ | refine T_cond_false rfl ?_ | refine T_exit rfl ?_ | refine TL_lt_f (hk := ?_) | refine TL_nil ?_ | refine TL_move (hk := ?_) | refine TL_load TE (hk := ?_) | refine TL_fieldAddr TE (hk := ?_) | refine TL_nilCheck (hk := ?_))
          refine TL_buildSlice TE (hk := ?_); intro b5 w5 e5 p5 p5' k5
          have r5 : Rd w5 (some ⟨b5, 0, none⟩) 1 1 [slV (some ⟨b3, 0, none⟩, c, c)] := Rd.blk k5 rfl
          have o15 := g4.o1.be e5
          have hk5 := hk4.be e5
          have z5 := e5.size
          --
          refine TL_append TE (ho := o15) (hr := r5) (h1 := slVs_one [(some ⟨b3, 0, none⟩, c, c)]) (hk := ?_); intro A6 c6 w6 o6 m6 n6
          have hk6 := hk5.mod m6 hp4
          repeat (first | refine TL_fieldAddr TE (hk := ?_) | refine TL_nilCheck (hk := ?_))
          refine TL_store TE (hb := hk6) (hk := ?_); intro w7 m7 z7 k7
          have z6 := m6.size
          have hA6 : ∀ b ∈ blkL A6, b ∈ blkL M.s1.1 ∨ w5.heap.size ≤ b := fun b hb => Near.blk n6 b hb
          have hpA6 : ∀ b ∈ blkL A6, b ∉ [p] := fun b hb q => by
            rw [List.mem_singleton] at q
            rcases hA6 b hb with h1 | h1
            · exact hp4 (q ▸ h1)
            · omega
          have o7 := o6.modL m7 hpA6
          have M27 : Eng.Mod (p :: blkL M.s1.1) w2 w7 := (((e4.ext e5).mono (S' := p :: blkL M.s1.1) (by simp)).step m6 (fun b hb => .inl (List.mem_cons_of_mem _ hb))).step m7 (fun b hb => .inl (by rw [List.mem_singleton.1 hb]; exact List.mem_cons_self))
          have hdis : ∀ b ∈ blkL M.s2.1, b ∉ p :: blkL M.s1.1 := fun b hb q => by
            have a1 := g.h14 b hb
            rcases List.mem_cons.1 q with rfl | q
            · rw [g.hp] at a1; omega
            · have := g.h11 b q; omega
          have o27 := g.o2.modL M27 hdis
          have M47 : Eng.Mod (p :: blkL M.s1.1) w4 w7 := ((e5.mono (S' := p :: blkL M.s1.1) (by simp)).step m6 (fun b hb => .inl (List.mem_cons_of_mem _ hb))).step m7 (fun b hb => .inl (by rw [List.mem_singleton.1 hb]; exact List.mem_cons_self))
          have hlt2 : ∀ b ∈ p :: blkL M.s1.1, b < w2.heap.size := fun b hb => by
            rcases List.mem_cons.1 hb with rfl | hb
            · exact hbw.2
            · exact (g.o1.bl b hb).2
          have o47 := o4.modL M47 (fun b hb q => by have := hlt2 b q; have := (o4.bl b hb).1; omega)
          have hq7 : ∀ x, x < c → QP w7 w2.heap.size i x (ev x) (f x) (nE W' P') ∧ ∀ b, f x b ≠ 0 → G b = 15 + (i * 8 + x) := fun x hx => ⟨LayP.qm (hq4 x hx).1 M47 (fun b hb => by
            by_cases y : f x b = 0
            · exact y
            · have := (hq4 x hx).2 b y; have := hG4 b (by omega); have := hlt2 b hb; omega), (hq4 x hx).2⟩
          clear hk4 hk5 hk6 o6 o15 m6 m7 hq4 g4
          replace k7 : Blk w7 p 132 [.int .i64 (P' : Int), slV (A6, M.s1.2.1 + 1, c6), slV M.s2, slV M.s3] := k7
          repeat (refine TL_nil ?_)
          refine T_region_anyz TE.mixed (blkL M.s2.1) (some 11) ?_; intro w8 e8 z8
          have k8 := k7.be e8
          have o28 := o27.be e8
          (refine TA_take 0 rfl (by kernel_rfl) (by kernel_rfl) (by kernel_rfl) ?_; (repeat (first | refine TL_move (hk := ?_) | refine TLP_load TE (hk := ?_) | refine TL_fieldAddr TE (hk := ?_) | refine TL_nilCheck (hk := ?_))); refine TL_nil_p ?_); (refine TA_take 1 rfl (by kernel_rfl) (by kernel_rfl) (by kernel_rfl) ?_; (repeat (first | refine TL_move (hk := ?_) | refine TLP_load TE (hk := ?_) | refine TL_fieldAddr TE (hk := ?_) | refine TL_nilCheck (hk := ?_))); refine TL_nil_p ?_); (refine TA_take 2 rfl (by kernel_rfl) (by kernel_rfl) (by kernel_rfl) ?_; (repeat (first | refine TL_move (hk := ?_) | refine TLP_load TE (hk := ?_) | refine TL_fieldAddr TE (hk := ?_) | refine TL_nilCheck (hk := ?_))); refine TL_nil_p ?_); (refine TA_take 3 rfl (by kernel_rfl) (by kernel_rfl) (by kernel_rfl) ?_; (repeat (first | refine TL_move (hk := ?_) | refine TLP_load TE (hk := ?_) | refine TL_fieldAddr TE (hk := ?_) | refine TL_nilCheck (hk := ?_))); refine TL_nil_p ?_); (refine TA_take 4 rfl (by kernel_rfl) (by kernel_rfl) (by kernel_rfl) ?_; (repeat (first | refine TL_move (hk := ?_) | refine TLP_load TE (hk := ?_) | refine TL_fieldAddr TE (hk := ?_) | refine TL_nilCheck (hk := ?_))); refine TL_nil_p ?_); (refine TA_take 5 rfl (by kernel_rfl) (by kernel_rfl) (by kernel_rfl) ?_; (repeat (first | refine TL_move (hk := ?_) | refine TLP_load TE (hk := ?_) | refine TL_fieldAddr TE (hk := ?_) | refine TL_nilCheck (hk := ?_))); refine TL_nil_p ?_)
          refine TA_one 6 rfl (by kernel_rfl) (by kernel_rfl) ?_
          refine TL_makeSlice TE (m := c) (hf := rfl) (hq := fun w' e => Ext.un e) (hk := ?_); intro b9 w9 e9 p9 p9' k9
          rw [rowF_rep] at k9
          refine TL_nil_p ?_
          refine TA_one 7 rfl (by kernel_rfl) (by kernel_rfl) ?_
          refine TL_buildSlice TE (hf := rfl) (hq := fun w' e => Ext.un (e9.ext e)) (hk := ?_); intro b10 w10 e10 p10 p10' k10
          have r10 : Rd w10 (some ⟨b10, 0, none⟩) 1 1 [slV (some ⟨b9, 0, none⟩, c, c)] := Rd.blk k10 rfl
          have z9 := e9.size
          have z10 := e10.size
          have z2x := M27.size
          refine TL_nil_p ?_
          refine TA_one 8 rfl (by kernel_rfl) (by kernel_rfl) ?_
          refine TL_append TE (ho := (o28.be e9).be e10) (hr := r10) (h1 := slVs_one [(some ⟨b9, 0, none⟩, c, c)]) (hf := rfl) (hq := fun w' m => (Ext.un (e9.ext e10)).trans m) (hk := ?_); intro A11 c11 w11 o11 m11 n11
          have k11 := ((k8.be e9).be e10).mod m11 hp4'
          refine TL_nil_p ?_
          (refine TA_one 9 rfl (by kernel_rfl) (by kernel_rfl) ?_; (repeat (first | refine TL_fieldAddr TE (hk := ?_) | refine TL_nilCheck (hk := ?_))); refine TL_nil_p ?_); (refine TA_one 10 rfl (by kernel_rfl) (by kernel_rfl) ?_; (repeat (first | refine TL_fieldAddr TE (hk := ?_) | refine TL_nilCheck (hk := ?_))); refine TL_nil_p ?_)
          refine TA_one 11 rfl (by kernel_rfl) (by kernel_rfl) ?_
          refine TL_store TE (hb := k11) (hf := rfl) (hq := fun _ _ _ => trivial) (hk := ?_); intro w12 m12 z12 k12
          refine TL_nil_z (by kernel_rfl) ?_
          have z11 := m11.size
          have z78 := e8.size
          have hA11 : ∀ b ∈ blkL A11, b ∈ blkL M.s2.1 ∨ w10.heap.size ≤ b := fun b hb => Near.blk n11 b hb
          have hpA11 : ∀ b ∈ blkL A11, b ∉ [p] := fun b hb q => by
            rw [List.mem_singleton] at q
            rcases hA11 b hb with h1 | h1
            · exact hp4' (q ▸ h1)
            · omega
          have o12 := o11.modL m12 hpA11
          have M712 : Eng.Mod (p :: blkL M.s2.1) w7 w12 := ((((e8.ext e9).ext e10).mono (S' := p :: blkL M.s2.1) (by simp)).step m11 (fun b hb => .inl (List.mem_cons_of_mem _ hb))).step m12 (fun b hb => .inl (by rw [List.mem_singleton.1 hb]; exact List.mem_cons_self))
          have M912 : Eng.Mod (p :: blkL M.s2.1) w9 w12 := ((e10.mono (S' := p :: blkL M.s2.1) (by simp)).step m11 (fun b hb => .inl (List.mem_cons_of_mem _ hb))).step m12 (fun b hb => .inl (by rw [List.mem_singleton.1 hb]; exact List.mem_cons_self))
          have hS2 : ∀ b ∈ p :: blkL M.s2.1, h b = 1 ∨ h b = 14 := fun b hb => by
            rcases List.mem_cons.1 hb with rfl | hb
            · exact .inl g.hp
            · exact .inr (g.h14 b hb)
          have hl22 : ∀ b ∈ p :: blkL M.s2.1, b < w2.heap.size := fun b hb => by
            rcases List.mem_cons.1 hb with rfl | hb
            · exact hbw.2
            · exact (g.o2.bl b hb).2
          have o7' := o7.modL M712 (fun b hb q => by
            rcases hA6 b hb with h1 | h1
            · have := g.h11 b h1; rcases hS2 b q with h | h <;> omega
            · have := hl22 b q; omega)
          have o47' := o47.modL M712 (fun b hb q => by have := hl22 b q; have := (o4.bl b hb).1; omega)
          have q9 : Own w12 w.heap.size 3 1 (some ⟨b9, 0, none⟩) c c (rowF c fun _ => .int .i64 0) := Own.of_blk (k9.mod M912 (fun q => by have := hl22 b9 q; omega)) (by omega) (by simp) (by unfold maxLen; omega)
          have hr1 : (rowF c ev) = rowF c fun x => if x < c then ev x else .pointer none := rowF_cong fun x hx => (if_pos hx).symm
          obtain ⟨h', g'⟩ := g.row (s1 := (A6, M.s1.2.1 + 1, c6)) (s2 := (A11, M.s2.2.1 + 1, c11)) (r1 := (some ⟨b3, 0, none⟩, c, c)) (r2 := (some ⟨b9, 0, none⟩, c, c)) (ev := ev) (f := f)
            (G := updF (updF (updF (updF G [b3] 2) (blkL A6) 11) [b9] (3 + i)) (blkL A11) 14) (S := (p :: blkL M.s1.1) ++ (p :: blkL M.s2.1)) hy (by omega)
            ((M27.mono (fun b hb => .inl (List.mem_append_left _ hb))).step M712 (fun b hb => .inl (List.mem_append_right _ hb)))
            (fun b hb => by
              rcases List.mem_append.1 hb with hb | hb
              · rcases List.mem_cons.1 hb with rfl | hb
                · exact .inl g.hp
                · exact .inr (.inl (g.h11 b hb))
              · exact (hS2 b hb).imp id .inr)
            k12 o7' (by rw [show (nsN c W' P').N = c from rfl, hr1]; exact o47'.rd) o12 q9 (fun x hx => by
              have := LayP.qm (hq7 x hx).1 M712 (fun b hb => by
                by_cases y : f x b = 0
                · exact y
                · have := (hq7 x hx).2 b y; have := hG4 b (by omega); have := hl22 b hb; omega)
              unfold LayP QP at this ⊢
              simp only at this ⊢
              split
              · rename_i q; rw [if_pos q] at this; exact this
              · rename_i q; rw [if_neg q] at this
                obtain ⟨bs, q', m, a1, a2, a3⟩ := this
                exact ⟨bs, q', m, by omega, a2, a3⟩)
            (fun b hb => by
              by_cases a1 : b ∈ blkL A11
              · have := (o12.bl b a1); omega
              rw [updF_out a1] at hb
              by_cases a2 : b ∈ [b9]
              · rw [List.mem_singleton.1 a2]; have := M912.size; omega
              rw [updF_out a2] at hb
              by_cases a3 : b ∈ blkL A6
              · have := o7'.bl b a3; omega
              rw [updF_out a3] at hb
              by_cases a4 : b ∈ [b3]
              · rw [List.mem_singleton.1 a4]; have := M912.size; omega
              rw [updF_out a4] at hb
              have := hG4 b hb; have := M912.size; omega)
            (fun b hb => by
              rcases hA6 b hb with q | q
              · exact .inl q
              · right
                refine ⟨by omega, ?_⟩
                have h1 := o7.bl b hb
                rw [updF_out (fun y => by rcases hA11 b y with u | u <;> first | (have := g.o2.bl b u; omega) | omega), updF_out (fun y => by rw [List.mem_singleton.1 y] at h1; omega), updF_in hb])
            (fun b hb => by
              rcases hA11 b hb with q | q
              · exact .inl q
              · exact .inr ⟨by omega, updF_in hb⟩)
            (fun b hb => by
              obtain rfl : b = b3 := by simpa [blkL] using hb
              refine ⟨p3, ?_⟩
              rw [updF_out (fun y => by rcases hA11 b y with u | u <;> first | (have := g.o2.bl b u; omega) | omega), updF_out (fun y => by rw [List.mem_singleton] at y; omega), updF_out (fun y => by rcases hA6 b y with u | u <;> first | (have := g.o1.bl b u; omega) | omega), updF_in (by simp)])
            (fun b hb => by
              obtain rfl : b = b9 := by simpa [blkL] using hb
              refine ⟨by omega, ?_⟩
              rw [updF_out (fun y => by rcases hA11 b y with u | u <;> first | (have := g.o2.bl b u; omega) | omega), updF_in (by simp)])
            (fun x hx b hb => by
              have a0 := (hq7 x hx).2 b hb
              have a1 := hG4 b (by omega)
              refine ⟨by omega, ?_⟩
              rw [updF_out (fun y => by rcases hA11 b y with u | u <;> first | (have := g.o2.bl b u; omega) | omega), updF_out (fun y => by rw [List.mem_singleton] at y; omega), updF_out (fun y => by rcases hA6 b y with u | u <;> first | (have := g.o1.bl b u; omega) | omega), updF_out (fun y => by rw [List.mem_singleton] at y; omega)]
              exact a0)
          have eW : Ext w w12 := Mod.step (e2.step M27 (fun b hb => .inr (by
            rcases List.mem_cons.1 hb with rfl | hb
            · exact p1
            · exact (g.o1.bl b hb).1))) M712 (fun b hb => .inr (by
            rcases List.mem_cons.1 hb with rfl | hb
            · exact p1
            · exact (g.o2.bl b hb).1))
          repeat (first | refine T_region ?_ | refine T_inBlock ?_ | refine TL_add (hk := ?_) | refine TL_nil ?_ | refine TL_move (hk := ?_))
          exact ih (i + 1) _ _ (by omega) ⟨by omega, eW, .inr ⟨W', P', rfl, rfl, hW', hP', { M with s1 := (A6, M.s1.2.1 + 1, c6), s2 := (A11, M.s2.2.1 + 1, c11), r1 := upd M.r1 i (some ⟨b3, 0, none⟩, c, c), r2 := upd M.r2 i (some ⟨b9, 0, none⟩, c, c), ev := fun a c => if a = i then ev c else M.ev a c }, _, h', hy, hs3, g'⟩⟩ (.c rfl (.c rfl (.c rfl (.c rfl (.c rfl (.c rfl (.c rfl (.n))))))))
      · obtain rfl : i = n := by omega
        rcases hst with ⟨h0, -⟩ | ⟨W', P', rfl, rfl, hW', hP', M, F, h, -, -, g⟩
        · omega
        · clear ih
          repeat (first | refine T_seq ?_ | refine T_region ?_ | refine T_cond_false rfl ?_ | refine T_exit rfl ?_ | refine TL_lt_f (hk := ?_) | refine TL_nil ?_ | refine TL_move (hk := ?_) | refine TL_assign (hk := ?_))
          refine T_ret2 rfl rfl rfl ⟨e2, .inr ⟨i, W', P', rfl, rfl, rfl, hn.1, hn.2, hW', hP', ?_, p, M, F, h, rfl, g⟩⟩
          unfold goodE
          rw [decide_eq_true_eq]
          omega
    · rw [show (decide (2 ≤ N ∧ N ≤ 8)) = false from decide_eq_false (fun q => h2 q.2)]
      repeat (first | refine T_seq ?_ | refine T_region ?_ | refine T_cond_true rfl ?_ | refine TL_lt_f (hk := ?_) | refine TL_gt_t (hk := ?_) | refine TL_nil ?_ | refine TL_move (hk := ?_) | refine TL_assign (hk := ?_) | refine TL_yes (hk := ?_) | refine TL_pick_f (hk := ?_))
      exact T_ret2 rfl rfl rfl ⟨Mod.refl _ _, .inl ⟨rfl, rfl⟩⟩
  · rw [show (decide (2 ≤ N ∧ N ≤ 8)) = false from decide_eq_false (fun q => h1 q.1)]
    repeat (first | refine T_seq ?_ | refine T_region ?_ | refine T_cond_true rfl ?_ | refine TL_lt_t (hk := ?_) | refine TL_nil ?_ | refine TL_move (hk := ?_) | refine TL_assign (hk := ?_) | refine TL_no (hk := ?_) | refine TL_pick_t (hk := ?_))
    exact T_ret2 rfl rfl rfl ⟨Mod.refl _ _, .inl ⟨rfl, rfl⟩⟩
end Go.Proofs.Ytjjgojgahibpgaa

namespace Go.Proofs.Ytjjgojgahibpgaa
open Go.RowKit Go.Proofs.Eng Go.Proofs.Codec Go.Proofs.Link
set_option linter.unusedSimpArgs false
set_option linter.unusedVariables false set_option maxRecDepth 10000
attribute [local irreducible] T TL LV TH TA
set_option maxHeartbeats 3200000
section
variable {base p : Nat} {M : NM} {F : Nat → Nat → Nat → Nat} {h : Nat → Nat} {ns : NS} {k : Nat} {L : LL} {U : Nat → Nat → Nat}
end
end Go.Proofs.Ytjjgojgahibpgaa

namespace Go.Proofs.Ytjjgojgahibpgaa
open Go.RowKit Go.Proofs.Eng Go.Proofs.Codec Go.Proofs.Link
set_option linter.unusedSimpArgs false
set_option linter.unusedVariables false set_option maxRecDepth 10000
attribute [local irreducible] T TL LV TH TA
set_option maxHeartbeats 3200000
section
variable {base p : Nat} {M : NM} {F : Nat → Nat → Nat → Nat} {h : Nat → Nat} {ns : NS} {k : Nat} {L : LL} {U : Nat → Nat → Nat}
end
end Go.Proofs.Ytjjgojgahibpgaa

namespace Go.Proofs.Ytjjgojgahibpgaa
open Go.RowKit Go.Proofs.Eng Go.Proofs.Codec Go.Proofs.Link
set_option linter.unusedSimpArgs false
set_option linter.unusedVariables false set_option maxRecDepth 10000
attribute [local irreducible] T TL LV TH TA
set_option maxHeartbeats 3200000
section
variable {base p : Nat} {M : NM} {F : Nat → Nat → Nat → Nat} {h : Nat → Nat} {ns : NS} {k : Nat} {L : LL} {U : Nat → Nat → Nat}
end
end Go.Proofs.Ytjjgojgahibpgaa

namespace Go.Proofs.Ytjjgojgahibpgaa
open Go.RowKit Go.Proofs.Eng Go.Proofs.Codec Go.Proofs.Link
set_option linter.unusedSimpArgs false
set_option linter.unusedVariables false set_option maxRecDepth 10000
attribute [local irreducible] T TL LV TH TA
set_option maxHeartbeats 3200000
section
variable {base p : Nat} {M : NM} {F : Nat → Nat → Nat → Nat} {h : Nat → Nat} {ns : NS} {k : Nat} {L : LL} {U : Nat → Nat → Nat}
end
end Go.Proofs.Ytjjgojgahibpgaa

namespace Go.Proofs.Ytjjgojgahibpgaa
open Go.RowKit Go.Proofs.Eng Go.Proofs.Codec Go.Proofs.Link
set_option linter.unusedSimpArgs false
set_option linter.unusedVariables false set_option maxRecDepth 10000
attribute [local irreducible] T TL LV TH TA
set_option maxHeartbeats 3200000
section
variable {base p : Nat} {M : NM} {F : Nat → Nat → Nat → Nat} {h : Nat → Nat} {ns : NS} {k : Nat} {L : LL} {U : Nat → Nat → Nat}
end
end Go.Proofs.Ytjjgojgahibpgaa
