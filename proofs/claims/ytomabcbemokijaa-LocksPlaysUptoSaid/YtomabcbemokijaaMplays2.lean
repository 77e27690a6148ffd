import Derived.Test.YtomabcbemokijaaMplays1
import Derived.Shelf.Small.Bits
import Derived.Shelf.Small.Strs
import Derived.Shelf.Strconv.Itoa0
import Derived.Shelf.Strings.Search1
import Derived.Ground.SlgnProg
import Derived.Shelf.SlicesG.CompactI
import Derived.Ground.SlgmProg
import Derived.Shelf.SortM.Plain
import Derived.Shelf.SortM.SortNone
import Derived.Test.YtomabcbemokijaaProg
import Derived.Shelf.SlIterI.Nil
import Derived.Shelf.SlIterI.Sorted
import Derived.Shelf.SlIterI.Collect
import Derived.Ground.GgzProg
import Derived.Shelf.SlIterI.Keys
import Derived.Lib.SlicesCompact
/- Parts: KSpec KMem Eng26 Shelf FW1 KW1 KW2 Eng27 Iter KW3 KW4 Eng28 KW5 KLaw1 KW6 KW7 Eng10 Eng29 KAct KLaw2 KW8 KLaw3 KW9 KW10 KW11 KLaw4 KW12 KW15 KW16. -/
/- The lock table, in plain words. -/
namespace Go.Proofs.Locks
open Go.Proofs.Eng Go.Proofs.Foot
set_option linter.unusedSimpArgs false
set_option linter.unusedVariables false
abbrev Lk := Tx × Bool
abbrev Akk := Int × Bool
abbrev Ent := Int × List Lk
def lkV (p : Lk) : List Value := [.string (ofL p.1), .bool p.2]
def akV (p : Akk) : List Value := [.int .i64 p.1, .bool p.2]
theorem lkV_len (p : Lk) : (lkV p).length = 2 := rfl
theorem akV_len (p : Akk) : (akV p).length = 2 := rfl
theorem lkV_one (p : Lk) : ∀ u ∈ lkV p, u.oneCell' = true := by
  intro u hu
  simp only [lkV, List.mem_cons, List.not_mem_nil, or_false] at hu
  rcases hu with rfl | rfl <;> rfl
theorem akV_one (p : Akk) : ∀ u ∈ akV p, u.oneCell' = true := by
  intro u hu
  simp only [akV, List.mem_cons, List.not_mem_nil, or_false] at hu
  rcases hu with rfl | rfl <;> rfl
def lk0 : Lk := ([], false)
def ak0 : Akk := (0, false)
/-- What one asks of a key. -/
def asks (l : List Lk) (k : Tx) : Option Bool := (l.find? fun x => decide (x.1 = k)).map (·.2)
def qOf (E : List Ent) (k : Tx) : List Akk := E.filterMap fun e => (asks e.2 k).map fun b => (e.1, b)
def grantN (q : List Akk) : Nat :=
  let n := (q.takeWhile fun x => !x.2).length
  if n = 0 ∧ 0 < q.length then 1 else n
def placeI : List Akk → Int → Int
  | [], _ => -1
  | x :: q, s => if x.1 = s then 0 else let r := placeI q s; if r < 0 then -1 else r + 1
def eget (E : List Ent) (s : Int) : Option (List Lk) := (E.find? fun e => decide (e.1 = s)).map (·.2)
def readyL (E : List Ent) (s : Int) (l : List Lk) : Bool := l.all fun x => decide (placeI (qOf E x.1) s < (grantN (qOf E x.1) : Int))
def readyE (E : List Ent) (s : Int) : Bool := match eget E s with
  | none => false
  | some l => readyL E s l
def overT (p : Option Tx) (x : Tx) : Bool := match p with
  | some y => decide (x ≤ y)
  | none => false
def chk : Option Tx → List Lk → Nat
  | _, [] => 0
  | p, x :: t => if validT x.1 = false then 30 else if overT p x.1 = true then 40 else chk (some x.1) t
structure LS where
  E : List Ent
  nx : Int
def bump (s : Int) : Int := IntKind.i64.wrap (s + 1)
theorem bump_lt {s : Int} (h0 : 0 ≤ s) (h : s < 9223372036854775807) : bump s = s + 1 := Fits.wrap (by show _ ∧ _; omega)
theorem bump_max : bump 9223372036854775807 = -9223372036854775808 := by decide
def enqE (t : LS) (s : Int) (l : List Lk) : LS × Nat :=
  if s < t.nx ∨ t.nx < 0 then (t, 140) else if chk none l ≠ 0 then (t, chk none l) else (⟨t.E ++ [(s, l)], bump s⟩, 0)
def relE (t : LS) (s : Int) : LS × Nat := match eget t.E s with
  | none => (t, 7)
  | some _ => if readyE t.E s = true then (⟨t.E.filter fun e => !decide (e.1 = s), t.nx⟩, 0) else (t, 141)
def allE (t : LS) : List Int := t.E.map (·.1)
def readiesE (t : LS) : List Int := (allE t).filter (readyE t.E)
/-- For whom one waits. -/
def clashL (a l : List Lk) : Bool := l.any fun x => match asks a x.1 with
  | none => false
  | some b => b || x.2
def waitsE (t : LS) (s : Int) : List Int := match eget t.E s with
  | none => []
  | some l => ((t.E.takeWhile fun e => !decide (e.1 = s)).filter fun e => clashL e.2 l).map (·.1)
def queueE (t : LS) (k : Tx) : List (Akk × Bool) := (qOf t.E k).zipIdx.map fun x => (x.1, decide (x.2 < grantN (qOf t.E k)))
def heldE (t : LS) (k : Tx) : List Int := ((queueE t k).filter (·.2)).map (·.1.1)
/-- What holds of every table. -/
structure OkT (N : Nat) (t : LS) : Prop where
  srt : (t.E.map (·.1)).Pairwise (· < ·)
  lo : ∀ e ∈ t.E, 0 ≤ e.1 ∧ e.1 ≤ 9223372036854775807
  hi : 0 ≤ t.nx → ∀ e ∈ t.E, e.1 < t.nx
  nx : -9223372036854775808 ≤ t.nx ∧ t.nx ≤ 9223372036854775807
  ky : ∀ e ∈ t.E, chk none e.2 = 0
  ln : t.E.length ≤ N
  lk : ∀ e ∈ t.E, e.2.length ≤ 1000000
theorem OkT.mono {N M : Nat} {t : LS} (h : OkT N t) (hn : N ≤ M) : OkT M t := { h with ln := Nat.le_trans h.ln hn }
theorem OkT.start : OkT 0 ⟨[], 0⟩ := by constructor <;> simp
theorem chk_rise : ∀ {l : List Lk} {p : Option Tx}, chk p l = 0 → (l.map (·.1)).Pairwise (· < ·) ∧ (∀ x ∈ l, validT x.1 = true) ∧ ∀ y, p = some y → ∀ x ∈ l, y < x.1
  | [], p, h => by simp
  | x :: t, p, h => by
    unfold chk at h
    by_cases h1 : validT x.1 = false
    · rw [if_pos h1] at h; cases h
    · rw [if_neg h1] at h
      by_cases h2 : overT p x.1 = true
      · rw [if_pos h2] at h; cases h
      · rw [if_neg h2] at h
        obtain ⟨g1, g2, g3⟩ := chk_rise h
        have g3 := g3 x.1 rfl
        have hp : ∀ y, p = some y → y < x.1 := fun y e => by
          subst e
          simp only [overT, decide_eq_true_eq] at h2
          exact List.not_le.1 h2
        refine ⟨?_, ?_, ?_⟩
        · rw [List.map_cons, List.pairwise_cons]
          refine ⟨fun a ha => ?_, g1⟩
          obtain ⟨z, hz, rfl⟩ := List.mem_map.1 ha
          exact g3 z hz
        · intro z hz
          rcases List.mem_cons.1 hz with rfl | hz
          · simpa using h1
          · exact g2 z hz
        · intro y e z hz
          rcases List.mem_cons.1 hz with rfl | hz
          · exact hp y e
          · exact List.lt_trans (hp y e) (g3 z hz)
theorem chk_nodup {l : List Lk} (h : chk none l = 0) : (l.map (·.1)).Nodup := (chk_rise h).1.imp (fun {a b} h e => by subst e; exact List.lt_irrefl a h)
theorem asks_none {l : List Lk} {k : Tx} : asks l k = none ↔ k ∉ l.map (·.1) := by
  unfold asks
  rw [Option.map_eq_none_iff, List.find?_eq_none]
  simp only [decide_eq_true_eq, List.mem_map, not_exists, not_and]
theorem asks_append (a b : List Lk) (k : Tx) : asks (a ++ b) k = (asks a k).or (asks b k) := by
  unfold asks
  rw [List.find?_append]
  cases List.find? (fun x => decide (x.1 = k)) a <;> simp
theorem asks_single (x : Lk) (k : Tx) : asks [x] k = if x.1 = k then some x.2 else none := by
  unfold asks
  by_cases e : x.1 = k
  · simp [e]
  · simp [e]
theorem qOf_append (A B : List Ent) (k : Tx) : qOf (A ++ B) k = qOf A k ++ qOf B k := by simp [qOf]
theorem qOf_single (s : Int) (l : List Lk) (k : Tx) : qOf [(s, l)] k = (match asks l k with | none => [] | some b => [(s, b)]) := by
  unfold qOf
  cases h : asks l k <;> simp [h]
/-- Behind the first i of the locks. -/
def qMid (E : List Ent) (s : Int) (l : List Lk) (i : Nat) (k : Tx) : List Akk := qOf (E ++ [(s, l.take i)]) k
theorem qMid_zero (E : List Ent) (s : Int) (l : List Lk) (k : Tx) : qMid E s l 0 k = qOf E k := by simp [qMid, qOf_append, qOf_single, asks]
theorem qMid_end (E : List Ent) (s : Int) (l : List Lk) (k : Tx) : qMid E s l l.length k = qOf (E ++ [(s, l)]) k := by simp [qMid]
theorem qMid_succ (E : List Ent) (s : Int) (l : List Lk) (i : Nat) (hi : i < l.length) (hn : (l.map (·.1)).Nodup) (k : Tx) :
    qMid E s l (i + 1) k = if k = (l.getD i lk0).1 then qMid E s l i k ++ [(s, (l.getD i lk0).2)] else qMid E s l i k := by
  unfold qMid
  rw [qOf_append, qOf_append, qOf_single, qOf_single, List.take_succ_eq_append_getElem hi, asks_append, asks_single]
  have hg : l.getD i lk0 = l[i] := by rw [List.getD_eq_getElem?_getD, List.getElem?_eq_getElem hi]; rfl
  rw [hg]
  by_cases e : k = l[i].1
  · subst e
    rw [if_pos rfl, if_pos rfl]
    have : asks (l.take i) l[i].1 = none := by
      rw [asks_none]
      intro hm
      rw [List.mem_map] at hm
      obtain ⟨x, hx, he⟩ := hm
      obtain ⟨j, hj, rfl⟩ := List.mem_iff_getElem.1 hx
      rw [List.getElem_take] at he
      have hj' : j < i := by simp at hj; omega
      have h2 := List.pairwise_iff_getElem.1 (List.nodup_iff_pairwise_ne.1 hn) j i (by simp; omega) (by simpa using hi) hj'
      simp only [List.getElem_map] at h2
      exact h2 he
    rw [this]
    simp
  · rw [if_neg e, if_neg (fun q => e q.symm)]
    cases asks (l.take i) k <;> simp
end Go.Proofs.Locks

/- How a lock table lies in memory. -/
namespace Go.Proofs.Ytomabcbemokijaa
open Go.RowKit Go.Proofs.Eng Go.Proofs.Foot Go.Proofs.Locks
set_option linter.unusedSimpArgs false
set_option linter.unusedVariables false set_option maxRecDepth 10000
attribute [local irreducible] T TL LV TH TA
/-- Whose a block is: 0 nobody's, 1 the table, 2 and 3 its maps, 4 a key's queue, 5 what a number asked for. -/
abbrev Ow := Nat × Tx × Int
abbrev kI : Int → Value := fun z => .int .i64 z
def ow (f : Nat → Ow) : Nat → Nat := fun b => (f b).1
structure LM where
  p : Nat
  qb : Nat
  ab : Nat
  lq : List (Tx × SL)
  la : List (Int × SL)
def tabV (m : LM) (nx : Int) : List Value := [.map (some m.qb), .map (some m.ab), .int .i64 nx]
abbrev QRow (w : World) (base : Nat) (x : SL) (q : List Akk) : Prop := Own w base 74 2 x.1 x.2.1 x.2.2 (rowV akV q)
abbrev LRow (w : World) (base : Nat) (x : SL) (l : List Lk) : Prop := Own w base 61 2 x.1 x.2.1 x.2.2 (rowV lkV l)
structure TabM (w : World) (base : Nat) (m : LM) (f : Nat → Ow) (Q : Tx → List Akk) (E : List Ent) (nx : Int) : Prop where
  blk : Blk w m.p 67 (tabV m nx)
  mq : Mp w .string m.qb tK sL m.lq
  ma : Mp w (.int .i64) m.ab kI sL m.la
  kp : f m.p = (1, [], 0)
  kq : f m.qb = (2, [], 0)
  ka : f m.ab = (3, [], 0)
  qn : ∀ k, mget m.lq k = none → Q k = []
  qs : ∀ k x, mget m.lq k = some x → QRow w base x (Q k) ∧ ∀ b ∈ blkL x.1, f b = (4, k, 0)
  an : ∀ s, mget m.la s = none ↔ eget E s = none
  sa : ∀ s x, mget m.la s = some x → ∃ l, eget E s = some l ∧ LRow w base x l ∧ ∀ b ∈ blkL x.1, f b = (5, [], s)
  al : m.la.length = E.length
  ld : (m.la.map (·.1)).Nodup
  qd : (m.lq.map (·.1)).Nodup
  old : ∀ b, ow f b ≠ 0 → base ≤ b ∧ b < w.heap.size
section
variable {w w' : World} {base : Nat} {m : LM} {f : Nat → Ow} {Q Q' : Tx → List Akk} {E E' : List Ent} {nx nx' : Int} {S : List Nat}
theorem Rd.tn {A : Option Addr} {n s : Nat} {xs : List Value} {o o' : Nat → Nat} (h : Rd w A n s xs) (t : Tn o o' w w') (h1 : ∀ b ∈ blkL A, o b = 0) : Rd w' A n s xs ∧ (0 < n → ∀ b ∈ blkL A, o' b = 0) := by
  refine ⟨?_, fun hn b hb => t.old (h1 b hb) (Lo.mem (h.lo hn) b hb)⟩
  obtain ⟨⟨S, m1, s1⟩, n1, z1⟩ := t
  exact h.mod m1 (off_ofL fun b q q' => s1 b q' (h1 b q))
theorem TabM.bw (h : TabM w base m f Q E nx) : base ≤ w.heap.size ∧ m.p < w.heap.size := by
  have := h.old m.p (by unfold ow; rw [h.kp]; exact Nat.succ_ne_zero _)
  omega
theorem TabM.congr (h : TabM w base m f Q E nx) (hq : ∀ k, Q k = Q' k) : TabM w base m f Q' E nx := { h with qn := fun k a => by rw [← hq]; exact h.qn k a, qs := fun k x a => by rw [← hq]; exact h.qs k x a }
theorem TabM.off (hS : ∀ b ∈ S, ow f b = 0) {b : Nat} (hb : (f b).1 ≠ 0) : b ∉ S := fun q => hb (hS b q)
theorem TabM.mod (h : TabM w base m f Q E nx) (hm : Eng.Mod S w w') (hS : ∀ b ∈ S, ow f b = 0) : TabM w' base m f Q E nx :=
  { h with
    blk := h.blk.mod hm (TabM.off hS (by rw [h.kp]; exact Nat.succ_ne_zero _))
    mq := h.mq.mod hm (TabM.off hS (by rw [h.kq]; exact Nat.succ_ne_zero _))
    ma := h.ma.mod hm (TabM.off hS (by rw [h.ka]; exact Nat.succ_ne_zero _))
    qs := fun k x a => by
      obtain ⟨h1, h2⟩ := h.qs k x a
      exact ⟨h1.modL hm (fun b q => TabM.off hS (by rw [h2 b q]; exact Nat.succ_ne_zero _)), h2⟩
    sa := fun s x a => by
      obtain ⟨l, h1, h2, h3⟩ := h.sa s x a
      exact ⟨l, h1, h2.modL hm (fun b q => TabM.off hS (by rw [h3 b q]; exact Nat.succ_ne_zero _)), h3⟩
    old := fun b q => by have := h.old b q; have := hm.size; omega }
theorem TabM.ext (h : TabM w base m f Q E nx) (hm : Ext w w') : TabM w' base m f Q E nx := h.mod hm (fun b q => by cases q)
theorem TabM.tn {o o' : Nat → Nat} (h : TabM w base m f Q E nx) (t : Tn o o' w w') (hd : ∀ b, o b = 0 ∨ ow f b = 0) : TabM w' base m f Q E nx ∧ ∀ b, o' b = 0 ∨ ow f b = 0 := by
  obtain ⟨⟨S, m1, s1⟩, n1, z1⟩ := t
  refine ⟨h.mod m1 (fun b hb => (hd b).resolve_left (s1 b hb)), fun b => ?_⟩
  by_cases q : o' b = 0
  · exact .inl q
  · right
    rcases n1 b q with h1 | h1
    · exact (hd b).resolve_left h1
    · by_cases y : ow f b = 0
      · exact y
      · have := (h.old b y).2; omega
/-- The owners behind: the row A is an owner's. -/
def owU (f : Nat → Ow) (A : Option Addr) (z : Ow) : Nat → Ow := fun b => if b ∈ blkL A then z else f b
theorem owU_in {A : Option Addr} {z : Ow} {b : Nat} (h : b ∈ blkL A) : owU f A z b = z := if_pos h
theorem owU_out {A : Option Addr} {z : Ow} {b : Nat} (h : b ∉ blkL A) : owU f A z b = f b := if_neg h
theorem owU_keep {A : Option Addr} {z : Ow} {B : Nat} (hA : ∀ b ∈ blkL A, f b = z ∨ B ≤ b) (hf : ∀ b, ow f b ≠ 0 → b < B) {b : Nat} (hb : ow f b ≠ 0) : owU f A z b = f b := by
  by_cases q : b ∈ blkL A
  · rw [owU_in q]
    rcases hA b q with e | e
    · exact e.symm
    · have := hf b hb; omega
  · exact owU_out q
theorem owU_nz {A : Option Addr} {z : Ow} {B : Nat} (hA : ∀ b ∈ blkL A, f b = z ∨ B ≤ b) (hz : z.1 ≠ 0) {b : Nat} (hb : ow (owU f A z) b ≠ 0) : ow f b ≠ 0 ∨ B ≤ b := by
  by_cases q : b ∈ blkL A
  · rcases hA b q with e | e
    · left; unfold ow; rw [e]; exact hz
    · exact .inr e
  · left
    unfold ow at hb ⊢
    rwa [owU_out q] at hb
theorem mget_put {κ α : Type} [DecidableEq κ] (k : κ) (v : α) : ∀ (l : List (κ × α)) (j : κ), mget (mput l k v) j = if j = k then some v else mget l j
  | [], j => by
    by_cases e : j = k
    · subst e; simp [mput, mget]
    · have : ¬ k = j := fun q => e q.symm
      simp [mput, mget, e, this]
  | x :: l, j => by
    unfold mput
    by_cases h : x.1 = k
    · rw [if_pos h]
      by_cases e : j = k
      · subst e; simp [mget]
      · have : ¬ k = j := fun q => e q.symm
        have h2 : ¬ x.1 = j := fun q => e (q ▸ h)
        simp [mget, e, this, h2]
    · rw [if_neg h]
      have ih := mget_put k v l j
      by_cases e2 : x.1 = j
      · have : ¬ j = k := fun q => h (e2.trans q)
        simp [mget, e2, this]
      · simp only [mget, e2, if_false]
        exact ih
theorem mget_del {κ α : Type} [DecidableEq κ] (k : κ) : ∀ (l : List (κ × α)), (l.map (·.1)).Nodup → ∀ j, mget (mdel l k) j = if j = k then none else mget l j
  | [], _, j => by simp [mdel, mget]
  | x :: l, hn, j => by
    rw [List.map_cons, List.nodup_cons] at hn
    unfold mdel
    by_cases h : x.1 = k
    · rw [if_pos h]
      by_cases e : j = k
      · rw [if_pos e, e, ← h]
        clear h e
        have hx := hn.1
        clear hn
        induction l with
        | nil => rfl
        | cons y l ih =>
          have hy : ¬ y.1 = x.1 := fun q => hx (by rw [List.map_cons, q]; exact List.mem_cons_self)
          simp only [mget, hy, if_false]
          exact ih (fun q => hx (by rw [List.map_cons]; exact List.mem_cons_of_mem _ q))
      · rw [if_neg e]
        have h2 : ¬ x.1 = j := fun q => e (q ▸ h)
        simp [mget, h2]
    · rw [if_neg h]
      have ih := mget_del k l hn.2 j
      by_cases e2 : x.1 = j
      · have : ¬ j = k := fun q => h (e2.trans q)
        simp [mget, e2, this]
      · simp only [mget, e2, if_false]
        exact ih
theorem mget_keys {κ α : Type} [DecidableEq κ] : ∀ (l : List (κ × α)) (k : κ), mget l k = none ↔ k ∉ l.map (·.1)
  | [], k => by simp [mget]
  | x :: l, k => by
    unfold mget
    by_cases e : x.1 = k
    · rw [if_pos e]; simp [e]
    · rw [if_neg e, mget_keys l k]
      have : ¬ k = x.1 := fun q => e q.symm
      simp [this]
theorem mput_fresh {κ α : Type} [DecidableEq κ] : ∀ (xs : List (κ × α)) (k : κ) (v : α), mget xs k = none → mput xs k v = xs ++ [(k, v)]
  | [], _, _, _ => rfl
  | x :: xs, k, v, g => by
    unfold mget at g
    by_cases e : x.1 = k
    · rw [if_pos e] at g; cases g
    · rw [if_neg e] at g
      unfold mput
      rw [if_neg e, mput_fresh xs k v g]
      rfl
theorem mdel_nodup {κ α : Type} [DecidableEq κ] : ∀ (l : List (κ × α)) (k : κ), ((mdel l k).map (·.1)).Sublist (l.map (·.1))
  | [], k => by simp [mdel]
  | x :: l, k => by
    unfold mdel
    by_cases e : x.1 = k
    · rw [if_pos e]; rw [List.map_cons]; exact List.sublist_cons_self _ _
    · rw [if_neg e, List.map_cons, List.map_cons]; exact (mdel_nodup l k).cons_cons _
theorem mdel_length {κ α : Type} [DecidableEq κ] : ∀ (l : List (κ × α)) (k : κ) (v : α), mget l k = some v → (mdel l k).length + 1 = l.length
  | [], k, v, h => by cases h
  | x :: l, k, v, h => by
    unfold mget at h
    unfold mdel
    by_cases e : x.1 = k
    · rw [if_pos e]; simp
    · rw [if_neg e] at h ⊢
      simp only [List.length_cons]
      rw [mdel_length l k v h]
theorem mput_nodup {κ α : Type} [DecidableEq κ] (l : List (κ × α)) (k : κ) (v : α) (h : (l.map (·.1)).Nodup) : ((mput l k v).map (·.1)).Nodup := by
  by_cases hq : mget l k = none
  · rw [mput_fresh _ _ _ hq]
    simp only [List.map_append, List.map_cons, List.map_nil]
    rw [List.nodup_append]
    refine ⟨h, by simp, fun a ha b hb e => ?_⟩
    simp only [List.mem_singleton] at hb
    rw [e, hb] at ha
    exact (mget_keys _ _).1 hq ha
  · have : (mput l k v).map (·.1) = l.map (·.1) := by
      clear h
      induction l with
      | nil => exact absurd rfl hq
      | cons x l ih =>
        unfold mput
        by_cases e : x.1 = k
        · rw [if_pos e]; simp [e]
        · rw [if_neg e, List.map_cons, List.map_cons, ih (fun q => hq (by unfold mget; rw [if_neg e]; exact q))]
    rw [this]; exact h
/-- A key's queue is another one. -/
theorem TabM.setQ (h : TabM w base m f Q E nx) {k : Tx} {x : SL} {q : List Akk} {S : List Nat} (hm : Eng.Mod S w w') (hS : ∀ b ∈ S, f b = (2, [], 0) ∨ f b = (4, k, 0)) (hp : Mp w' .string m.qb tK sL (mput m.lq k x))
    (hr : QRow w' base x q) (hx : ∀ b ∈ blkL x.1, f b = (4, k, 0) ∨ w.heap.size ≤ b) :
    ∃ f', TabM w' base { m with lq := mput m.lq k x } f' (fun j => if j = k then q else Q j) E nx ∧ Tn (ow f) (ow f') w w' := by
  have hsz := hm.size
  have keep := fun {b} hb => owU_keep (f := f) (A := x.1) (z := (4, k, 0)) (b := b) hx (fun b q => (h.old b q).2) hb
  have hn : ∀ j z, (f j).1 = z → z ≠ 2 → z ≠ 4 → j ∉ S := fun j z e a1 a2 hj => by rcases hS j hj with q | q <;> rw [q] at e <;> simp at e <;> omega
  refine ⟨owU f x.1 (4, k, 0), ⟨h.blk.mod hm (hn _ _ (by rw [h.kp]) (by decide) (by decide)), hp, h.ma.mod hm (hn _ _ (by rw [h.ka]) (by decide) (by decide)), ?_, ?_, ?_, fun j hj => ?_, fun j y hj => ?_, h.an, fun s y hy => ?_, h.al, h.ld, mput_nodup _ _ _ h.qd, fun b hb => ?_⟩, ⟨S, hm, fun b hb => ?_⟩, fun b hb => owU_nz hx (Nat.succ_ne_zero _) hb, hsz⟩
  · rw [keep (by unfold ow; rw [h.kp]; exact Nat.succ_ne_zero _), h.kp]
  · rw [keep (by unfold ow; rw [h.kq]; exact Nat.succ_ne_zero _), h.kq]
  · rw [keep (by unfold ow; rw [h.ka]; exact Nat.succ_ne_zero _), h.ka]
  · rw [mget_put] at hj
    by_cases e : j = k
    · rw [if_pos e] at hj; cases hj
    · rw [if_neg e] at hj ⊢; exact h.qn j hj
  · rw [mget_put] at hj
    by_cases e : j = k
    · rw [if_pos e] at hj
      cases hj
      rw [if_pos e, e]
      exact ⟨hr, fun b hb => owU_in hb⟩
    · rw [if_neg e] at hj ⊢
      obtain ⟨h1, h2⟩ := h.qs j y hj
      refine ⟨h1.modL hm (fun b hb hbS => ?_), fun b hb => by rw [keep (by unfold ow; rw [h2 b hb]; exact Nat.succ_ne_zero _), h2 b hb]⟩
      have h3 := h2 b hb
      rcases hS b hbS with q | q
      · rw [q] at h3; simp at h3
      · rw [q] at h3; simp at h3; exact e h3.symm
  · obtain ⟨l, h1, h2, h3⟩ := h.sa s y hy
    exact ⟨l, h1, h2.modL hm (fun b hb => hn b 5 (by rw [h3 b hb]) (by decide) (by decide)), fun b hb => by rw [keep (by unfold ow; rw [h3 b hb]; exact Nat.succ_ne_zero _), h3 b hb]⟩
  · rcases owU_nz hx (Nat.succ_ne_zero _) hb with q | q
    · have := h.old b q; omega
    · by_cases y : b ∈ blkL x.1
      · exact hr.bl b y
      · unfold ow at hb
        rw [owU_out y] at hb
        have := h.old b hb; omega
  · unfold ow; rcases hS b hb with q | q <;> rw [q] <;> exact Nat.succ_ne_zero _
/-- A key's queue is gone. -/
theorem TabM.delQ (h : TabM w base m f Q E nx) {k : Tx} (hk : Q k = []) (hm : Eng.Mod [m.qb] w w') (hp : Mp w' .string m.qb tK sL (mdel m.lq k)) :
    TabM w' base { m with lq := mdel m.lq k } f Q E nx ∧ Tn (ow f) (ow f) w w' := by
  have hsz := hm.size
  have hn : ∀ j z, (f j).1 = z → z ≠ 2 → j ∉ [m.qb] := fun j z e a hj => by rw [List.mem_singleton.1 hj, h.kq] at e; simp at e; omega
  refine ⟨{ h with blk := h.blk.mod hm (hn _ _ (by rw [h.kp]) (by decide)), mq := hp, ma := h.ma.mod hm (hn _ _ (by rw [h.ka]) (by decide)), qn := fun j hj => ?_, qs := fun j y hj => ?_, sa := fun s y hy => ?_, qd := (mdel_nodup _ _).nodup h.qd, old := fun b hb => ?_ }, ⟨[m.qb], hm, fun b hb => ?_⟩, fun b hb => .inl hb, hsz⟩
  · rw [mget_del _ _ h.qd] at hj
    by_cases e : j = k
    · rw [e]; exact hk
    · rw [if_neg e] at hj; exact h.qn j hj
  · rw [mget_del _ _ h.qd] at hj
    by_cases e : j = k
    · rw [if_pos e] at hj; cases hj
    · rw [if_neg e] at hj
      obtain ⟨h1, h2⟩ := h.qs j y hj
      exact ⟨h1.modL hm (fun b hb => hn b 4 (by rw [h2 b hb]) (by decide)), h2⟩
  · obtain ⟨l, h1, h2, h3⟩ := h.sa s y hy
    exact ⟨l, h1, h2.modL hm (fun b hb => hn b 5 (by rw [h3 b hb]) (by decide)), h3⟩
  · have := h.old b hb; omega
  · unfold ow; rw [List.mem_singleton.1 hb, h.kq]; exact Nat.succ_ne_zero _
theorem eget_append (A B : List Ent) (s : Int) : eget (A ++ B) s = (eget A s).or (eget B s) := by
  unfold eget
  rw [List.find?_append]
  cases List.find? (fun e => decide (e.1 = s)) A <;> simp
theorem eget_single (s j : Int) (l : List Lk) : eget [(s, l)] j = if s = j then some l else none := by
  unfold eget
  by_cases e : s = j
  · simp [e]
  · simp [e]
/-- A number asks. -/
theorem TabM.putA (h : TabM w base m f Q E nx) {s : Int} {l : List Lk} {x : SL} (hs : eget E s = none) (hm : Eng.Mod [m.ab] w w') (hp : Mp w' (.int .i64) m.ab kI sL (mput m.la s x))
    (hr : LRow w' base x l) (hx : ∀ b ∈ blkL x.1, ow f b = 0) :
    ∃ f', TabM w' base { m with la := mput m.la s x } f' Q (E ++ [(s, l)]) nx ∧ (∀ b, ow f' b ≠ 0 → ow f b ≠ 0 ∨ b ∈ blkL x.1) ∧ (∀ b, ow f b ≠ 0 → f' b = f b) := by
  have hsz := hm.size
  have keep : ∀ {b}, ow f b ≠ 0 → owU f x.1 (5, [], s) b = f b := fun {b} hb => by
    by_cases q : b ∈ blkL x.1
    · exact absurd (hx b q) hb
    · exact owU_out q
  have hn : ∀ j z, (f j).1 = z → z ≠ 3 → j ∉ [m.ab] := fun j z e a hj => by rw [List.mem_singleton.1 hj, h.ka] at e; simp at e; omega
  have hfr : mget m.la s = none := (h.an s).2 hs
  refine ⟨owU f x.1 (5, [], s), ⟨h.blk.mod hm (hn _ _ (by rw [h.kp]) (by decide)), h.mq.mod hm (hn _ _ (by rw [h.kq]) (by decide)), hp, ?_, ?_, ?_, h.qn, fun j y hj => ?_, fun j => ?_, fun j y hy => ?_, ?_, ?_, h.qd, fun b hb => ?_⟩, fun b hb => ?_, fun b hb => keep hb⟩
  · rw [keep (by unfold ow; rw [h.kp]; exact Nat.succ_ne_zero _), h.kp]
  · rw [keep (by unfold ow; rw [h.kq]; exact Nat.succ_ne_zero _), h.kq]
  · rw [keep (by unfold ow; rw [h.ka]; exact Nat.succ_ne_zero _), h.ka]
  · obtain ⟨h1, h2⟩ := h.qs j y hj
    exact ⟨h1.modL hm (fun b hb => hn b 4 (by rw [h2 b hb]) (by decide)), fun b hb => by rw [keep (by unfold ow; rw [h2 b hb]; exact Nat.succ_ne_zero _), h2 b hb]⟩
  · rw [mget_put, eget_append, eget_single]
    by_cases e : j = s
    · rw [if_pos e, e, hs, if_pos rfl]; simp
    · rw [if_neg e, if_neg (fun q => e q.symm), Option.or_none]; exact h.an j
  · rw [mget_put] at hy
    rw [eget_append, eget_single]
    by_cases e : j = s
    · rw [if_pos e] at hy
      cases hy
      rw [e, hs, if_pos rfl]
      exact ⟨l, rfl, hr, fun b hb => owU_in hb⟩
    · rw [if_neg e] at hy
      obtain ⟨l', h1, h2, h3⟩ := h.sa j y hy
      refine ⟨l', by rw [h1]; rfl, h2.modL hm (fun b hb => hn b 5 (by rw [h3 b hb]) (by decide)), fun b hb => by rw [keep (by unfold ow; rw [h3 b hb]; exact Nat.succ_ne_zero _), h3 b hb]⟩
  · rw [mput_fresh _ _ _ hfr]; simp [h.al]
  · rw [mput_fresh _ _ _ hfr]
    simp only [List.map_append, List.map_cons, List.map_nil]
    rw [List.nodup_append]
    refine ⟨h.ld, by simp, fun a ha b hb e => ?_⟩
    simp only [List.mem_singleton] at hb
    rw [e, hb] at ha
    exact (mget_keys _ _).1 hfr ha
  · by_cases y : b ∈ blkL x.1
    · exact hr.bl b y
    · unfold ow at hb
      rw [owU_out y] at hb
      have := h.old b hb; omega
  · by_cases y : b ∈ blkL x.1
    · exact .inr y
    · unfold ow at hb ⊢
      rw [owU_out y] at hb
      exact .inl hb
theorem eget_filter (E : List Ent) (s j : Int) : eget (E.filter fun e => !decide (e.1 = s)) j = if j = s then none else eget E j := by
  unfold eget
  induction E with
  | nil => simp
  | cons e E ih =>
    rw [List.filter_cons]
    by_cases h1 : e.1 = s
    · simp only [h1, decide_true, Bool.not_true, Bool.false_eq_true, if_false]
      rw [ih, List.find?_cons]
      by_cases h2 : j = s
      · simp [h2]
      · have : ¬ e.1 = j := fun q => h2 (q ▸ h1)
        simp [h2, this]
    · simp only [h1, decide_false, Bool.not_false, if_true]
      rw [List.find?_cons, List.find?_cons]
      by_cases h3 : e.1 = j
      · have : ¬ j = s := fun q => h1 (h3.trans q)
        simp [h3, this]
      · simp only [h3, decide_false]
        exact ih
/-- A number is gone. -/
theorem TabM.delA (h : TabM w base m f Q E nx) {s : Int} {l : List Lk} (hs : eget E s = some l) (hd : (E.map (·.1)).Nodup) (hm : Eng.Mod [m.ab] w w') (hp : Mp w' (.int .i64) m.ab kI sL (mdel m.la s)) :
    TabM w' base { m with la := mdel m.la s } f Q (E.filter fun e => !decide (e.1 = s)) nx ∧ Tn (ow f) (ow f) w w' := by
  have hsz := hm.size
  have hn : ∀ j z, (f j).1 = z → z ≠ 3 → j ∉ [m.ab] := fun j z e a hj => by rw [List.mem_singleton.1 hj, h.ka] at e; simp at e; omega
  have hsome : ∃ v, mget m.la s = some v := by
    cases hq : mget m.la s with
    | none => rw [(h.an s).1 hq] at hs; cases hs
    | some v => exact ⟨v, rfl⟩
  obtain ⟨v, hv⟩ := hsome
  refine ⟨{ h with blk := h.blk.mod hm (hn _ _ (by rw [h.kp]) (by decide)), mq := h.mq.mod hm (hn _ _ (by rw [h.kq]) (by decide)), ma := hp, qs := fun j y hj => ?_, an := fun j => ?_, sa := fun j y hy => ?_, al := ?_, ld := (mdel_nodup _ _).nodup h.ld, old := fun b hb => ?_ }, ⟨[m.ab], hm, fun b hb => ?_⟩, fun b hb => .inl hb, hsz⟩
  · obtain ⟨h1, h2⟩ := h.qs j y hj
    exact ⟨h1.modL hm (fun b hb => hn b 4 (by rw [h2 b hb]) (by decide)), h2⟩
  · rw [mget_del _ _ h.ld, eget_filter]
    by_cases e : j = s
    · rw [if_pos e, if_pos e]; simp
    · rw [if_neg e, if_neg e]; exact h.an j
  · rw [mget_del _ _ h.ld] at hy
    rw [eget_filter]
    by_cases e : j = s
    · rw [if_pos e] at hy; cases hy
    · rw [if_neg e] at hy ⊢
      obtain ⟨l', h1, h2, h3⟩ := h.sa j y hy
      exact ⟨l', h1, h2.modL hm (fun b hb => hn b 5 (by rw [h3 b hb]) (by decide)), h3⟩
  · have h1 := mdel_length _ _ _ hv
    have h2 := h.al
    have h3 : (E.filter fun e => !decide (e.1 = s)).length + 1 = E.length := by
      clear h h1 h2 hm hp hn hv
      induction E with
      | nil => cases hs
      | cons e E ih =>
        rw [List.map_cons, List.nodup_cons] at hd
        rw [List.filter_cons]
        by_cases h1 : e.1 = s
        · simp only [h1, decide_true, Bool.not_true, Bool.false_eq_true, if_false, List.length_cons]
          rw [List.filter_eq_self.2 (fun a ha => ?_)]
          have : ¬ a.1 = s := fun q => hd.1 (by rw [h1, ← q]; exact List.mem_map.2 ⟨a, ha, rfl⟩)
          simp [this]
        · simp only [h1, decide_false, Bool.not_false, if_true, List.length_cons]
          rw [ih ?_ hd.2]
          unfold eget at hs ⊢
          rw [List.find?_cons] at hs
          simpa [h1] using hs
    simp only
    omega
  · have := h.old b hb; omega
  · unfold ow; rw [List.mem_singleton.1 hb, h.ka]; exact Nat.succ_ne_zero _
/-- The next number. -/
theorem TabM.num (h : TabM w base m f Q E nx) (hm : Eng.Mod [m.p] w w') (hb : Blk w' m.p 67 (tabV m nx')) : TabM w' base m f Q E nx' ∧ Tn (ow f) (ow f) w w' := by
  have hsz := hm.size
  have hn : ∀ j z, (f j).1 = z → z ≠ 1 → j ∉ [m.p] := fun j z e a hj => by rw [List.mem_singleton.1 hj, h.kp] at e; simp at e; omega
  refine ⟨{ h with blk := hb, mq := h.mq.mod hm (hn _ _ (by rw [h.kq]) (by decide)), ma := h.ma.mod hm (hn _ _ (by rw [h.ka]) (by decide)), qs := fun j y hj => ?_, sa := fun j y hy => ?_, old := fun b hb => ?_ }, ⟨[m.p], hm, fun b hb => ?_⟩, fun b hb => .inl hb, hsz⟩
  · obtain ⟨h1, h2⟩ := h.qs j y hj
    exact ⟨h1.modL hm (fun b hb => hn b 4 (by rw [h2 b hb]) (by decide)), h2⟩
  · obtain ⟨l', h1, h2, h3⟩ := h.sa j y hy
    exact ⟨l', h1, h2.modL hm (fun b hb => hn b 5 (by rw [h3 b hb]) (by decide)), h3⟩
  · have := h.old b hb; omega
  · unfold ow; rw [List.mem_singleton.1 hb, h.kp]; exact Nat.succ_ne_zero _
end
end Go.Proofs.Ytomabcbemokijaa

/- s[i:j:k]; an append that stays within its own row. -/
namespace Go.Proofs.Eng
open Go.RowKit
set_option linter.unusedSimpArgs false
set_option linter.unusedVariables false
set_option linter.unusedSectionVars false
section
variable {q : Qm} {P : Program} {fn : Func} {R : Ending → World → Prop} {M : Md} {n : Nat} {st : Slots} {k : List Item} {w : World} {ops rest : List Oper}
  {d : Nat} {ty : TypeId} {ps : String} {af : Array Edge} {X Y V Z : Operand} {t e : TypeId} {by_ s base m c m2 c2 i : Nat} {z : Value} {A A2 : Option Addr} {xs ys : List Value} {L L2 L3 : IntKind}
theorem TL_slice3 {j j2 j3 : Int} (E : Env P) (hx : ev st X = some (.slice A m c) := by exact rfl) (hy : ev st Y = some (.int L j) := by exact rfl) (hV : ev st V = some (.int L2 j2) := by exact rfl) (hZ : ev st Z = some (.int L3 j3) := by exact rfl) (ht : E.und t = some (.slice e) := by exact rfl) (he : E.inf e = some (s, by_, z) := by exact rfl) (hd : Nat.blt d n = true := by exact rfl) (h0 : 0 ≤ j := by first | assumption | omega) (h1 : j ≤ j2 := by first | assumption | omega) (h2 : j2 ≤ j3 := by first | assumption | omega) (h3 : j3 ≤ (c : Int) := by first | assumption | omega)
    (hk : TL q P fn R M n ((d, .slice (if j3.toNat = j.toNat then A else A.map (·.add (j.toNat * s))) (j2.toNat - j.toNat) (j3.toNat - j.toNat)) :: st) ops rest k w) : TL q P fn R M n st ops (⟨some d, .slice t X (some Y) (some V) (some Z), ty, ps, af, none⟩ :: rest) k w :=
  TL_val_w hd (fun w ρ h => by
    have a1 : 0 ≤ j2 := by omega
    have a2 : 0 ≤ j3 := by omega
    have a3 : j ≤ (j2.toNat : Int) := by omega
    have a4 : j2 ≤ (j3.toNat : Int) := by omega
    have a5 : j2 ≤ max j3 0 := by omega
    have a6 : j ≤ max j2 0 := by omega
    simp [execOp, Instr.sliceAt, Instr.slice, Instr.sliceBounds, Instr.sliceBound, asIntOf, run_underlying (E.und_ok _ _ ht), h _ _ hx, h _ _ hy, h _ _ hV, h _ _ hZ, h0, h1, h2, h3, a1, a2, a3, a4, a5, a6, run_sizeOf' (E.inf_ok _ _ _ _ he)]) hk
theorem run_append_within (ht : P.underlying t = some (.slice e)) (hi : ∃ i, P.info? e = some i ∧ i.size = s ∧ i.bytes = by_ ∧ i.zero = some z) (hsz : 0 < s)
    (ho : Own w base e s A m c xs) (hr : Rd w A2 m2 s ys) (h1 : ∀ u ∈ ys, u.oneCell' = true) (hroom : i + m2 ≤ m) (tt : TypeId) :
    ∃ w', (Builtin.append_ #[t, t] tt #[.slice A i c, .slice A2 m2 c2]).run P w = .ok (.slice A (i + m2) c) w' ∧ Mod (blkL A) w w' ∧ w'.heap.size = w.heap.size ∧ Own w' base e s A m c (xs.take (i * s) ++ ys ++ xs.drop ((i + m2) * s)) := by
  obtain ⟨it, i1, i2, i3, i4⟩ := id hi
  rcases Nat.eq_zero_or_pos m2 with h0 | h0
  · subst h0
    have hy : ys = [] := List.eq_nil_of_length_eq_zero (by simpa using hr.1)
    subst hy
    have hl : ∀ (x : Addr), (loadCells x 0).run P w = .ok #[] w := fun x => by simpa using run_loadCells_list (P := P) w x [] (by simp)
    have hc : i ≤ c := by have := ho.cap.1; omega
    refine ⟨w, ?_, Mod.refl _ _, rfl, by simpa using ho⟩
    cases A <;> cases A2 <;> simp [Builtin.append_, run_underlying ht, sizeOf, typeInfo, i1, Builtin.lenOf, Builtin.firstCells, hc, storeCells, hl]
  · obtain ⟨hxl, ⟨_, hz⟩ | ⟨g, cap, cur, hv, hg, hh, hnc, hcm, hcs, htk⟩⟩ := id ho
    · omega
    · cases hv
      obtain ⟨b2, o2, rfl, hb2', hc2⟩ := hr.2 (by omega)
      have hsrc : ∀ j u, ys[j]? = some u → w.cell? ((⟨b2, o2, none⟩ : Addr).add j) = some u := fun j u hu => by
        rw [← hc2 j u hu]
        congr 1
        unfold Addr.add
        by_cases h : j = 0 <;> simp [h]
      have hk : Blk w g e cur.toList := by unfold Blk; simpa using hh
      have hcl : cur.toList.length = cur.size := Array.length_toList
      have h8 : (i + m2) * s = i * s + m2 * s := Nat.add_mul _ _ _
      have h9 : (i + m2) * s ≤ m * s := Nat.mul_le_mul_right _ hroom
      have h10 : m * s ≤ c * s := Nat.mul_le_mul_right _ hnc
      have hys := hr.1
      have hfit : 0 + i * s + 0 + ys.length ≤ cur.toList.length := by omega
      obtain ⟨w', g1, g2, g3, g4⟩ := run_storeAll (P := P) (b := g) (o := 0 + i * s) ys cur.toList 0 w hk hfit h1
      rw [Nat.add_zero, Nat.zero_add] at g4
      have hfc := run_firstCells_some (P := P) w it.size m2 ⟨b2, o2, none⟩ m2 c2 ys (by rw [i2]; exact hr.1) hsrc
      have hroom' : i + m2 ≤ c := by omega
      refine ⟨w', ?_, g2, g3, ?_, .inr ⟨g, c, (setAll cur.toList (i * s) ys).toArray, rfl, hg, g4, hnc, hcm, by simp [setAll_length]; exact hcs, ?_⟩⟩
      · rw [i2] at hfc
        rw [Nat.zero_add] at g1
        simp [Builtin.append_, run_underlying ht, sizeOf, typeInfo, i1, i2, Builtin.lenOf, hroom', hfc, Addr.add_lit, g1]
      · simp only [List.length_append, List.length_take, List.length_drop, hxl, hys]
        omega
      · simp only [List.toList_toArray]
        rw [setAll_eq _ _ _ (by omega), ← htk, h8]
        apply List.ext_getElem?
        intro j
        simp only [List.getElem?_take, List.getElem?_append, List.getElem?_drop, List.length_append, List.length_take, List.length_drop, hys]
        grind
theorem TL_append_within (E : Env P) (ho : Own w base e s A m c xs) (hr : Rd w A2 m2 s ys) (h1 : ∀ u ∈ ys, u.oneCell' = true) (hroom : i + m2 ≤ m) (hx : ev st X = some (.slice A i c) := by exact rfl) (hy : ev st Y = some (.slice A2 m2 c2) := by exact rfl) (ht : E.und t = some (.slice e) := by exact rfl) (he : E.inf e = some (s, by_, z) := by exact rfl) (hsz : Nat.blt 0 s = true := by exact rfl) (hd : Nat.blt d n = true := by exact rfl)
    (hf : Fl q (rest.length + 1) := by first | exact trivial | exact rfl) (hq : ∀ w', Mod (blkL A) w w' → Kp q w' := by exact fun _ _ => trivial)
    (hk : ∀ w', Own w' base e s A m c (xs.take (i * s) ++ ys ++ xs.drop ((i + m2) * s)) → Mod (blkL A) w w' → w'.heap.size = w.heap.size → TL q P fn R M n ((d, .slice A (i + m2) c) :: st) ops rest k w') :
    TL q P fn R M n st ops (⟨some d, .call { callee := .builtin .append, args := #[X, Y], argTypes := #[t, t] }, ty, ps, af, none⟩ :: rest) k w := by
  obtain ⟨w', g1, g2, g3, g4⟩ := run_append_within (E.und_ok _ _ ht) (E.inf_ok _ _ _ _ he) (by simpa [Nat.blt_eq] using hsz) ho hr h1 hroom (c2 := c2) ty
  refine TL_new (w' := w') hd (fun ρ h => ?_) hf (hq _ g2) (hk w' g4 g2 g3)
  simp only [execOp, resolve, invoke, builtin, Sem.run_bind, Sem.run_pure, Result.andThen_ok, List.map_toArray, List.map_cons, List.map_nil, h _ _ hx, h _ _ hy, g1]
variable {S S2 : List UInt8} {t2 : TypeId}
theorem TL_sge_t (hx : ev st X = some (.string (ofL S)) := by exact rfl) (hy : ev st Y = some (.string (ofL S2)) := by exact rfl) (h0 : S2 ≤ S := by assumption) (hd : Nat.blt d n = true := by exact rfl)
    (hk : TL q P fn R M n ((d, .bool true) :: st) ops rest k w) : TL q P fn R M n st ops (⟨some d, .binOp .geq t X Y t2, ty, ps, af, none⟩ :: rest) k w :=
  TL_val_w hd (fun w ρ h => by
    have e1 : decide (S < S2) = false := decide_eq_false (List.not_lt.2 h0)
    have e2 : True := trivial
    simp only [execOp, h _ _ hx, h _ _ hy, binOp, Op.stringOp, toList_ofL, bytesLess_iff, Sem.run_bind, Sem.run_pure, Result.andThen_ok, eqGuard, e1]
    simp [e2]) hk
theorem TL_sge_f (hx : ev st X = some (.string (ofL S)) := by exact rfl) (hy : ev st Y = some (.string (ofL S2)) := by exact rfl) (h0 : ¬ S2 ≤ S := by assumption) (hd : Nat.blt d n = true := by exact rfl)
    (hk : TL q P fn R M n ((d, .bool false) :: st) ops rest k w) : TL q P fn R M n st ops (⟨some d, .binOp .geq t X Y t2, ty, ps, af, none⟩ :: rest) k w :=
  TL_val_w hd (fun w ρ h => by
    have e1 : decide (S < S2) = true := decide_eq_true (List.not_le.1 h0)
    have e2 : True := trivial
    simp only [execOp, h _ _ hx, h _ _ hy, binOp, Op.stringOp, toList_ofL, bytesLess_iff, Sem.run_bind, Sem.run_pure, Result.andThen_ok, eqGuard, e1]
    simp [e2]) hk
end
end Go.Proofs.Eng

/- The contracts of the library at this program. Written by the tools of the shelf. -/
namespace Go.Proofs
open Go.Shelf
def Try.lays128_ren : Go.Shelf.Ren := ⟨fun | 128 => 74 | n => n, fun | 51 => 114 | 3 => 3 | 4 => 4 | 46 => 100 | 5 => 5 | 9 => 9 | n => n, fun | n => n⟩
def Try.lays125_ren : Go.Shelf.Ren := ⟨fun | 125 => 59 | 128 => 74 | 129 => 75 | n => n, fun | 46 => 100 | 3 => 3 | 51 => 114 | 53 => 116 | 4 => 4 | 5 => 5 | 9 => 9 | n => n, fun | n => n⟩
def Try.lays137_ren : Go.Shelf.Ren := ⟨fun | 137 => 57 | 217 => 64 | 266 => 77 | n => n, fun | 9 => 9 | 5 => 5 | 3 => 3 | n => n, fun | n => n⟩
theorem Try.lays137 : Go.Proofs.Lays.n137 Try.prog Try.lays137_ren := {
  mixed := by kernel_rfl
  f137 := Try.func57.trans (congrArg some (by kernel_rfl))
  f217 := Try.func64.trans (congrArg some (by kernel_rfl))
  f266 := Try.func77.trans (congrArg some (by kernel_rfl))
  t3 := Try.underlying3
  a3 := Try.isAgg3
  z3 := Try.sizeOf3
  v3 := Try.zeroValue3
  t5 := Try.underlying5
  a5 := Try.isAgg5
  z5 := Try.sizeOf5
  v5 := Try.zeroValue5
  t9 := Try.underlying9
  a9 := Try.isAgg9
  z9 := Try.sizeOf9
  v9 := Try.zeroValue9 }
open Go.RowKit in
theorem Try.strings_IndexByte (s : ByteArray) (c : Int) (w : World) :
    Calls Try.prog 57 #[.string s, .int .u8 c] w fun e w' => e = .returned (.int .i64 (Lib.indexByte s.data.toList c.toNat.toUInt8)) ∧ w' = w := Any.strings_IndexByte Try.lays137 s c w
def Try.lays129_ren : Go.Shelf.Ren := ⟨fun | 129 => 75 | n => n, fun | 53 => 116 | 3 => 3 | 4 => 4 | 46 => 100 | 5 => 5 | 9 => 9 | n => n, fun | n => n⟩
def Try.lays217_ren : Go.Shelf.Ren := ⟨fun | 217 => 64 | 266 => 77 | n => n, fun | 9 => 9 | 5 => 5 | 3 => 3 | n => n, fun | n => n⟩
def Try.laysSlN43_f40_ren : Go.Shelf.Ren := ⟨fun | 43 => 40 | n => n, fun | 22 => 43 | 23 => 2 | 3 => 3 | 4 => 4 | 0 => 0 | n => n, fun | n => n⟩
theorem Try.laysSlN43_f40 : Go.Proofs.SlLaysN.n43 Try.prog Try.laysSlN43_f40_ren := {
  mixed := by kernel_rfl
  f43 := ⟨Try.f40.name, by decide, Try.func40.trans (congrArg some (by kernel_rfl))⟩
  t0 := Try.underlying0
  a0 := Try.isAgg0
  z0 := Try.sizeOf0
  v0 := Try.zeroValue0
  t3 := Try.underlying3
  a3 := Try.isAgg3
  z3 := Try.sizeOf3
  v3 := Try.zeroValue3
  t4 := Try.underlying4
  a4 := Try.isAgg4
  z4 := Try.sizeOf4
  v4 := Try.zeroValue4
  t22 := Try.underlying43
  a22 := Try.isAgg43
  z22 := Try.sizeOf43
  v22 := Try.zeroValue43
  t23 := Try.underlying2
  a23 := Try.isAgg2
  z23 := Try.sizeOf2
  v23 := Try.zeroValue2
  i23 := by kernel_rfl }
open Go.RowKit Go.Lib Go.Sort in
theorem Try.slices_Compact_int (blk off cap : Nat) (zs : List Int) (w : World) (hH : Holds (Value.int .i64) w blk off zs.toArray) (hsz : zs.length ≤ 9223372036854775807) (hcap : zs.length ≤ cap) :
    Calls Try.prog 40 #[.slice (some ⟨blk, off, none⟩) zs.length cap] w fun e w' => e = .returned (.slice (some ⟨blk, off, none⟩) (Lib.compact zs).length cap) ∧ ∃ q, w' = putRow (Value.int .i64) (Sort.ahead w q) blk off (Lib.compact zs ++ List.replicate (zs.length - (Lib.compact zs).length) 0).toArray := AnyG.slices_Compact_int Try.laysSlN43_f40 blk off cap zs w hH hsz hcap
open Go.RowKit Go.Lib Go.Sort in
theorem Try.slices_Compact_int_empty (a : Option Addr) (cap : Nat) (w : World) :
    Calls Try.prog 40 #[.slice a 0 cap] w fun e w' => e = .returned (.slice a 0 cap) ∧ w' = w := AnyG.slices_Compact_int_empty Try.laysSlN43_f40 a cap w
def Try.laysSlM5_f39_ren : Go.Shelf.Ren := ⟨fun | 5 => 39 | 8 => 59 | 7 => 58 | 19 => 74 | 20 => 75 | 10 => 65 | 11 => 66 | 12 => 67 | 13 => 68 | 14 => 69 | 15 => 70 | 16 => 71 | 17 => 72 | 18 => 73 | 30 => 78 | 31 => 79 | 32 => 80 | 33 => 81 | 34 => 82 | 35 => 83 | 40 => 84 | n => n, fun | 23 => 43 | 25 => 2 | 3 => 3 | 32 => 100 | 22 => 43 | 0 => 0 | 44 => 114 | 46 => 116 | 4 => 4 | 36 => 106 | 35 => 105 | 41 => 111 | 5 => 5 | 9 => 9 | 53 => 118 | 57 => 122 | 63 => 124 | 64 => 125 | n => n, fun | n => n⟩
theorem Try.laysSlM5_f39 : Go.Proofs.SlLaysM.n5 Try.prog Try.laysSlM5_f39_ren := {
  mixed := by kernel_rfl
  f5 := ⟨Try.f39.name, by decide, Try.func39.trans (congrArg some (by kernel_rfl))⟩
  f7 := ⟨Try.f58.name, by decide, Try.func58.trans (congrArg some (by kernel_rfl))⟩
  f8 := Try.func59.trans (congrArg some (by kernel_rfl))
  f10 := ⟨Try.f65.name, by decide, Try.func65.trans (congrArg some (by kernel_rfl))⟩
  f11 := ⟨Try.f66.name, by decide, Try.func66.trans (congrArg some (by kernel_rfl))⟩
  f12 := ⟨Try.f67.name, by decide, Try.func67.trans (congrArg some (by kernel_rfl))⟩
  f13 := ⟨Try.f68.name, by decide, Try.func68.trans (congrArg some (by kernel_rfl))⟩
  f14 := ⟨Try.f69.name, by decide, Try.func69.trans (congrArg some (by kernel_rfl))⟩
  f15 := ⟨Try.f70.name, by decide, Try.func70.trans (congrArg some (by kernel_rfl))⟩
  f16 := ⟨Try.f71.name, by decide, Try.func71.trans (congrArg some (by kernel_rfl))⟩
  f17 := ⟨Try.f72.name, by decide, Try.func72.trans (congrArg some (by kernel_rfl))⟩
  f18 := ⟨Try.f73.name, by decide, Try.func73.trans (congrArg some (by kernel_rfl))⟩
  f19 := Try.func74.trans (congrArg some (by kernel_rfl))
  f20 := Try.func75.trans (congrArg some (by kernel_rfl))
  f30 := ⟨Try.f78.name, by decide, Try.func78.trans (congrArg some (by kernel_rfl))⟩
  f31 := Try.func79.trans (congrArg some (by kernel_rfl))
  f32 := Try.func80.trans (congrArg some (by kernel_rfl))
  f33 := ⟨Try.f81.name, by decide, Try.func81.trans (congrArg some (by kernel_rfl))⟩
  f34 := ⟨Try.f82.name, by decide, Try.func82.trans (congrArg some (by kernel_rfl))⟩
  f35 := ⟨Try.f83.name, by decide, Try.func83.trans (congrArg some (by kernel_rfl))⟩
  f40 := ⟨Try.f84.name, by decide, Try.func84.trans (congrArg some (by kernel_rfl))⟩
  t0 := Try.underlying0
  a0 := Try.isAgg0
  z0 := Try.sizeOf0
  v0 := Try.zeroValue0
  t3 := Try.underlying3
  a3 := Try.isAgg3
  z3 := Try.sizeOf3
  v3 := Try.zeroValue3
  t4 := Try.underlying4
  a4 := Try.isAgg4
  z4 := Try.sizeOf4
  v4 := Try.zeroValue4
  t5 := Try.underlying5
  a5 := Try.isAgg5
  z5 := Try.sizeOf5
  v5 := Try.zeroValue5
  t9 := Try.underlying9
  a9 := Try.isAgg9
  z9 := Try.sizeOf9
  v9 := Try.zeroValue9
  t22 := Try.underlying43
  a22 := Try.isAgg43
  z22 := Try.sizeOf43
  v22 := Try.zeroValue43
  t23 := Try.underlying43
  a23 := Try.isAgg43
  z23 := Try.sizeOf43
  v23 := Try.zeroValue43
  t25 := Try.underlying2
  a25 := Try.isAgg2
  z25 := Try.sizeOf2
  v25 := Try.zeroValue2
  t32 := Try.underlying100
  a32 := Try.isAgg100
  z32 := Try.sizeOf100
  v32 := Try.zeroValue100
  t35 := Try.underlying105
  a35 := Try.isAgg105
  z35 := Try.sizeOf105
  v35 := Try.zeroValue105
  t36 := Try.underlying106
  a36 := Try.isAgg106
  z36 := Try.sizeOf106
  v36 := Try.zeroValue106
  t41 := Try.underlying111
  a41 := Try.isAgg111
  z41 := Try.sizeOf111
  v41 := Try.zeroValue111
  t44 := Try.underlying114
  a44 := Try.isAgg114
  z44 := Try.sizeOf114
  v44 := Try.zeroValue114
  t46 := Try.underlying116
  a46 := Try.isAgg116
  z46 := Try.sizeOf116
  v46 := Try.zeroValue116
  t53 := Try.underlying118
  a53 := Try.isAgg118
  z53 := Try.sizeOf118
  v53 := Try.zeroValue118
  t57 := Try.underlying122
  a57 := Try.isAgg122
  z57 := Try.sizeOf122
  v57 := Try.zeroValue122
  t63 := Try.underlying124
  a63 := Try.isAgg124
  z63 := Try.sizeOf124
  v63 := Try.zeroValue124
  t64 := Try.underlying125
  a64 := Try.isAgg125
  z64 := Try.sizeOf125
  v64 := Try.zeroValue125 }
open Go.Sort Go.RowKit in
theorem Try.slices_Sort_int (blk off cap : Nat) (zs : List Int) (w : World) (hH : Holds (Value.int .i64) w blk off zs.toArray) (hblk : blk < w.heap.size) (hsz : zs.length < 4611686018427387904) :
    Calls Try.prog 39 #[.slice (some ⟨blk, off, none⟩) zs.length cap] w fun e w' =>
      e = .returned (.tuple #[]) ∧ ∃ n os, w' = grow (putRow (Value.int .i64) (Sort.ahead w n) blk off (zs.mergeSort fun x y => decide (x ≤ y)).toArray) os := AnyM.slices_Sort_int Try.laysSlM5_f39 blk off cap zs w hH hblk hsz
open Go.RowKit Go.Sort in
theorem Try.slices_Sort_int_none (p : Option Addr) (cap : Nat) (w : World) :
    Calls Try.prog 39 #[.slice p 0 cap] w fun e w' => e = .returned (.tuple #[]) ∧ w' = w := AnyM.slices_Sort_int_none Try.laysSlM5_f39 p cap w
end Go.Proofs

namespace Go.Proofs.Ytomabcbemokijaa
open Go.RowKit Go.Proofs.Eng Go.Proofs.Foot
set_option linter.unusedSimpArgs false
set_option linter.unusedVariables false set_option maxRecDepth 10000
attribute [local irreducible] T TL LV TH TA
theorem IndexByte_c (S : ByteArray) (c : Int) (w : World) :
    Ret Try.prog 57 [.string S, .int .u8 c] w (fun v w' => v = .int .i64 (Lib.indexByte S.data.toList c.toNat.toUInt8) ∧ w' = w) := by
  refine Calls.mono (Try.strings_IndexByte S c w) ?_
  rintro e w' ⟨rfl, rfl⟩
  exact ⟨rfl, rfl⟩
theorem Valid_c (l : Tx) (hl : l.length ≤ 9223372036854775807) (w : World) :
    Ret Try.prog 36 [.string (ofL l)] w (fun v w' => v = .bool (validT l) ∧ w' = w) := by
  have hsz := ofL_size l
  refine ret_T (n := 23) Try.func36 rfl rfl ?_
  repeat (first | refine T_seq ?_ | refine T_region ?_ | refine T_block ?_ | refine TL_nil ?_ | refine TL_move (hk := ?_) | refine TL_assign (hk := ?_) | refine TL_len_s TE (hk := ?_))
  refine T_loop (ι := Nat) (fun i => [(6, .int .i64 (i : Int)), (5, .int .i64 ((ofL l).size : Int)), (0, .string (ofL l))]) (fun i w' => w' = w ∧ i ≤ l.length ∧ okUpto l i) (fun i => l.length - i) 0 (.c rfl (.c rfl (.c rfl (.n)))) ⟨rfl, Nat.zero_le _, fun j h => absurd h (by omega)⟩ ?_
  rintro i _ ⟨rfl, hi, hu⟩ ih
  by_cases hlt : i < l.length
  · repeat (first | refine T_seq ?_ | refine T_region ?_ | refine T_cond_true rfl ?_ | refine T_block ?_ | refine T_skip ?_ | refine TL_lt_t (hk := ?_) | refine TL_nil ?_ | refine TL_move (hk := ?_) | refine TL_assign (hk := ?_) | (refine TL_index_s TE (hk := ?_); intro _))
    refine TL_call TE (hc := IndexByte_c _ _ _) (hk := ?_)
    rintro _ _ ⟨rfl, rfl⟩
    have hk := ix_key' (gb_lt l i)
    by_cases hv : okc (gb l i) = true
    · have h0 := hk.2 hv
      have h0' : ¬ Lib.indexByte kbytes ((gb l i : Int).toNat.toUInt8) < 0 := by omega
      repeat (first | refine T_region ?_ | refine T_cond_false rfl ?_ | refine T_inBlock ?_ | refine T_skip ?_ | refine TL_add (hk := ?_) | refine TL_lt_f (hk := ?_) | refine TL_nil ?_ | refine TL_move (hk := ?_))
      exact ih (i + 1) _ _ (by omega) ⟨rfl, by omega, fun j hj => by
        by_cases e : j = i
        · rw [e]; exact hv
        · exact hu j (by omega)⟩ (.c rfl (.c rfl (.c rfl (.n))))
    · have h0 : Lib.indexByte kbytes ((gb l i : Int).toNat.toUInt8) < 0 := by
        have : ¬ 0 ≤ Lib.indexByte kbytes ((gb l i : Int).toNat.toUInt8) := fun h => hv (hk.1 h)
        omega
      repeat (first | refine T_seq ?_ | refine T_region ?_ | refine T_cond_true rfl ?_ | refine TL_lt_t (hk := ?_) | refine TL_nil ?_ | refine TL_assign (hk := ?_))
      refine T_ret1 rfl rfl ⟨?_, rfl⟩
      rw [valid_no hlt (by simpa using hv)]
  · have hin : i = l.length := by omega
    have hx := valid_end (l := l) (by rw [← hin]; exact hu)
    by_cases h1 : 1 ≤ l.length
    · by_cases h2 : l.length ≤ 32
      · repeat (first | refine T_seq ?_ | refine T_region ?_ | refine T_cond_false rfl ?_ | refine T_exit rfl ?_ | refine TL_lt_f (hk := ?_) | refine TL_le_t (hk := ?_) | refine TL_ge_t (hk := ?_) | refine TL_nil ?_ | refine TL_move (hk := ?_) | refine TL_assign (hk := ?_) | refine TL_len_s TE (hk := ?_) | refine TL_yes (hk := ?_) | refine TL_pick_t (hk := ?_))
        refine T_ret1 rfl rfl ⟨?_, rfl⟩
        rw [hx]; simp [h1, h2]
      · repeat (first | refine T_seq ?_ | refine T_region ?_ | refine T_cond_false rfl ?_ | refine T_exit rfl ?_ | refine TL_lt_f (hk := ?_) | refine TL_le_f (hk := ?_) | refine TL_ge_t (hk := ?_) | refine TL_nil ?_ | refine TL_move (hk := ?_) | refine TL_assign (hk := ?_) | refine TL_len_s TE (hk := ?_) | refine TL_yes (hk := ?_) | refine TL_pick_t (hk := ?_))
        refine T_ret1 rfl rfl ⟨?_, rfl⟩
        rw [hx]; simp [h1, h2]
    · repeat (first | refine T_seq ?_ | refine T_region ?_ | refine T_cond_false rfl ?_ | refine T_exit rfl ?_ | refine TL_lt_f (hk := ?_) | refine TL_ge_f (hk := ?_) | refine TL_nil ?_ | refine TL_move (hk := ?_) | refine TL_assign (hk := ?_) | refine TL_len_s TE (hk := ?_) | refine TL_no (hk := ?_) | refine TL_pick_f (hk := ?_))
      refine T_ret1 rfl rfl ⟨?_, rfl⟩
      rw [hx]; simp [h1]
theorem RValid_c (l : Tx) (hl : l.length ≤ 9223372036854775807) (w : World) :
    Ret Try.prog 46 [.string (ofL l)] w (fun v w' => v = .bool (validT l) ∧ w' = w) := by
  have hsz := ofL_size l
  refine ret_T (n := 57) Try.func46 rfl rfl ?_
  repeat (first | refine T_seq ?_ | refine T_region ?_ | refine T_block ?_ | refine TL_nil ?_ | refine TL_assign (hk := ?_))
  refine T_loop (ι := Nat) (fun i => [(3, .int .i64 (i : Int)), (0, .string (ofL l))]) (fun i w' => w' = w ∧ i ≤ l.length ∧ okUpto l i) (fun i => l.length - i) 0 (.c rfl (.c rfl (.n))) ⟨rfl, Nat.zero_le _, fun j h => absurd h (by omega)⟩ ?_
  rintro i _ ⟨rfl, hi, hu⟩ ih
  by_cases hlt : i < l.length
  · by_cases hv : okc (gb l i) = true
    · have hv' := hv
      simp only [okc, decide_eq_true_eq] at hv'
      have hgo := fun (st' : Slots) (h : Sub [(3, .int .i64 ((i + 1 : Nat) : Int)), (0, .string (ofL l))] st') => ih (i + 1) _ st' (by omega) ⟨rfl, by omega, fun j hj => by
          by_cases e : j = i
          · rw [e]; exact hv
          · exact hu j (by omega)⟩ h
      clear ih
      rcases (by omega : (97 ≤ gb l i ∧ gb l i ≤ 122) ∨ (48 ≤ gb l i ∧ gb l i ≤ 57) ∨ gb l i = 47 ∨ gb l i = 58 ∨ gb l i = 46 ∨ gb l i = 95 ∨ gb l i = 45) with h | h | h | h | h | h | h
      all_goals
        repeat (first | refine T_seq ?_ | refine T_region ?_ | refine T_cond_true rfl ?_ | refine T_cond_false rfl ?_ | refine T_block ?_ | refine T_inBlock ?_ | refine T_skip ?_ | refine TL_add (hk := ?_) | refine TL_lt_t (hk := ?_) | refine TL_le_t (hk := ?_) | refine TL_le_f (hk := ?_) | refine TL_ge_t (hk := ?_) | refine TL_ge_f (hk := ?_) | refine TL_eq_t (hk := ?_) | refine TL_eq_f (hk := ?_) | refine TL_nil ?_ | refine TL_move (hk := ?_) | refine TL_assign (hk := ?_) | refine TL_len_s TE (hk := ?_) | refine TL_yes (hk := ?_) | refine TL_no (hk := ?_) | refine TL_pick_t (hk := ?_) | refine TL_pick_f (hk := ?_) | refine TL_not (hk := ?_) | (refine TL_index_s TE (hk := ?_); intro _))
        exact hgo _ (.c rfl (.c rfl (.n)))
    · have hv' : ¬ ((97 ≤ gb l i ∧ gb l i ≤ 122) ∨ (48 ≤ gb l i ∧ gb l i ≤ 57) ∨ gb l i = 47 ∨ gb l i = 58 ∨ gb l i = 46 ∨ gb l i = 95 ∨ gb l i = 45) := by simpa [okc] using hv
      have hno := valid_no hlt (by simpa using hv)
      clear ih
      have hb := gb_lt l i
      rcases (by omega : gb l i < 45 ∨ (58 < gb l i ∧ gb l i < 95) ∨ gb l i = 96 ∨ 122 < gb l i) with h | h | h | h
      all_goals
        repeat (first | refine T_seq ?_ | refine T_region ?_ | refine T_cond_true rfl ?_ | refine T_block ?_ | refine T_skip ?_ | refine TL_lt_t (hk := ?_) | refine TL_le_f (hk := ?_) | refine TL_ge_t (hk := ?_) | refine TL_ge_f (hk := ?_) | refine TL_eq_f (hk := ?_) | refine TL_nil ?_ | refine TL_move (hk := ?_) | refine TL_assign (hk := ?_) | refine TL_len_s TE (hk := ?_) | refine TL_yes (hk := ?_) | refine TL_no (hk := ?_) | refine TL_pick_t (hk := ?_) | refine TL_pick_f (hk := ?_) | refine TL_not (hk := ?_) | (refine TL_index_s TE (hk := ?_); intro _))
        refine T_ret1 rfl rfl ⟨?_, rfl⟩
        rw [hno]
  · have hin : i = l.length := by omega
    have hx := valid_end (l := l) (by rw [← hin]; exact hu)
    by_cases h1 : 1 ≤ l.length
    · by_cases h2 : l.length ≤ 32
      · repeat (first | refine T_seq ?_ | refine T_region ?_ | refine T_cond_false rfl ?_ | refine T_exit rfl ?_ | refine TL_lt_f (hk := ?_) | refine TL_le_t (hk := ?_) | refine TL_ge_t (hk := ?_) | refine TL_nil ?_ | refine TL_move (hk := ?_) | refine TL_assign (hk := ?_) | refine TL_len_s TE (hk := ?_) | refine TL_yes (hk := ?_) | refine TL_pick_t (hk := ?_))
        refine T_ret1 rfl rfl ⟨?_, rfl⟩
        rw [hx]; simp [h1, h2]
      · repeat (first | refine T_seq ?_ | refine T_region ?_ | refine T_cond_false rfl ?_ | refine T_exit rfl ?_ | refine TL_lt_f (hk := ?_) | refine TL_le_f (hk := ?_) | refine TL_ge_t (hk := ?_) | refine TL_nil ?_ | refine TL_move (hk := ?_) | refine TL_assign (hk := ?_) | refine TL_len_s TE (hk := ?_) | refine TL_yes (hk := ?_) | refine TL_pick_t (hk := ?_))
        refine T_ret1 rfl rfl ⟨?_, rfl⟩
        rw [hx]; simp [h1, h2]
    · repeat (first | refine T_seq ?_ | refine T_region ?_ | refine T_cond_false rfl ?_ | refine T_exit rfl ?_ | refine TL_lt_f (hk := ?_) | refine TL_ge_f (hk := ?_) | refine TL_nil ?_ | refine TL_move (hk := ?_) | refine TL_assign (hk := ?_) | refine TL_len_s TE (hk := ?_) | refine TL_no (hk := ?_) | refine TL_pick_f (hk := ?_))
      refine T_ret1 rfl rfl ⟨?_, rfl⟩
      rw [hx]; simp [h1]






































































end Go.Proofs.Ytomabcbemokijaa

namespace Go.Proofs.Ytomabcbemokijaa
open Go.RowKit Go.Proofs.Eng Go.Proofs.Foot Go.Proofs.Locks
set_option linter.unusedSimpArgs false
set_option linter.unusedVariables false set_option maxRecDepth 10000
attribute [local irreducible] T TL LV TH TA
abbrev pT (b : Nat) : Value := .pointer (some ⟨b, 0, none⟩)
theorem KNew_c (w : World) : Ret Try.prog 11 [] w (fun v w' => ∃ m f, v = pT m.p ∧ Ext w w' ∧ TabM w' w.heap.size m f (fun _ => []) [] 0) := by
  refine ret_T (n := 5) Try.func11 rfl rfl ?_
  repeat (first | refine T_seq ?_ | refine T_region ?_ | refine TL_nil ?_ | refine TL_assign (hk := ?_))
  refine TL_makeMap .string tK sL (hk := ?_); intro b1 w1 e1 h1 h1' mp1
  --
  refine TL_makeMap (.int .i64) kI sL (hk := ?_); intro b2 w2 e2 h2 h2' mp2
  repeat (refine TL_build TE (hk := ?_))
  refine TL_box (hk := ?_); intro b3 w3 e3 h3 h3' k3
  have z1 := e1.size
  have z2 := e2.size
  have z3 := e3.size
  have E3 := (e1.ext e2).ext e3
  have mp13 := (mp1.be e2).be e3
  have mp23 := mp2.be e3
  repeat (first | refine TL_nil ?_ | refine TL_assign (hk := ?_))
  refine T_ret1 rfl rfl ⟨⟨b3, b1, b2, [], []⟩, fun b => if b = b3 then (1, [], 0) else if b = b1 then (2, [], 0) else if b = b2 then (3, [], 0) else (0, [], 0), rfl, E3, ⟨k3, mp13, mp23, by simp, ?_, ?_, fun k _ => rfl, fun k x hx => (by cases hx), fun s => (by simp [mget, eget]), fun s x hx => (by cases hx), rfl, by simp, by simp, fun b hb => ?_⟩⟩
  · have : ¬ b1 = b3 := by omega
    simp [this]
  · have h4 : ¬ b2 = b3 := by omega
    have h5 : ¬ b2 = b1 := by omega
    simp [h4, h5]
  · unfold ow at hb
    simp only at hb
    by_cases q1 : b = b3
    · omega
    · by_cases q2 : b = b1
      · omega
      · by_cases q3 : b = b2
        · omega
        · rw [if_neg q1, if_neg q2, if_neg q3] at hb; exact absurd rfl hb
theorem LClone_c (A : Option Addr) (n c : Nat) (l : List Lk) (w : World) (h : Rd w A n 2 (rowV lkV l)) (hn : n ≤ 100000000) :
    Ret Try.prog 37 [.slice A n c] w (fun v w' => ∃ x, v = sL x ∧ Ext w w' ∧ LRow w' w.heap.size x l) := by
  cases A with
  | none =>
    obtain ⟨rfl, hl⟩ := Rd.none h
    have hl0 : l = [] := by
      have := rowV_len lkV_len l
      rw [hl] at this
      exact List.length_eq_zero_iff.1 (by simp at this; omega)
    subst hl0
    refine ret_T (n := 8) Try.func37 rfl rfl ?_
    repeat (first | refine T_seq ?_ | refine T_region ?_ | refine T_cond_true rfl ?_ | refine TL_nil_t TE (hk := ?_) | refine TL_nil ?_ | refine TL_move (hk := ?_) | refine TL_assign (hk := ?_))
    exact T_ret1 rfl rfl ⟨(none, 0, 0), rfl, Mod.refl _ _, Own.nil _ _ _ _⟩
  | some ad =>
    have hone := rowV_one lkV_one l
    refine ret_T (n := 8) Try.func37 rfl rfl ?_
    repeat (first | refine T_seq ?_ | refine T_region ?_ | refine T_cond_false rfl ?_ | refine T_skip ?_ | refine TL_nil_f TE (hk := ?_) | refine TL_nil ?_ | refine TL_move (hk := ?_) | refine TL_assign (hk := ?_))
    refine TL_buildSlice0 TE (hk := ?_); intro b1 w1 e1 h1 h1' k1
    have o1 : Own w1 w.heap.size 61 2 (some ⟨b1, 0, none⟩) 0 0 [] := Own.of_blk k1 h1 rfl (by decide)
    have h2 := h.be e1
    repeat (refine TL_move (hk := ?_))
    refine TL_append TE (hk := ?_); intro A2 c2 w2 o2 m2 n2
    rw [List.nil_append] at o2
    repeat (first | refine TL_nil ?_ | refine TL_assign (hk := ?_))
    exact T_ret1 rfl rfl ⟨(A2, 0 + n, c2), rfl, Mod.own e1 m2 o1.hi, o2⟩
theorem take_while_len (l : List Akk) (i : Nat) (hi : i ≤ l.length) (h : ∀ j, j < i → (l.getD j ak0).2 = false) (hs : i = l.length ∨ (l.getD i ak0).2 = true) : (l.takeWhile fun x => !x.2).length = i := by
  induction l generalizing i with
  | nil => simp at hi ⊢; omega
  | cons x l ih =>
    rw [List.takeWhile_cons]
    cases i with
    | zero =>
      rcases hs with hs | hs
      · simp at hs
      · simp at hs; simp [hs]
    | succ i =>
      have h0 := h 0 (by omega)
      simp at h0
      simp only [h0, Bool.not_false, if_true, List.length_cons]
      rw [ih i (by simpa using hi) (fun j hj => by have := h (j + 1) (by omega); simpa using this) (by simpa using hs)]
theorem granted_c (A : Option Addr) (n c : Nat) (q : List Akk) (w : World) (h : Rd w A n 2 (rowV akV q)) (hn : n ≤ 1000000) :
    Ret Try.prog 34 [.slice A n c] w (fun v w' => v = .int .i64 (grantN q : Int) ∧ w' = w) := by
  have hl : q.length = n := by have := h.1; rw [rowV_len akV_len] at this; omega
  refine ret_T (n := 26) Try.func34 rfl rfl ?_
  repeat (first | refine T_seq ?_ | refine T_region ?_ | refine T_block ?_ | refine TL_nil ?_ | refine TL_assign (hk := ?_))
  refine T_loop (ι := Nat) (fun i => [(3, .int .i64 (i : Int)), (0, .slice A n c)]) (fun i w' => w' = w ∧ i ≤ n ∧ ∀ j, j < i → (q.getD j ak0).2 = false) (fun i => n - i) 0 (.c rfl (.c rfl (.n))) ⟨rfl, Nat.zero_le _, fun j h => absurd h (by omega)⟩ ?_
  rintro i _ ⟨rfl, hi, hu⟩ ih
  by_cases hlt : i < n
  · have hv : (rowV akV q)[i * 2 + 1]? = some (.bool (q.getD i ak0).2) := rowV_at akV_len q i 1 ak0 (by omega) (by omega)
    have hA : A ≠ none := by obtain ⟨_, _, hq, _⟩ := h.2 (by omega); rw [hq]; simp
    have hns := take_while_len q i (by omega) hu
    obtain ⟨x, hx⟩ : ∃ x, q.getD i ak0 = x := ⟨_, rfl⟩
    rw [hx] at hv hns
    by_cases hb : x.2 = true
    · have hns := hns (.inr hb)
      rw [hb] at hv
      clear ih
      repeat (first | refine T_seq ?_ | refine T_region ?_ | refine T_cond_false rfl ?_ | refine T_exit rfl ?_ | refine TL_lt_t (hk := ?_) | refine TL_nil ?_ | refine TL_move (hk := ?_) | refine TL_load_rd TE (hk := ?_) | refine TL_fieldAddr_e TE (hk := ?_) | refine TL_indexAddrn TE (hk := ?_) | refine TL_len TE (hk := ?_) | refine TL_yes (hk := ?_) | refine TL_pick_t (hk := ?_) | refine TL_not (hk := ?_))
      by_cases h0 : i = 0
      · subst h0
        have hg : grantN q = 1 := by unfold grantN; simp only [hns]; rw [if_pos ⟨trivial, by omega⟩]
        repeat (first | refine T_seq ?_ | refine T_region ?_ | refine T_cond_true rfl ?_ | refine TL_gt_t (hk := ?_) | refine TL_eq_t (hk := ?_) | refine TL_nil ?_ | refine TL_move (hk := ?_) | refine TL_assign (hk := ?_) | refine TL_len TE (hk := ?_) | refine TL_yes (hk := ?_) | refine TL_pick_t (hk := ?_))
        exact T_ret1 rfl rfl ⟨by rw [hg]; rfl, rfl⟩
      · have hg : grantN q = i := by unfold grantN; simp only [hns]; rw [if_neg (fun y => h0 y.1)]
        have h0' : ¬ (i : Int) = 0 := by omega
        repeat (first | refine T_seq ?_ | refine T_region ?_ | refine T_cond_false rfl ?_ | refine T_skip ?_ | refine TL_eq_f (hk := ?_) | refine TL_nil ?_ | refine TL_move (hk := ?_) | refine TL_assign (hk := ?_) | refine TL_no (hk := ?_) | refine TL_pick_f (hk := ?_))
        exact T_ret1 rfl rfl ⟨by rw [hg], rfl⟩
    · have hb' : x.2 = false := by simpa using hb
      rw [hb'] at hv
      repeat (first | refine T_seq ?_ | refine T_region ?_ | refine T_cond_true rfl ?_ | refine T_block ?_ | refine T_inBlock ?_ | refine T_skip ?_ | refine TL_add (hk := ?_) | refine TL_lt_t (hk := ?_) | refine TL_nil ?_ | refine TL_move (hk := ?_) | refine TL_assign (hk := ?_) | refine TL_load_rd TE (hk := ?_) | refine TL_fieldAddr_e TE (hk := ?_) | refine TL_indexAddrn TE (hk := ?_) | refine TL_len TE (hk := ?_) | refine TL_yes (hk := ?_) | refine TL_pick_t (hk := ?_) | refine TL_not (hk := ?_))
      exact ih (i + 1) _ _ (by omega) ⟨rfl, by omega, fun j hj => by
        by_cases y : j = i
        · rw [y, hx]; exact hb'
        · exact hu j (by omega)⟩ (.c rfl (.c rfl (.n)))
  · clear ih
    have hin : i = n := by omega
    have hns := take_while_len q i (by omega) hu (.inl (by omega))
    by_cases h0 : n = 0
    · subst hin
      subst h0
      have hg : grantN q = 0 := by unfold grantN; simp only [hns]; rw [if_neg (fun y => by omega)]
      repeat (first | refine T_seq ?_ | refine T_region ?_ | refine T_cond_false rfl ?_ | refine T_skip ?_ | refine T_exit rfl ?_ | refine TL_lt_f (hk := ?_) | refine TL_gt_f (hk := ?_) | refine TL_eq_t (hk := ?_) | refine TL_nil ?_ | refine TL_move (hk := ?_) | refine TL_assign (hk := ?_) | refine TL_len TE (hk := ?_) | refine TL_yes (hk := ?_) | refine TL_no (hk := ?_) | refine TL_pick_t (hk := ?_) | refine TL_pick_f (hk := ?_))
      exact T_ret1 rfl rfl ⟨by rw [hg], rfl⟩
    · have hg : grantN q = i := by unfold grantN; simp only [hns]; rw [if_neg (fun y => by omega)]
      have h0' : ¬ (i : Int) = 0 := by omega
      repeat (first | refine T_seq ?_ | refine T_region ?_ | refine T_cond_false rfl ?_ | refine T_skip ?_ | refine T_exit rfl ?_ | refine TL_lt_f (hk := ?_) | refine TL_eq_f (hk := ?_) | refine TL_nil ?_ | refine TL_move (hk := ?_) | refine TL_assign (hk := ?_) | refine TL_len TE (hk := ?_) | refine TL_no (hk := ?_) | refine TL_pick_f (hk := ?_))
      exact T_ret1 rfl rfl ⟨by rw [hg], rfl⟩
theorem isSeq_c (x : Akk) (b : Nat) (s : Int) (w : World) (hb : Blk w b 2 [.int .i64 s]) :
    Ret Try.prog 56 [.agg #[.int .i64 x.1, .bool x.2], pT b] w (fun v w' => v = .bool (decide (x.1 = s)) ∧ Ext w w') := by
  refine ret_T (n := 8) Try.func56 rfl rfl ?_
  repeat (first | refine T_seq ?_ | refine T_region ?_)
  refine TL_box (hk := ?_); intro b2 w2 e2 h2 h2' k2
  replace k2 : Blk w2 b2 74 (akV x) := k2
  have hb2 := hb.be e2
  unfold akV at k2
  by_cases h : x.1 = s
  · repeat (first | refine T_seq ?_ | refine T_region ?_ | refine TL_eq_t (hk := ?_) | refine TL_nil ?_ | refine TL_assign (hk := ?_) | refine TL_load TE (hk := ?_) | refine TL_fieldAddr TE (hk := ?_))
    exact T_ret1 rfl rfl ⟨by rw [decide_eq_true h], e2⟩
  · repeat (first | refine T_seq ?_ | refine T_region ?_ | refine TL_eq_f (hk := ?_) | refine TL_nil ?_ | refine TL_assign (hk := ?_) | refine TL_load TE (hk := ?_) | refine TL_fieldAddr TE (hk := ?_))
    exact T_ret1 rfl rfl ⟨by rw [decide_eq_false h], e2⟩
abbrev seqF (b : Nat) : Value := .func (.func 56) #[] #[pT b]
theorem placeI_at : ∀ {q : List Akk} {s : Int} {i : Nat}, i < q.length → (q.getD i ak0).1 = s → (∀ j, j < i → ¬ (q.getD j ak0).1 = s) → placeI q s = i
  | [], _, _, h, _, _ => by simp at h
  | x :: q, s, 0, _, h1, _ => by simp at h1; simp [placeI, h1]
  | x :: q, s, i + 1, h, h1, h2 => by
    have h0 := h2 0 (by omega)
    simp at h0
    have ih := placeI_at (q := q) (s := s) (i := i) (by simpa using h) (by simpa using h1) (fun j hj => by have := h2 (j + 1) (by omega); simpa using this)
    simp only [placeI, h0, if_false, ih]
    rw [if_neg (by omega)]
    omega
theorem placeI_no : ∀ {q : List Akk} {s : Int}, (∀ j, j < q.length → ¬ (q.getD j ak0).1 = s) → placeI q s = -1
  | [], _, _ => rfl
  | x :: q, s, h => by
    have h0 := h 0 (by simp)
    simp at h0
    have ih := placeI_no (q := q) (s := s) (fun j hj => by have := h (j + 1) (by simpa using hj); simpa using this)
    simp only [placeI, h0, if_false, ih]
    rw [if_pos (by omega)]
theorem KIndexFunc_c (A : Option Addr) (n c : Nat) (q : List Akk) (b : Nat) (s : Int) (w : World) (h : Rd w A n 2 (rowV akV q)) (hn : n ≤ 1000000) (hb : Blk w b 2 [.int .i64 s]) :
    Ret Try.prog 55 [.slice A n c, seqF b] w (fun v w' => v = .int .i64 (placeI q s) ∧ Ext w w') := by
  have hl : q.length = n := by have := h.1; rw [rowV_len akV_len] at this; omega
  refine ret_T (n := 19) Try.func55 rfl rfl ?_
  repeat (first | refine T_seq ?_ | refine T_region ?_ | refine T_block ?_ | refine TL_nil ?_ | refine TL_move (hk := ?_) | refine TL_assign (hk := ?_) | refine TL_len TE (hk := ?_))
  refine T_loop (ι := Nat) (fun i => [(8, .int .i64 (i : Int)), (7, .int .i64 (n : Int)), (0, .slice A n c), (1, seqF b)]) (fun i w' => Ext w w' ∧ i ≤ n ∧ ∀ j, j < i → ¬ (q.getD j ak0).1 = s) (fun i => n - i) 0 (.c rfl (.c rfl (.c rfl (.c rfl (.n))))) ⟨Mod.refl _ _, Nat.zero_le _, fun j h => absurd h (by omega)⟩ ?_
  rintro i w1 ⟨e1, hi, hu⟩ ih
  have h1 := h.be e1
  have hb1 := hb.be e1
  by_cases hlt : i < n
  · have t1 := rowV_elem akV_len q i ak0 (by omega)
    have hpl := placeI_at (q := q) (s := s) (i := i) (by omega)
    obtain ⟨x, hx⟩ : ∃ x, q.getD i ak0 = x := ⟨_, rfl⟩
    rw [hx] at t1 hpl
    repeat (first | refine T_seq ?_ | refine T_region ?_ | refine T_cond_true rfl ?_ | refine T_block ?_ | refine T_skip ?_ | refine TL_lt_t (hk := ?_) | refine TL_nil ?_ | refine TL_move (hk := ?_) | refine TL_assign (hk := ?_) | refine TL_indexAddrn TE (hk := ?_))
    refine TL_loada TE (cs := akV x) (hx := rfl) (ht := rfl) (hi := rfl) (hr := h1) (hc := t1) (h0 := Nat.succ_pos _) (hk := ?_)
    --
    refine TL_callc TE (fst := []) (cap := [pT b]) rfl rfl rfl rfl (R' := RR (fun v w'' => v = .bool (decide (x.1 = s)) ∧ Ext w1 w'')) (by have := isSeq_c x b s w1 hb1; unfold Ret at this; simpa [akV] using this) ?_ (fun _ _ h => h.elim) (fun _ h => h)
    rintro _ w2 ⟨rfl, e2⟩
    by_cases hs : x.1 = s
    · rw [decide_eq_true hs]
      repeat (first | refine T_seq ?_ | refine T_region ?_ | refine T_cond_true rfl ?_ | refine TL_nil ?_ | refine TL_move (hk := ?_) | refine TL_assign (hk := ?_))
      exact T_ret1 rfl rfl ⟨by rw [hpl hs hu], e1.ext e2⟩
    · rw [decide_eq_false hs]
      repeat (first | refine T_region ?_ | refine T_cond_false rfl ?_ | refine T_inBlock ?_ | refine T_skip ?_ | refine TL_add (hk := ?_) | refine TL_nil ?_ | refine TL_move (hk := ?_))
      exact ih (i + 1) _ _ (by omega) ⟨e1.ext e2, by omega, fun j hj => by
        by_cases y : j = i
        · rw [y, hx]; exact hs
        · exact hu j (by omega)⟩ (.c rfl (.c rfl (.c rfl (.c rfl (.n)))))
  · clear ih
    have : i = n := by omega
    subst this
    repeat (first | refine T_seq ?_ | refine T_region ?_ | refine T_cond_false rfl ?_ | refine T_exit rfl ?_ | refine TL_lt_f (hk := ?_) | refine TL_nil ?_ | refine TL_assign (hk := ?_))
    exact T_ret1 rfl rfl ⟨by rw [placeI_no (fun j hj => hu j (by omega))], e1⟩
theorem place_c (A : Option Addr) (n c : Nat) (q : List Akk) (s : Int) (w : World) (h : Rd w A n 2 (rowV akV q)) (hn : n ≤ 1000000) :
    Ret Try.prog 33 [.slice A n c, .int .i64 s] w (fun v w' => v = .int .i64 (placeI q s) ∧ Ext w w') := by
  refine ret_T (n := 8) Try.func33 rfl rfl ?_
  repeat (first | refine T_seq ?_ | refine T_region ?_)
  refine TL_box (hk := ?_); intro b1 w1 e1 h1 h1' k1
  repeat (first | refine T_seq ?_ | refine T_region ?_ | refine TL_nil ?_ | refine TL_move (hk := ?_) | refine TL_assign (hk := ?_) | refine TL_makeFunc (hk := ?_))
  refine TL_call TE (hc := KIndexFunc_c A n c q b1 s _ (h.be e1) hn k1) (hk := ?_)
  rintro _ w2 ⟨rfl, e2⟩
  repeat (first | refine TL_nil ?_ | refine TL_assign (hk := ?_))
  exact T_ret1 rfl rfl ⟨rfl, e1.ext e2⟩
theorem KDelete_c (A : Option Addr) (n c base i : Nat) (q : List Akk) (w : World) (h : Own w base 74 2 A n c (rowV akV q)) (hi : i < n) (hn : n ≤ 1000000) (hbw : base ≤ w.heap.size) :
    Ret Try.prog 35 [.slice A n c, .int .i64 (i : Int), .int .i64 ((i + 1 : Nat) : Int)] w (fun v w' => v = .slice A (n - 1) c ∧ Eng.Mod (blkL A) w w' ∧ Own w' base 74 2 A (n - 1) c (rowV akV (q.take i ++ q.drop (i + 1)))) := by
  have hl : q.length = n := by have := h.len; rw [rowV_len akV_len] at this; omega
  have hcap := h.cap
  have hne : ¬ (i : Int) = ((i + 1 : Nat) : Int) := by omega
  refine ret_T (n := 33) Try.func35 rfl rfl ?_
  repeat (first | refine T_seq ?_ | refine T_region ?_ | refine TL_nil ?_ | refine TL_move (hk := ?_) | refine TL_assign (hk := ?_) | refine TL_len TE (hk := ?_))
  refine TL_slice3 TE (hk := ?_)
  repeat (first | refine T_seq ?_ | refine T_region ?_ | refine T_cond_false rfl ?_ | refine T_skip ?_ | refine TL_eq_f (hk := ?_) | refine TL_nil ?_ | refine TL_move (hk := ?_) | refine TL_assign (hk := ?_) | refine TL_len TE (hk := ?_))
  refine T_region_any TE.mixed (blkL A) ?_; intro w1 e1 z1
  have h1 := h.be e1
  have r1 : Rd w1 (cutA A c (i + 1) 2) (n - (i + 1)) 2 (rowV akV (q.drop (i + 1))) := by
    have := Rd.cut (l := i + 1) (h := n) (c := c) h1.rd (by omega) (Nat.le_refl _) hcap.1
    rwa [rowV_drop akV_len, List.take_of_length_le (by rw [rowV_len akV_len, List.length_drop]; omega)] at this
  (refine TA_take 0 rfl (by kernel_rfl) (by kernel_rfl) (by kernel_rfl) ?_; (repeat (first | refine TL_move (hk := ?_) | refine TL_slice_hi TE (hk := ?_) | refine TL_slice_lo TE (hk := ?_))); refine TL_nil_p ?_); (refine TA_take 1 rfl (by kernel_rfl) (by kernel_rfl) (by kernel_rfl) ?_; (repeat (first | refine TL_move (hk := ?_) | refine TL_slice_hi TE (hk := ?_) | refine TL_slice_lo TE (hk := ?_))); refine TL_nil_p ?_); (refine TA_take 2 rfl (by kernel_rfl) (by kernel_rfl) (by kernel_rfl) ?_; (repeat (first | refine TL_move (hk := ?_) | refine TL_slice_hi TE (hk := ?_) | refine TL_slice_lo TE (hk := ?_))); refine TL_nil_p ?_); (refine TA_take 3 rfl (by kernel_rfl) (by kernel_rfl) (by kernel_rfl) ?_; (repeat (first | refine TL_move (hk := ?_) | refine TL_slice_hi TE (hk := ?_) | refine TL_slice_lo TE (hk := ?_))); refine TL_nil_p ?_); (refine TA_take 4 rfl (by kernel_rfl) (by kernel_rfl) (by kernel_rfl) ?_; (repeat (first | refine TL_move (hk := ?_) | refine TL_slice_hi TE (hk := ?_) | refine TL_slice_lo TE (hk := ?_))); refine TL_nil_p ?_); (refine TA_take 5 rfl (by kernel_rfl) (by kernel_rfl) (by kernel_rfl) ?_; (repeat (first | refine TL_move (hk := ?_) | refine TL_slice_hi TE (hk := ?_) | refine TL_slice_lo TE (hk := ?_))); refine TL_nil_p ?_)
  refine TA_one 6 rfl (by kernel_rfl) (by kernel_rfl) ?_
  refine TL_append_within TE h1 r1 (rowV_one akV_one _) (i := i) (by omega) (hf := rfl) (hq := fun w' m => m) (hk := ?_); intro w2 o2 m2 z2
  rw [rowV_take akV_len, ← rowV_append, rowV_drop akV_len, ← rowV_append] at o2
  refine TL_nil_p ?_
  (refine TA_one 7 rfl (by kernel_rfl) (by kernel_rfl) ?_; (repeat (refine TL_assign (hk := ?_))); refine TL_nil_p ?_)
  refine TA_done (by kernel_rfl) ?_
  repeat (first | refine T_seq ?_ | refine T_region ?_ | refine TL_move (hk := ?_) | refine TL_len TE (hk := ?_) | refine TL_slice_lh TE (hk := ?_))
  refine TL_clear TE o2 (hk := ?_); intro w3 m3 z3 o3
  have hlen : ((i + (n - (i + 1)) : Nat) : Int).toNat = n - 1 := by omega
  have hlen2 : i + (n - (i + 1)) = n - 1 := by omega
  rw [hlen] at o3
  rw [rowV_take akV_len, List.take_append_of_le_length (by simp; omega), List.take_of_length_le (by simp; omega)] at o3
  repeat (first | refine T_seq ?_ | refine T_region ?_ | refine TL_nil ?_ | refine TL_move (hk := ?_) | refine TL_assign (hk := ?_))
  exact T_ret1 rfl rfl ⟨by rw [hlen2], ((e1.mono (by simp)).trans m2).trans m3, o3⟩
end Go.Proofs.Ytomabcbemokijaa

namespace Go.Proofs.Ytomabcbemokijaa
open Go.RowKit Go.Proofs.Eng Go.Proofs.Foot Go.Proofs.Locks
set_option linter.unusedSimpArgs false
set_option linter.unusedVariables false set_option maxRecDepth 10000
attribute [local irreducible] T TL LV TH TA
def chkAt (l : List Lk) (i : Nat) : Nat := chk (if i = 0 then none else some (l.getD (i - 1) lk0).1) (l.drop i)
theorem chkAt_zero (l : List Lk) : chkAt l 0 = chk none l := by simp [chkAt]
theorem chkAt_end (l : List Lk) : chkAt l l.length = 0 := by simp [chkAt, chk]
theorem chkAt_succ (l : List Lk) (i : Nat) (hi : i < l.length) : chkAt l i = if validT (l.getD i lk0).1 = false then 30 else if i ≠ 0 ∧ (l.getD i lk0).1 ≤ (l.getD (i - 1) lk0).1 then 40 else chkAt l (i + 1) := by
  have hg : l.getD i lk0 = l[i] := by rw [List.getD_eq_getElem?_getD, List.getElem?_eq_getElem hi]; rfl
  unfold chkAt
  rw [List.drop_eq_getElem_cons hi, chk, hg]
  by_cases h1 : validT l[i].1 = false
  · rw [if_pos h1, if_pos h1]
  · rw [if_neg h1, if_neg h1]
    by_cases h0 : i = 0
    · subst h0
      have hg0 : (l[0]?.getD lk0).1 = l[0].1 := by rw [List.getElem?_eq_getElem hi]; rfl
      simp [overT, hg, hg0]
    · simp only [h0, if_false, overT, ne_eq, not_false_eq_true, true_and, decide_eq_true_eq, Nat.add_eq_zero_iff, Nat.one_ne_zero, and_false, Nat.add_sub_cancel, hg]
section
variable {base N : Nat} {m : LM} {f : Nat → Ow} {t : LS}
set_option maxHeartbeats 1600000
theorem Enqueue_c (A : Option Addr) (n c : Nat) (l : List Lk) (s : Int) (w : World) (h : TabM w base m f (qOf t.E) t.E t.nx) (ok : OkT N t) (hN : N ≤ 100000) (hr : Rd w A n 2 (rowV lkV l)) (hz : ∀ b ∈ blkL A, ow f b = 0) (hn : n ≤ 100000) (hk : ∀ x ∈ l, x.1.length ≤ 9223372036854775807) (hs : -9223372036854775808 ≤ s ∧ s ≤ 9223372036854775807) :
    Ret Try.prog 16 [pT m.p, .int .i64 s, .slice A n c] w (fun v w' => v = .int .i64 ((enqE t s l).2 : Int) ∧ ∃ m' f', m'.p = m.p ∧ TabM w' base m' f' (qOf (enqE t s l).1.E) (enqE t s l).1.E (enqE t s l).1.nx ∧ Tn (ow f) (ow f') w w') := by
  have hl : l.length = n := by have := hr.1; rw [rowV_len lkV_len] at this; omega
  have hb := h.blk
  unfold tabV at hb
  have hnx := ok.nx
  have hret : ∀ w', Ext w w' → ∃ m' f', m'.p = m.p ∧ TabM w' base m' f' (qOf t.E) t.E t.nx ∧ Tn (ow f) (ow f') w w' := fun w' e => ⟨m, f, rfl, h.ext e, Tn.ext e⟩
  unfold enqE
  refine ret_T (n := 89) Try.func16 rfl rfl ?_
  by_cases g1 : s < t.nx
  · rw [if_pos (.inl g1)]
    repeat (first | refine T_seq ?_ | refine T_region ?_ | refine T_cond_true rfl ?_ | refine T_cond_false rfl ?_ | refine T_skip ?_ | refine TL_lt_t (hk := ?_) | refine TL_pnil_f TE (hk := ?_) | refine TL_nil ?_ | refine TL_move (hk := ?_) | refine TL_assign (hk := ?_) | refine TL_load TE (hk := ?_) | refine TL_fieldAddr TE (hk := ?_) | refine TL_no (hk := ?_) | refine TL_pick_t (hk := ?_) | refine TL_nilCheck (hk := ?_))
    exact T_ret1 rfl rfl ⟨rfl, hret _ (Mod.refl _ _)⟩
  by_cases g2 : t.nx < 0
  · rw [if_pos (.inr g2)]
    repeat (first | refine T_seq ?_ | refine T_region ?_ | refine T_cond_true rfl ?_ | refine T_cond_false rfl ?_ | refine T_skip ?_ | refine TL_lt_t (hk := ?_) | refine TL_lt_f (hk := ?_) | refine TL_pnil_f TE (hk := ?_) | refine TL_nil ?_ | refine TL_move (hk := ?_) | refine TL_assign (hk := ?_) | refine TL_load TE (hk := ?_) | refine TL_fieldAddr TE (hk := ?_) | refine TL_yes (hk := ?_) | refine TL_pick_f (hk := ?_) | refine TL_nilCheck (hk := ?_))
    exact T_ret1 rfl rfl ⟨rfl, hret _ (Mod.refl _ _)⟩
  rw [if_neg (fun q => q.elim g1 g2)]
  repeat (first | refine T_seq ?_ | refine T_region ?_ | refine T_cond_false rfl ?_ | refine T_block ?_ | refine T_skip ?_ | refine TL_lt_f (hk := ?_) | refine TL_pnil_f TE (hk := ?_) | refine TL_nil ?_ | refine TL_move (hk := ?_) | refine TL_assign (hk := ?_) | refine TL_load TE (hk := ?_) | refine TL_fieldAddr TE (hk := ?_) | refine TL_len TE (hk := ?_) | refine TL_yes (hk := ?_) | refine TL_pick_f (hk := ?_) | refine TL_nilCheck (hk := ?_))
  refine T_loop (ι := Nat) (fun i => [(28, .int .i64 (i : Int)), (27, .int .i64 (n : Int)), (26, .slice A n c), (0, pT m.p), (1, .int .i64 s), (2, .slice A n c)]) (fun i w' => Ext w w' ∧ i ≤ n ∧ chk none l = chkAt l i) (fun i => n - i) 0 (.c rfl (.c rfl (.c rfl (.c rfl (.c rfl (.c rfl (.n))))))) ⟨Mod.refl _ _, Nat.zero_le _, (chkAt_zero l).symm⟩ ?_
  rintro i w1 ⟨e1, hi, hck⟩ ih
  have r1 := hr.be e1
  by_cases hlt : i < n
  · have hsu := chkAt_succ l i (by omega)
    have t1 := rowV_elem lkV_len l i lk0 (by omega)
    have hm : l.getD i lk0 ∈ l := by rw [List.getD_eq_getElem?_getD, List.getElem?_eq_getElem (by omega)]; exact List.getElem_mem _
    have hkx := hk _ hm
    have hpv : i ≠ 0 → (rowV lkV l)[(i - 1) * 2 + 0]? = some (.string (ofL (l.getD (i - 1) lk0).1)) := fun q => rowV_at lkV_len l (i - 1) 0 lk0 (by omega) (by omega)
    obtain ⟨x, hx⟩ : ∃ x, l.getD i lk0 = x := ⟨_, rfl⟩
    obtain ⟨y, hy⟩ : ∃ y, l.getD (i - 1) lk0 = y := ⟨_, rfl⟩
    rw [hx, hy] at hsu
    rw [hx] at t1 hkx
    rw [hy] at hpv
    have hA : A ≠ none := by obtain ⟨_, _, hq, _⟩ := r1.2 (by omega); rw [hq]; simp
    repeat (first | refine T_seq ?_ | refine T_region ?_ | refine T_cond_true rfl ?_ | refine T_block ?_ | refine T_skip ?_ | refine TL_lt_t (hk := ?_) | refine TL_nil ?_ | refine TL_move (hk := ?_) | refine TL_indexAddrn TE (hk := ?_))
    refine TL_loada TE (cs := lkV x) (hx := rfl) (ht := rfl) (hi := rfl) (hr := r1) (hc := t1) (h0 := Nat.succ_pos _) (hk := ?_)
    --
    refine TL_alloc TE (hk := ?_); intro b2 w2 e2 h2 h2' k2
    repeat (refine TL_assign (hk := ?_))
    refine TL_storea TE (hk := ?_); intro w3 m3 z3 k3
    have z2 := e2.size
    have e13 : Ext w1 w3 := Mod.step e2 m3 (by simp; omega)
    replace k3 : Blk w3 b2 61 (lkV x) := k3
    unfold lkV at k3
    have r3 := r1.be e13
    have e03 := e1.ext e13
    clear k2 r1
    repeat (first | refine T_seq ?_ | refine T_region ?_ | refine TL_nil ?_ | refine TL_load TE (hk := ?_) | refine TL_fieldAddr TE (hk := ?_))
    refine TL_call TE (hc := Valid_c x.1 hkx _) (hk := ?_)
    rintro _ _ ⟨rfl, rfl⟩
    by_cases hv : validT x.1 = false
    · rw [hv]
      rw [if_pos hv] at hsu
      clear ih
      repeat (first | refine T_seq ?_ | refine T_region ?_ | refine T_cond_true rfl ?_ | refine TL_nil ?_ | refine TL_assign (hk := ?_) | refine TL_not (hk := ?_))
      refine T_ret1 rfl rfl ⟨?_, ?_⟩
      · rw [hck, hsu, if_pos (by decide)]; rfl
      · rw [if_pos (by rw [hck, hsu]; decide)]; exact hret _ e03
    · have hv' : validT x.1 = true := by simpa using hv
      rw [hv']
      rw [if_neg hv] at hsu
      by_cases h0 : i = 0
      · subst h0
        rw [if_neg (fun q => q.1 rfl)] at hsu
        repeat (first | refine T_seq ?_ | refine T_region_q TE.mixed (by kernel_rfl) ?_ | refine T_cond_false rfl ?_ | refine T_skip ?_ | refine TL_gt_f (hk := ?_) | refine TL_nil ?_ | refine TL_move (hk := ?_) | refine TL_no (hk := ?_) | refine TL_pick_f (hk := ?_) | refine TL_not (hk := ?_))
        refine TL_nil_q ?_; intro w4 e4
        repeat (first | refine T_region ?_ | refine T_cond_false rfl ?_ | refine T_inBlock ?_ | refine T_skip ?_ | refine TL_add (hk := ?_) | refine TL_nil ?_ | refine TL_move (hk := ?_))
        exact ih (0 + 1) _ _ (by omega) ⟨e03.ext e4, by omega, by rw [hck, hsu]⟩ (.c rfl (.c rfl (.c rfl (.c rfl (.c rfl (.c rfl (.n)))))))
      · have h0' : 0 < (i : Int) := by omega
        have hpv := hpv h0
        have hi1 : (i : Int) - 1 = ((i - 1 : Nat) : Int) := by omega
        by_cases hle : x.1 ≤ y.1
        · rw [if_pos ⟨h0, hle⟩] at hsu
          clear ih
          repeat (first | refine T_seq ?_ | refine T_region_q TE.mixed (by kernel_rfl) ?_ | refine T_cond_false rfl ?_ | refine T_skip ?_ | refine TL_sub (hk := ?_) | refine TL_gt_t (hk := ?_) | refine TL_nil ?_ | refine TL_move (hk := ?_) | refine TL_fieldAddr_e TE (hk := ?_) | refine TL_indexAddr TE (hk := ?_) | refine TL_yes (hk := ?_) | refine TL_not (hk := ?_))
          rw [hi1]
          repeat (first | refine TL_sge_t (hk := ?_) | refine TL_load TE (hk := ?_) | refine TL_load_rd TE (hk := ?_) | refine TL_fieldAddr TE (hk := ?_) | refine TL_yes (hk := ?_) | refine TL_pick_t (hk := ?_))
          refine TL_nil_q ?_; intro w4 e4
          repeat (first | refine T_seq ?_ | refine T_region ?_ | refine T_cond_true rfl ?_ | refine TL_nil ?_ | refine TL_assign (hk := ?_))
          refine T_ret1 rfl rfl ⟨?_, ?_⟩
          · rw [hck, hsu, if_pos (by decide)]; rfl
          · rw [if_pos (by rw [hck, hsu]; decide)]; exact hret _ (e03.ext e4)
        · rw [if_neg (fun q => hle q.2)] at hsu
          repeat (first | refine T_seq ?_ | refine T_region_q TE.mixed (by kernel_rfl) ?_ | refine T_cond_false rfl ?_ | refine T_skip ?_ | refine TL_sub (hk := ?_) | refine TL_gt_t (hk := ?_) | refine TL_nil ?_ | refine TL_move (hk := ?_) | refine TL_fieldAddr_e TE (hk := ?_) | refine TL_indexAddr TE (hk := ?_) | refine TL_yes (hk := ?_) | refine TL_not (hk := ?_))
          rw [hi1]
          repeat (first | refine TL_sge_f (hk := ?_) | refine TL_load TE (hk := ?_) | refine TL_load_rd TE (hk := ?_) | refine TL_fieldAddr TE (hk := ?_) | refine TL_yes (hk := ?_) | refine TL_pick_t (hk := ?_))
          refine TL_nil_q ?_; intro w4 e4
          repeat (first | refine T_region ?_ | refine T_cond_false rfl ?_ | refine T_inBlock ?_ | refine T_skip ?_ | refine TL_add (hk := ?_) | refine TL_nil ?_ | refine TL_move (hk := ?_))
          exact ih (i + 1) _ _ (by omega) ⟨e03.ext e4, by omega, by rw [hck, hsu]⟩ (.c rfl (.c rfl (.c rfl (.c rfl (.c rfl (.c rfl (.n)))))))
  · have hin : i = l.length := by omega
    rw [hin, chkAt_end] at hck
    rw [if_neg (fun q => q hck)]
    clear ih
    have h1 := h.ext e1
    have hnew : eget t.E s = none := by
      unfold eget
      rw [Option.map_eq_none_iff, List.find?_eq_none]
      intro e he
      have := ok.hi (by omega) e he
      simp
      omega
    have hb1 := h1.blk
    have ma1 := h1.ma
    unfold tabV at hb1
    have hpa : m.p ∉ [m.ab] := fun q => by have := h.ka; rw [← List.mem_singleton.1 q, h.kp] at this; simp at this
    have hbw1 := h1.bw
    have hD0 : m.p ∉ ([] : List Nat) := by simp
    clear hb hret
    repeat (first | refine T_seq ?_ | refine T_region ?_ | refine T_cond_false rfl ?_ | refine T_exit rfl ?_ | refine TL_lt_f (hk := ?_) | refine TL_nil ?_)
    refine T_region_anyz TE.mixed ([] : List Nat) (some 7) ?_; intro w2 e2 z2
    have hb2 := hb1.be e2
    (refine TA_take 0 rfl (by kernel_rfl) (by kernel_rfl) (by kernel_rfl) ?_; (repeat (first | refine TL_move (hk := ?_) | refine TLP_load TE (hk := ?_) | refine TL_fieldAddr TE (hk := ?_) | refine TL_nilCheck (hk := ?_))); refine TL_nil_p ?_); (refine TA_take 1 rfl (by kernel_rfl) (by kernel_rfl) (by kernel_rfl) ?_; (repeat (first | refine TL_move (hk := ?_) | refine TLP_load TE (hk := ?_) | refine TL_fieldAddr TE (hk := ?_) | refine TL_nilCheck (hk := ?_))); refine TL_nil_p ?_); (refine TA_take 2 rfl (by kernel_rfl) (by kernel_rfl) (by kernel_rfl) ?_; (repeat (first | refine TL_move (hk := ?_) | refine TLP_load TE (hk := ?_) | refine TL_fieldAddr TE (hk := ?_) | refine TL_nilCheck (hk := ?_))); refine TL_nil_p ?_); (refine TA_take 3 rfl (by kernel_rfl) (by kernel_rfl) (by kernel_rfl) ?_; (repeat (first | refine TL_move (hk := ?_) | refine TLP_load TE (hk := ?_) | refine TL_fieldAddr TE (hk := ?_) | refine TL_nilCheck (hk := ?_))); refine TL_nil_p ?_); (refine TA_take 4 rfl (by kernel_rfl) (by kernel_rfl) (by kernel_rfl) ?_; (repeat (first | refine TL_move (hk := ?_) | refine TLP_load TE (hk := ?_) | refine TL_fieldAddr TE (hk := ?_) | refine TL_nilCheck (hk := ?_))); refine TL_nil_p ?_); (refine TA_take 5 rfl (by kernel_rfl) (by kernel_rfl) (by kernel_rfl) ?_; (repeat (first | refine TL_move (hk := ?_) | refine TLP_load TE (hk := ?_) | refine TL_fieldAddr TE (hk := ?_) | refine TL_nilCheck (hk := ?_))); refine TL_nil_p ?_)
    refine TA_one 6 rfl (by kernel_rfl) (by kernel_rfl) ?_; (try refine TL_yes (hk := ?_)); refine TL_call TE (hc := LClone_c A n c l _ (r1.be e2) (by omega)) (hq := (by rintro _ w3 ⟨x, rfl, e, _⟩; exact Ext.un e)) (hk := ?_)
    rintro _ w3 ⟨x, rfl, e3, rx⟩
    have e13 := e2.ext e3
    have z13 := e13.size
    refine TL_nil_p ?_
    refine TA_one 7 rfl (by kernel_rfl) (by kernel_rfl) ?_
    refine TL_mapUpdate TE (x : SL) (hm := ma1.be e13) (hK := keys_int _) (hf := rfl) (hq := fun _ _ _ => trivial) (hk := ?_); intro w4 m4 z4 mp4
    refine TL_nil_z (by kernel_rfl) ?_
    have h3 := h1.ext e13
    have hxo : ∀ b ∈ blkL x.1, w1.heap.size ≤ b := fun b q => by have := (rx.bl b q).1; omega
    have hxab : ∀ b ∈ blkL x.1, b ∉ [m.ab] := fun b q q' => by
      rw [List.mem_singleton] at q'
      have := hxo b q
      have := (h1.old m.ab (by unfold ow; rw [h1.ka]; exact Nat.succ_ne_zero _)).2
      omega
    obtain ⟨f4, h4, n4, k4⟩ := h3.putA (l := l) hnew m4 mp4 ((Own.weaken rx (by omega)).modL m4 hxab) (fun b q => by
      by_cases y : ow f b = 0
      · exact y
      · have := (h1.old b y).2; have := hxo b q; omega)
    have t4 : Tn (ow f) (ow f4) w w4 := by
      refine ⟨⟨[m.ab], ((e1.ext e13).mono (by simp)).trans m4, fun b q => by unfold ow; rw [List.mem_singleton.1 q, h.ka]; exact Nat.succ_ne_zero _⟩, fun b q => ?_, by have := e1.size; omega⟩
      rcases n4 b q with y | y
      · exact .inl y
      · have := hxo b y; have := e1.size; exact .inr (by omega)
    have hd := chk_nodup hck
    clear h1 h3 hb1 ma1 hb2 mp4 m4 r1 e1
    repeat (first | refine T_seq ?_ | refine T_region ?_ | refine T_block ?_ | refine TL_nil ?_ | refine TL_move (hk := ?_) | refine TL_len TE (hk := ?_))
    refine T_loop (ι := Nat) (fun i => [(60, .int .i64 (i : Int)), (59, .int .i64 (n : Int)), (58, .slice A n c), (0, pT m.p), (1, .int .i64 s)])
      (fun i w' => i ≤ n ∧ ∃ m' f', m'.p = m.p ∧ TabM w' base m' f' (qMid t.E s l i) (t.E ++ [(s, l)]) t.nx ∧ Tn (ow f) (ow f') w w') (fun i => n - i) 0 (.c rfl (.c rfl (.c rfl (.c rfl (.c rfl (.n)))))) ⟨Nat.zero_le _, { m with la := mput m.la s x }, f4, rfl, h4.congr (fun k => (qMid_zero _ _ _ k).symm), t4⟩ ?_
    clear h4 t4 n4 k4
    rintro i w5 ⟨hi, m5, f5, hp5, h5, t5⟩ ih
    by_cases hlt : i < n
    · obtain ⟨r5, -⟩ := Rd.tn hr t5 hz
      have t1 := rowV_elem lkV_len l i lk0 (by omega)
      have hqs := qMid_succ t.E s l i (by omega) hd
      have hm : l.getD i lk0 ∈ l := by rw [List.getD_eq_getElem?_getD, List.getElem?_eq_getElem (by omega)]; exact List.getElem_mem _
      obtain ⟨x, hx⟩ : ∃ x, l.getD i lk0 = x := ⟨_, rfl⟩
      rw [hx] at t1 hqs
      have hA : A ≠ none := by obtain ⟨_, _, hq, _⟩ := r5.2 (by omega); rw [hq]; simp
      repeat (first | refine T_seq ?_ | refine T_region ?_ | refine T_cond_true rfl ?_ | refine T_block ?_ | refine T_skip ?_ | refine TL_lt_t (hk := ?_) | refine TL_nil ?_ | refine TL_indexAddrn TE (hk := ?_))
      refine TL_loada TE (cs := lkV x) (hx := rfl) (ht := rfl) (hi := rfl) (hr := r5) (hc := t1) (h0 := Nat.succ_pos _) (hk := ?_)
      --
      refine TL_alloc TE (hk := ?_); intro b6 w6 e6 h6 h6' k6
      --
      refine TL_storea TE (hk := ?_); intro w7 m7 z7 k7
      have z6 := e6.size
      have e57 : Ext w5 w7 := Mod.step e6 m7 (by simp; omega)
      replace k7 : Blk w7 b6 61 (lkV x) := k7
      unfold lkV at k7
      have h7 := h5.ext e57
      have t7 := t5.trans (Tn.ext e57)
      have hb7 := h7.blk
      have mq7 := h7.mq
      unfold tabV at hb7
      rw [hp5] at hb7
      have hrow : ∃ y : SL, (mget m5.lq x.1).getD (none, 0, 0) = y ∧ QRow w7 base y (qMid t.E s l i x.1) ∧ ∀ b ∈ blkL y.1, f5 b = (4, x.1, 0) := by
        cases hq : mget m5.lq x.1 with
        | none =>
          rw [h7.qn _ hq]
          exact ⟨_, rfl, Own.nil _ _ _ _, fun b q => by simp [blkL] at q⟩
        | some y =>
          obtain ⟨a1, a2⟩ := h7.qs _ _ hq
          exact ⟨_, rfl, a1, a2⟩
      obtain ⟨y, hy, ry, fy⟩ := hrow
      have hyl : (qMid t.E s l i x.1).length ≤ N + 1 := by
        have h1 := List.length_filterMap_le (fun e : Ent => (asks e.2 x.1).map fun b => (e.1, b)) (t.E ++ [(s, l.take i)])
        have h2 := ok.ln
        unfold qMid qOf
        simp only [List.length_append, List.length_cons, List.length_nil] at h1
        omega
      have hyl2 : y.2.1 ≤ N + 1 := by have := ry.len; rw [rowV_len akV_len] at this; omega
      have hqy : m5.qb ∉ blkL y.1 := fun q => by have := fy _ q; rw [h7.kq] at this; simp at this
      have hpy : m.p ∉ blkL y.1 := fun q => by have := fy _ q; rw [← hp5, h7.kp] at this; simp at this
      have hby : b6 ∉ blkL y.1 := fun q => by have := (ry.bl _ q).2; have := (h5.old b6 (by unfold ow; rw [fy _ q]; exact Nat.succ_ne_zero _)).2; omega
      have hbw7 := h7.bw.1
      clear k6 r5 h5 m7 e6
      repeat (refine TL_nil ?_)
      refine T_region_anyz TE.mixed (blkL y.1) (some 19) ?_; intro w8 e8 z8
      have hb8 := hb7.be e8
      have k8 := k7.be e8
      have mq8 := mq7.be e8
      (refine TA_take 0 rfl (by kernel_rfl) (by kernel_rfl) (by kernel_rfl) ?_; (repeat (first | refine TL_move (hk := ?_) | refine TLP_load TE (hk := ?_) | refine TL_fieldAddr TE (hk := ?_) | refine TL_nilCheck (hk := ?_))); refine TL_nil_p ?_); (refine TA_take 1 rfl (by kernel_rfl) (by kernel_rfl) (by kernel_rfl) ?_; (repeat (first | refine TL_move (hk := ?_) | refine TLP_load TE (hk := ?_) | refine TL_fieldAddr TE (hk := ?_) | refine TL_nilCheck (hk := ?_))); refine TL_nil_p ?_); (refine TA_take 2 rfl (by kernel_rfl) (by kernel_rfl) (by kernel_rfl) ?_; (repeat (first | refine TL_move (hk := ?_) | refine TLP_load TE (hk := ?_) | refine TL_fieldAddr TE (hk := ?_) | refine TL_nilCheck (hk := ?_))); refine TL_nil_p ?_); (refine TA_take 3 rfl (by kernel_rfl) (by kernel_rfl) (by kernel_rfl) ?_; (repeat (first | refine TL_move (hk := ?_) | refine TLP_load TE (hk := ?_) | refine TL_fieldAddr TE (hk := ?_) | refine TL_nilCheck (hk := ?_))); refine TL_nil_p ?_); (refine TA_take 4 rfl (by kernel_rfl) (by kernel_rfl) (by kernel_rfl) ?_; (repeat (first | refine TL_move (hk := ?_) | refine TLP_load TE (hk := ?_) | refine TL_fieldAddr TE (hk := ?_) | refine TL_nilCheck (hk := ?_))); refine TL_nil_p ?_); (refine TA_take 5 rfl (by kernel_rfl) (by kernel_rfl) (by kernel_rfl) ?_; (repeat (first | refine TL_move (hk := ?_) | refine TLP_load TE (hk := ?_) | refine TL_fieldAddr TE (hk := ?_) | refine TL_nilCheck (hk := ?_))); refine TL_nil_p ?_); (refine TA_take 6 rfl (by kernel_rfl) (by kernel_rfl) (by kernel_rfl) ?_; (repeat (first | refine TL_move (hk := ?_) | refine TLP_load TE (hk := ?_) | refine TL_fieldAddr TE (hk := ?_) | refine TL_nilCheck (hk := ?_))); refine TL_nil_p ?_); (refine TA_take 7 rfl (by kernel_rfl) (by kernel_rfl) (by kernel_rfl) ?_; (repeat (first | refine TL_move (hk := ?_) | refine TLP_load TE (hk := ?_) | refine TL_fieldAddr TE (hk := ?_) | refine TL_nilCheck (hk := ?_))); refine TL_nil_p ?_); (refine TA_take 8 rfl (by kernel_rfl) (by kernel_rfl) (by kernel_rfl) ?_; (repeat (first | refine TL_move (hk := ?_) | refine TLP_load TE (hk := ?_) | refine TL_fieldAddr TE (hk := ?_) | refine TL_nilCheck (hk := ?_))); refine TL_nil_p ?_); (refine TA_take 9 rfl (by kernel_rfl) (by kernel_rfl) (by kernel_rfl) ?_; (repeat (first | refine TL_move (hk := ?_) | refine TLP_load TE (hk := ?_) | refine TL_fieldAddr TE (hk := ?_) | refine TL_nilCheck (hk := ?_))); refine TL_nil_p ?_); (refine TA_take 10 rfl (by kernel_rfl) (by kernel_rfl) (by kernel_rfl) ?_; (repeat (first | refine TL_move (hk := ?_) | refine TLP_load TE (hk := ?_) | refine TL_fieldAddr TE (hk := ?_) | refine TL_nilCheck (hk := ?_))); refine TL_nil_p ?_); (refine TA_take 11 rfl (by kernel_rfl) (by kernel_rfl) (by kernel_rfl) ?_; (repeat (first | refine TL_move (hk := ?_) | refine TLP_load TE (hk := ?_) | refine TL_fieldAddr TE (hk := ?_) | refine TL_nilCheck (hk := ?_))); refine TL_nil_p ?_)
      refine TA_take 12 rfl (by kernel_rfl) (by kernel_rfl) (by kernel_rfl) ?_
      refine TLP_lookup TE ((none, 0, 0) : SL) mq8 hqy (hK := keys_tx) (hk := ?_)
      refine TL_nil_p ?_
      rw [hy]
      (refine TA_take 13 rfl (by kernel_rfl) (by kernel_rfl) (by kernel_rfl) ?_; (repeat (first | refine TL_move (hk := ?_) | refine TLP_load TE (hk := ?_) | refine TL_fieldAddr TE (hk := ?_) | refine TL_build TE (hk := ?_))); refine TL_nil_p ?_); (refine TA_take 14 rfl (by kernel_rfl) (by kernel_rfl) (by kernel_rfl) ?_; (repeat (first | refine TL_move (hk := ?_) | refine TLP_load TE (hk := ?_) | refine TL_fieldAddr TE (hk := ?_) | refine TL_build TE (hk := ?_))); refine TL_nil_p ?_); (refine TA_take 15 rfl (by kernel_rfl) (by kernel_rfl) (by kernel_rfl) ?_; (repeat (first | refine TL_move (hk := ?_) | refine TLP_load TE (hk := ?_) | refine TL_fieldAddr TE (hk := ?_) | refine TL_build TE (hk := ?_))); refine TL_nil_p ?_); (refine TA_take 16 rfl (by kernel_rfl) (by kernel_rfl) (by kernel_rfl) ?_; (repeat (first | refine TL_move (hk := ?_) | refine TLP_load TE (hk := ?_) | refine TL_fieldAddr TE (hk := ?_) | refine TL_build TE (hk := ?_))); refine TL_nil_p ?_)
      refine TA_one 17 rfl (by kernel_rfl) (by kernel_rfl) ?_
      refine TL_buildSliceA TE (hf := rfl) (hq := fun w' h => Ext.un h) (hk := ?_); intro b9 w9 e9 h9 h9' k9
      replace k9 : Blk w9 b9 74 (rowV akV [(s, x.2)]) := k9
      have r9 : Rd w9 (some ⟨b9, 0, none⟩) 1 2 (rowV akV [(s, x.2)]) := Rd.blk k9 rfl
      have e89 := e8.ext e9
      have z89 := e89.size
      refine TL_nil_p ?_
      refine TA_one 18 rfl (by kernel_rfl) (by kernel_rfl) ?_
      refine TL_append TE (ho := Own.be e89 ry) (hr := r9) (h1 := rowV_one akV_one _) (hf := rfl) (hq := fun w' m => (Ext.un e9).trans m) (hk := ?_); intro A10 c10 w10 o10 m10 n10
      rw [← rowV_append] at o10
      refine TL_nil_p ?_
      refine TA_one 19 rfl (by kernel_rfl) (by kernel_rfl) ?_
      have mq10 := (mq8.be e9).mod m10 hqy
      refine TL_mapUpdate TE ((A10, y.2.1 + 1, c10) : SL) (hm := mq10) (hK := keys_tx) (hf := rfl) (hq := fun _ _ _ => trivial) (hk := ?_); intro w11 m11 z11 mp11
      refine TL_nil_z (by kernel_rfl) ?_
      have n10b := Near.mem n10
      have M11 : Eng.Mod (m5.qb :: blkL y.1) w7 w11 := ((e89.mono (S' := m5.qb :: blkL y.1) (by simp)).step m10 (fun b q => .inl (List.mem_cons_of_mem _ q))).step m11 (fun b q => .inl (by rw [List.mem_singleton.1 q]; exact List.mem_cons_self))
      have hqw : m5.qb < w7.heap.size := (h7.old _ (by unfold ow; rw [h7.kq]; exact Nat.succ_ne_zero _)).2
      have hx10 : ∀ b ∈ blkL A10, f5 b = (4, x.1, 0) ∨ w7.heap.size ≤ b := fun b q => (n10b b q).imp (fy b) (fun a => by omega)
      obtain ⟨f12, h12, t12⟩ := h7.setQ M11 (fun b q => by
        rcases List.mem_cons.1 q with rfl | q
        · exact .inl h7.kq
        · exact .inr (fy b q)) mp11 (o10.modL m11 (fun b q q' => by
          rw [List.mem_singleton] at q'
          rcases hx10 b q with a | a
          · rw [q', h7.kq] at a; simp at a
          · omega)) hx10
      repeat (first | refine T_region ?_ | refine T_inBlock ?_ | refine TL_add (hk := ?_) | refine TL_nil ?_ | refine TL_move (hk := ?_))
      exact ih (i + 1) w11 _ (by omega) ⟨by omega, { m5 with lq := mput m5.lq x.1 (A10, y.2.1 + 1, c10) }, f12, hp5, h12.congr (fun k => by
        rw [hqs k]
        by_cases e : k = x.1
        · rw [if_pos e, if_pos e, e]
        · rw [if_neg e, if_neg e]), t7.trans t12⟩ (.c rfl (.c rfl (.c rfl (.c rfl (.c rfl (.n))))))
    · clear ih
      have hin : i = l.length := by omega
      subst hin
      have hb5 := h5.blk
      unfold tabV at hb5
      rw [hp5] at hb5
      repeat (first | refine T_seq ?_ | refine T_region ?_ | refine T_cond_false rfl ?_ | refine T_exit rfl ?_ | refine TL_lt_f (hk := ?_) | refine TL_nil ?_ | refine TL_move (hk := ?_))
      refine TL_add_wrap (hk := ?_)
      repeat (first | refine TL_fieldAddr TE (hk := ?_) | refine TL_nilCheck (hk := ?_))
      refine TL_store TE (hk := ?_); intro w6 m6 z6 k6
      repeat (first | refine T_seq ?_ | refine T_region ?_ | refine TL_nil ?_ | refine TL_assign (hk := ?_))
      rw [← hp5] at m6 k6
      obtain ⟨h6, t6⟩ := h5.num (nx' := bump s) m6 k6
      exact T_ret1 rfl rfl ⟨rfl, m5, f5, hp5, h6.congr (fun k => qMid_end _ _ _ k), t5.trans t6⟩
end
end Go.Proofs.Ytomabcbemokijaa

/- A map by int keys, in the words of the kit's contracts. -/
namespace Go.Proofs.Eng
open Go.RowKit Go.Maps Go.WideElems
set_option linter.unusedSimpArgs false
set_option linter.unusedVariables false
abbrev R0 : Value → Option (DataW Unit × List MemPlace) := fun _ => some (.nil, [])
theorem Mp.owns {α : Type} {P : Program} {k : TypeId} {V : α → Value} {w : World} {b : Nat} {l : List (Int × α)} (hm : Mp w (.int .i64) b (fun z => Value.int .i64 z) V l) (hk : P.underlying k = some (.int .i64))
    (hr : ∀ p ∈ l, -9223372036854775808 ≤ p.1 ∧ p.1 ≤ 9223372036854775807) (hl : l.length ≤ maxLen) :
    ∃ D0 : DataW Unit, w.ownsMap P k R0 b l.length D0 ∧ (intKeys D0).Perm (l.map (·.1)) ∧ Maps.size D0 = l.length := by
  obtain ⟨es, clk, h1, h2, h3⟩ := hm
  have hsz : es.size = l.length := by have := congrArg List.length h3; simpa using this
  have hkey : ∀ z : Int, -9223372036854775808 ≤ z ∧ z ≤ 9223372036854775807 → keyOf P k (.int .i64 z) = some (.int .i64 z) := fun z hz => by
    have hw : (Lit.int .i64 z).wf = true := by
      simp [Lit.wf, IntKind.min, IntKind.max, IntKind.bits, IntKind.signed]
      omega
    simp [keyOf, hk, mapKey, hw]
  have hrd : ∀ x ∈ es.toList, ∃ p ∈ l, rd P k R0 x = some (.int .i64 p.1, .nil) ∧ x.key = .int .i64 p.1 := fun x hx => by
    have h4 : (x.key, x.val) ∈ es.toList.map (fun e => (e.key, e.val)) := List.mem_map.2 ⟨x, hx, rfl⟩
    rw [h3] at h4
    obtain ⟨p, hp, e⟩ := List.mem_map.1 h4
    have e1 : x.key = .int .i64 p.1 := (congrArg Prod.fst e).symm
    exact ⟨p, hp, by simp [rd, e1, hkey p.1 (hr p hp), R0], e1⟩
  have hmap : es.toList.map (rg P k R0) = l.map (fun p => (Lit.int .i64 p.1, DataW.nil)) := by
    have h5 : es.toList.map (rg P k R0) = (es.toList.map (fun e => (e.key, e.val))).map (fun kv => rg P k R0 ⟨kv.1, kv.2, 0⟩) := by
      rw [List.map_map]
      exact List.map_congr_left (fun x _ => rfl)
    rw [h5, h3, List.map_map]
    refine List.map_congr_left (fun p hp => ?_)
    simp [Function.comp, rg, rd, hkey p.1 (hr p hp), R0]
  refine ⟨_, ⟨es, clk, h1, ⟨by omega, h2, fun x hx => ?_⟩, by omega, rfl⟩, ?_, ?_⟩
  · obtain ⟨p, _, e, _⟩ := hrd x hx
    exact ⟨_, e⟩
  · show (List.map (fun p : Lit × DataW Unit => Go.intOf p.1) _).Perm _
    rw [hmap]
    refine ((WideShapes.sorted_perm _).map _).trans ?_
    rw [List.map_map]
    exact List.Perm.of_eq (List.map_congr_left (fun p _ => rfl))
  · rw [hmap]
    show List.length _ = _
    rw [length_sorted]
    simp
end Go.Proofs.Eng

/- The contracts on sorted keys at this program. Written by the tools of the shelf. -/
namespace Go.Proofs
open Go.Shelf
def Try.keysA_ren : Go.Shelf.Ren := ⟨fun | 7 => 42 | 10 => 61 | n => n, fun | 23 => 65 | 26 => 2 | 3 => 28 | 28 => 81 | 0 => 0 | 27 => 80 | 33 => 31 | 4 => 4 | n => n, fun | n => n⟩
theorem Try.keysA : Go.Proofs.SlLaysZI.n7 Try.prog Try.keysA_ren := {
  mixed := by kernel_rfl
  f7 := ⟨Try.f42.name, by decide, Try.func42.trans (congrArg some (by kernel_rfl))⟩
  f10 := ⟨Try.f61.name, by decide, Try.func61.trans (congrArg some (by kernel_rfl))⟩
  t0 := Try.underlying0
  a0 := Try.isAgg0
  z0 := Try.sizeOf0
  v0 := Try.zeroValue0
  t4 := Try.underlying4
  a4 := Try.isAgg4
  z4 := Try.sizeOf4
  v4 := Try.zeroValue4
  t23 := Try.underlying65
  a23 := Try.isAgg65
  z23 := Try.sizeOf65
  v23 := Try.zeroValue65
  t26 := Try.underlying2
  a26 := Try.isAgg2
  z26 := Try.sizeOf2
  v26 := Try.zeroValue2
  t27 := Try.underlying80
  a27 := Try.isAgg80
  z27 := Try.sizeOf80
  v27 := Try.zeroValue80
  t28 := Try.underlying81
  a28 := Try.isAgg81
  z28 := Try.sizeOf81
  v28 := Try.zeroValue81
  t33 := Try.underlying31
  a33 := Try.isAgg31
  z33 := Try.sizeOf31
  v33 := Try.zeroValue31 }
def Try.sortedA_ren : Go.Shelf.Ren := ⟨fun | 6 => 41 | 8 => 60 | 9 => 39 | 11 => 76 | 13 => 59 | 12 => 58 | 23 => 74 | 24 => 75 | 14 => 65 | 15 => 66 | 16 => 67 | 17 => 68 | 18 => 69 | 19 => 70 | 20 => 71 | 21 => 72 | 22 => 73 | 25 => 78 | 26 => 79 | 27 => 80 | 28 => 81 | 29 => 82 | 30 => 83 | 31 => 84 | n => n, fun | 26 => 2 | 28 => 81 | 24 => 43 | 0 => 0 | 3 => 3 | 37 => 100 | 48 => 114 | 50 => 116 | 4 => 4 | 40 => 106 | 39 => 105 | 45 => 111 | 5 => 5 | 9 => 9 | 51 => 118 | 55 => 122 | 57 => 124 | 58 => 125 | 33 => 31 | n => n, fun | n => n⟩
theorem Try.sortedA : Go.Proofs.SlLaysZI.n6 Try.prog Try.sortedA_ren := {
  mixed := by kernel_rfl
  f6 := ⟨Try.f41.name, by decide, Try.func41.trans (congrArg some (by kernel_rfl))⟩
  f8 := ⟨Try.f60.name, by decide, Try.func60.trans (congrArg some (by kernel_rfl))⟩
  f11 := ⟨Try.f76.name, by decide, Try.func76.trans (congrArg some (by kernel_rfl))⟩
  t0 := Try.underlying0
  a0 := Try.isAgg0
  z0 := Try.sizeOf0
  v0 := Try.zeroValue0
  t24 := Try.underlying43
  a24 := Try.isAgg43
  z24 := Try.sizeOf43
  v24 := Try.zeroValue43
  t26 := Try.underlying2
  a26 := Try.isAgg2
  z26 := Try.sizeOf2
  v26 := Try.zeroValue2
  t28 := Try.underlying81
  a28 := Try.isAgg81
  z28 := Try.sizeOf81
  v28 := Try.zeroValue81
  i26 := by kernel_rfl }
end Go.Proofs

namespace Go.Proofs.Ytomabcbemokijaa
open Go.RowKit Go.Proofs.Eng Go.Proofs.Foot Go.Proofs.Locks
set_option linter.unusedSimpArgs false
set_option linter.unusedVariables false set_option maxRecDepth 10000
attribute [local irreducible] T TL LV TH TA
def iv (l : List Int) : List Value := l.map kI
theorem iv_len (l : List Int) : (iv l).length = l.length := by simp [iv]
theorem iv_one (l : List Int) : ∀ u ∈ iv l, u.oneCell' = true := by
  intro u hu
  obtain ⟨b, _, rfl⟩ := List.mem_map.1 hu
  rfl
theorem iv_append (a b : List Int) : iv (a ++ b) = iv a ++ iv b := by simp [iv]
theorem iv_get (l : List Int) (i : Nat) (h : i < l.length) : (iv l)[i]? = some (.int .i64 (l.getD i 0)) := by simp [iv, kI, List.getD_eq_getElem?_getD, List.getElem?_eq_getElem h]
abbrev IRow (w : World) (base : Nat) (x : SL) (l : List Int) : Prop := Own w base 2 1 x.1 x.2.1 x.2.2 (iv l)
abbrev keyF (b : Nat) : Value := .func (.func 61) #[] #[pT b]
theorem KKeys_c (mb : Nat) (w : World) : Ret Try.prog 42 [.map (some mb)] w (fun v w' => v = keyF w.heap.size ∧ w' = w.alloc (.cells #[.map (some mb)] 65)) := by
  refine Calls.mono ((callsIn_wide (n := 5)).1 (AnyZI.keys_in Try.keysA Fence.wide 5 trivial rfl (some mb) w)) ?_
  rintro e w' ⟨rfl, rfl⟩
  exact ⟨rfl, rfl⟩
theorem sorts_c (m : Nat) : AnyZI.SortsIn Try.prog Try.sortedA_ren Fence.wide m :=
  ⟨fun blk off cap ss W hH hblk hsz => callsIn_wide.2 (Try.slices_Sort_int blk off cap ss W hH hblk hsz), fun p cap W => callsIn_wide.2 (Try.slices_Sort_int_none p cap W)⟩
theorem KSorted_c (ab : Nat) (l : List (Int × SL)) (L : List Int) (w : World) (hm : Mp w (.int .i64) ab kI sL l) (hr : ∀ z ∈ L, -9223372036854775808 ≤ z ∧ z ≤ 9223372036854775807) (hl : L.length ≤ 1000000) (hp : (l.map (·.1)).Perm L) (hs : L.Pairwise (· < ·)) :
    Ret Try.prog 41 [keyF w.heap.size] (w.alloc (.cells #[.map (some ab)] 65)) (fun v w' => ∃ x, v = sL x ∧ Ext w w' ∧ IRow w' w.heap.size x L) := by
  have hll : l.length = L.length := by have := hp.length_eq; simpa using this
  obtain ⟨D0, hown, hperm, hsize⟩ := hm.owns (P := Try.prog) (k := 2) Try.underlying2 (fun p hp' => hr p.1 (hp.mem_iff.1 (List.mem_map.2 ⟨p, hp', rfl⟩))) (by rw [hll]; unfold maxLen; omega)
  have hbl := hown.lt
  have hseq : SeqGives Fence.wide 2 Try.prog 61 #[pT w.heap.size] encZ (fun ss => ss.Perm (intKeys D0)) (Maps.size D0) (w.alloc (.cells #[.map (some ab)] 65)) :=
    AnyZI.keys_gives (ρ := Try.keysA_ren) { Try.keysA with } Fence.wide _ trivial rfl (by omega) w.heap.size ab l.length D0 _ (by simp) (by simp) (by
      obtain ⟨es, clock, hb, Ft, hs, hD⟩ := hown
      exact ⟨es, clock, (Below.heap_alloc _ _ ab hbl).trans hb, Ft, hs, hD⟩)
  have cS := AnyZI.sorted_in Try.sortedA Fence.wide 5 trivial trivial trivial trivial rfl (by omega) (sorts_c _) (enters_of Try.func39 (by kernel_rfl) rfl) 61 #[pT w.heap.size] trivial (enters_of Try.func61 (by kernel_rfl) rfl) _ _ (by rw [hsize, hll]; unfold maxLen; omega) (by rw [hsize, hll]; omega) _ hseq
  refine Calls.mono ((callsIn_wide (n := 5)).1 cS) ?_
  rintro e w' ⟨v, ss, rfl, hS, hrow, -, hb⟩
  obtain ⟨A, c, rfl, ho⟩ := own_form hrow
  have hLs : ss.mergeSort leI = L := by
    rw [mergeSort_of_perm_i ((hS.trans hperm).trans hp)]
    exact List.mergeSort_of_pairwise (hs.imp (fun {a b} q => by simp; omega))
  have hsl : ss.length = L.length := ((hS.trans hperm).trans hp).length_eq
  rw [hLs] at ho
  refine ⟨(A, ss.length, c), rfl, ?_, ?_⟩
  · exact (Ext.alloc _ _).ext (Ext.of_below hb)
  · have := Own.weaken (base' := w.heap.size) ho (by simp)
    exact this
section
variable {base N : Nat} {m : LM} {f : Nat → Ow} {t : LS}
theorem TabM.keys {w : World} {Q : Tx → List Akk} {E : List Ent} {nx : Int} (h : TabM w base m f Q E nx) (hn : (E.map (·.1)).Nodup) : (m.la.map (·.1)).Perm (E.map (·.1)) := by
  rw [List.perm_ext_iff_of_nodup h.ld hn]
  intro a
  have h1 := mget_keys m.la a
  have h2 := h.an a
  have h3 : eget E a = none ↔ a ∉ E.map (·.1) := by
    unfold eget
    rw [Option.map_eq_none_iff, List.find?_eq_none]
    simp only [decide_eq_true_eq, List.mem_map, not_exists, not_and]
  constructor
  · intro ha
    apply Decidable.byContradiction
    intro hb
    exact (h1.1 (h2.2 (h3.2 hb))) ha
  · intro ha
    apply Decidable.byContradiction
    intro hb
    exact (h3.1 (h2.1 (h1.2 hb))) ha
theorem All_c (w : World) (h : TabM w base m f (qOf t.E) t.E t.nx) (ok : OkT N t) (hN : N ≤ 100000) :
    Ret Try.prog 23 [pT m.p] w (fun v w' => ∃ x, v = sL x ∧ Ext w w' ∧ IRow w' w.heap.size x (allE t)) := by
  have hb := h.blk
  unfold tabV at hb
  have hp := h.keys (ok.srt.imp (fun {a b} q e => by omega))
  have hln := ok.ln
  have hrg : ∀ z ∈ allE t, -9223372036854775808 ≤ z ∧ z ≤ 9223372036854775807 := fun z hz => by
    obtain ⟨e, he, rfl⟩ := List.mem_map.1 hz
    have := ok.lo e he
    omega
  refine ret_T (n := 11) Try.func23 rfl rfl ?_
  repeat (first | refine T_seq ?_ | refine T_region ?_ | refine T_cond_false rfl ?_ | refine T_skip ?_ | refine TL_pnil_f TE (hk := ?_) | refine TL_nil ?_ | refine TL_move (hk := ?_) | refine TL_assign (hk := ?_) | refine TL_load TE (hk := ?_) | refine TL_fieldAddr TE (hk := ?_) | refine TL_nilCheck (hk := ?_))
  refine TL_call TE (hc := KKeys_c m.ab w) (hk := ?_)
  rintro _ w1 ⟨rfl, rfl⟩
  --
  refine TL_call TE (hc := KSorted_c m.ab m.la (allE t) w h.ma hrg (by unfold allE; simp; omega) hp ok.srt) (hk := ?_)
  rintro _ w2 ⟨x, rfl, e2, rx⟩
  repeat (first | refine TL_nil ?_ | refine TL_assign (hk := ?_))
  exact T_ret1 rfl rfl ⟨x, rfl, e2, rx⟩
theorem Count_c (w : World) (h : TabM w base m f (qOf t.E) t.E t.nx) :
    Ret Try.prog 18 [pT m.p] w (fun v w' => v = .int .i64 (t.E.length : Int) ∧ w' = w) := by
  have hb := h.blk
  unfold tabV at hb
  have ma := h.ma
  rw [← h.al]
  refine ret_T (n := 10) Try.func18 rfl rfl ?_
  repeat (first | refine T_seq ?_ | refine T_region ?_ | refine T_cond_false rfl ?_ | refine T_skip ?_ | refine TL_pnil_f TE (hk := ?_) | refine TL_nil ?_ | refine TL_move (hk := ?_) | refine TL_assign (hk := ?_) | refine TL_load TE (hk := ?_) | refine TL_fieldAddr TE (hk := ?_) | refine TL_nilCheck (hk := ?_) | refine TL_len_m TE (hk := ?_))
  exact T_ret1 rfl rfl ⟨rfl, rfl⟩
end
end Go.Proofs.Ytomabcbemokijaa

namespace Go.Proofs.Ytomabcbemokijaa
open Go.RowKit Go.Proofs.Eng Go.Proofs.Foot Go.Proofs.Locks
set_option linter.unusedSimpArgs false
set_option linter.unusedVariables false set_option maxRecDepth 10000
attribute [local irreducible] T TL LV TH TA
theorem qOf_len {E : List Ent} {k : Tx} : (qOf E k).length ≤ E.length := List.length_filterMap_le _ _
theorem grantN_le (q : List Akk) : grantN q ≤ q.length := by
  unfold grantN
  simp only
  split
  · omega
  · exact (List.takeWhile_sublist _).length_le
theorem placeI_le : ∀ (q : List Akk) (s : Int), -1 ≤ placeI q s ∧ placeI q s < q.length
  | [], s => by simp [placeI]
  | x :: q, s => by
    have ih := placeI_le q s
    unfold placeI
    simp only [List.length_cons]
    split
    · omega
    · split <;> omega
section
variable {base N : Nat} {m : LM} {f : Nat → Ow} {t : LS}
/-- A key's queue, as it lies. -/
theorem TabM.row {w : World} {Q : Tx → List Akk} {E : List Ent} {nx : Int} (h : TabM w base m f Q E nx) (k : Tx) : ∃ y : SL, (mget m.lq k).getD (none, 0, 0) = y ∧ QRow w base y (Q k) ∧ ∀ b ∈ blkL y.1, f b = (4, k, 0) := by
  cases hq : mget m.lq k with
  | none =>
    rw [h.qn _ hq]
    exact ⟨_, rfl, Own.nil _ _ _ _, fun b q => by simp [blkL] at q⟩
  | some y =>
    obtain ⟨a1, a2⟩ := h.qs _ _ hq
    exact ⟨_, rfl, a1, a2⟩
theorem TabM.ask {w : World} {Q : Tx → List Akk} {E : List Ent} {nx : Int} (h : TabM w base m f Q E nx) (s : Int) :
    (eget E s = none ∧ mget m.la s = none) ∨ ∃ l y, eget E s = some l ∧ mget m.la s = some y ∧ LRow w base y l ∧ ∀ b ∈ blkL y.1, f b = (5, [], s) := by
  cases hq : mget m.la s with
  | none => exact .inl ⟨(h.an s).1 hq, rfl⟩
  | some y =>
    obtain ⟨l, a1, a2, a3⟩ := h.sa s y hq
    exact .inr ⟨l, y, a1, rfl, a2, a3⟩
theorem eget_mem {E : List Ent} {s : Int} {l : List Lk} (h : eget E s = some l) : (s, l) ∈ E := by
  unfold eget at h
  rw [Option.map_eq_some_iff] at h
  obtain ⟨e, h1, rfl⟩ := h
  have h2 := List.find?_some h1
  have h3 := List.mem_of_find?_eq_some h1
  simp only [decide_eq_true_eq] at h2
  rw [← h2]
  exact h3
theorem Ready_c (s : Int) (w : World) (h : TabM w base m f (qOf t.E) t.E t.nx) (ok : OkT N t) (hN : N ≤ 100000) :
    Ret Try.prog 12 [pT m.p, .int .i64 s] w (fun v w' => v = .bool (readyE t.E s) ∧ Ext w w') := by
  have hb := h.blk
  unfold tabV at hb
  have ma := h.ma
  have hln := ok.ln
  unfold readyE
  refine ret_T (n := 42) Try.func12 rfl rfl ?_
  repeat (first | refine T_seq ?_ | refine T_region ?_ | refine T_cond_false rfl ?_ | refine T_skip ?_ | refine TL_pnil_f TE (hk := ?_) | refine TL_nil ?_ | refine TL_move (hk := ?_) | refine TL_assign (hk := ?_) | refine TL_load TE (hk := ?_) | refine TL_fieldAddr TE (hk := ?_) | refine TL_nilCheck (hk := ?_))
  refine TL_lookup_ok TE (((none, 0, 0) : SL)) (hk := ?_)
  rcases h.ask s with ⟨h1, h2⟩ | ⟨l, y, h1, h2, ry, fy⟩
  · rw [h1, h2]
    repeat (first | refine T_seq ?_ | refine T_region ?_ | refine T_block ?_ | refine TL_nil ?_ | refine TL_move (hk := ?_) | refine TL_assign (hk := ?_) | refine TL_len TE (hk := ?_) | refine TL_extract (hk := ?_))
    refine T_loop (ι := Unit) (fun _ => [(23, .int .i64 0), (22, .int .i64 0), (6, .bool false)]) (fun _ w' => w' = w) (fun _ => 0) () (.c rfl (.c rfl (.c rfl (.n)))) rfl ?_
    rintro _ w5 rfl -
    repeat (first | refine T_seq ?_ | refine T_region ?_ | refine T_cond_false rfl ?_ | refine T_exit rfl ?_ | refine TL_lt_f (hk := ?_) | refine TL_nil ?_ | refine TL_move (hk := ?_) | refine TL_assign (hk := ?_))
    exact T_ret1 rfl rfl ⟨rfl, Mod.refl _ _⟩
  · rw [h1, h2]
    have hl : l.length = y.2.1 := by have := ry.len; rw [rowV_len lkV_len] at this; omega
    have hlk := ok.lk _ (eget_mem h1)
    simp only at hlk
    repeat (first | refine T_seq ?_ | refine T_region ?_ | refine T_block ?_ | refine TL_nil ?_ | refine TL_move (hk := ?_) | refine TL_assign (hk := ?_) | refine TL_len TE (hk := ?_) | refine TL_extract (hk := ?_))
    refine T_loop (ι := Nat) (fun i => [(23, .int .i64 (i : Int)), (22, .int .i64 (y.2.1 : Int)), (21, sL y), (0, pT m.p), (1, .int .i64 s), (6, .bool true)]) (fun i w' => Ext w w' ∧ i ≤ y.2.1 ∧ ∀ j, j < i → placeI (qOf t.E (l.getD j lk0).1) s < (grantN (qOf t.E (l.getD j lk0).1) : Int)) (fun i => y.2.1 - i) 0 (.c rfl (.c rfl (.c rfl (.c rfl (.c rfl (.c rfl (.n))))))) ⟨Mod.refl _ _, Nat.zero_le _, fun j hj => absurd hj (by omega)⟩ ?_
    rintro i w1 ⟨e1, hi, hu⟩ ih
    by_cases hlt : i < y.2.1
    · have r1 := (Own.be e1 ry).rd
      have hT := h.ext e1
      have t1 := rowV_elem lkV_len l i lk0 (by omega)
      have hm : l.getD i lk0 ∈ l := by rw [List.getD_eq_getElem?_getD, List.getElem?_eq_getElem (by omega)]; exact List.getElem_mem _
      obtain ⟨x, hx⟩ : ∃ x, l.getD i lk0 = x := ⟨_, rfl⟩
      rw [hx] at t1 hm
      have hA : y.1 ≠ none := by obtain ⟨_, _, hq, _⟩ := r1.2 (by omega); rw [hq]; simp
      repeat (first | refine T_seq ?_ | refine T_region ?_ | refine T_cond_true rfl ?_ | refine T_block ?_ | refine T_skip ?_ | refine TL_lt_t (hk := ?_) | refine TL_nil ?_ | refine TL_indexAddrn TE (hk := ?_))
      refine TL_loada TE (cs := lkV x) (hx := rfl) (ht := rfl) (hi := rfl) (hr := r1) (hc := t1) (h0 := Nat.succ_pos _) (hk := ?_)
      --
      refine TL_alloc TE (hk := ?_); intro b2 w2 e2 h2' h2'' k2
      --
      refine TL_storea TE (hk := ?_); intro w3 m3 z3 k3
      have z2 := e2.size
      have e13 : Ext w1 w3 := Mod.step e2 m3 (by simp; omega)
      replace k3 : Blk w3 b2 61 (lkV x) := k3
      unfold lkV at k3
      have h3 := hT.ext e13
      have hb3 := h3.blk
      have mq3 := h3.mq
      unfold tabV at hb3
      obtain ⟨z, hz, rz, fz⟩ := h3.row x.1
      have hzl : z.2.1 ≤ N := by have := rz.len; rw [rowV_len akV_len] at this; have := qOf_len (E := t.E) (k := x.1); omega
      have hgl := grantN_le (qOf t.E x.1)
      have hpl := placeI_le (qOf t.E x.1) s
      have hql := qOf_len (E := t.E) (k := x.1)
      clear k2 r1 m3 e2
      repeat (first | refine T_seq ?_ | refine T_region_q TE.mixed (by kernel_rfl) ?_ | refine TL_nil ?_ | refine TL_move (hk := ?_) | refine TL_load TE (hk := ?_) | refine TL_fieldAddr TE (hk := ?_) | refine TL_nilCheck (hk := ?_))
      refine TL_lookup TE (((none, 0, 0) : SL)) (hk := ?_)
      rw [hz]
      repeat (refine TL_assign (hk := ?_))
      refine TL_nil_q ?_; intro w4 e4
      have rz4 := (Own.be e4 rz).rd
      repeat (first | refine T_seq ?_ | refine T_region ?_ | refine TL_move (hk := ?_))
      refine TL_call TE (hc := place_c z.1 z.2.1 z.2.2 _ s _ rz4 (by omega)) (hk := ?_)
      rintro _ w5 ⟨rfl, e5⟩
      repeat (refine TL_move (hk := ?_))
      refine TL_call TE (hc := granted_c z.1 z.2.1 z.2.2 _ _ (rz4.be e5) (by omega)) (hk := ?_)
      rintro _ w5 ⟨rfl, rfl⟩
      have e05 := ((e1.ext e13).ext e4).ext e5
      by_cases hc : placeI (qOf t.E x.1) s < (grantN (qOf t.E x.1) : Int)
      · repeat (first | refine T_region ?_ | refine T_cond_false rfl ?_ | refine T_inBlock ?_ | refine T_skip ?_ | refine TL_add (hk := ?_) | refine TL_ge_f (hk := ?_) | refine TL_nil ?_ | refine TL_move (hk := ?_))
        exact ih (i + 1) w5 _ (by omega) ⟨e05, by omega, fun j hj => by
          by_cases q : j = i
          · rw [q, hx]; exact hc
          · exact hu j (by omega)⟩ (.c rfl (.c rfl (.c rfl (.c rfl (.c rfl (.c rfl (.n)))))))
      · clear ih
        have hf : readyL t.E s l = false := by
          unfold readyL
          rw [List.all_eq_false]
          exact ⟨x, hm, by simpa using hc⟩
        repeat (first | refine T_seq ?_ | refine T_region ?_ | refine T_cond_true rfl ?_ | refine TL_ge_t (hk := ?_) | refine TL_nil ?_ | refine TL_assign (hk := ?_))
        exact T_ret1 rfl rfl ⟨by simp only [hf], e05⟩
    · clear ih
      have hf : readyL t.E s l = true := by
        unfold readyL
        rw [List.all_eq_true]
        intro x hx
        obtain ⟨j, hj, rfl⟩ := List.mem_iff_getElem.1 hx
        have := hu j (by omega)
        rw [List.getD_eq_getElem?_getD, List.getElem?_eq_getElem hj] at this
        simpa using this
      repeat (first | refine T_seq ?_ | refine T_region ?_ | refine T_cond_false rfl ?_ | refine T_exit rfl ?_ | refine TL_lt_f (hk := ?_) | refine TL_nil ?_ | refine TL_move (hk := ?_) | refine TL_assign (hk := ?_))
      exact T_ret1 rfl rfl ⟨by simp only [hf], e1⟩
end
end Go.Proofs.Ytomabcbemokijaa

/- Own rows of ints behind the kit's sort and compact. -/
namespace Go.Proofs.Eng
open Go.RowKit Go.Sort
set_option linter.unusedSimpArgs false
set_option linter.unusedVariables false
section
variable {w : World} {g n cap base : Nat} {os : Array Obj} {cur : Array Value} {e : TypeId}
theorem holds_blockI {zs : List Int} (hb : w.heap[g]? = some (.cells cur e (0, 0))) (ht : cur.toList.take zs.length = zs.map (Value.int .i64)) : Holds (Value.int .i64) w g 0 zs.toArray := by
  intro j hj
  have hj' : j < zs.length := by simpa using hj
  refine ⟨?_, by simp [World.frozen?, hb]⟩
  have h1 : (cur.toList.take zs.length)[j]? = (zs.map (Value.int .i64))[j]? := by rw [ht]
  rw [List.getElem?_take_of_lt hj'] at h1
  simp only [World.cell?, hb, Nat.zero_add]
  simp only [Option.isSome_none, Bool.false_eq_true, if_false]
  rw [← Array.getElem?_toList, h1]
  simp [hj']
theorem heap_putI (d : Array Int) (hb : w.heap[g]? = some (.cells cur e (0, 0))) : (grow (putRow (Value.int .i64) (Sort.ahead w n) g 0 d) os).heap[g]? = some (.cells (putCells (Value.int .i64) 0 d cur) e (0, 0)) := by
  have hg : g < w.heap.size := (Array.getElem?_eq_some_iff.1 hb).1
  rw [heap_grow_old _ _ (by simpa using hg)]
  simp [putRow, mapBlock, Sort.ahead, Array.getElem?_modify, hb, onCells]
theorem grownBy_putI (d : Array Int) : w.grownBy (grow (putRow (Value.int .i64) (Sort.ahead w n) g 0 d) os) (some g) := by
  refine ⟨rfl, rfl, rfl, by simp, fun k hk hne => ?_⟩
  rw [heap_grow_old _ _ (by simpa using hk)]
  have : g ≠ k := fun e => hne (by rw [e])
  simp [putRow, mapBlock, Sort.ahead, Array.getElem?_modify, this]
theorem take_putI (cur : Array Value) (ts : List Int) (h : ts.length ≤ cur.size) : (putCells (Value.int .i64) 0 ts.toArray cur).toList.take ts.length = ts.map (Value.int .i64) := by
  apply List.ext_getElem?
  intro j
  by_cases hj : j < ts.length
  · rw [List.getElem?_take_of_lt hj, Array.getElem?_toList]
    simp [putCells, hj, show j < cur.size by omega]
  · rw [List.getElem?_take_eq_none (by omega), List.getElem?_eq_none (by simp; omega)]
theorem own_putI {ts : List Int} {k : Nat} (hl : ts.length = k) (hbase : base ≤ g) (hb : w.heap[g]? = some (.cells cur e (0, 0))) (h1 : k ≤ cap) (h2 : cap ≤ maxLen) (h3 : cur.size = cap * 1) :
    Own (grow (putRow (Value.int .i64) (Sort.ahead w n) g 0 ts.toArray) os) base e 1 (some ⟨g, 0, none⟩) k cap (ts.map (Value.int .i64)) :=
  ⟨by simp [hl], .inr ⟨g, cap, _, rfl, hbase, heap_putI _ hb, h1, h2, by simp [putCells, h3], by rw [Nat.mul_one, ← hl]; exact take_putI cur ts (by omega)⟩⟩
end
/-- Of a rising row no number stands twice behind compact, and none is lost. -/
theorem compactUpTo_rise (d : Array Int) (hs : ∀ i j, i ≤ j → j < d.size → d[i]! ≤ d[j]!) : ∀ m, m ≤ d.size → (Lib.compactUpTo d m).Pairwise (· < ·) ∧ (∀ x ∈ Lib.compactUpTo d m, x ≤ d[m - 1]!) ∧ ∀ x, x ∈ Lib.compactUpTo d m ↔ ∃ j, j < m ∧ d[j]! = x
  | 0, _ => by simp [Lib.compactUpTo]
  | m + 1, hm => by
    obtain ⟨h1, h2, h3⟩ := compactUpTo_rise d hs m (by omega)
    rw [Lib.compactUpTo_succ]
    have hle : d[m - 1]! ≤ d[m]! := hs (m - 1) m (by omega) (by omega)
    by_cases hk : Lib.keeps d m = true
    · rw [if_pos hk]
      have hlt : ∀ x ∈ Lib.compactUpTo d m, x < d[m]! := fun x hx => by
        have h4 := h2 x hx
        by_cases h0 : m = 0
        · subst h0; simp [Lib.compactUpTo] at hx
        · have : d[m]! ≠ d[m - 1]! := fun q => by
            rw [Lib.keeps_neg (by omega) q] at hk; cases hk
          omega
      refine ⟨?_, fun x hx => ?_, fun x => ?_⟩
      · rw [List.pairwise_append]
        exact ⟨h1, List.pairwise_singleton _ _, fun a ha b hb => by rw [List.mem_singleton.1 hb]; exact hlt a ha⟩
      · rw [Nat.add_sub_cancel]
        rcases List.mem_append.1 hx with hx | hx
        · have := hlt x hx; omega
        · rw [List.mem_singleton.1 hx]; exact Int.le_refl _
      · rw [List.mem_append, h3, List.mem_singleton]
        constructor
        · rintro (⟨j, hj, e⟩ | rfl)
          · exact ⟨j, by omega, e⟩
          · exact ⟨m, by omega, rfl⟩
        · rintro ⟨j, hj, e⟩
          by_cases q : j = m
          · right; rw [← e, q]
          · exact .inl ⟨j, by omega, e⟩
    · rw [if_neg hk, List.append_nil]
      have hm0 : 0 < m := by
        by_cases h0 : m = 0
        · subst h0; exact absurd (Lib.keeps_lt_one d 0 (by omega)) hk
        · omega
      have he : d[m]! = d[m - 1]! := by
        apply Decidable.byContradiction
        intro q
        exact hk (Lib.keeps_pos q)
      refine ⟨h1, fun x hx => ?_, fun x => ?_⟩
      · rw [Nat.add_sub_cancel, he]; exact h2 x hx
      · rw [h3]
        constructor
        · rintro ⟨j, hj, e⟩
          exact ⟨j, by omega, e⟩
        · rintro ⟨j, hj, e⟩
          by_cases q : j = m
          · exact ⟨m - 1, by omega, by rw [← he, ← e, q]⟩
          · exact ⟨j, by omega, e⟩
theorem rise_unique : ∀ {a b : List Int}, a.Pairwise (· < ·) → b.Pairwise (· < ·) → (∀ x, x ∈ a ↔ x ∈ b) → a = b
  | [], [], _, _, _ => rfl
  | [], y :: b, _, _, h => by have := (h y).2 List.mem_cons_self; cases this
  | x :: a, [], _, _, h => by have := (h x).1 List.mem_cons_self; cases this
  | x :: a, y :: b, h1, h2, h => by
    rw [List.pairwise_cons] at h1 h2
    have hxy : x = y := by
      rcases List.mem_cons.1 ((h x).1 List.mem_cons_self) with e | e
      · exact e
      · rcases List.mem_cons.1 ((h y).2 List.mem_cons_self) with e2 | e2
        · exact e2.symm
        · have := h2.1 x e; have := h1.1 y e2; omega
    subst hxy
    congr 1
    refine rise_unique h1.2 h2.2 (fun z => ⟨fun hz => ?_, fun hz => ?_⟩)
    · rcases List.mem_cons.1 ((h z).1 (List.mem_cons_of_mem _ hz)) with e | e
      · have := h1.1 z hz; omega
      · exact e
    · rcases List.mem_cons.1 ((h z).2 (List.mem_cons_of_mem _ hz)) with e | e
      · have := h2.1 z hz; omega
      · exact e
theorem compact_sorted {zs l : List Int} (hl : l.Pairwise (· < ·)) (hm : ∀ x, x ∈ zs ↔ x ∈ l) : Lib.compact (zs.mergeSort fun x y => decide (x ≤ y)) = l := by
  have tr : ∀ a b c : Int, decide (a ≤ b) = true → decide (b ≤ c) = true → decide (a ≤ c) = true := fun a b c h1 h2 => by simp only [decide_eq_true_eq] at *; omega
  have to : ∀ a b : Int, (decide (a ≤ b) || decide (b ≤ a)) = true := fun a b => by simp only [Bool.or_eq_true, decide_eq_true_eq]; omega
  have hp := List.pairwise_mergeSort tr to zs
  have hmem : ∀ x, x ∈ zs.mergeSort (fun x y => decide (x ≤ y)) ↔ x ∈ zs := fun x => List.mem_mergeSort
  generalize zs.mergeSort (fun x y => decide (x ≤ y)) = d at hp hmem
  have hg : ∀ i (h : i < d.length), d.toArray[i]! = d[i] := fun i h => by simp [getElem!_pos, h]
  obtain ⟨h1, -, h3⟩ := compactUpTo_rise d.toArray (fun i j hij hj => by
    have hj' : j < d.length := by simpa using hj
    rw [hg i (by omega), hg j hj']
    by_cases e : i = j
    · subst e; exact Int.le_refl _
    · have := List.pairwise_iff_getElem.1 hp i j (by omega) hj' (by omega)
      simpa using this) d.toArray.size (Nat.le_refl _)
  have hds : d.toArray.size = d.length := by simp
  rw [hds] at h1 h3
  refine rise_unique h1 hl (fun x => ?_)
  show x ∈ Lib.compactUpTo d.toArray d.length ↔ _
  rw [h3, ← hm, ← hmem, List.mem_iff_getElem]
  constructor
  · rintro ⟨j, hj, e⟩
    exact ⟨j, hj, by rw [← hg j hj]; exact e⟩
  · rintro ⟨j, hj, e⟩
    exact ⟨j, hj, by rw [hg j hj]; exact e⟩
end Go.Proofs.Eng

namespace Go.Proofs.Ytomabcbemokijaa
open Go.RowKit Go.Proofs.Eng Go.Proofs.Foot Go.Proofs.Locks
set_option linter.unusedSimpArgs false
set_option linter.unusedVariables false set_option maxRecDepth 10000
attribute [local irreducible] T TL LV TH TA
def qdV (x : Akk × Bool) : List Value := [.int .i64 x.1.1, .bool x.1.2, .bool x.2]
theorem qdV_len (x : Akk × Bool) : (qdV x).length = 3 := rfl
theorem qdV_one (p : Akk × Bool) : ∀ u ∈ qdV p, u.oneCell' = true := by
  intro u hu
  simp only [qdV, List.mem_cons, List.not_mem_nil, or_false] at hu
  rcases hu with rfl | rfl | rfl <;> rfl
def qd0 : Akk × Bool := (ak0, false)
abbrev QdRow (w : World) (base : Nat) (x : SL) (l : List (Akk × Bool)) : Prop := Own w base 84 3 x.1 x.2.1 x.2.2 (rowV qdV l)
theorem queueE_len (t : LS) (k : Tx) : (queueE t k).length = (qOf t.E k).length := by simp [queueE]
theorem queueE_succ (t : LS) (k : Tx) (i : Nat) (hi : i < (qOf t.E k).length) : (queueE t k).take (i + 1) = (queueE t k).take i ++ [((qOf t.E k).getD i ak0, decide (i < grantN (qOf t.E k)))] := by
  rw [List.take_succ_eq_append_getElem (by rw [queueE_len]; exact hi)]
  congr 2
  simp [queueE, List.getD_eq_getElem?_getD, List.getElem?_eq_getElem hi]
section
variable {base N : Nat} {m : LM} {f : Nat → Ow} {t : LS}
set_option maxHeartbeats 1600000
theorem Queue_c (k : Tx) (w : World) (h : TabM w base m f (qOf t.E) t.E t.nx) (ok : OkT N t) (hN : N ≤ 100000) :
    Ret Try.prog 26 [pT m.p, .string (ofL k)] w (fun v w' => ∃ x, v = sL x ∧ Ext w w' ∧ QdRow w' w.heap.size x (queueE t k)) := by
  have hb := h.blk
  unfold tabV at hb
  have mq := h.mq
  have hln := ok.ln
  obtain ⟨z, hz, rz, fz⟩ := h.row k
  have hqlen := queueE_len t k
  have hqs := queueE_succ t k
  have hgl := grantN_le (qOf t.E k)
  have hql := qOf_len (E := t.E) (k := k)
  generalize hq0 : qOf t.E k = q at rz hqlen hqs hgl hql
  have hzl : q.length = z.2.1 := by have := rz.len; rw [rowV_len akV_len] at this; omega
  refine ret_T (n := 40) Try.func26 rfl rfl ?_
  repeat (first | refine T_seq ?_ | refine T_region ?_ | refine T_cond_false rfl ?_ | refine T_skip ?_ | refine TL_pnil_f TE (hk := ?_) | refine TL_nil ?_ | refine TL_move (hk := ?_) | refine TL_assign (hk := ?_) | refine TL_load TE (hk := ?_) | refine TL_fieldAddr TE (hk := ?_) | refine TL_nilCheck (hk := ?_))
  refine TL_lookup TE (((none, 0, 0) : SL)) (hk := ?_)
  rw [hz]
  repeat (first | refine T_seq ?_ | refine T_region ?_ | refine TL_nil ?_ | refine TL_move (hk := ?_) | refine TL_assign (hk := ?_))
  refine TL_call TE (hc := granted_c z.1 z.2.1 z.2.2 q _ rz.rd (by omega)) (hk := ?_)
  rintro _ w ⟨rfl, rfl⟩
  repeat (first | refine T_seq ?_ | refine T_region ?_ | refine T_block ?_ | refine TL_nil ?_ | refine TL_move (hk := ?_) | refine TL_assign (hk := ?_) | refine TL_len TE (hk := ?_))
  refine T_loop (ι := Nat × SL) (fun i => [(22, .int .i64 (i.1 : Int)), (21, .int .i64 (z.2.1 : Int)), (20, sL z), (6, .int .i64 (grantN q : Int)), (7, sL i.2)]) (fun i w' => Ext w w' ∧ i.1 ≤ z.2.1 ∧ i.2.2.1 = i.1 ∧ QdRow w' w.heap.size i.2 ((queueE t k).take i.1)) (fun i => z.2.1 - i.1) (0, (none, 0, 0)) (.c rfl (.c rfl (.c rfl (.c rfl (.c rfl (.n)))))) ⟨Mod.refl _ _, Nat.zero_le _, rfl, Own.nil _ _ _ _⟩ ?_
  rintro ⟨i, x⟩ w1 ⟨e1, hi, hxl, rx⟩ ih
  simp only at hi hxl rx ih ⊢
  by_cases hlt : i < z.2.1
  · have r1 := (Own.be e1 rz).rd
    have t1 := rowV_elem akV_len q i ak0 (by omega)
    have hqs := hqs i (by omega)
    obtain ⟨a, ha⟩ : ∃ a, q.getD i ak0 = a := ⟨_, rfl⟩
    rw [ha] at t1 hqs
    have hA : z.1 ≠ none := by obtain ⟨_, _, hq, _⟩ := r1.2 (by omega); rw [hq]; simp
    have z1 := e1.size
    repeat (first | refine T_seq ?_ | refine T_region ?_ | refine T_cond_true rfl ?_ | refine T_block ?_ | refine T_skip ?_ | refine TL_lt_t (hk := ?_) | refine TL_nil ?_ | refine TL_move (hk := ?_) | refine TL_indexAddrn TE (hk := ?_))
    refine TL_loada TE (cs := akV a) (hx := rfl) (ht := rfl) (hi := rfl) (hr := r1) (hc := t1) (h0 := Nat.succ_pos _) (hk := ?_)
    --
    refine TL_alloc TE (hk := ?_); intro b2 w2 e2 h2' h2'' k2
    repeat (refine TL_assign (hk := ?_))
    refine TL_storea TE (hk := ?_); intro w3 m3 z3 k3
    have z2 := e2.size
    have e13 : Ext w1 w3 := Mod.step e2 m3 (by simp; omega)
    replace k3 : Blk w3 b2 74 (akV a) := k3
    unfold akV at k3
    have rx3 := Own.be e13 rx
    have z13 := e13.size
    clear k2 r1 m3 e2 rx
    by_cases hg : i < grantN q
    · have hg' : (i : Int) < (grantN q : Int) := by omega
      rw [decide_eq_true hg] at hqs
      repeat (first | refine T_region ?_ | refine TL_lt_t (hk := ?_) | refine TL_nil ?_ | refine TL_move (hk := ?_) | refine TL_load TE (hk := ?_) | refine TL_fieldAddr TE (hk := ?_) | refine TL_build TE (hk := ?_))
      refine TL_buildSliceA TE (hk := ?_); intro b4 w4 e4 h4 h4' k4
      replace k4 : Blk w4 b4 84 (rowV qdV [(a, true)]) := k4
      have r4 : Rd w4 (some ⟨b4, 0, none⟩) 1 3 (rowV qdV [(a, true)]) := Rd.blk k4 rfl
      have z4 := e4.size
      --
      refine TL_append TE (ho := Own.be e4 rx3) (hr := r4) (h1 := rowV_one qdV_one _) (hk := ?_); intro A5 c5 w5 o5 m5 n5
      rw [← rowV_append, ← hqs] at o5
      repeat (first | refine T_region ?_ | refine T_inBlock ?_ | refine TL_add (hk := ?_) | refine TL_nil ?_ | refine TL_move (hk := ?_) | refine TL_assign (hk := ?_))
      exact ih (i + 1, (A5, x.2.1 + 1, c5)) w5 _ (by simp only; omega) ⟨Mod.own ((e1.ext e13).ext e4) m5 rx3.hi, by simp only; omega, by simp only; omega, o5⟩ (.c rfl (.c rfl (.c rfl (.c rfl (.c rfl (.n))))))
    · have hg' : ¬ (i : Int) < (grantN q : Int) := by omega
      rw [decide_eq_false hg] at hqs
      repeat (first | refine T_region ?_ | refine TL_lt_f (hk := ?_) | refine TL_nil ?_ | refine TL_move (hk := ?_) | refine TL_load TE (hk := ?_) | refine TL_fieldAddr TE (hk := ?_) | refine TL_build TE (hk := ?_))
      refine TL_buildSliceA TE (hk := ?_); intro b4 w4 e4 h4 h4' k4
      replace k4 : Blk w4 b4 84 (rowV qdV [(a, false)]) := k4
      have r4 : Rd w4 (some ⟨b4, 0, none⟩) 1 3 (rowV qdV [(a, false)]) := Rd.blk k4 rfl
      have z4 := e4.size
      --
      refine TL_append TE (ho := Own.be e4 rx3) (hr := r4) (h1 := rowV_one qdV_one _) (hk := ?_); intro A5 c5 w5 o5 m5 n5
      rw [← rowV_append, ← hqs] at o5
      repeat (first | refine T_region ?_ | refine T_inBlock ?_ | refine TL_add (hk := ?_) | refine TL_nil ?_ | refine TL_move (hk := ?_) | refine TL_assign (hk := ?_))
      exact ih (i + 1, (A5, x.2.1 + 1, c5)) w5 _ (by simp only; omega) ⟨Mod.own ((e1.ext e13).ext e4) m5 rx3.hi, by simp only; omega, by simp only; omega, o5⟩ (.c rfl (.c rfl (.c rfl (.c rfl (.c rfl (.n))))))
  · clear ih
    have hin : i = (queueE t k).length := by omega
    rw [hin, List.take_length] at rx
    repeat (first | refine T_seq ?_ | refine T_region ?_ | refine T_cond_false rfl ?_ | refine T_exit rfl ?_ | refine TL_lt_f (hk := ?_) | refine TL_nil ?_ | refine TL_move (hk := ?_) | refine TL_assign (hk := ?_))
    exact T_ret1 rfl rfl ⟨x, rfl, e1, rx⟩
def heldU (l : List (Akk × Bool)) (i : Nat) : List Int := ((l.take i).filter (·.2)).map (·.1.1)
theorem heldU_succ (l : List (Akk × Bool)) (i : Nat) (hi : i < l.length) : heldU l (i + 1) = heldU l i ++ (if (l.getD i qd0).2 = true then [(l.getD i qd0).1.1] else []) := by
  unfold heldU
  have hg : l.getD i qd0 = l[i] := by rw [List.getD_eq_getElem?_getD, List.getElem?_eq_getElem hi]; rfl
  rw [List.take_succ_eq_append_getElem hi, List.filter_append, List.map_append, hg]
  congr 1
  by_cases e : l[i].2 = true <;> simp [e]
theorem Held_c (k : Tx) (w : World) (h : TabM w base m f (qOf t.E) t.E t.nx) (ok : OkT N t) (hN : N ≤ 100000) :
    Ret Try.prog 27 [pT m.p, .string (ofL k)] w (fun v w' => ∃ x, v = sL x ∧ Ext w w' ∧ IRow w' w.heap.size x (heldE t k)) := by
  have hln := ok.ln
  have hql := qOf_len (E := t.E) (k := k)
  have hqlen := queueE_len t k
  refine ret_T (n := 25) Try.func27 rfl rfl ?_
  repeat (first | refine T_seq ?_ | refine T_region ?_ | refine TL_nil ?_ | refine TL_move (hk := ?_) | refine TL_assign (hk := ?_))
  refine TL_call TE (hc := Queue_c k w h ok hN) (hk := ?_)
  rintro _ w1 ⟨z, rfl, e1, rz⟩
  have hzl : (queueE t k).length = z.2.1 := by have := rz.len; rw [rowV_len qdV_len] at this; omega
  have hend : heldU (queueE t k) (queueE t k).length = heldE t k := by unfold heldU heldE; rw [List.take_length]
  have hsu := heldU_succ (queueE t k)
  generalize queueE t k = q at rz hzl hend hsu hqlen
  have z1 := e1.size
  repeat (first | refine T_block ?_ | refine TL_nil ?_ | refine TL_move (hk := ?_) | refine TL_len TE (hk := ?_))
  refine T_loop (ι := Nat × SL) (fun i => [(12, .int .i64 (i.1 : Int)), (11, .int .i64 (z.2.1 : Int)), (10, sL z), (5, sL i.2)]) (fun i w' => Ext w1 w' ∧ i.1 ≤ z.2.1 ∧ i.2.2.1 ≤ i.1 ∧ IRow w' w1.heap.size i.2 (heldU q i.1)) (fun i => z.2.1 - i.1) (0, (none, 0, 0)) (.c rfl (.c rfl (.c rfl (.c rfl (.n))))) ⟨Mod.refl _ _, Nat.zero_le _, Nat.le_refl _, Own.nil _ _ _ _⟩ ?_
  rintro ⟨i, x⟩ w2 ⟨e2, hi, hxl, rx⟩ ih
  simp only at hi hxl rx ih ⊢
  have hE := e1.ext e2
  have zE := hE.size
  have z2s := e2.size
  by_cases hlt : i < z.2.1
  · have r1 := (Own.be e2 rz).rd
    have t1 := rowV_elem qdV_len q i qd0 (by omega)
    have hsu := hsu i (by omega)
    obtain ⟨a, ha⟩ : ∃ a, q.getD i qd0 = a := ⟨_, rfl⟩
    rw [ha] at t1 hsu
    have hA : z.1 ≠ none := by obtain ⟨_, _, hq, _⟩ := r1.2 (by omega); rw [hq]; simp
    repeat (first | refine T_seq ?_ | refine T_region ?_ | refine T_cond_true rfl ?_ | refine T_block ?_ | refine T_skip ?_ | refine TL_lt_t (hk := ?_) | refine TL_nil ?_ | refine TL_indexAddrn TE (hk := ?_))
    refine TL_loada TE (cs := qdV a) (hx := rfl) (ht := rfl) (hi := rfl) (hr := r1) (hc := t1) (h0 := Nat.succ_pos _) (hk := ?_)
    --
    refine TL_alloc TE (hk := ?_); intro b2 w3 e3 h2' h2'' k2
    --
    refine TL_storea TE (hk := ?_); intro w4 m4 z4 k4
    have z3 := e3.size
    have e24 : Ext w2 w4 := Mod.step e3 m4 (by simp; omega)
    replace k4 : Blk w4 b2 84 (qdV a) := k4
    unfold qdV at k4
    have rx4 := Own.be e24 rx
    have z24 := e24.size
    clear k2 r1 m4 e3 rx
    by_cases hg : a.2 = true
    · rw [hg] at k4
      rw [if_pos hg] at hsu
      repeat (first | refine T_seq ?_ | refine T_region ?_ | refine T_cond_true rfl ?_ | refine TL_nil ?_ | refine TL_move (hk := ?_) | refine TL_load TE (hk := ?_) | refine TL_fieldAddr TE (hk := ?_))
      refine TL_buildSlice TE (hk := ?_); intro b5 w5 e5 h5 h5' k5
      replace k5 : Blk w5 b5 2 (iv [a.1.1]) := k5
      have r5 : Rd w5 (some ⟨b5, 0, none⟩) 1 1 (iv [a.1.1]) := Rd.blk k5 rfl
      have z5 := e5.size
      --
      refine TL_append TE (ho := Own.be e5 rx4) (hr := r5) (h1 := iv_one _) (hk := ?_); intro A6 c6 w6 o6 m6 n6
      rw [← iv_append, ← hsu] at o6
      repeat (first | refine T_region ?_ | refine T_inBlock ?_ | refine TL_add (hk := ?_) | refine TL_nil ?_ | refine TL_move (hk := ?_) | refine TL_assign (hk := ?_))
      have hE6 : Ext w1 w6 := Mod.own ((e2.ext e24).ext e5) m6 rx4.hi
      exact ih (i + 1, (A6, x.2.1 + 1, c6)) w6 _ (by simp only; omega) ⟨hE6, by simp only; omega, by simp only; omega, o6⟩ (.c rfl (.c rfl (.c rfl (.c rfl (.n)))))
    · have hg' : a.2 = false := by simpa using hg
      rw [hg'] at k4
      rw [if_neg hg, List.append_nil] at hsu
      rw [← hsu] at rx4
      repeat (first | refine T_seq ?_ | refine T_region ?_ | refine T_cond_false rfl ?_ | refine T_inBlock ?_ | refine T_skip ?_ | refine TL_add (hk := ?_) | refine TL_nil ?_ | refine TL_move (hk := ?_) | refine TL_load TE (hk := ?_) | refine TL_fieldAddr TE (hk := ?_))
      exact ih (i + 1, x) w4 _ (by simp only; omega) ⟨e2.ext e24, by simp only; omega, by simp only; omega, rx4⟩ (.c rfl (.c rfl (.c rfl (.c rfl (.n)))))
  · clear ih
    have hin : i = q.length := by omega
    rw [hin, hend] at rx
    repeat (first | refine T_seq ?_ | refine T_region ?_ | refine T_cond_false rfl ?_ | refine T_exit rfl ?_ | refine TL_lt_f (hk := ?_) | refine TL_nil ?_ | refine TL_move (hk := ?_) | refine TL_assign (hk := ?_))
    exact T_ret1 rfl rfl ⟨x, rfl, hE, Own.weaken rx z1⟩
end
end Go.Proofs.Ytomabcbemokijaa

/- The lock table: who is ready, for whom one waits. -/
namespace Go.Proofs.Ytomabcbemokijaa
open Go.RowKit Go.Proofs.Eng Go.Proofs.Foot Go.Proofs.Locks
set_option linter.unusedSimpArgs false
set_option linter.unusedVariables false set_option maxRecDepth 10000
attribute [local irreducible] T TL LV TH TA
/-- Those ahead of a number. -/
def aheadE (E : List Ent) (s : Int) : List Ent := E.takeWhile fun e => !decide (e.1 = s)
theorem split_at {E : List Ent} {s : Int} {l : List Lk} (h : eget E s = some l) : ∃ E2, E = aheadE E s ++ (s, l) :: E2 ∧ ∀ e ∈ aheadE E s, e.1 ≠ s := by
  induction E with
  | nil => cases h
  | cons e E ih =>
    unfold eget at h
    rw [List.find?_cons] at h
    by_cases q : e.1 = s
    · simp only [q, decide_true, Option.map_some, Option.some.injEq] at h
      refine ⟨E, ?_, ?_⟩
      · unfold aheadE
        rw [List.takeWhile_cons]
        simp [q, ← h]
        rw [← q]
      · unfold aheadE
        rw [List.takeWhile_cons]
        simp [q]
    · simp only [q, decide_false] at h
      obtain ⟨E2, h1, h2⟩ := ih h
      refine ⟨E2, ?_, ?_⟩
      · unfold aheadE at h1 ⊢
        rw [List.takeWhile_cons]
        simp only [q, decide_false, Bool.not_false, if_true, List.cons_append]
        rw [← h1]
      · intro x hx
        unfold aheadE at hx h2
        rw [List.takeWhile_cons] at hx
        simp only [q, decide_false, Bool.not_false, if_true] at hx
        rcases List.mem_cons.1 hx with rfl | hx
        · exact q
        · exact h2 x hx
theorem qOf_seq {E : List Ent} {k : Tx} {a : Akk} (h : a ∈ qOf E k) : ∃ e ∈ E, e.1 = a.1 ∧ asks e.2 k = some a.2 := by
  unfold qOf at h
  rw [List.mem_filterMap] at h
  obtain ⟨e, he, h⟩ := h
  rw [Option.map_eq_some_iff] at h
  obtain ⟨b, hb, rfl⟩ := h
  exact ⟨e, he, rfl, hb⟩
theorem qOf_mem {E : List Ent} {k : Tx} {e : Ent} {b : Bool} (he : e ∈ E) (h : asks e.2 k = some b) : (e.1, b) ∈ qOf E k := by
  unfold qOf
  rw [List.mem_filterMap]
  exact ⟨e, he, by rw [h]; rfl⟩
theorem asks_mem {l : List Lk} (hn : (l.map (·.1)).Nodup) {x : Lk} (hx : x ∈ l) : asks l x.1 = some x.2 := by
  induction l with
  | nil => cases hx
  | cons y l ih =>
    rw [List.map_cons, List.nodup_cons] at hn
    unfold asks
    rw [List.find?_cons]
    rcases List.mem_cons.1 hx with rfl | hx
    · simp
    · have : ¬ y.1 = x.1 := fun q => hn.1 (by rw [q]; exact List.mem_map.2 ⟨x, hx, rfl⟩)
      simp only [this, decide_false]
      exact ih hn.2 hx
theorem placeI_app {q1 : List Akk} {s : Int} (h : ∀ a ∈ q1, a.1 ≠ s) (b : Bool) (q2 : List Akk) : placeI (q1 ++ (s, b) :: q2) s = q1.length := by
  induction q1 with
  | nil => simp [placeI]
  | cons a q1 ih =>
    have h0 := h a List.mem_cons_self
    have ih := ih (fun x hx => h x (List.mem_cons_of_mem _ hx))
    simp only [List.cons_append, placeI, h0, if_false, ih]
    rw [if_neg (by omega)]
    simp
theorem grant_iff (q1 q2 : List Akk) (s : Int) (b : Bool) : q1.length < grantN (q1 ++ (s, b) :: q2) ↔ ∀ a ∈ q1, (b || a.2) = false := by
  unfold grantN
  simp only
  have hlen : 0 < (q1 ++ (s, b) :: q2).length := by simp; omega
  cases q1 with
  | nil =>
    simp only [List.nil_append, List.length_nil, List.not_mem_nil, false_imp_iff, implies_true, iff_true]
    rw [List.nil_append] at hlen
    split <;> omega
  | cons a q1 =>
    have key : ∀ (p : List Akk), ((p ++ (s, b) :: q2).takeWhile fun x => !x.2).length > p.length ↔ b = false ∧ ∀ a ∈ p, a.2 = false := by
      intro p
      induction p with
      | nil =>
        rw [List.nil_append, List.takeWhile_cons]
        cases b <;> simp
      | cons y p ih =>
        rw [List.cons_append, List.takeWhile_cons]
        cases hy : y.2 with
        | true => simp [hy]
        | false =>
          simp only [Bool.not_false, if_true, List.length_cons, List.forall_mem_cons, hy, true_and]
          rw [← ih]
          omega
    have hk := key (a :: q1)
    have hr : (∀ x ∈ a :: q1, (b || x.2) = false) ↔ b = false ∧ ∀ x ∈ a :: q1, x.2 = false := by
      constructor
      · intro h
        refine ⟨?_, fun x hx => ?_⟩
        · have := h a List.mem_cons_self; simp at this; exact this.1
        · have := h x hx; simp at this; exact this.2
      · rintro ⟨h1, h2⟩ x hx
        simp [h1, h2 x hx]
    rw [hr, ← hk]
    generalize ((a :: q1 ++ (s, b) :: q2).takeWhile fun x => !x.2).length = n
    split
    · rename_i g
      simp only [List.length_cons]
      omega
    · exact Iff.rfl
def wPart (E : List Ent) (s : Int) (x : Lk) : List Int := if placeI (qOf E x.1) s < (grantN (qOf E x.1) : Int) then [] else (((qOf E x.1).take (placeI (qOf E x.1) s).toNat).filter fun a => x.2 || a.2).map (·.1)
def wAcc (E : List Ent) (s : Int) (l : List Lk) : List Int := l.flatMap (wPart E s)
section
variable {E : List Ent} {s : Int} {l : List Lk}
theorem qOf_split (h : eget E s = some l) (hn : (l.map (·.1)).Nodup) {x : Lk} (hx : x ∈ l) : ∃ q2, qOf E x.1 = qOf (aheadE E s) x.1 ++ (s, x.2) :: q2 ∧ ∀ a ∈ qOf (aheadE E s) x.1, a.1 ≠ s := by
  obtain ⟨E2, h1, h2⟩ := split_at h
  refine ⟨qOf E2 x.1, ?_, fun a ha => ?_⟩
  · conv => lhs; rw [h1]
    rw [qOf_append, show (s, l) :: E2 = [(s, l)] ++ E2 from rfl, qOf_append, qOf_single, asks_mem hn hx]
    rfl
  · obtain ⟨e, he, e1, _⟩ := qOf_seq ha
    rw [← e1]
    exact h2 e he
theorem ready_one (h : eget E s = some l) (hn : (l.map (·.1)).Nodup) {x : Lk} (hx : x ∈ l) : placeI (qOf E x.1) s < (grantN (qOf E x.1) : Int) ↔ ∀ a ∈ qOf (aheadE E s) x.1, (x.2 || a.2) = false := by
  obtain ⟨q2, h1, h2⟩ := qOf_split h hn hx
  rw [h1, placeI_app h2, ← grant_iff _ q2 s]
  omega
theorem clashL_iff {a l : List Lk} : clashL a l = true ↔ ∃ x ∈ l, ∃ b, asks a x.1 = some b ∧ (b || x.2) = true := by
  unfold clashL
  rw [List.any_eq_true]
  constructor
  · rintro ⟨x, hx, h⟩
    cases hq : asks a x.1 with
    | none => rw [hq] at h; cases h
    | some b => rw [hq] at h; exact ⟨x, hx, b, hq, h⟩
  · rintro ⟨x, hx, b, h1, h2⟩
    exact ⟨x, hx, by rw [h1]; exact h2⟩
/-- One is ready just if nobody ahead of it clashes with it. -/
theorem ready_iff (h : eget E s = some l) (hn : (l.map (·.1)).Nodup) : readyE E s = true ↔ ∀ e ∈ aheadE E s, clashL e.2 l = false := by
  unfold readyE
  rw [h]
  simp only [readyL, List.all_eq_true, decide_eq_true_eq]
  constructor
  · intro g e he
    cases hq : clashL e.2 l with
    | false => rfl
    | true =>
      obtain ⟨x, hx, b, h1, h2⟩ := clashL_iff.1 hq
      have := (ready_one h hn hx).1 (g x hx) _ (qOf_mem he h1)
      simp only at this
      rw [Bool.or_comm] at this
      rw [this] at h2
      cases h2
  · intro g x hx
    refine (ready_one h hn hx).2 (fun a ha => ?_)
    obtain ⟨e, he, e1, e2⟩ := qOf_seq ha
    cases hq : (x.2 || a.2) with
    | false => rfl
    | true =>
      have h3 : clashL e.2 l = true := clashL_iff.2 ⟨x, hx, a.2, e2, by rw [Bool.or_comm]; exact hq⟩
      rw [g e he] at h3
      cases h3
theorem wPart_eq (h : eget E s = some l) (hn : (l.map (·.1)).Nodup) {x : Lk} (hx : x ∈ l) : wPart E s x = ((qOf (aheadE E s) x.1).filter fun a => x.2 || a.2).map (·.1) := by
  unfold wPart
  by_cases g : placeI (qOf E x.1) s < (grantN (qOf E x.1) : Int)
  · rw [if_pos g]
    have := (ready_one h hn hx).1 g
    rw [List.filter_eq_nil_iff.2 (fun a ha => by rw [this a ha]; decide)]
    rfl
  · rw [if_neg g]
    obtain ⟨q2, h1, h2⟩ := qOf_split h hn hx
    rw [h1, placeI_app h2]
    simp
theorem wAcc_mem (h : eget E s = some l) (hn : (l.map (·.1)).Nodup) (y : Int) : y ∈ wAcc E s l ↔ y ∈ ((aheadE E s).filter fun e => clashL e.2 l).map (·.1) := by
  unfold wAcc
  rw [List.mem_flatMap, List.mem_map]
  constructor
  · rintro ⟨x, hx, hy⟩
    rw [wPart_eq h hn hx, List.mem_map] at hy
    obtain ⟨a, ha, rfl⟩ := hy
    rw [List.mem_filter] at ha
    obtain ⟨e, he, e1, e2⟩ := qOf_seq ha.1
    exact ⟨e, List.mem_filter.2 ⟨he, clashL_iff.2 ⟨x, hx, a.2, e2, by rw [Bool.or_comm]; exact ha.2⟩⟩, e1⟩
  · rintro ⟨e, he, rfl⟩
    rw [List.mem_filter] at he
    obtain ⟨x, hx, b, h1, h2⟩ := clashL_iff.1 he.2
    refine ⟨x, hx, ?_⟩
    rw [wPart_eq h hn hx, List.mem_map]
    exact ⟨(e.1, b), List.mem_filter.2 ⟨qOf_mem he.1 h1, by simp only; rw [Bool.or_comm]; exact h2⟩, rfl⟩
theorem waitsE_srt {t : LS} (hs : (t.E.map (·.1)).Pairwise (· < ·)) (s : Int) : (waitsE t s).Pairwise (· < ·) := by
  unfold waitsE
  cases eget t.E s with
  | none => exact List.Pairwise.nil
  | some l => exact hs.sublist (((List.filter_sublist).trans (List.takeWhile_sublist _)).map _)
theorem waits_sorted {t : LS} (h : eget t.E s = some l) (hn : (l.map (·.1)).Nodup) (hs : (t.E.map (·.1)).Pairwise (· < ·)) : Lib.compact ((wAcc t.E s l).mergeSort fun x y => decide (x ≤ y)) = waitsE t s := by
  refine compact_sorted (waitsE_srt hs s) (fun x => ?_)
  rw [wAcc_mem h hn]
  unfold waitsE
  rw [h]
  exact Iff.rfl
end
end Go.Proofs.Ytomabcbemokijaa

namespace Go.Proofs.Ytomabcbemokijaa
open Go.RowKit Go.Proofs.Eng Go.Proofs.Foot Go.Proofs.Locks
set_option linter.unusedSimpArgs false
set_option linter.unusedVariables false set_option maxRecDepth 10000
attribute [local irreducible] T TL LV TH TA
theorem ISort_c (A : Option Addr) (n c base : Nat) (l : List Int) (w : World) (h : Own w base 2 1 A n c (iv l)) (hn : n ≤ 70368744177000) :
    Ret Try.prog 39 [.slice A n c] w (fun v w' => v = .tuple #[] ∧ Eng.Mod (blkL A) w w' ∧ Own w' base 2 1 A n c (iv (l.mergeSort fun x y => decide (x ≤ y)))) := by
  have hl : l.length = n := by have := h.len; rw [iv_len] at this; omega
  by_cases h0 : n = 0
  · subst h0
    have hl0 : l = [] := List.length_eq_zero_iff.1 hl
    subst hl0
    refine Calls.mono (Try.slices_Sort_int_none A c w) ?_
    rintro e w' ⟨rfl, rfl⟩
    exact ⟨rfl, Mod.refl _ _, by simpa using h⟩
  · rcases h.2 with ⟨_, h2⟩ | ⟨g, cap, cur, hv, hg, hb, h1, h2, h3, h4⟩
    · exact absurd h2 h0
    · cases hv
      subst hl
      refine Calls.mono (Try.slices_Sort_int g 0 c l w (holds_blockI hb (by have h5 := h4; rw [Nat.mul_one] at h5; exact h5)) (Array.getElem?_eq_some_iff.1 hb).1 (by omega)) ?_
      rintro e w' ⟨rfl, m, os, rfl⟩
      refine ⟨rfl, Mod.of_grown (grownBy_putI _), ?_⟩
      exact own_putI (List.length_mergeSort _) hg hb h1 h2 h3
theorem compact_len (l : List Int) : (Lib.compact l).length ≤ l.length := by
  unfold Lib.compact Lib.compactUpTo
  rw [List.length_map]
  refine Nat.le_trans (List.length_filter_le _ _) ?_
  simp
theorem ICompact_c (A : Option Addr) (n c base : Nat) (l : List Int) (w : World) (h : Own w base 2 1 A n c (iv l)) (hn : n ≤ 70368744177000) :
    Ret Try.prog 40 [.slice A n c] w (fun v w' => v = .slice A (Lib.compact l).length c ∧ Eng.Mod (blkL A) w w' ∧ Own w' base 2 1 A (Lib.compact l).length c (iv (Lib.compact l))) := by
  have hl : l.length = n := by have := h.len; rw [iv_len] at this; omega
  by_cases h0 : n = 0
  · subst h0
    have hl0 : l = [] := List.length_eq_zero_iff.1 hl
    subst hl0
    refine Calls.mono (Try.slices_Compact_int_empty A c w) ?_
    rintro e w' ⟨rfl, rfl⟩
    exact ⟨rfl, Mod.refl _ _, h⟩
  · rcases h.2 with ⟨_, h2⟩ | ⟨g, cap, cur, hv, hg, hb, h1, h2, h3, h4⟩
    · exact absurd h2 h0
    · cases hv
      subst hl
      have hcl := compact_len l
      refine Calls.mono (Try.slices_Compact_int g 0 c l w (holds_blockI hb (by have h5 := h4; rw [Nat.mul_one] at h5; exact h5)) (by omega) h1) ?_
      rintro e w' ⟨rfl, q, rfl⟩
      have hln : (Lib.compact l ++ List.replicate (l.length - (Lib.compact l).length) 0).length = l.length := by simp; omega
      have hgr := grownBy_putI (w := w) (g := g) (n := q) (os := #[]) (Lib.compact l ++ List.replicate (l.length - (Lib.compact l).length) 0).toArray
      have ho := own_putI (n := q) (os := #[]) hln hg hb h1 h2 h3
      rw [Sort.grow_empty] at hgr ho
      have ho2 := ho.shrink (n' := (Lib.compact l).length) (by omega)
      rw [Nat.mul_one, List.map_append, List.take_append_of_le_length (by simp), List.take_of_length_le (by simp)] at ho2
      exact ⟨rfl, Mod.of_grown hgr, ho2⟩
section
variable {base N : Nat} {m : LM} {f : Nat → Ow} {t : LS}
set_option maxHeartbeats 1600000
def rdyU (E : List Ent) (l : List Int) (i : Nat) : List Int := (l.take i).filter (readyE E)
theorem rdyU_succ (E : List Ent) (l : List Int) (i : Nat) (hi : i < l.length) : rdyU E l (i + 1) = rdyU E l i ++ (if readyE E (l.getD i 0) = true then [l.getD i 0] else []) := by
  unfold rdyU
  have hg : l.getD i 0 = l[i] := by rw [List.getD_eq_getElem?_getD, List.getElem?_eq_getElem hi]; rfl
  rw [List.take_succ_eq_append_getElem hi, List.filter_append, hg]
  congr 1
  by_cases e : readyE E l[i] = true <;> simp [e]
theorem Readies_c (w : World) (h : TabM w base m f (qOf t.E) t.E t.nx) (ok : OkT N t) (hN : N ≤ 100000) :
    Ret Try.prog 22 [pT m.p] w (fun v w' => ∃ x, v = sL x ∧ Ext w w' ∧ IRow w' w.heap.size x (readiesE t)) := by
  have hln := ok.ln
  refine ret_T (n := 22) Try.func22 rfl rfl ?_
  repeat (first | refine T_seq ?_ | refine T_region ?_ | refine TL_nil ?_ | refine TL_move (hk := ?_) | refine TL_assign (hk := ?_))
  refine TL_call TE (hc := All_c w h ok hN) (hk := ?_)
  rintro _ w1 ⟨z, rfl, e1, rz⟩
  have hal : (allE t).length = t.E.length := by simp [allE]
  have hzl : (allE t).length = z.2.1 := by have := rz.len; rw [iv_len] at this; omega
  have hend : rdyU t.E (allE t) (allE t).length = readiesE t := by unfold rdyU readiesE; rw [List.take_length]
  have hsu := rdyU_succ t.E (allE t)
  have h1 := h.ext e1
  generalize allE t = q at rz hzl hend hsu hal
  have z1 := e1.size
  repeat (first | refine T_block ?_ | refine TL_nil ?_ | refine TL_move (hk := ?_) | refine TL_len TE (hk := ?_))
  refine T_loop (ι := Nat × SL) (fun i => [(9, .int .i64 (i.1 : Int)), (8, .int .i64 (z.2.1 : Int)), (7, sL z), (0, pT m.p), (3, sL i.2)]) (fun i w' => Ext w1 w' ∧ i.1 ≤ z.2.1 ∧ i.2.2.1 ≤ i.1 ∧ IRow w' w1.heap.size i.2 (rdyU t.E q i.1)) (fun i => z.2.1 - i.1) (0, (none, 0, 0)) (.c rfl (.c rfl (.c rfl (.c rfl (.c rfl (.n)))))) ⟨Mod.refl _ _, Nat.zero_le _, Nat.le_refl _, Own.nil _ _ _ _⟩ ?_
  rintro ⟨i, x⟩ w2 ⟨e2, hi, hxl, rx⟩ ih
  simp only at hi hxl rx ih ⊢
  have hE := e1.ext e2
  have zE := hE.size
  have z2s := e2.size
  by_cases hlt : i < z.2.1
  · have r1 := (Own.be e2 rz).rd
    have hv := iv_get q i (by omega)
    have hsu := hsu i (by omega)
    obtain ⟨a, ha⟩ : ∃ a, q.getD i 0 = a := ⟨_, rfl⟩
    rw [ha] at hv hsu
    have hA : z.1 ≠ none := by obtain ⟨_, _, hq, _⟩ := r1.2 (by omega); rw [hq]; simp
    repeat (first | refine T_seq ?_ | refine T_region ?_ | refine T_cond_true rfl ?_ | refine T_block ?_ | refine T_skip ?_ | refine TL_lt_t (hk := ?_) | refine TL_nil ?_ | refine TL_move (hk := ?_) | refine TL_assign (hk := ?_) | refine TL_load_rd TE (hk := ?_) | refine TL_indexAddr1n TE (hk := ?_))
    refine TL_call TE (hc := Ready_c a _ (h1.ext e2) ok hN) (hk := ?_)
    rintro _ w3 ⟨rfl, e3⟩
    have rx3 := Own.be e3 rx
    have z3 := e3.size
    clear r1 rx
    by_cases hg : readyE t.E a = true
    · rw [hg]
      rw [if_pos hg] at hsu
      repeat (first | refine T_region ?_ | refine T_cond_true rfl ?_ | refine TL_nil ?_ | refine TL_move (hk := ?_))
      refine TL_buildSlice TE (hk := ?_); intro b5 w5 e5 h5 h5' k5
      replace k5 : Blk w5 b5 2 (iv [a]) := k5
      have r5 : Rd w5 (some ⟨b5, 0, none⟩) 1 1 (iv [a]) := Rd.blk k5 rfl
      have z5 := e5.size
      --
      refine TL_append TE (ho := Own.be e5 rx3) (hr := r5) (h1 := iv_one _) (hk := ?_); intro A6 c6 w6 o6 m6 n6
      rw [← iv_append, ← hsu] at o6
      repeat (first | refine T_region ?_ | refine T_inBlock ?_ | refine TL_add (hk := ?_) | refine TL_nil ?_ | refine TL_move (hk := ?_) | refine TL_assign (hk := ?_))
      exact ih (i + 1, (A6, x.2.1 + 1, c6)) w6 _ (by simp only; omega) ⟨Mod.own ((e2.ext e3).ext e5) m6 rx3.hi, by simp only; omega, by simp only; omega, o6⟩ (.c rfl (.c rfl (.c rfl (.c rfl (.c rfl (.n))))))
    · have hg' : readyE t.E a = false := by simpa using hg
      rw [hg']
      rw [if_neg hg, List.append_nil] at hsu
      rw [← hsu] at rx3
      repeat (first | refine T_region ?_ | refine T_cond_false rfl ?_ | refine T_inBlock ?_ | refine T_skip ?_ | refine TL_add (hk := ?_) | refine TL_nil ?_ | refine TL_move (hk := ?_))
      exact ih (i + 1, x) w3 _ (by simp only; omega) ⟨e2.ext e3, by simp only; omega, by simp only; omega, rx3⟩ (.c rfl (.c rfl (.c rfl (.c rfl (.c rfl (.n))))))
  · clear ih
    have hin : i = q.length := by omega
    rw [hin, hend] at rx
    repeat (first | refine T_seq ?_ | refine T_region ?_ | refine T_cond_false rfl ?_ | refine T_exit rfl ?_ | refine TL_lt_f (hk := ?_) | refine TL_nil ?_ | refine TL_move (hk := ?_) | refine TL_assign (hk := ?_))
    exact T_ret1 rfl rfl ⟨x, rfl, hE, Own.weaken rx z1⟩
def qU (x : Lk) (q : List Akk) (i : Nat) : List Int := ((q.take i).filter fun a => x.2 || a.2).map (·.1)
theorem qU_succ (x : Lk) (q : List Akk) (i : Nat) (hi : i < q.length) : qU x q (i + 1) = qU x q i ++ (if (x.2 || (q.getD i ak0).2) = true then [(q.getD i ak0).1] else []) := by
  unfold qU
  have hg : q.getD i ak0 = q[i] := by rw [List.getD_eq_getElem?_getD, List.getElem?_eq_getElem hi]; rfl
  rw [List.take_succ_eq_append_getElem hi, List.filter_append, List.map_append, hg]
  congr 1
  by_cases e : (x.2 || q[i].2) = true <;> simp [e]
theorem wAcc_succ (E : List Ent) (s : Int) (l : List Lk) (i : Nat) (hi : i < l.length) : wAcc E s (l.take (i + 1)) = wAcc E s (l.take i) ++ wPart E s (l.getD i lk0) := by
  unfold wAcc
  have hg : l.getD i lk0 = l[i] := by rw [List.getD_eq_getElem?_getD, List.getElem?_eq_getElem hi]; rfl
  rw [List.take_succ_eq_append_getElem hi, List.flatMap_append, hg]
  simp
theorem wPart_len (E : List Ent) (s : Int) (x : Lk) : (wPart E s x).length ≤ E.length := by
  unfold wPart
  split
  · simp
  · rw [List.length_map]
    exact Nat.le_trans (List.length_filter_le _ _) (Nat.le_trans (List.length_take_le' _ _) qOf_len)
theorem wAcc_len (E : List Ent) (s : Int) : ∀ l : List Lk, (wAcc E s l).length ≤ l.length * E.length
  | [] => by simp [wAcc]
  | x :: l => by
    have ih := wAcc_len E s l
    have h1 := wPart_len E s x
    have e : wAcc E s (x :: l) = wPart E s x ++ wAcc E s l := by simp [wAcc]
    rw [e, List.length_append, List.length_cons, Nat.succ_mul]
    omega
theorem qU_len (x : Lk) (q : List Akk) (i : Nat) : (qU x q i).length ≤ q.length := by
  unfold qU
  rw [List.length_map]
  exact Nat.le_trans (List.length_filter_le _ _) (List.length_take_le' _ _)
theorem Waits_c (s : Int) (w : World) (h : TabM w base m f (qOf t.E) t.E t.nx) (ok : OkT N t) (hN : N ≤ 100000) :
    Ret Try.prog 21 [pT m.p, .int .i64 s] w (fun v w' => ∃ x, v = sL x ∧ Ext w w' ∧ IRow w' w.heap.size x (waitsE t s)) := by
  have hb := h.blk
  unfold tabV at hb
  have ma := h.ma
  have hln := ok.ln
  refine ret_T (n := 64) Try.func21 rfl rfl ?_
  repeat (first | refine T_seq ?_ | refine T_region ?_ | refine T_cond_false rfl ?_ | refine T_skip ?_ | refine TL_pnil_f TE (hk := ?_) | refine TL_nil ?_ | refine TL_move (hk := ?_) | refine TL_assign (hk := ?_) | refine TL_load TE (hk := ?_) | refine TL_fieldAddr TE (hk := ?_) | refine TL_nilCheck (hk := ?_))
  refine TL_lookup TE (((none, 0, 0) : SL)) (hk := ?_)
  have hpre : ∃ l z, (mget m.la s).getD ((none, 0, 0) : SL) = z ∧ LRow w base z l ∧ l.length ≤ 1000000 ∧ Lib.compact ((wAcc t.E s l).mergeSort fun x y => decide (x ≤ y)) = waitsE t s := by
    rcases h.ask s with ⟨h1, h2⟩ | ⟨l, y, h1, h2, ry, fy⟩
    · rw [h2]
      exact ⟨[], _, rfl, Own.nil _ _ _ _, by simp, by unfold waitsE; rw [h1]; simp [wAcc, Lib.compact, Lib.compactUpTo]⟩
    · rw [h2]
      exact ⟨l, y, rfl, ry, ok.lk _ (eget_mem h1), waits_sorted h1 (chk_nodup (ok.ky _ (eget_mem h1))) ok.srt⟩
  obtain ⟨l, z, hz, rz, hlk, hend⟩ := hpre
  rw [hz]
  have hl : l.length = z.2.1 := by have := rz.len; rw [rowV_len lkV_len] at this; omega
  have hwl : ∀ i, (wAcc t.E s (l.take i)).length ≤ 100000000000 := fun i => by
    have h1 := wAcc_len t.E s (l.take i)
    have h2 : (l.take i).length ≤ 1000000 := Nat.le_trans (List.length_take_le' _ _) hlk
    have h3 : (l.take i).length * t.E.length ≤ 1000000 * 100000 := Nat.mul_le_mul h2 (by omega)
    omega
  repeat (first | refine T_block ?_ | refine TL_nil ?_ | refine TL_move (hk := ?_) | refine TL_len TE (hk := ?_))
  refine T_loop (ι := Nat × SL) (fun i => [(21, .int .i64 (i.1 : Int)), (20, .int .i64 (z.2.1 : Int)), (19, sL z), (0, pT m.p), (1, .int .i64 s), (5, sL i.2)]) (fun i w' => Ext w w' ∧ i.1 ≤ z.2.1 ∧ IRow w' w.heap.size i.2 (wAcc t.E s (l.take i.1))) (fun i => z.2.1 - i.1) (0, (none, 0, 0)) (.c rfl (.c rfl (.c rfl (.c rfl (.c rfl (.c rfl (.n))))))) ⟨Mod.refl _ _, Nat.zero_le _, Own.nil _ _ _ _⟩ ?_
  rintro ⟨i, x⟩ w1 ⟨e1, hi, rx⟩ ih
  simp only at hi rx ih ⊢
  have z1 := e1.size
  by_cases hlt : i < z.2.1
  · have r1 := (Own.be e1 rz).rd
    have hT := h.ext e1
    have t1 := rowV_elem lkV_len l i lk0 (by omega)
    have hws := wAcc_succ t.E s l i (by omega)
    obtain ⟨a, ha⟩ : ∃ a, l.getD i lk0 = a := ⟨_, rfl⟩
    rw [ha] at t1 hws
    have hA : z.1 ≠ none := by obtain ⟨_, _, hq, _⟩ := r1.2 (by omega); rw [hq]; simp
    repeat (first | refine T_seq ?_ | refine T_region ?_ | refine T_cond_true rfl ?_ | refine T_block ?_ | refine T_skip ?_ | refine TL_lt_t (hk := ?_) | refine TL_nil ?_ | refine TL_indexAddrn TE (hk := ?_))
    refine TL_loada TE (cs := lkV a) (hx := rfl) (ht := rfl) (hi := rfl) (hr := r1) (hc := t1) (h0 := Nat.succ_pos _) (hk := ?_)
    --
    refine TL_alloc TE (hk := ?_); intro b2 w2 e2 h2' h2'' k2
    --
    refine TL_storea TE (hk := ?_); intro w3 m3 z3 k3
    have z2 := e2.size
    have e13 : Ext w1 w3 := Mod.step e2 m3 (by simp; omega)
    replace k3 : Blk w3 b2 61 (lkV a) := k3
    unfold lkV at k3
    have h3 := hT.ext e13
    have hb3 := h3.blk
    have mq3 := h3.mq
    unfold tabV at hb3
    have hxb : b2 ∉ blkL x.1 := fun q => by have := (rx.bl b2 q).2; omega
    obtain ⟨y, hy, ry0, fy⟩ := h.row a.1
    have ry := Own.be (e1.ext e13) ry0
    have hql := qOf_len (E := t.E) (k := a.1)
    have hgl := grantN_le (qOf t.E a.1)
    have hpl := placeI_le (qOf t.E a.1) s
    have hwp : wPart t.E s a = if placeI (qOf t.E a.1) s < (grantN (qOf t.E a.1) : Int) then [] else qU a (qOf t.E a.1) (placeI (qOf t.E a.1) s).toNat := rfl
    have hqu := qU_succ a (qOf t.E a.1)
    generalize qOf t.E a.1 = q at ry0 ry hql hgl hpl hwp hqu
    have hyl : q.length = y.2.1 := by have := ry.len; rw [rowV_len akV_len] at this; omega
    have rx3 := Own.be e13 rx
    clear k2 r1 m3 e2 rx
    repeat (first | refine T_seq ?_ | refine T_region_q TE.mixed (by kernel_rfl) ?_ | refine TL_nil ?_ | refine TL_move (hk := ?_) | refine TL_load TE (hk := ?_) | refine TL_fieldAddr TE (hk := ?_) | refine TL_nilCheck (hk := ?_))
    refine TL_lookup TE (((none, 0, 0) : SL)) (hk := ?_)
    rw [hy]
    repeat (refine TL_assign (hk := ?_))
    refine TL_nil_q ?_; intro w4 e4
    have ry4 := (Own.be e4 ry).rd
    have k4 := k3.be e4
    have rx4 := Own.be e4 rx3
    clear k3 rx3
    repeat (first | refine T_seq ?_ | refine T_region ?_ | refine TL_move (hk := ?_))
    refine TL_call TE (hc := place_c y.1 y.2.1 y.2.2 _ s _ ry4 (by omega)) (hk := ?_)
    rintro _ w5 ⟨rfl, e5⟩
    have ry5 := ry4.be e5
    have k5 := k4.be e5
    have rx5 := Own.be e5 rx4
    have hyc := (Own.be e5 (Own.be e4 ry)).cap.1
    clear ry4 k4 rx4
    repeat (first | refine T_seq ?_ | refine T_region ?_ | refine TL_nil ?_ | refine TL_move (hk := ?_) | refine TL_assign (hk := ?_))
    refine TL_call TE (hc := granted_c y.1 y.2.1 y.2.2 _ _ ry5 (by omega)) (hk := ?_)
    rintro _ w5 ⟨rfl, rfl⟩
    have e15 := (e13.ext e4).ext e5
    have e05 := e1.ext e15
    have z15 := e15.size
    by_cases hc : placeI q s < (grantN q : Int)
    · rw [hwp, if_pos hc, List.append_nil] at hws
      rw [← hws] at rx5
      repeat (first | refine T_region ?_ | refine T_cond_true rfl ?_ | refine T_exit rfl ?_ | refine TL_add (hk := ?_) | refine TL_lt_t (hk := ?_) | refine TL_nil ?_ | refine TL_move (hk := ?_))
      exact ih (i + 1, x) w5 _ (by simp only; omega) ⟨e05, by simp only; omega, rx5⟩ (.c rfl (.c rfl (.c rfl (.c rfl (.c rfl (.c rfl (.n)))))))
    · rw [hwp, if_neg hc] at hws
      obtain ⟨pn, hpn⟩ := Int.eq_ofNat_of_zero_le (show 0 ≤ placeI q s by omega)
      rw [hpn] at hws hpl
      rw [hpn]
      have hpn2 : ((pn : Nat) : Int).toNat = pn := rfl
      rw [hpn2] at hws
      have hpi : (pn : Int) ≤ (y.2.2 : Int) := by omega
      have hgi : ¬ (pn : Int) < (grantN q : Int) := by omega
      have hpl2 : pn ≤ q.length := by omega
      clear hpl hc hgl
      repeat (first | refine T_seq ?_ | refine T_region ?_ | refine T_cond_false rfl ?_ | refine T_block ?_ | refine T_skip ?_ | refine TL_lt_f (hk := ?_) | refine TL_nil ?_ | refine TL_move (hk := ?_) | refine TL_len TE (hk := ?_) | refine TL_slice_hi TE (hk := ?_))
      refine T_loop (ι := Nat × SL) (fun j => [(43, .int .i64 (j.1 : Int)), (42, .int .i64 (pn : Int)), (41, .slice y.1 pn y.2.2), (7, pT b2), (21, .int .i64 (i : Int)), (20, .int .i64 (z.2.1 : Int)), (19, sL z), (0, pT m.p), (1, .int .i64 s), (5, sL j.2)])
        (fun j w' => Ext w w' ∧ Blk w' b2 61 [.string (ofL a.1), .bool a.2] ∧ b2 < w'.heap.size ∧ b2 ∉ blkL j.2.1 ∧ j.1 ≤ pn ∧ IRow w' w.heap.size j.2 (wAcc t.E s (l.take i) ++ qU a q j.1)) (fun j => pn - j.1) (0, x) (.c rfl (.c rfl (.c rfl (.c rfl (.c rfl (.c rfl (.c rfl (.c rfl (.c rfl (.c rfl (.n))))))))))) ⟨e05, k5, k5.lt, hxb, Nat.zero_le _, by simpa [qU] using rx5⟩ ?_
      rintro ⟨j, u⟩ w6 ⟨e6, k6, hb6, hub, hj, ru⟩ ih2
      simp only at hub hj ru ih2 ⊢
      have hul : u.2.1 ≤ 100000200000 := by
        have h1 := ru.len
        rw [iv_len, List.length_append] at h1
        have h2 := hwl i
        have h3 := qU_len a q j
        omega
      have z6 := e6.size
      by_cases hjl : j < pn
      · have r6 := Rd.take (h := pn) (Own.be e6 ry0).rd (by omega)
        rw [rowV_take akV_len] at r6
        have t6 := rowV_elem akV_len (q.take pn) j ak0 (by simp; omega)
        have hgt : (q.take pn).getD j ak0 = q.getD j ak0 := by simp [List.getD_eq_getElem?_getD, List.getElem?_take_of_lt hjl]
        rw [hgt] at t6
        have hqu := hqu j (by omega)
        obtain ⟨c, hcc⟩ : ∃ c, q.getD j ak0 = c := ⟨_, rfl⟩
        rw [hcc] at t6 hqu
        have hB : y.1 ≠ none := by obtain ⟨_, _, hq, _⟩ := r6.2 (by omega); rw [hq]; simp
        have hjlt : (j : Int) < (pn : Int) := by omega
        repeat (first | refine T_seq ?_ | refine T_region ?_ | refine T_cond_true rfl ?_ | refine T_block ?_ | refine T_skip ?_ | refine TL_lt_t (hk := ?_) | refine TL_nil ?_ | refine TL_indexAddrn TE (hk := ?_))
        refine TL_loada TE (cs := akV c) (hx := rfl) (ht := rfl) (hi := rfl) (hr := r6) (hc := t6) (h0 := Nat.succ_pos _) (hk := ?_)
        --
        refine TL_alloc TE (hk := ?_); intro b7 w7 e7 h7 h7' k7
        --
        refine TL_storea TE (hk := ?_); intro w8 m8 z8 k8
        have z7 := e7.size
        have e68 : Ext w6 w8 := Mod.step e7 m8 (by simp; omega)
        replace k8 : Blk w8 b7 74 (akV c) := k8
        unfold akV at k8
        have k68 := k6.be e68
        have ru8 := Own.be e68 ru
        have z68 := e68.size
        clear k7 m8 e7 r6 k6 ru
        by_cases ctruetrue : a.2 = true ∧ c.2 = true
        · obtain ⟨qa, qc⟩ := ctruetrue
          rw [qa] at k68
          rw [qc] at k8
          rw [qa, qc, if_pos (by decide)] at hqu
          repeat (first | refine T_seq ?_ | refine T_region ?_ | refine T_cond_true rfl ?_ | refine TL_nil ?_ | refine TL_move (hk := ?_) | refine TL_load TE (hk := ?_) | refine TL_fieldAddr TE (hk := ?_) | refine TL_no (hk := ?_) | refine TL_pick_t (hk := ?_))
          refine TL_buildSlice TE (hk := ?_); intro b9 w9 e9 h9 h9' k9
          replace k9 : Blk w9 b9 2 (iv [c.1]) := k9
          have r9 : Rd w9 (some ⟨b9, 0, none⟩) 1 1 (iv [c.1]) := Rd.blk k9 rfl
          have z9 := e9.size
          --
          refine TL_append TE (ho := Own.be e9 ru8) (hr := r9) (h1 := iv_one _) (hk := ?_); intro A10 c10 w10 o10 m10 n10
          rw [← iv_append, List.append_assoc, ← hqu] at o10
          have hb10 : b2 ∉ blkL A10 := fun q => by
            rcases Near.mem n10 b2 q with q | q
            · exact hub q
            · omega
          repeat (first | refine T_region ?_ | refine T_inBlock ?_ | refine TL_add (hk := ?_) | refine TL_nil ?_ | refine TL_move (hk := ?_) | refine TL_assign (hk := ?_))
          exact ih2 (j + 1, (A10, u.2.1 + 1, c10)) w10 _ (by simp only; omega) ⟨Mod.own ((e6.ext e68).ext e9) m10 ru8.hi, by rw [qa]; exact (k68.be e9).mod m10 hub, by have := m10.size; omega, hb10, by simp only; omega, o10⟩ (.c rfl (.c rfl (.c rfl (.c rfl (.c rfl (.c rfl (.c rfl (.c rfl (.c rfl (.c rfl (.n)))))))))))
        by_cases ctruefalse : a.2 = true ∧ c.2 = false
        · obtain ⟨qa, qc⟩ := ctruefalse
          rw [qa] at k68
          rw [qc] at k8
          rw [qa, qc, if_pos (by decide)] at hqu
          repeat (first | refine T_seq ?_ | refine T_region ?_ | refine T_cond_true rfl ?_ | refine TL_nil ?_ | refine TL_move (hk := ?_) | refine TL_load TE (hk := ?_) | refine TL_fieldAddr TE (hk := ?_) | refine TL_no (hk := ?_) | refine TL_pick_t (hk := ?_))
          refine TL_buildSlice TE (hk := ?_); intro b9 w9 e9 h9 h9' k9
          replace k9 : Blk w9 b9 2 (iv [c.1]) := k9
          have r9 : Rd w9 (some ⟨b9, 0, none⟩) 1 1 (iv [c.1]) := Rd.blk k9 rfl
          have z9 := e9.size
          --
          refine TL_append TE (ho := Own.be e9 ru8) (hr := r9) (h1 := iv_one _) (hk := ?_); intro A10 c10 w10 o10 m10 n10
          rw [← iv_append, List.append_assoc, ← hqu] at o10
          have hb10 : b2 ∉ blkL A10 := fun q => by
            rcases Near.mem n10 b2 q with q | q
            · exact hub q
            · omega
          repeat (first | refine T_region ?_ | refine T_inBlock ?_ | refine TL_add (hk := ?_) | refine TL_nil ?_ | refine TL_move (hk := ?_) | refine TL_assign (hk := ?_))
          exact ih2 (j + 1, (A10, u.2.1 + 1, c10)) w10 _ (by simp only; omega) ⟨Mod.own ((e6.ext e68).ext e9) m10 ru8.hi, by rw [qa]; exact (k68.be e9).mod m10 hub, by have := m10.size; omega, hb10, by simp only; omega, o10⟩ (.c rfl (.c rfl (.c rfl (.c rfl (.c rfl (.c rfl (.c rfl (.c rfl (.c rfl (.c rfl (.n)))))))))))
        by_cases cfalsetrue : a.2 = false ∧ c.2 = true
        · obtain ⟨qa, qc⟩ := cfalsetrue
          rw [qa] at k68
          rw [qc] at k8
          rw [qa, qc, if_pos (by decide)] at hqu
          repeat (first | refine T_seq ?_ | refine T_region ?_ | refine T_cond_true rfl ?_ | refine TL_nil ?_ | refine TL_move (hk := ?_) | refine TL_load TE (hk := ?_) | refine TL_fieldAddr TE (hk := ?_) | refine TL_yes (hk := ?_) | refine TL_pick_f (hk := ?_))
          refine TL_buildSlice TE (hk := ?_); intro b9 w9 e9 h9 h9' k9
          replace k9 : Blk w9 b9 2 (iv [c.1]) := k9
          have r9 : Rd w9 (some ⟨b9, 0, none⟩) 1 1 (iv [c.1]) := Rd.blk k9 rfl
          have z9 := e9.size
          --
          refine TL_append TE (ho := Own.be e9 ru8) (hr := r9) (h1 := iv_one _) (hk := ?_); intro A10 c10 w10 o10 m10 n10
          rw [← iv_append, List.append_assoc, ← hqu] at o10
          have hb10 : b2 ∉ blkL A10 := fun q => by
            rcases Near.mem n10 b2 q with q | q
            · exact hub q
            · omega
          repeat (first | refine T_region ?_ | refine T_inBlock ?_ | refine TL_add (hk := ?_) | refine TL_nil ?_ | refine TL_move (hk := ?_) | refine TL_assign (hk := ?_))
          exact ih2 (j + 1, (A10, u.2.1 + 1, c10)) w10 _ (by simp only; omega) ⟨Mod.own ((e6.ext e68).ext e9) m10 ru8.hi, by rw [qa]; exact (k68.be e9).mod m10 hub, by have := m10.size; omega, hb10, by simp only; omega, o10⟩ (.c rfl (.c rfl (.c rfl (.c rfl (.c rfl (.c rfl (.c rfl (.c rfl (.c rfl (.c rfl (.n)))))))))))
        have qa : a.2 = false := by
          cases q1 : a.2 with
          | false => rfl
          | true => cases q2 : c.2 with
            | true => exact absurd ⟨q1, q2⟩ ctruetrue
            | false => exact absurd ⟨q1, q2⟩ ctruefalse
        have qc : c.2 = false := by
          cases q2 : c.2 with
          | false => rfl
          | true => exact absurd ⟨qa, q2⟩ cfalsetrue
        rw [qa] at k68
        rw [qc] at k8
        rw [qa, qc, if_neg (by decide), List.append_nil] at hqu
        rw [← hqu] at ru8
        repeat (first | refine T_seq ?_ | refine T_region ?_ | refine T_cond_false rfl ?_ | refine T_inBlock ?_ | refine T_skip ?_ | refine TL_add (hk := ?_) | refine TL_nil ?_ | refine TL_move (hk := ?_) | refine TL_load TE (hk := ?_) | refine TL_fieldAddr TE (hk := ?_) | refine TL_yes (hk := ?_) | refine TL_pick_f (hk := ?_))
        exact ih2 (j + 1, u) w8 _ (by simp only; omega) ⟨e6.ext e68, by rw [qa]; exact k68, by omega, hub, by simp only; omega, ru8⟩ (.c rfl (.c rfl (.c rfl (.c rfl (.c rfl (.c rfl (.c rfl (.c rfl (.c rfl (.c rfl (.n)))))))))))
      · clear ih2
        have hjn : j = pn := by omega
        subst hjn
        rw [← hws] at ru
        repeat (first | refine T_seq ?_ | refine T_region ?_ | refine T_cond_false rfl ?_ | refine T_inBlock ?_ | refine T_exit rfl ?_ | refine TL_add (hk := ?_) | refine TL_lt_f (hk := ?_) | refine TL_nil ?_ | refine TL_move (hk := ?_))
        exact ih (i + 1, u) w6 _ (by simp only; omega) ⟨e6, by simp only; omega, ru⟩ (.c rfl (.c rfl (.c rfl (.c rfl (.c rfl (.c rfl (.n)))))))
  · clear ih
    have hin : i = l.length := by omega
    rw [hin, List.take_length] at rx
    have hxl := rx.len
    rw [iv_len] at hxl
    have hwll := hwl l.length
    rw [List.take_length] at hwll
    repeat (first | refine T_seq ?_ | refine T_region ?_ | refine T_cond_false rfl ?_ | refine T_exit rfl ?_ | refine TL_lt_f (hk := ?_) | refine TL_nil ?_ | refine TL_move (hk := ?_))
    refine TL_call TE (hc := ISort_c x.1 x.2.1 x.2.2 _ _ _ rx (by omega)) (hk := ?_)
    rintro _ w2 ⟨rfl, m2, o2⟩
    repeat (first | refine T_seq ?_ | refine T_region ?_ | refine TL_nil ?_ | refine TL_move (hk := ?_))
    refine TL_call TE (hc := ICompact_c x.1 x.2.1 x.2.2 _ _ _ o2 (by omega)) (hk := ?_)
    rintro _ w3 ⟨rfl, m3, o3⟩
    rw [hend] at o3 ⊢
    repeat (first | refine TL_nil ?_ | refine TL_assign (hk := ?_))
    exact T_ret1 rfl rfl ⟨(x.1, (waitsE t s).length, x.2.2), rfl, Mod.own (Mod.own e1 m2 rx.hi) m3 rx.hi, o3⟩
end
end Go.Proofs.Ytomabcbemokijaa

namespace Go.Proofs.Ytomabcbemokijaa
open Go.RowKit Go.Proofs.Eng Go.Proofs.Foot Go.Proofs.Locks
set_option linter.unusedSimpArgs false
set_option linter.unusedVariables false set_option maxRecDepth 10000
attribute [local irreducible] T TL LV TH TA
def noS (s : Int) (q : List Akk) : List Akk := q.filter fun a => !decide (a.1 = s)
theorem qOf_noS (E : List Ent) (s : Int) (k : Tx) : qOf (E.filter fun e => !decide (e.1 = s)) k = noS s (qOf E k) := by
  unfold noS qOf
  induction E with
  | nil => rfl
  | cons e E ih =>
    rw [List.filter_cons, List.filterMap_cons]
    by_cases h : e.1 = s
    · simp only [h, decide_true, Bool.not_true, Bool.false_eq_true, if_false]
      rw [ih]
      cases asks e.2 k <;> simp
    · simp only [h, decide_false, Bool.not_false, if_true]
      rw [List.filterMap_cons]
      cases asks e.2 k with
      | none => simpa using ih
      | some b => simp [h, ih]
theorem eget_of {E : List Ent} (hn : (E.map (·.1)).Nodup) {e : Ent} (he : e ∈ E) : eget E e.1 = some e.2 := by
  unfold eget
  induction E with
  | nil => cases he
  | cons x E ih =>
    rw [List.map_cons, List.nodup_cons] at hn
    rw [List.find?_cons]
    rcases List.mem_cons.1 he with rfl | he
    · simp
    · have : ¬ x.1 = e.1 := fun q => hn.1 (by rw [q]; exact List.mem_map.2 ⟨e, he, rfl⟩)
      simp only [this, decide_false]
      exact ih hn.2 he
theorem noS_none {E : List Ent} {s : Int} {l : List Lk} (h : eget E s = some l) (hn : (E.map (·.1)).Nodup) {k : Tx} (hk : k ∉ l.map (·.1)) : noS s (qOf E k) = qOf E k := by
  unfold noS
  rw [List.filter_eq_self]
  intro a ha
  obtain ⟨e, he, e1, e2⟩ := qOf_seq ha
  by_cases q : a.1 = s
  · exfalso
    have h1 := eget_of hn he
    rw [e1, q, h] at h1
    cases h1
    rw [asks_none.2 hk] at e2
    cases e2
  · simp [q]
theorem noS_del {E : List Ent} {s : Int} {l : List Lk} (h : eget E s = some l) (hn : (E.map (·.1)).Nodup) (hl : (l.map (·.1)).Nodup) {x : Lk} (hx : x ∈ l) :
    ∃ i : Nat, placeI (qOf E x.1) s = (i : Int) ∧ i < (qOf E x.1).length ∧ noS s (qOf E x.1) = (qOf E x.1).take i ++ (qOf E x.1).drop (i + 1) := by
  obtain ⟨E2, h1, h2⟩ := split_at h
  have h3 : ∀ e ∈ E2, e.1 ≠ s := fun e he q => by
    rw [h1] at hn
    simp only [List.map_append, List.map_cons] at hn
    rw [List.nodup_append] at hn
    have := (List.nodup_cons.1 hn.2.1).1
    exact this (by rw [← q]; exact List.mem_map.2 ⟨e, he, rfl⟩)
  have hq : qOf E x.1 = qOf (aheadE E s) x.1 ++ (s, x.2) :: qOf E2 x.1 := by
    conv => lhs; rw [h1]
    rw [qOf_append, show (s, l) :: E2 = [(s, l)] ++ E2 from rfl, qOf_append, qOf_single, asks_mem hl hx]
    rfl
  have g1 : ∀ a ∈ qOf (aheadE E s) x.1, a.1 ≠ s := fun a ha => by
    obtain ⟨e, he, e1, _⟩ := qOf_seq ha
    rw [← e1]; exact h2 e he
  have g2 : ∀ a ∈ qOf E2 x.1, a.1 ≠ s := fun a ha => by
    obtain ⟨e, he, e1, _⟩ := qOf_seq ha
    rw [← e1]; exact h3 e he
  rw [hq]
  refine ⟨_, placeI_app g1 _ _, by simp, ?_⟩
  unfold noS
  rw [List.filter_append, List.filter_cons]
  simp only [decide_true, Bool.not_true, Bool.false_eq_true, if_false]
  rw [List.filter_eq_self.2 (fun a ha => by simp [g1 a ha]), List.filter_eq_self.2 (fun a ha => by simp [g2 a ha])]
  simp
def qRel (E : List Ent) (s : Int) (l : List Lk) (i : Nat) (k : Tx) : List Akk := if k ∈ (l.take i).map (·.1) then noS s (qOf E k) else qOf E k
theorem qRel_zero (E : List Ent) (s : Int) (l : List Lk) (k : Tx) : qRel E s l 0 k = qOf E k := by simp [qRel]
theorem qRel_end {E : List Ent} {s : Int} {l : List Lk} (h : eget E s = some l) (hn : (E.map (·.1)).Nodup) (k : Tx) : qRel E s l l.length k = qOf (E.filter fun e => !decide (e.1 = s)) k := by
  unfold qRel
  rw [List.take_length, qOf_noS]
  by_cases q : k ∈ l.map (·.1)
  · rw [if_pos q]
  · rw [if_neg q, noS_none h hn q]
theorem qRel_here {E : List Ent} {s : Int} {l : List Lk} (hl : (l.map (·.1)).Nodup) {i : Nat} (hi : i < l.length) : qRel E s l i (l.getD i lk0).1 = qOf E (l.getD i lk0).1 := by
  unfold qRel
  have hg : l.getD i lk0 = l[i] := by rw [List.getD_eq_getElem?_getD, List.getElem?_eq_getElem hi]; rfl
  rw [hg, if_neg]
  intro hm
  rw [List.mem_map] at hm
  obtain ⟨x, hx, he⟩ := hm
  obtain ⟨j, hj, rfl⟩ := List.mem_iff_getElem.1 hx
  rw [List.getElem_take] at he
  have hj' : j < i := by simp at hj; omega
  have h2 := List.pairwise_iff_getElem.1 (List.nodup_iff_pairwise_ne.1 hl) j i (by simp; omega) (by simpa using hi) hj'
  simp only [List.getElem_map] at h2
  exact h2 he
theorem qRel_succ (E : List Ent) (s : Int) (l : List Lk) (i : Nat) (hi : i < l.length) (k : Tx) : qRel E s l (i + 1) k = if k = (l.getD i lk0).1 then noS s (qOf E k) else qRel E s l i k := by
  unfold qRel
  have hg : l.getD i lk0 = l[i] := by rw [List.getD_eq_getElem?_getD, List.getElem?_eq_getElem hi]; rfl
  rw [List.take_succ_eq_append_getElem hi, hg]
  simp only [List.map_append, List.map_cons, List.map_nil, List.mem_append, List.mem_singleton]
  by_cases e : k = l[i].1
  · simp [e]
  · simp [e]
section
variable {base N : Nat} {m : LM} {f : Nat → Ow} {t : LS}
set_option maxHeartbeats 1600000
theorem Release_c (s : Int) (w : World) (h : TabM w base m f (qOf t.E) t.E t.nx) (ok : OkT N t) (hN : N ≤ 100000) :
    Ret Try.prog 13 [pT m.p, .int .i64 s] w (fun v w' => v = .int .i64 ((relE t s).2 : Int) ∧ ∃ m' f', m'.p = m.p ∧ TabM w' base m' f' (qOf (relE t s).1.E) (relE t s).1.E (relE t s).1.nx ∧ Tn (ow f) (ow f') w w') := by
  have hb := h.blk
  unfold tabV at hb
  have ma := h.ma
  have hln := ok.ln
  have hnd : (t.E.map (·.1)).Nodup := ok.srt.imp (fun {a b} q e => by omega)
  have hret : ∀ w', Ext w w' → ∃ m' f', m'.p = m.p ∧ TabM w' base m' f' (qOf t.E) t.E t.nx ∧ Tn (ow f) (ow f') w w' := fun w' e => ⟨m, f, rfl, h.ext e, Tn.ext e⟩
  unfold relE
  refine ret_T (n := 70) Try.func13 rfl rfl ?_
  repeat (first | refine T_seq ?_ | refine T_region ?_ | refine T_cond_false rfl ?_ | refine T_skip ?_ | refine TL_pnil_f TE (hk := ?_) | refine TL_nil ?_ | refine TL_move (hk := ?_) | refine TL_assign (hk := ?_) | refine TL_load TE (hk := ?_) | refine TL_fieldAddr TE (hk := ?_) | refine TL_nilCheck (hk := ?_))
  refine TL_lookup_ok TE (((none, 0, 0) : SL)) (hk := ?_)
  rcases h.ask s with ⟨h1, h2⟩ | ⟨l, z, h1, h2, rz, fz⟩
  · rw [h1, h2]
    repeat (first | refine T_seq ?_ | refine T_region ?_ | refine T_cond_true rfl ?_ | refine TL_nil ?_ | refine TL_move (hk := ?_) | refine TL_assign (hk := ?_) | refine TL_extract (hk := ?_) | refine TL_not (hk := ?_))
    exact T_ret1 rfl rfl ⟨rfl, hret _ (Mod.refl _ _)⟩
  rw [h1, h2]
  have hlm := eget_mem h1
  have hll := ok.lk _ hlm
  have hlk := chk_nodup (ok.ky _ hlm)
  simp only at hll hlk
  have hl : l.length = z.2.1 := by have := rz.len; rw [rowV_len lkV_len] at this; omega
  repeat (first | refine T_seq ?_ | refine T_region ?_ | refine T_cond_false rfl ?_ | refine T_skip ?_ | refine TL_nil ?_ | refine TL_move (hk := ?_) | refine TL_assign (hk := ?_) | refine TL_extract (hk := ?_) | refine TL_not (hk := ?_))
  refine TL_call TE (hc := Ready_c s _ h ok hN) (hk := ?_)
  rintro _ w1 ⟨rfl, e1⟩
  cases hrd : readyE t.E s with
  | false =>
    repeat (first | refine T_seq ?_ | refine T_region ?_ | refine T_cond_true rfl ?_ | refine TL_nil ?_ | refine TL_assign (hk := ?_) | refine TL_not (hk := ?_))
    exact T_ret1 rfl rfl ⟨rfl, hret _ e1⟩
  | true =>
    simp only [if_true]
    repeat (first | refine T_seq ?_ | refine T_region ?_ | refine T_cond_false rfl ?_ | refine T_block ?_ | refine T_skip ?_ | refine TL_nil ?_ | refine TL_move (hk := ?_) | refine TL_len TE (hk := ?_) | refine TL_not (hk := ?_))
    refine T_loop (ι := Nat) (fun i => [(30, .int .i64 (i : Int)), (29, .int .i64 (z.2.1 : Int)), (28, sL z), (0, pT m.p), (1, .int .i64 s)])
      (fun i w' => i ≤ z.2.1 ∧ ∃ m' f', m'.p = m.p ∧ TabM w' base m' f' (qRel t.E s l i) t.E t.nx ∧ mget m'.la s = some z ∧ Tn (ow f) (ow f') w w') (fun i => z.2.1 - i) 0 (.c rfl (.c rfl (.c rfl (.c rfl (.c rfl (.n)))))) ⟨Nat.zero_le _, m, f, rfl, (h.ext e1).congr (fun k => (qRel_zero _ _ _ k).symm), h2, Tn.ext e1⟩ ?_
    clear e1 hb hret ma
    rintro i w5 ⟨hi, m5, f5, hp5, h5, ha5, t5⟩ ih
    obtain ⟨l', h1', rz5, fz5⟩ := h5.sa s z ha5
    rw [h1] at h1'
    cases h1'
    by_cases hlt : i < z.2.1
    · have r5 := rz5.rd
      have t1 := rowV_elem lkV_len l i lk0 (by omega)
      have hqs := qRel_succ t.E s l i (by omega)
      have hqh := qRel_here (E := t.E) (s := s) hlk (i := i) (by omega)
      have hm : l.getD i lk0 ∈ l := by rw [List.getD_eq_getElem?_getD, List.getElem?_eq_getElem (by omega)]; exact List.getElem_mem _
      obtain ⟨x, hx⟩ : ∃ x, l.getD i lk0 = x := ⟨_, rfl⟩
      rw [hx] at t1 hqs hqh hm
      obtain ⟨i0, hpl, hi0, hdel⟩ := noS_del h1 hnd hlk hm
      have hA : z.1 ≠ none := by obtain ⟨_, _, hq, _⟩ := r5.2 (by omega); rw [hq]; simp
      repeat (first | refine T_seq ?_ | refine T_region ?_ | refine T_cond_true rfl ?_ | refine T_block ?_ | refine T_skip ?_ | refine TL_lt_t (hk := ?_) | refine TL_nil ?_ | refine TL_indexAddrn TE (hk := ?_))
      refine TL_loada TE (cs := lkV x) (hx := rfl) (ht := rfl) (hi := rfl) (hr := r5) (hc := t1) (h0 := Nat.succ_pos _) (hk := ?_)
      --
      refine TL_alloc TE (hk := ?_); intro b6 w6 e6 h6 h6' k6
      --
      refine TL_storea TE (hk := ?_); intro w7 m7 z7 k7
      have z6 := e6.size
      have e57 : Ext w5 w7 := Mod.step e6 m7 (by simp; omega)
      replace k7 : Blk w7 b6 61 (lkV x) := k7
      unfold lkV at k7
      have h7 := h5.ext e57
      have t7 := t5.trans (Tn.ext e57)
      have hb7 := h7.blk
      have mq7 := h7.mq
      unfold tabV at hb7
      rw [hp5] at hb7
      obtain ⟨y, hy, ry, fy⟩ := h7.row x.1
      have hql := qOf_len (E := t.E) (k := x.1)
      rw [hqh] at ry
      generalize hqq : qOf t.E x.1 = q at ry hpl hi0 hdel hql
      have hyl : q.length = y.2.1 := by have := ry.len; rw [rowV_len akV_len] at this; omega
      have hqy : m5.qb ∉ blkL y.1 := fun q => by have := fy _ q; rw [h7.kq] at this; simp at this
      have hpy : m.p ∉ blkL y.1 := fun q => by have := fy _ q; rw [← hp5, h7.kp] at this; simp at this
      have hby : b6 ∉ blkL y.1 := fun q => by have := (h5.old b6 (by unfold ow; rw [fy _ q]; exact Nat.succ_ne_zero _)).2; omega
      have hqb5 : m5.qb < w5.heap.size := (h5.old m5.qb (by unfold ow; rw [h5.kq]; exact Nat.succ_ne_zero _)).2
      clear k6 r5 h5 m7 e6
      repeat (first | refine T_seq ?_ | refine T_region_q TE.mixed (by kernel_rfl) ?_ | refine TL_nil ?_ | refine TL_move (hk := ?_) | refine TL_load TE (hk := ?_) | refine TL_fieldAddr TE (hk := ?_) | refine TL_nilCheck (hk := ?_))
      refine TL_lookup TE (((none, 0, 0) : SL)) (hk := ?_)
      rw [hy]
      repeat (refine TL_assign (hk := ?_))
      refine TL_nil_q ?_; intro w8 e8
      have ry8 := Own.be e8 ry
      have hb8 := hb7.be e8
      have k8 := k7.be e8
      have h8 := h7.ext e8
      have t8 := t7.trans (Tn.ext e8)
      clear hb7 k7 h7 t7 mq7 ry
      repeat (first | refine T_seq ?_ | refine T_region ?_ | refine TL_move (hk := ?_))
      refine TL_call TE (hc := place_c y.1 y.2.1 y.2.2 _ s _ ry8.rd (by omega)) (hk := ?_)
      rintro _ w9 ⟨rfl, e9⟩
      rw [hpl]
      have ry9 := Own.be e9 ry8
      have hb9 := hb8.be e9
      have k9 := k8.be e9
      have h9 := h8.ext e9
      have t9 := t8.trans (Tn.ext e9)
      have mq9 := h9.mq
      have hbw9 := h9.bw.1
      have hi0' : i0 < y.2.1 := by omega
      have hc1 : (i0 : Int) + 1 = ((i0 + 1 : Nat) : Int) := by omega
      clear hb8 k8 h8 t8 ry8
      repeat (first | refine T_seq ?_ | refine TL_nil ?_ | refine TL_assign (hk := ?_))
      refine T_region_anyz TE.mixed (blkL y.1) (some 11) ?_; intro w10 e10 z10
      have hb10 := hb9.be e10
      have k10 := k9.be e10
      (refine TA_take 0 rfl (by kernel_rfl) (by kernel_rfl) (by kernel_rfl) ?_; (repeat (first | refine TL_add (hk := ?_) | refine TL_move (hk := ?_) | refine TLP_load TE (hk := ?_) | refine TL_fieldAddr TE (hk := ?_) | refine TL_nilCheck (hk := ?_))); refine TL_nil_p ?_); (refine TA_take 1 rfl (by kernel_rfl) (by kernel_rfl) (by kernel_rfl) ?_; (repeat (first | refine TL_add (hk := ?_) | refine TL_move (hk := ?_) | refine TLP_load TE (hk := ?_) | refine TL_fieldAddr TE (hk := ?_) | refine TL_nilCheck (hk := ?_))); refine TL_nil_p ?_); (refine TA_take 2 rfl (by kernel_rfl) (by kernel_rfl) (by kernel_rfl) ?_; (repeat (first | refine TL_add (hk := ?_) | refine TL_move (hk := ?_) | refine TLP_load TE (hk := ?_) | refine TL_fieldAddr TE (hk := ?_) | refine TL_nilCheck (hk := ?_))); refine TL_nil_p ?_); (refine TA_take 3 rfl (by kernel_rfl) (by kernel_rfl) (by kernel_rfl) ?_; (repeat (first | refine TL_add (hk := ?_) | refine TL_move (hk := ?_) | refine TLP_load TE (hk := ?_) | refine TL_fieldAddr TE (hk := ?_) | refine TL_nilCheck (hk := ?_))); refine TL_nil_p ?_); (refine TA_take 4 rfl (by kernel_rfl) (by kernel_rfl) (by kernel_rfl) ?_; (repeat (first | refine TL_add (hk := ?_) | refine TL_move (hk := ?_) | refine TLP_load TE (hk := ?_) | refine TL_fieldAddr TE (hk := ?_) | refine TL_nilCheck (hk := ?_))); refine TL_nil_p ?_); (refine TA_take 5 rfl (by kernel_rfl) (by kernel_rfl) (by kernel_rfl) ?_; (repeat (first | refine TL_add (hk := ?_) | refine TL_move (hk := ?_) | refine TLP_load TE (hk := ?_) | refine TL_fieldAddr TE (hk := ?_) | refine TL_nilCheck (hk := ?_))); refine TL_nil_p ?_); (refine TA_take 6 rfl (by kernel_rfl) (by kernel_rfl) (by kernel_rfl) ?_; (repeat (first | refine TL_add (hk := ?_) | refine TL_move (hk := ?_) | refine TLP_load TE (hk := ?_) | refine TL_fieldAddr TE (hk := ?_) | refine TL_nilCheck (hk := ?_))); refine TL_nil_p ?_); (refine TA_take 7 rfl (by kernel_rfl) (by kernel_rfl) (by kernel_rfl) ?_; (repeat (first | refine TL_add (hk := ?_) | refine TL_move (hk := ?_) | refine TLP_load TE (hk := ?_) | refine TL_fieldAddr TE (hk := ?_) | refine TL_nilCheck (hk := ?_))); refine TL_nil_p ?_); (refine TA_take 8 rfl (by kernel_rfl) (by kernel_rfl) (by kernel_rfl) ?_; (repeat (first | refine TL_add (hk := ?_) | refine TL_move (hk := ?_) | refine TLP_load TE (hk := ?_) | refine TL_fieldAddr TE (hk := ?_) | refine TL_nilCheck (hk := ?_))); refine TL_nil_p ?_); (refine TA_take 9 rfl (by kernel_rfl) (by kernel_rfl) (by kernel_rfl) ?_; (repeat (first | refine TL_add (hk := ?_) | refine TL_move (hk := ?_) | refine TLP_load TE (hk := ?_) | refine TL_fieldAddr TE (hk := ?_) | refine TL_nilCheck (hk := ?_))); refine TL_nil_p ?_)
      rw [hc1]
      refine TA_one 10 rfl (by kernel_rfl) (by kernel_rfl) ?_; (try refine TL_yes (hk := ?_)); refine TL_call TE (hc := (KDelete_c y.1 y.2.1 y.2.2 base i0 _ _ (Own.be e10 ry9) hi0' (by omega) (by omega))) (hq := (by rintro _ w11 ⟨rfl, m11, _⟩; exact m11)) (hk := ?_)
      rintro _ w11 ⟨rfl, m11, o11⟩
      refine TL_nil_p ?_
      refine TA_one 11 rfl (by kernel_rfl) (by kernel_rfl) ?_
      have mq11 := (mq9.be e10).mod m11 hqy
      refine TL_mapUpdate TE ((y.1, y.2.1 - 1, y.2.2) : SL) (hm := mq11) (hK := keys_tx) (hf := rfl) (hq := fun _ _ _ => trivial) (hk := ?_); intro w12 m12 z12 mp12
      refine TL_nil_z (by kernel_rfl) ?_
      have M12 : Eng.Mod (m5.qb :: blkL y.1) w9 w12 := ((e10.mono (S' := m5.qb :: blkL y.1) (by simp)).step m11 (fun b q => .inl (List.mem_cons_of_mem _ q))).step m12 (fun b q => .inl (by rw [List.mem_singleton.1 q]; exact List.mem_cons_self))
      obtain ⟨f13, h13, t13⟩ := h9.setQ M12 (fun b q => by
        rcases List.mem_cons.1 q with rfl | q
        · exact .inl h9.kq
        · exact .inr (fy b q)) mp12 (o11.modL m12 (fun b q q' => by
          rw [List.mem_singleton] at q'
          exact hqy (q' ▸ q))) (fun b q => .inl (fy b q))
      have hb13 := h13.blk
      unfold tabV at hb13
      rw [hp5] at hb13
      have k12 : Blk w12 b6 61 [.string (ofL x.1), .bool x.2] := k9.mod M12 (fun q => by
        rcases List.mem_cons.1 q with e | q
        · omega
        · exact hby q)
      have t13' := t9.trans t13
      rw [← hdel] at h13
      have hcong : ∀ k, (fun j => if j = x.1 then noS s q else qRel t.E s l i j) k = qRel t.E s l (i + 1) k := fun k => by
        rw [hqs k]
        by_cases e : k = x.1
        · simp only [e, if_true]; rw [hqq]
        · simp only [e, if_false]
      have hga : mget ({ m5 with lq := mput m5.lq x.1 (y.1, y.2.1 - 1, y.2.2) } : LM).la s = some z := ha5
      by_cases hone : y.2.1 = 1
      · have hone' : (y.2.1 : Int) = 1 := by omega
        have hpn : m.p ∉ [m5.qb] := fun q => by rw [List.mem_singleton] at q; have h3 := h13.kq; have h4 := h13.kp; simp only at h3 h4; rw [hp5, q, h3] at h4; simp at h4
        have hbn : b6 ∉ [m5.qb] := fun q => by rw [List.mem_singleton] at q; omega
        have mq13 := h13.mq
        simp only at mq13
        have hnil : noS s q = [] := by
          rw [hdel]
          have : i0 = 0 := by omega
          subst this
          rw [List.drop_of_length_le (by omega)]
          rfl
        repeat (first | refine T_seq ?_ | refine T_region ?_ | refine T_cond_true rfl ?_ | refine TL_eq_t (hk := ?_) | refine TL_nil ?_ | refine TL_move (hk := ?_) | refine TL_len TE (hk := ?_))
        refine T_region_any TE.mixed [m5.qb] ?_; intro w14 e14 z14
        have hb14 := hb13.be e14
        have k14 := k12.be e14
        (refine TA_take 0 rfl (by kernel_rfl) (by kernel_rfl) (by kernel_rfl) ?_; (repeat (first | refine TL_move (hk := ?_) | refine TLP_load TE (hk := ?_) | refine TL_fieldAddr TE (hk := ?_) | refine TL_nilCheck (hk := ?_))); refine TL_nil_p ?_); (refine TA_take 1 rfl (by kernel_rfl) (by kernel_rfl) (by kernel_rfl) ?_; (repeat (first | refine TL_move (hk := ?_) | refine TLP_load TE (hk := ?_) | refine TL_fieldAddr TE (hk := ?_) | refine TL_nilCheck (hk := ?_))); refine TL_nil_p ?_); (refine TA_take 2 rfl (by kernel_rfl) (by kernel_rfl) (by kernel_rfl) ?_; (repeat (first | refine TL_move (hk := ?_) | refine TLP_load TE (hk := ?_) | refine TL_fieldAddr TE (hk := ?_) | refine TL_nilCheck (hk := ?_))); refine TL_nil_p ?_); (refine TA_take 3 rfl (by kernel_rfl) (by kernel_rfl) (by kernel_rfl) ?_; (repeat (first | refine TL_move (hk := ?_) | refine TLP_load TE (hk := ?_) | refine TL_fieldAddr TE (hk := ?_) | refine TL_nilCheck (hk := ?_))); refine TL_nil_p ?_); (refine TA_take 4 rfl (by kernel_rfl) (by kernel_rfl) (by kernel_rfl) ?_; (repeat (first | refine TL_move (hk := ?_) | refine TLP_load TE (hk := ?_) | refine TL_fieldAddr TE (hk := ?_) | refine TL_nilCheck (hk := ?_))); refine TL_nil_p ?_); (refine TA_take 5 rfl (by kernel_rfl) (by kernel_rfl) (by kernel_rfl) ?_; (repeat (first | refine TL_move (hk := ?_) | refine TLP_load TE (hk := ?_) | refine TL_fieldAddr TE (hk := ?_) | refine TL_nilCheck (hk := ?_))); refine TL_nil_p ?_)
        refine TA_one 6 rfl (by kernel_rfl) (by kernel_rfl) ?_
        refine TL_delete TE (hm := mq13.be e14) (hK := keys_tx) (hf := rfl) (hq := fun _ h _ => h) (hk := ?_); intro w15 m15 z15 mp15
        refine TL_nil_p ?_
        refine TA_done (by kernel_rfl) ?_
        obtain ⟨h15, t15⟩ := (h13.ext e14).delQ (k := x.1) (by simp only [if_true]; exact hnil) m15 mp15
        repeat (first | refine T_region ?_ | refine T_inBlock ?_ | refine TL_add (hk := ?_) | refine TL_nil ?_ | refine TL_move (hk := ?_))
        exact ih (i + 1) w15 _ (by omega) ⟨by omega, { m5 with lq := mdel (mput m5.lq x.1 (y.1, y.2.1 - 1, y.2.2)) x.1 }, f13, hp5, h15.congr hcong, hga, (t13'.trans (Tn.ext e14)).trans t15⟩ (.c rfl (.c rfl (.c rfl (.c rfl (.c rfl (.n))))))
      · have hone' : ¬ (y.2.1 : Int) = 1 := by omega
        repeat (first | refine T_seq ?_ | refine T_region ?_ | refine T_cond_false rfl ?_ | refine T_inBlock ?_ | refine T_skip ?_ | refine TL_add (hk := ?_) | refine TL_eq_f (hk := ?_) | refine TL_nil ?_ | refine TL_move (hk := ?_) | refine TL_len TE (hk := ?_))
        exact ih (i + 1) w12 _ (by omega) ⟨by omega, { m5 with lq := mput m5.lq x.1 (y.1, y.2.1 - 1, y.2.2) }, f13, hp5, h13.congr hcong, hga, t13'⟩ (.c rfl (.c rfl (.c rfl (.c rfl (.c rfl (.n))))))
    · clear ih
      have hin : i = l.length := by omega
      subst hin
      have hb5 := h5.blk
      unfold tabV at hb5
      rw [hp5] at hb5
      have ma5 := h5.ma
      repeat (first | refine T_seq ?_ | refine T_region ?_ | refine T_cond_false rfl ?_ | refine T_exit rfl ?_ | refine TL_lt_f (hk := ?_) | refine TL_nil ?_ | refine TL_move (hk := ?_) | refine TL_load TE (hk := ?_) | refine TL_fieldAddr TE (hk := ?_) | refine TL_nilCheck (hk := ?_))
      refine TL_delete TE (hk := ?_); intro w6 m6 z6 mp6
      obtain ⟨h6, t6⟩ := h5.delA h1 hnd m6 mp6
      repeat (first | refine T_seq ?_ | refine T_region ?_ | refine TL_nil ?_ | refine TL_assign (hk := ?_))
      exact T_ret1 rfl rfl ⟨rfl, { m5 with la := mdel m5.la s }, f5, hp5, h6.congr (fun k => qRel_end h1 hnd k), t5.trans t6⟩
end
end Go.Proofs.Ytomabcbemokijaa

/- What an argument that reads as data looks like, and how much it holds. -/
namespace Go.Proofs.Eng
open Go.RowKit Go.WideShapes
set_option linter.unusedSimpArgs false
set_option linter.unusedVariables false
/-- How much a reading holds. -/
structure Bulk (H : Type) where
  one : DataW H → Nat
  all : List (DataW H) → Nat
  lit : ∀ l, 1 ≤ one (.lit l)
  str : ∀ b, one (.lit (.string b)) = b.length + 1
  nil : one .nil = 1
  slice : ∀ e s, one (.slice e s) = all e + all s + 1
  agg : ∀ p, one (.agg p) = all p + 1
  none : all [] = 0
  some : ∀ d r, all (d :: r) = one d + all r
def FitB (w : World) : Ty → List Value → Nat → Prop
  | .int k, cs, m => 1 ≤ m ∧ ∃ n, cs = [.int k n] ∧ Fits k n
  | .bool, cs, m => 1 ≤ m ∧ ∃ b, cs = [.bool b]
  | .str, cs, m => ∃ s : ByteArray, cs = [.string s] ∧ s.size ≤ maxLen ∧ s.size + 1 ≤ m
  | .slice e, cs, m => ∃ (A : Option Addr) (n c : Nat) (xs : List (List Value)) (ms : List Nat), cs = [.slice A n c] ∧ n ≤ c ∧ c ≤ maxLen ∧ xs.length = n ∧ ms.length = n ∧ ms.sum + 1 ≤ m ∧ Rd w A n e.size xs.flatten ∧
      ∀ (i : Nat) (x : List Value) (k : Nat), xs[i]? = some x → ms[i]? = some k → x.length = e.size ∧ FitB w e x k
  | .unit, cs, _ => cs = []
  | .cons a b, cs, m => ∃ x y p q, cs = x ++ y ∧ x.length = a.size ∧ p + q ≤ m ∧ FitB w a x p ∧ FitB w b y q
  | .struct p, cs, m => FitB w p cs m
  | .array n e, cs, m => ∃ (xs : List (List Value)) (ms : List Nat), cs = xs.flatten ∧ xs.length = n ∧ ms.length = n ∧ ms.sum ≤ m ∧ ∀ (i : Nat) (x : List Value) (k : Nat), xs[i]? = some x → ms[i]? = some k → x.length = e.size ∧ FitB w e x k
theorem FitB.mono {w : World} : ∀ {ty : Ty} {cs : List Value} {m m' : Nat}, FitB w ty cs m → m ≤ m' → FitB w ty cs m'
  | .int _, _, _, _, ⟨h, r⟩, hm => ⟨Nat.le_trans h hm, r⟩
  | .bool, _, _, _, ⟨h, r⟩, hm => ⟨Nat.le_trans h hm, r⟩
  | .str, _, _, _, ⟨s, h1, h2, h3⟩, hm => ⟨s, h1, h2, Nat.le_trans h3 hm⟩
  | .slice _, _, _, _, ⟨A, n, c, xs, ms, h1, h2, h3, h4, h5, h6, h7⟩, hm => ⟨A, n, c, xs, ms, h1, h2, h3, h4, h5, Nat.le_trans h6 hm, h7⟩
  | .unit, _, _, _, h, _ => h
  | .cons _ _, _, _, _, ⟨x, y, p, q, h1, h2, h3, h4⟩, hm => ⟨x, y, p, q, h1, h2, Nat.le_trans h3 hm, h4⟩
  | .struct p, _, _, _, h, hm => FitB.mono (ty := p) h hm
  | .array _ _, _, _, _, ⟨xs, ms, h1, h2, h3, h4, h5⟩, hm => ⟨xs, ms, h1, h2, h3, Nat.le_trans h4 hm, h5⟩
section
variable {H : Type} {enc : TypeId × Value → H} {P : Program} {w : World} {base : Nat} {spare : Nat → Bool} {held : Bool}
theorem Bulk.map_sum (K : Bulk H) (l : List (DataW H × List MemPlace)) : K.all (l.map (·.1)) = (l.map fun x => K.one x.1).sum := by
  induction l with
  | nil => simp [K.none]
  | cons a l ih => simp [K.some, ih]
theorem fitb_of_trod (E : Env P) (K : Bulk H) : ∀ (ty : Ty),
    (∀ t, tyOk E ty (.at t) = true → ∀ fuel cs x, DataW.trod enc P w base spare held fuel t cs = some x → FitB w ty cs (K.one x.1)) ∧
    (∀ off fl, tyOk E ty (.from off fl) = true → ∀ (cs : List Value) (ys : List (DataW H × List MemPlace)), cs.length = off + ty.size → ys.length = fl.length →
      (∀ (i : Nat) (o : Nat) (t : TypeId) y, fl[i]? = some (o, t) → ys[i]? = some y → ∃ n, DataW.trod enc P w base spare held n t ((cs.drop o).take (P.cellsOf t)) = some y) → FitB w ty (cs.drop off) (ys.map fun x => K.one x.1).sum) := by
  intro ty
  induction ty with
  | int k =>
    refine ⟨fun t h fuel cs x hd => ?_, fun _ _ h => by simp [tyOk] at h⟩
    obtain ⟨n, h1, h3, h2⟩ := DataW.trod_int (und_int h) hd
    rw [h3]
    exact ⟨K.lit _, n, h1, fits_of_wf h2⟩
  | bool =>
    refine ⟨fun t h fuel cs x hd => ?_, fun _ _ h => by simp [tyOk] at h⟩
    obtain ⟨b, h1, h3⟩ := DataW.trod_bool (und_bool h) hd
    rw [h3]
    exact ⟨K.lit _, b, h1⟩
  | str =>
    refine ⟨fun t h fuel cs x hd => ?_, fun _ _ h => by simp [tyOk] at h⟩
    obtain ⟨s, h1, h3, h2⟩ := DataW.trod_string (und_str h) hd
    rw [h3]
    exact ⟨s, h1, h2, by rw [K.str]; simp⟩
  | slice e ih =>
    refine ⟨fun t h fuel cs x hd => ?_, fun _ _ h => by simp [tyOk] at h⟩
    simp only [tyOk] at h
    split at h
    · rename_i u hu
      simp only [Bool.and_eq_true] at h
      obtain ⟨⟨h1, h2⟩, h3⟩ := h
      have hsz := sizeIs_ok h2
      have h0 : 0 < e.size := by simpa [Nat.blt_eq] using h3
      rcases DataW.trod_slice (E.und_ok _ _ hu) hd with ⟨rfl, hx⟩ | ⟨a, len, cap, elems, rest, n, _, rfl, hx, hb, hl, hm, hlen, hel, _⟩
      · rw [hx]
        exact ⟨none, 0, 0, [], [], rfl, Nat.le_refl _, by decide, rfl, rfl, by simp [K.nil], Rd.nil _ _ _, by simp⟩
      · rw [hsz] at hel
        have hget : ∀ i, i < len → ∃ y z, w.cells? base (a.add (i * e.size)) e.size = some y ∧ elems[i]? = some z ∧ DataW.trod enc P w base spare held n u y = some z := fun i hi => by
          have h4 := hel i hi
          rw [List.getElem?_eq_getElem (by omega)] at h4
          cases hc : w.cells? base (a.add (i * e.size)) e.size with
          | none => rw [hc] at h4; simp at h4
          | some y => rw [hc] at h4; simp at h4; exact ⟨y, _, rfl, List.getElem?_eq_getElem (by omega), h4⟩
        have hsome : ∀ (i : Nat) (x : List Value), ((List.range len).map fun i => (w.cells? base (a.add (i * e.size)) e.size).getD [])[i]? = some x → w.cells? base (a.add (i * e.size)) e.size = some x ∧ x.length = e.size ∧ ∃ z, elems[i]? = some z ∧ FitB w e x (K.one z.1) := fun i x hx => by
          have hi : i < len := by have := (List.getElem?_eq_some_iff.1 hx).1; simpa using this
          obtain ⟨y, z, hy, hz, ht⟩ := hget i hi
          rw [List.getElem?_map, List.getElem?_range hi] at hx
          simp only [Option.map_some, hy, Option.getD_some, Option.some.injEq] at hx
          subst hx
          exact ⟨hy, (World.cells?_some hy).2.1, z, hz, ih.1 u h1 n y z ht⟩
        have hmem : ∀ x ∈ (List.range len).map (fun i => (w.cells? base (a.add (i * e.size)) e.size).getD []), x.length = e.size := fun x hx => by
          obtain ⟨i, hi⟩ := List.getElem?_of_mem hx
          exact (hsome i x hi).2.1
        refine ⟨some a, len, cap, _, elems.map fun x => K.one x.1, rfl, hl, hm, by simp, by simp [hlen], ?_, rows_read h0 (by simp) (fun i x hx => (hsome i x hx).1) hmem, ?_⟩
        · rw [hx]
          simp only [K.slice, K.map_sum]
          omega
        · intro i x k hx hk
          obtain ⟨_, h5, z, hz, h6⟩ := hsome i x hx
          rw [List.getElem?_map, hz] at hk
          simp at hk
          subst hk
          exact ⟨h5, h6⟩
    · cases h
  | unit =>
    refine ⟨fun t h => by simp [tyOk] at h, fun off fl h cs ys hl _ _ => ?_⟩
    show cs.drop off = []
    exact List.drop_of_length_le (by simp only [Ty.size] at hl; omega)
  | cons a b iha ihb =>
    refine ⟨fun t h => by simp [tyOk] at h, fun off fl h cs ys hl hyl hf => ?_⟩
    cases fl with
    | nil => simp [tyOk] at h
    | cons p fl =>
      cases ys with
      | nil => simp at hyl
      | cons y ys =>
        obtain ⟨o, t⟩ := p
        simp only [tyOk, Bool.and_eq_true] at h
        obtain ⟨⟨⟨h1, h2⟩, h3⟩, h4⟩ := h
        have ho := Nat.eq_of_beq_eq_true h1
        subst ho
        simp only [Ty.size] at hl
        have hsz := sizeIs_ok h3
        obtain ⟨n, hx⟩ := hf 0 o t y rfl rfl
        rw [hsz] at hx
        refine ⟨(cs.drop o).take a.size, cs.drop (o + a.size), K.one y.1, (ys.map fun x => K.one x.1).sum, ?_, by simp; omega, by simp, iha.1 t h2 n _ y hx, ?_⟩
        · rw [← List.drop_drop, List.take_append_drop]
        · exact ihb.2 (o + a.size) fl h4 cs ys (by omega) (by simpa using hyl) (fun i o' t' y' h' g' => hf (i + 1) o' t' y' (by simpa using h') (by simpa using g'))
  | struct p ih =>
    refine ⟨fun t h fuel cs x hd => ?_, fun _ _ h => by simp [tyOk] at h⟩
    simp only [tyOk] at h
    split at h
    · rename_i fl hfl
      simp only [Bool.and_eq_true] at h
      obtain ⟨h1, h2⟩ := h
      obtain ⟨fs, hu, hmap⟩ := E.fld_ok _ _ hfl
      obtain ⟨xs, n, _, hx, hl, hxl, hfs⟩ := DataW.trod_struct hu hd
      rw [sizeIs_ok h2] at hl
      have := ih.2 0 fl h1 cs xs (by omega) (by rw [hxl, ← hmap]; simp) (fun i o t' y h' g' => by
        rw [← hmap, List.getElem?_map] at h'
        cases hf : fs.toList[i]? with
        | none => rw [hf] at h'; cases h'
        | some f =>
          rw [hf] at h'
          cases h'
          have hf' : fs[i]? = some f := by simpa using hf
          have h5 := hfs i f hf'
          rw [g'] at h5
          exact ⟨n, h5⟩)
      rw [hx]
      refine FitB.mono (ty := p) (by simpa using this) ?_
      rw [K.agg, K.map_sum]
      omega
    · cases h
  | array n e ih =>
    refine ⟨fun t h fuel cs x hd => ?_, fun _ _ h => by simp [tyOk] at h⟩
    simp only [tyOk] at h
    split at h
    · rename_i m u hu
      simp only [Bool.and_eq_true] at h
      obtain ⟨⟨⟨h1, h2⟩, h3⟩, h4⟩ := h
      have hm := Nat.eq_of_beq_eq_true h1
      subst hm
      obtain ⟨xs, q, _, hx, hl, hxl, hel⟩ := DataW.trod_array (E.und_ok _ _ hu) hd
      rw [sizeIs_ok h4] at hl
      rw [sizeIs_ok h3] at hel
      refine ⟨(List.range m).map fun i => (cs.drop (i * e.size)).take e.size, xs.map fun x => K.one x.1, (take_drop_chunks m cs hl).symm, by simp, by simp [hxl], ?_, fun i y k hy hk => ?_⟩
      · rw [hx, K.agg, K.map_sum]
        omega
      · have hi' : i < m := by have := (List.getElem?_eq_some_iff.1 hy).1; simpa using this
        rw [List.getElem?_map, List.getElem?_range hi'] at hy
        simp at hy
        subst hy
        have h5 := hel i hi'
        rw [List.getElem?_map, ← h5] at hk
        cases ht : DataW.trod enc P w base spare held q u ((cs.drop (i * e.size)).take e.size) with
        | none => rw [ht] at hk; simp at hk
        | some z =>
          rw [ht] at hk
          simp at hk
          subst hk
          refine ⟨?_, ih.1 u h2 q _ _ ht⟩
          have : (i + 1) * e.size ≤ m * e.size := Nat.mul_le_mul_right _ hi'
          rw [Nat.succ_mul] at this
          simp; omega
    · cases h
/-- An argument that reads as data and holds so much. -/
def ReadsB (P : Program) (w : World) (base : Nat) (t : TypeId) (v : Value) (m : Nat) : Prop :=
  ∃ (H : Type) (enc : TypeId × Value → H) (d : DataW H) (ps : List MemPlace) (K : Bulk H), DataW.Trod enc P w 0 (fun _ => true) true t v d ps ∧ Value.okWide P w .any base t v ∧ K.one d ≤ m
theorem ReadsB.fit {t : TypeId} {v : Value} {m : Nat} (E : Env P) (h : ReadsB P w base t v m) (ty : Ty) (hok : tyOk E ty (.at t) = true) : FitB w ty v.cells.toList m := by
  obtain ⟨H, enc, d, ps, K, ⟨fuel, hf⟩, _, hm⟩ := h
  exact FitB.mono ((fitb_of_trod E K ty).1 t hok fuel _ _ hf) hm
theorem ReadsB.slice {t e : TypeId} {v : Value} {m : Nat} (E : Env P) (h : ReadsB P w base t v m) (ht : E.und t = some (.slice e)) : ∃ A n c, v = .slice A n c := by
  obtain ⟨_, _, _, _, _, _, hv, _⟩ := h
  exact okWide_slice (E.und_ok _ _ ht) hv
theorem FitB.bytes {A : Option Addr} {n c m : Nat} (h : FitB w (.slice (.int .u8)) [.slice A n c] m) : ∃ l, Rd w A n 1 (bv l) ∧ n ≤ c ∧ c ≤ maxLen ∧ n + 1 ≤ m := by
  obtain ⟨A', n', c', xs, ms, hv, h1, h2, h3, h4, h5, h6, h7⟩ := h
  cases hv
  have hn : n ≤ ms.sum := by
    rw [← h4]
    have key : ∀ (xs : List (List Value)) (ms : List Nat), xs.length = ms.length → (∀ (i : Nat) (x : List Value) (k : Nat), xs[i]? = some x → ms[i]? = some k → 1 ≤ k) → ms.length ≤ ms.sum := by
      intro xs
      induction xs with
      | nil => intro ms hl _; cases ms <;> simp at hl ⊢
      | cons x xs ih =>
        intro ms hl hk
        cases ms with
        | nil => simp
        | cons k ms =>
          have := ih ms (by simpa using hl) (fun i x k a b => hk (i + 1) x k (by simpa using a) (by simpa using b))
          have := hk 0 x k rfl rfl
          simp
          omega
    exact key xs ms (by omega) (fun i x k a b => (h7 i x k a b).2.1)
  have h8 : ∀ x ∈ xs, x.length = 1 ∧ Fit w (.int .u8) x := fun x hx => by
    obtain ⟨i, hi⟩ := List.getElem?_of_mem hx
    have hlt := (List.getElem?_eq_some_iff.1 hi).1
    have := h7 i x ms[i] hi (List.getElem?_eq_getElem (by omega))
    exact ⟨this.1, this.2.2⟩
  obtain ⟨l, hl, h9, h10⟩ := Fit.bytes (w := w) (A := A) (n := n) (c := c) ⟨A, n, c, xs, rfl, h1, h2, h3, h6, h8⟩
  exact ⟨l, hl, h9, h10, by omega⟩
end
end Go.Proofs.Eng

/- An argument that is a row, opened element by element. -/
namespace Go.Proofs.Eng
open Go.RowKit Go.WideShapes
set_option linter.unusedSimpArgs false
set_option linter.unusedVariables false
theorem rows_of {α : Type} {g : α → List Value} {Q : α → Prop} {w : World} {e : Ty} {M : Nat} (h : ∀ (x : List Value) (k : Nat), k ≤ M → FitB w e x k → 1 ≤ k ∧ ∃ a, x = g a ∧ Q a) :
    ∀ (xs : List (List Value)) (ms : List Nat), xs.length = ms.length → ms.sum ≤ M → (∀ (i : Nat) (x : List Value) (k : Nat), xs[i]? = some x → ms[i]? = some k → x.length = e.size ∧ FitB w e x k) → ∃ l : List α, rowV g l = xs.flatten ∧ (∀ a ∈ l, Q a) ∧ l.length = xs.length ∧ xs.length ≤ ms.sum
  | [], [], _, _, _ => ⟨[], rfl, fun a ha => (by cases ha), rfl, Nat.le_refl _⟩
  | [], _ :: _, hl, _, _ => by simp at hl
  | _ :: _, [], hl, _, _ => by simp at hl
  | x :: xs, k :: ms, hl, hs, hk => by
    simp only [List.sum_cons] at hs
    obtain ⟨l, h1, h2, h3, h4⟩ := rows_of h xs ms (by simpa using hl) (by omega) (fun i x k a b => hk (i + 1) x k (by simpa using a) (by simpa using b))
    obtain ⟨h5, a, rfl, ha⟩ := h x k (by omega) (hk 0 x k rfl rfl).2
    exact ⟨a :: l, by rw [rowV_cons, h1]; simp, fun b hb => by
      rcases List.mem_cons.1 hb with rfl | hb
      · exact ha
      · exact h2 b hb, by simp [h3], by simp only [List.length_cons, List.sum_cons]; omega⟩
/-- A row inside an argument. -/
theorem FitB.row {α : Type} {g : α → List Value} {Q : α → Prop} {w : World} {e : Ty} {M k : Nat} (h : ∀ (x : List Value) (k : Nat), k ≤ M → FitB w e x k → 1 ≤ k ∧ ∃ a, x = g a ∧ Q a) {x : List Value} (hx : FitB w (.slice e) x k) (hk : k ≤ M) :
    1 ≤ k ∧ ∃ (A : Option Addr) (n c : Nat) (l : List α), x = [.slice A n c] ∧ n ≤ c ∧ c ≤ maxLen ∧ n < k ∧ l.length = n ∧ Rd w A n e.size (rowV g l) ∧ ∀ a ∈ l, Q a := by
  obtain ⟨A, n, c, xs, ms, h1, h2, h3, h4, h5, h6, h7, h8⟩ := hx
  obtain ⟨l, g1, g2, g3, g4⟩ := rows_of h xs ms (by omega) (by omega) h8
  exact ⟨by omega, A, n, c, l, h1, h2, h3, by omega, by omega, by rw [g1]; exact h7, g2⟩
end Go.Proofs.Eng

namespace Go.Proofs.Ytomabcbemokijaa
open Go.RowKit Go.Proofs.Eng Go.Proofs.Foot Go.Proofs.Locks
set_option linter.unusedSimpArgs false
set_option linter.unusedVariables false set_option maxRecDepth 10000
attribute [local irreducible] T TL LV TH TA
/-- An act in a row. -/
structure AK where
  rel : Bool
  s : Int
  A : Option Addr
  n : Nat
  c : Nat
  l : List Lk
def ak_0 : AK := ⟨false, 0, none, 0, 0, []⟩
def akkV (x : AK) : List Value := [.bool x.rel, .int .i64 x.s, .slice x.A x.n x.c]
theorem akkV_len (x : AK) : (akkV x).length = 3 := rfl
structure AkOk (w : World) (x : AK) : Prop where
  rd : Rd w x.A x.n 2 (rowV lkV x.l)
  nc : x.n ≤ x.c
  cm : x.c ≤ 9223372036854775807
  nb : x.n ≤ 1048576
  ln : x.l.length = x.n
  sl : -9223372036854775808 ≤ x.s ∧ x.s ≤ 9223372036854775807
  kl : ∀ y ∈ x.l, y.1.length ≤ 1048576
abbrev tyLock : Ty := .struct (.cons .str (.cons .bool .unit))
abbrev tyAct14 : Ty := .struct (.cons .bool (.cons (.int .i64) (.cons (.slice tyLock) .unit)))
theorem lock_of {w : World} {M : Nat} (x : List Value) (k : Nat) (hk : k ≤ M) (h : FitB w tyLock x k) : 1 ≤ k ∧ ∃ a : Lk, x = lkV a ∧ a.1.length ≤ M := by
  obtain ⟨x1, y1, p, q, rfl, h1, h2, ⟨S, rfl, h3, h4⟩, u, z, p2, q2, rfl, h5, h6, ⟨h7, b, rfl⟩, hz⟩ := h
  have hz : z = [] := hz
  subst hz
  refine ⟨by omega, (S.data.toList, b), rfl, ?_⟩
  have : S.data.toList.length = S.size := Array.length_toList
  simp only
  omega
theorem act_of {w : World} (x : List Value) (k : Nat) (hk : k ≤ 1048576) (h : FitB w tyAct14 x k) : 1 ≤ k ∧ ∃ a : AK, x = akkV a ∧ AkOk w a := by
  obtain ⟨x1, y1, p, q, rfl, h1, h2, ⟨h3, b, rfl⟩, x2, y2, p2, q2, rfl, h4, h5, ⟨h6, s, rfl, h7⟩, x3, y3, p3, q3, rfl, h8, h9, h10, hz⟩ := h
  have hz : y3 = [] := hz
  subst hz
  obtain ⟨h11, A, n, c, l, rfl, g1, g2, g3, g4, g5, g6⟩ := FitB.row (g := lkV) (Q := fun a => a.1.length ≤ 1048576) (M := 1048576) lock_of h10 (by omega)
  unfold maxLen at g2
  exact ⟨by omega, ⟨b, s, A, n, c, l⟩, rfl, g5, g1, g2, by simp only; omega, g4, h7, g6⟩
theorem acts14_in {w : World} {base : Nat} {v : Value} (h : ReadsB Try.prog w base 22 v 1048576) :
    ∃ A n c l, v = .slice A n c ∧ Rd w A n 3 (rowV akkV l) ∧ l.length = n ∧ n ≤ c ∧ c ≤ 9223372036854775807 ∧ (∀ x ∈ l, AkOk w x) ∧ n ≤ 1048576 := by
  obtain ⟨A, n, c, rfl⟩ := h.slice TE rfl
  have hf := h.fit TE (.slice tyAct14) (by decide +kernel)
  obtain ⟨_, A', n', c', l, hv, g1, g2, g3, g4, g5, g6⟩ := FitB.row (g := akkV) (Q := AkOk w) (M := 1048576) act_of hf (Nat.le_refl _)
  cases hv
  unfold maxLen at g2
  exact ⟨A, n, c, l, rfl, g5, g4, g1, g2, g6, by omega⟩
theorem AkOk.be {w w' : World} {x : AK} (h : AkOk w x) (e : Ext w w') : AkOk w' x := { h with rd := h.rd.be e }
theorem keys14_in {w : World} {base : Nat} {v : Value} (h : ReadsB Try.prog w base 50 v 1048576) :
    ∃ A n c l, v = .slice A n c ∧ Rd w A n 1 (sv l) ∧ l.length = n ∧ n ≤ c ∧ c ≤ 9223372036854775807 ∧ n ≤ 1048576 := by
  obtain ⟨A, n, c, rfl⟩ := h.slice TE rfl
  have hf := h.fit TE (.slice .str) (by decide +kernel)
  obtain ⟨_, A', n', c', l, hv, g1, g2, g3, g4, g5, g6⟩ := FitB.row (g := fun t : Tx => [Value.string (ofL t)]) (Q := fun _ => True) (M := 1048576) (fun x k hk hx => by
    obtain ⟨S, rfl, h1, h2⟩ := hx
    exact ⟨by omega, S.data.toList, rfl, trivial⟩) hf (Nat.le_refl _)
  cases hv
  unfold maxLen at g2
  refine ⟨A, n, c, l, rfl, ?_, g4, g1, g2, by omega⟩
  have : rowV (fun t : Tx => [Value.string (ofL t)]) l = sv l := by simp [rowV, sv, List.flatten_eq_flatMap, List.flatMap_map, ← List.map_eq_flatMap]
  rw [← this]
  exact g5
end Go.Proofs.Ytomabcbemokijaa

/- What holds of every table, holds on. -/
namespace Go.Proofs.Ytomabcbemokijaa
open Go.RowKit Go.Proofs.Eng Go.Proofs.Foot Go.Proofs.Locks
set_option linter.unusedSimpArgs false
set_option linter.unusedVariables false set_option maxRecDepth 10000
attribute [local irreducible] T TL LV TH TA
theorem bump_range (s : Int) : -9223372036854775808 ≤ bump s ∧ bump s ≤ 9223372036854775807 := by
  have := fits_wrap .i64 (s + 1)
  unfold Fits at this
  exact this
theorem okT_enq {N : Nat} {t : LS} (h : OkT N t) {s : Int} {l : List Lk} (hs : s ≤ 9223372036854775807) (hl : l.length ≤ 1000000) : OkT (N + 1) (enqE t s l).1 := by
  unfold enqE
  split
  · exact h.mono (Nat.le_succ _)
  rename_i g1
  split
  · exact h.mono (Nat.le_succ _)
  rename_i g2
  have g3 : t.nx ≤ s ∧ 0 ≤ t.nx := by omega
  have g4 : chk none l = 0 := by omega
  have hh := h.hi g3.2
  constructor
  · simp only [List.map_append, List.map_cons, List.map_nil]
    rw [List.pairwise_append]
    refine ⟨h.srt, List.pairwise_singleton _ _, fun a ha b hb => ?_⟩
    obtain ⟨e, he, rfl⟩ := List.mem_map.1 ha
    rw [List.mem_singleton.1 hb]
    have := hh e he
    omega
  · intro e he
    rcases List.mem_append.1 he with he | he
    · exact h.lo e he
    · rw [List.mem_singleton.1 he]
      simp only
      omega
  · intro hn e he
    have hb : s < 9223372036854775807 := by
      by_cases q : s = 9223372036854775807
      · simp only [q, bump_max] at hn
        omega
      · omega
    simp only
    rw [bump_lt (by omega) hb]
    rcases List.mem_append.1 he with he | he
    · have := hh e he; omega
    · rw [List.mem_singleton.1 he]; simp only; omega
  · exact bump_range s
  · intro e he
    rcases List.mem_append.1 he with he | he
    · exact h.ky e he
    · rw [List.mem_singleton.1 he]; exact g4
  · have := h.ln; simp; omega
  · intro e he
    rcases List.mem_append.1 he with he | he
    · exact h.lk e he
    · rw [List.mem_singleton.1 he]; exact hl
theorem okT_rel {N : Nat} {t : LS} (h : OkT N t) (s : Int) : OkT N (relE t s).1 := by
  unfold relE
  cases eget t.E s with
  | none => exact h
  | some l =>
    simp only
    split
    · exact ⟨h.srt.sublist (List.filter_sublist.map _), fun e he => h.lo e (List.mem_filter.1 he).1, fun hn e he => h.hi hn e (List.mem_filter.1 he).1, h.nx, fun e he => h.ky e (List.mem_filter.1 he).1, Nat.le_trans (List.length_filter_le _ _) h.ln, fun e he => h.lk e (List.mem_filter.1 he).1⟩
    · exact h
end Go.Proofs.Ytomabcbemokijaa

namespace Go.Proofs.Ytomabcbemokijaa
open Go.RowKit Go.Proofs.Eng Go.Proofs.Foot Go.Proofs.Locks
set_option linter.unusedSimpArgs false
set_option linter.unusedVariables false set_option maxRecDepth 10000
attribute [local irreducible] T TL LV TH TA
theorem num_c14 (z : Int) (w : World) : Ret Try.prog 14 [.int .i64 z] w (fun v w' => v = .int .i64 z ∧ w' = w) := by
  refine ret_T (n := 4) Try.func14 rfl rfl ?_
  repeat (first | refine T_seq ?_ | refine T_region ?_ | refine TL_nil ?_ | refine TL_move (hk := ?_) | refine TL_assign (hk := ?_))
  exact T_ret1 rfl rfl ⟨rfl, rfl⟩
def totK (l : List AK) (i : Nat) : Nat := ((l.take i).map fun x => x.n).sum
theorem totK_succ (l : List AK) (i : Nat) (hi : i < l.length) : totK l (i + 1) = totK l i + (l.getD i ak_0).n := by
  unfold totK
  rw [List.take_succ_eq_append_getElem hi, List.map_append, List.sum_append]
  simp only [List.map_cons, List.map_nil, List.sum_cons, List.sum_nil, Nat.add_zero]
  rw [List.getD_eq_getElem?_getD, List.getElem?_eq_getElem hi]
  rfl
theorem totK_mem {l : List AK} {n : Nat} (hl : l.length = n) {x : AK} (hx : x ∈ l) : x.n ≤ totK l n := by
  unfold totK
  rw [List.take_of_length_le (by omega)]
  clear hl
  induction l with
  | nil => cases hx
  | cons y l ih =>
    simp only [List.map_cons, List.sum_cons]
    rcases List.mem_cons.1 hx with rfl | hx
    · omega
    · have := ih hx; omega
theorem long_c14 (A : Option Addr) (n c : Nat) (l : List AK) (w : World) (hr : Rd w A n 3 (rowV akkV l)) (hm : ∀ x ∈ l, AkOk w x) (hn : n ≤ 1048576) :
    Ret Try.prog 9 [.slice A n c] w (fun v w' => (v = .bool true ∨ v = .bool false ∧ n ≤ 200 ∧ ∀ x ∈ l, x.n ≤ 2000) ∧ Ext w w') := by
  have hl : l.length = n := by have := hr.1; rw [rowV_len akkV_len] at this; omega
  refine ret_T (n := 26) Try.func9 rfl rfl ?_
  repeat (first | refine T_seq ?_ | refine T_region ?_ | refine T_block ?_ | refine TL_nil ?_ | refine TL_assign (hk := ?_))
  refine T_loop (ι := Nat) (fun i => [(4, .int .i64 (i : Int)), (3, .int .i64 ((totK l i : Nat) : Int)), (0, .slice A n c)]) (fun i w' => Ext w w' ∧ i ≤ n ∧ totK l i ≤ i * 1048576) (fun i => n - i) 0 (.c rfl (.c rfl (.c rfl (.n)))) ⟨Mod.refl _ _, Nat.zero_le _, by simp [totK]⟩ ?_
  rintro i w1 ⟨e1, hi, ht⟩ ih
  have h1 := hr.be e1
  by_cases hlt : i < n
  · have hA : A ≠ none := by obtain ⟨_, _, hq, _⟩ := h1.2 (by omega); rw [hq]; simp
    have hv : (rowV akkV l)[i * 3 + 2]? = some (.slice (l.getD i ak_0).A (l.getD i ak_0).n (l.getD i ak_0).c) := rowV_at akkV_len l i 2 ak_0 (by omega) (by omega)
    have hsu := totK_succ l i (by omega)
    have hb := (hm _ (show l.getD i ak_0 ∈ l by rw [List.getD_eq_getElem?_getD, List.getElem?_eq_getElem (by omega)]; exact List.getElem_mem _)).nb
    generalize l.getD i ak_0 = x at hv hsu hb
    have hc : ((totK l i : Nat) : Int) + (x.n : Int) = ((totK l (i + 1) : Nat) : Int) := by omega
    have hmul : (i + 1) * 1048576 = i * 1048576 + 1048576 := Nat.succ_mul _ _
    have hmul2 : i * 1048576 ≤ 1048576 * 1048576 := Nat.mul_le_mul_right _ (by omega)
    repeat (first | refine T_seq ?_ | refine T_region ?_ | refine T_cond_true rfl ?_ | refine T_block ?_ | refine T_inBlock ?_ | refine T_skip ?_ | refine TL_add (hk := ?_) | refine TL_lt_t (hk := ?_) | refine TL_nil ?_ | refine TL_move (hk := ?_) | refine TL_assign (hk := ?_) | refine TL_load_rd TE (hk := ?_) | refine TL_fieldAddr_e TE (hk := ?_) | refine TL_indexAddrn TE (hk := ?_) | refine TL_len TE (hk := ?_))
    rw [hc]
    --
    exact ih (i + 1) _ _ (by omega) ⟨e1, by omega, by omega⟩ (.c rfl (.c rfl (.c rfl (.n))))
  · have : n = i := by omega
    subst this
    clear ih
    by_cases h40 : 200 < n
    · repeat (first | refine T_seq ?_ | refine T_region ?_ | refine T_cond_false rfl ?_ | refine T_exit rfl ?_ | refine TL_lt_f (hk := ?_) | refine TL_gt_t (hk := ?_) | refine TL_nil ?_ | refine TL_move (hk := ?_) | refine TL_assign (hk := ?_) | refine TL_len TE (hk := ?_) | refine TL_no (hk := ?_) | refine TL_pick_t (hk := ?_))
      exact T_ret1 rfl rfl ⟨.inl rfl, e1⟩
    · by_cases h15 : 2000 < totK l n
      · repeat (first | refine T_seq ?_ | refine T_region ?_ | refine T_cond_false rfl ?_ | refine T_exit rfl ?_ | refine TL_lt_f (hk := ?_) | refine TL_gt_t (hk := ?_) | refine TL_gt_f (hk := ?_) | refine TL_nil ?_ | refine TL_move (hk := ?_) | refine TL_assign (hk := ?_) | refine TL_len TE (hk := ?_) | refine TL_yes (hk := ?_) | refine TL_pick_f (hk := ?_))
        exact T_ret1 rfl rfl ⟨.inl rfl, e1⟩
      · repeat (first | refine T_seq ?_ | refine T_region ?_ | refine T_cond_false rfl ?_ | refine T_exit rfl ?_ | refine TL_lt_f (hk := ?_) | refine TL_gt_f (hk := ?_) | refine TL_nil ?_ | refine TL_move (hk := ?_) | refine TL_assign (hk := ?_) | refine TL_len TE (hk := ?_) | refine TL_yes (hk := ?_) | refine TL_pick_f (hk := ?_))
        exact T_ret1 rfl rfl ⟨.inr ⟨rfl, by omega, fun x hx => Nat.le_trans (totK_mem hl hx) (by omega)⟩, e1⟩
/-- A row of locks of one's own, one more behind it. -/
theorem own_c14 (A : Option Addr) (n c : Nat) (l : List Lk) (w : World) (h : Rd w A n 2 (rowV lkV l)) (hn : n ≤ 1048576) :
    Ret Try.prog 17 [.slice A n c] w (fun v w' => ∃ x : SL, v = sL x ∧ x.2.1 = n ∧ Ext w w' ∧ LRow w' w.heap.size x l) := by
  have hl : l.length = n := by have := h.1; rw [rowV_len lkV_len] at this; omega
  have hone := rowV_one lkV_one l
  refine ret_T (n := 12) Try.func17 rfl rfl ?_
  repeat (first | refine T_seq ?_ | refine T_region ?_ | refine TL_nil ?_ | refine TL_assign (hk := ?_))
  refine TL_buildSlice0 TE (hk := ?_); intro b1 w1 e1 h1 h1' k1
  have o1 : Own w1 w.heap.size 61 2 (some ⟨b1, 0, none⟩) 0 0 [] := Own.of_blk k1 h1 rfl (by decide)
  have h2 := h.be e1
  have z1 := e1.size
  repeat (refine TL_move (hk := ?_))
  refine TL_append TE (hk := ?_); intro A2 c2 w2 o2 m2 n2
  rw [List.nil_append] at o2
  have e2 : Ext w w2 := Mod.own e1 m2 o1.hi
  have z2 := e2.size
  repeat (refine TL_build TE (hk := ?_))
  refine TL_buildSliceA TE (hk := ?_); intro b3 w3 e3 h3 h3' k3
  replace k3 : Blk w3 b3 61 (rowV lkV [([98, 101, 104, 105, 110, 100], false)]) := k3
  have r3 : Rd w3 (some ⟨b3, 0, none⟩) 1 2 (rowV lkV [([98, 101, 104, 105, 110, 100], false)]) := Rd.blk k3 rfl
  have z3 := e3.size
  --
  refine TL_append TE (ho := Own.be e3 o2) (hr := r3) (h1 := rowV_one lkV_one _) (hk := ?_); intro A4 c4 w4 o4 m4 n4
  have hcap := o4.cap.1
  have ho := o4.shrink (n' := n) (by omega)
  rw [List.take_append_of_le_length (by rw [rowV_len lkV_len]; omega), List.take_of_length_le (by rw [rowV_len lkV_len]; omega)] at ho
  repeat (first | refine TL_nil ?_ | refine TL_move (hk := ?_) | refine TL_assign (hk := ?_) | refine TL_len TE (hk := ?_) | refine TL_slice_hi TE (hk := ?_))
  exact T_ret1 rfl rfl ⟨(A4, n, c4), rfl, rfl, Mod.own (e2.ext e3) m4 o2.hi, ho⟩
def kt1 : LS := ⟨[(1, [([97], true)])], 2⟩
def kt2 : LS := ⟨[(1, [([97], true)]), (2, [([97], false)])], 3⟩
def kt4 : LS := ⟨[(2, [([97], false)])], 3⟩
theorem kst1 : enqE ⟨[], 0⟩ 1 [([97], true)] = (kt1, 0) := by kernel_rfl
theorem kst2 : enqE kt1 2 [([97], false)] = (kt2, 0) := by kernel_rfl
theorem kst3 : enqE kt2 2 [] = (kt2, 140) := by kernel_rfl
theorem kst4 : relE kt2 2 = (kt2, 141) := by kernel_rfl
theorem kst5 : waitsE kt2 2 = [1] := by decide +kernel
theorem kst6 : relE kt2 1 = (kt4, 0) := by kernel_rfl
theorem kst7 : readyE kt4.E 2 = true := by decide +kernel
theorem live_c14 (w : World) : Ret Try.prog 10 [] w (fun v w' => v = .bool true ∧ Ext w w') := by
  refine ret_T (n := 70) Try.func10 rfl rfl ?_
  repeat (first | refine T_seq ?_ | refine T_region ?_ | refine TL_nil ?_ | refine TL_assign (hk := ?_))
  refine TL_call TE (hc := KNew_c _) (hk := ?_)
  rintro _ w1 ⟨m1, f1, rfl, e1, h1⟩
  have ok0 := OkT.start
  have T1 : ∃ m f, m.p = m1.p ∧ TabM w1 w.heap.size m f (qOf []) [] 0 := ⟨m1, f1, rfl, h1⟩
  have E1 := e1
  generalize hp : m1.p = p at T1
  clear h1 hp e1
  obtain ⟨m1, f1, hp, h1⟩ := T1
  have hz : ∀ b, ow f1 b ≠ 0 → w.heap.size ≤ b := fun b q => (h1.old b q).1
  repeat (first | refine T_seq ?_ | refine T_region ?_ | refine T_cond_false rfl ?_ | refine T_skip ?_ | refine TL_pnil_f TE (hk := ?_) | refine TL_nil ?_ | refine TL_move (hk := ?_) | refine TL_assign (hk := ?_) | refine TL_build TE (hk := ?_))
  refine TL_buildSliceA TE (hk := ?_); intro b2 w2 e2 h2 h2' k2
  replace k2 : Blk w2 b2 61 (rowV lkV [([97], true)]) := k2
  have r2 : Rd w2 (some ⟨b2, 0, none⟩) 1 2 (rowV lkV [([97], true)]) := Rd.blk k2 rfl
  have hb2 : ow f1 b2 = 0 := by
    by_cases q : ow f1 b2 = 0
    · exact q
    · have := (h1.old b2 q).2; omega
  rw [← hp]
  have enq1 := Enqueue_c (t := ⟨[], 0⟩) (some ⟨b2, 0, none⟩) 1 1 [([97], true)] 1 w2 (h1.ext e2) ok0 (by omega) r2 (by simp [blkL]; exact hb2) (by omega) (by simp) (by omega)
  rw [kst1] at enq1
  --
  refine TL_call TE (hc := enq1) (hk := ?_)
  rintro _ w3 ⟨rfl, m3, f3, hp3, h3, t3⟩
  have E3 := t3.ext0 (E1.ext e2) hz
  rw [hp] at hp3
  have ok1 := okT_enq ok0 (s := 1) (l := [([97], true)]) (by omega) (by simp)
  rw [kst1] at ok1
  rw [hp]
  clear h1 t3 enq1 r2 k2 hb2 hz hp
  repeat (first | refine T_seq ?_ | refine T_region ?_ | refine TL_nil ?_ | refine TL_move (hk := ?_) | refine TL_assign (hk := ?_) | refine TL_build TE (hk := ?_))
  refine TL_buildSliceA TE (hk := ?_); intro b4 w4 e4 h4 h4' k4
  replace k4 : Blk w4 b4 61 (rowV lkV [([97], false)]) := k4
  have r4 : Rd w4 (some ⟨b4, 0, none⟩) 1 2 (rowV lkV [([97], false)]) := Rd.blk k4 rfl
  have hb4 : ow f3 b4 = 0 := by
    by_cases q : ow f3 b4 = 0
    · exact q
    · have := (h3.old b4 q).2; omega
  have enq2 := Enqueue_c (t := kt1) (some ⟨b4, 0, none⟩) 1 1 [([97], false)] 2 w4 (h3.ext e4) ok1 (by omega) r4 (by simp [blkL]; exact hb4) (by omega) (by simp) (by omega)
  rw [kst2, hp3] at enq2
  --
  refine TL_call TE (hc := enq2) (hk := ?_)
  rintro _ w5 ⟨rfl, m5, f5, hp5, h5, t5⟩
  have E5 := t5.ext0 (E3.ext e4) (fun b q => (h3.old b q).1)
  have ok2 := okT_enq ok1 (s := 2) (l := [([97], false)]) (by omega) (by simp)
  rw [kst2] at ok2
  clear h3 t5 enq2 r4 k4 hb4
  have enq3 := Enqueue_c (t := kt2) none 0 0 [] 2 w5 h5 ok2 (by omega) (Rd.nil _ _ _) (by simp [blkL]) (by omega) (by simp) (by omega)
  rw [kst3, hp5] at enq3
  repeat (first | refine T_seq ?_ | refine T_region ?_ | refine TL_nil ?_ | refine TL_move (hk := ?_) | refine TL_assign (hk := ?_))
  refine TL_call TE (hc := enq3) (hk := ?_)
  rintro _ w6 ⟨rfl, m6, f6, hp6, h6, t6⟩
  have E6 := t6.ext0 E5 (fun b q => (h5.old b q).1)
  clear h5 t6 enq3
  have rel1 := Release_c (t := kt2) 2 w6 h6 ok2 (by omega)
  rw [kst4, hp6] at rel1
  repeat (first | refine T_seq ?_ | refine T_region ?_ | refine TL_nil ?_ | refine TL_move (hk := ?_) | refine TL_assign (hk := ?_))
  refine TL_call TE (hc := rel1) (hk := ?_)
  rintro _ w7 ⟨rfl, m7, f7, hp7, h7, t7⟩
  have E7 := t7.ext0 E6 (fun b q => (h6.old b q).1)
  clear h6 t7 rel1
  have wts := Waits_c (t := kt2) 2 w7 h7 ok2 (by omega)
  rw [kst5, hp7] at wts
  repeat (first | refine T_seq ?_ | refine T_region ?_ | refine TL_nil ?_ | refine TL_move (hk := ?_) | refine TL_assign (hk := ?_))
  refine TL_call TE (hc := wts) (hk := ?_)
  rintro _ w8 ⟨x, rfl, e8, rx⟩
  have hxn := rx.len
  rw [iv_len] at hxn
  have hx1 : x.2.1 = 1 := by simpa using hxn.symm
  have h8 := h7.ext e8
  have hx0 : ∀ b ∈ blkL x.1, ow f7 b = 0 := fun b q => by
    by_cases y : ow f7 b = 0
    · exact y
    · have := (h7.old b y).2; have := (rx.bl b q).1; omega
  have E8 := E7.ext e8
  have rel2 := Release_c (t := kt2) 1 w8 h8 ok2 (by omega)
  rw [kst6, hp7] at rel2
  clear h7 wts
  repeat (first | refine T_seq ?_ | refine T_region ?_ | refine TL_nil ?_ | refine TL_move (hk := ?_) | refine TL_assign (hk := ?_))
  refine TL_call TE (hc := rel2) (hk := ?_)
  rintro _ w9 ⟨rfl, m9, f9, hp9, h9, t9⟩
  have E9 := t9.ext0 E8 (fun b q => (h8.old b q).1)
  obtain ⟨rx9, -⟩ := rx.tn t9 hx0
  have ok4 := okT_rel ok2 1
  rw [kst6] at ok4
  clear h8 rel2 rx t9
  have hx1' : (x.2.1 : Int) = 1 := by omega
  have hv : (iv [1])[0]? = some (.int .i64 1) := rfl
  have rd9 := rx9.rd
  repeat (first | refine T_seq ?_ | refine T_region ?_ | refine TL_nil ?_ | refine TL_move (hk := ?_) | refine TL_assign (hk := ?_))
  refine TL_call TE (hc := num_c14 _ _) (hk := ?_)
  rintro _ _ ⟨rfl, rfl⟩
  repeat (first | refine TL_eq_t (hk := ?_) | refine TL_move (hk := ?_) | refine TL_yes (hk := ?_))
  refine TL_call TE (hc := num_c14 _ _) (hk := ?_)
  rintro _ _ ⟨rfl, rfl⟩
  repeat (first | refine TL_eq_t (hk := ?_) | refine TL_move (hk := ?_) | refine TL_yes (hk := ?_) | refine TL_pick_t (hk := ?_))
  refine TL_call TE (hc := num_c14 _ _) (hk := ?_)
  rintro _ _ ⟨rfl, rfl⟩
  repeat (first | refine TL_eq_t (hk := ?_) | refine TL_move (hk := ?_) | refine TL_yes (hk := ?_) | refine TL_pick_t (hk := ?_))
  refine TL_call TE (hc := num_c14 _ _) (hk := ?_)
  rintro _ w9 ⟨rfl, rfl⟩
  have hxA : x.1 ≠ none := by obtain ⟨_, _, hq, _⟩ := rd9.2 (by omega); rw [hq]; simp
  repeat (first | refine TL_eq_t (hk := ?_) | refine TL_move (hk := ?_) | refine TL_load_rd TE (hk := ?_) | refine TL_indexAddr1n TE (hk := ?_) | refine TL_len TE (hk := ?_) | refine TL_yes (hk := ?_) | refine TL_pick_t (hk := ?_))
  refine TL_call TE (hc := num_c14 _ _) (hk := ?_)
  rintro _ w9 ⟨rfl, rfl⟩
  have rdy := Ready_c (t := kt4) 2 w9 h9 ok4 (by omega)
  rw [kst7, hp9] at rdy
  repeat (first | refine TL_eq_t (hk := ?_) | refine TL_move (hk := ?_) | refine TL_yes (hk := ?_) | refine TL_pick_t (hk := ?_))
  refine TL_call TE (hc := rdy) (hk := ?_)
  rintro _ w10 ⟨rfl, e10⟩
  have cnt := Count_c (t := kt4) w10 (h9.ext e10)
  rw [hp9] at cnt
  repeat (first | refine TL_move (hk := ?_) | refine TL_yes (hk := ?_) | refine TL_pick_t (hk := ?_))
  refine TL_call TE (hc := cnt) (hk := ?_)
  rintro _ w10 ⟨rfl, rfl⟩
  have hone : ((kt4.E.length : Nat) : Int) = 1 := rfl
  repeat (first | refine TL_eq_t (hk := ?_) | refine TL_nil ?_ | refine TL_assign (hk := ?_) | refine TL_yes (hk := ?_) | refine TL_pick_t (hk := ?_))
  exact T_ret1 rfl rfl ⟨rfl, E9.ext e10⟩
end Go.Proofs.Ytomabcbemokijaa

/- Of each queue a beginning is granted; who is ready stays so. -/
namespace Go.Proofs.Ytomabcbemokijaa
open Go.RowKit Go.Proofs.Eng Go.Proofs.Foot Go.Proofs.Locks
set_option linter.unusedSimpArgs false
set_option linter.unusedVariables false set_option maxRecDepth 10000
attribute [local irreducible] T TL LV TH TA
structure QueueOk (q : List Akk) (g : Nat) : Prop where
  le : g ≤ q.length
  pos : 0 < q.length → 1 ≤ g
  rd : ∀ i, 1 ≤ i → i < g → (q.getD i ak0).2 = false ∧ (q.getD 0 ak0).2 = false
  wr : ∀ i, g ≤ i → i < q.length → (q.getD i ak0).2 = true ∨ ∃ j, j < i ∧ (q.getD j ak0).2 = true
end Go.Proofs.Ytomabcbemokijaa

namespace Go.Proofs.Ytomabcbemokijaa
open Go.RowKit Go.Proofs.Eng Go.Proofs.Foot Go.Proofs.Locks
set_option linter.unusedSimpArgs false
set_option linter.unusedVariables false set_option maxRecDepth 10000
attribute [local irreducible] T TL LV TH TA
set_option maxHeartbeats 1600000
end Go.Proofs.Ytomabcbemokijaa

namespace Go.Proofs.Ytomabcbemokijaa
open Go.RowKit Go.Proofs.Eng Go.Proofs.Foot Go.Proofs.Locks
set_option linter.unusedSimpArgs false
set_option linter.unusedVariables false set_option maxRecDepth 10000
attribute [local irreducible] T TL LV TH TA
set_option maxHeartbeats 3200000
/-- A table that stands, what lay ahead of it as it was. -/
structure TS (w0 w : World) (base p N : Nat) (m : LM) (f : Nat → Ow) (t : LS) : Prop where
  e : Ext w0 w
  ok : OkT N t
  hp : m.p = p
  h : TabM w base m f (qOf t.E) t.E t.nx
  hb : w0.heap.size ≤ base
section
variable {w0 w w' : World} {base p N : Nat} {m m' : LM} {f f' : Nat → Ow} {t t' : LS}
theorem TS.own (T : TS w0 w base p N m f t) {b : Nat} (hb : ow f b ≠ 0) : w0.heap.size ≤ b := by have := (T.h.old b hb).1; have := T.hb; omega
theorem TS.off (T : TS w0 w base p N m f t) {A : Option Addr} (h : Lo A w0.heap.size) : Off A (ownB w (ow f)) := off_ofL fun b q q' => by
  have h1 := Lo.mem h b q
  have h2 := T.own (ownB_mem q')
  omega
theorem TS.ext (T : TS w0 w base p N m f t) (e : Ext w w') : TS w0 w' base p N m f t := ⟨T.e.ext e, T.ok, T.hp, T.h.ext e, T.hb⟩
theorem TS.turn (T : TS w0 w base p N m f t) (hp : m'.p = m.p) (h : TabM w' base m' f' (qOf t'.E) t'.E t'.nx) (tn : Tn (ow f) (ow f') w w') {N' : Nat} (ok : OkT N' t') : TS w0 w' base p N' m' f' t' :=
  ⟨tn.ext0 T.e (fun b q => T.own q), ok, hp.trans T.hp, h, T.hb⟩
theorem TS.mono (T : TS w0 w base p N m f t) {M : Nat} (h : N ≤ M) : TS w0 w base p M m f t := { T with ok := T.ok.mono h }
end
/-- What one act does. -/
def actE (t : LS) (x : AK) : LS := if x.rel = true then (relE t x.s).1 else (enqE t x.s x.l).1
end Go.Proofs.Ytomabcbemokijaa

namespace Go.Proofs.Ytomabcbemokijaa
open Go.RowKit Go.Proofs.Eng Go.Proofs.Foot Go.Proofs.Locks
set_option linter.unusedSimpArgs false
set_option linter.unusedVariables false set_option maxRecDepth 10000
attribute [local irreducible] T TL LV TH TA
set_option maxHeartbeats 3200000
end Go.Proofs.Ytomabcbemokijaa

/- Rows as the statements keep them. -/
namespace Go.Proofs.Ytomabcbemokijaa
open Go.RowKit Go.Proofs.Eng Go.Proofs.Foot Go.Proofs.Locks
set_option linter.unusedSimpArgs false
set_option linter.unusedVariables false set_option maxRecDepth 10000
attribute [local irreducible] T TL LV TH TA
def clash2 (a b : List Lk) : Bool := a.any fun x => b.any fun y => decide (x.1 = y.1) && (x.2 || y.2)
structure RE where
  s : Int
  A : Option Addr
  n : Nat
  c : Nat
  was : Bool
  l : List Lk
def re0 : RE := ⟨0, none, 0, 0, false, []⟩
def rwV (r : RE) : List Value := [.int .i64 r.s, .slice r.A r.n r.c, .bool r.was]
theorem rwV_len (r : RE) : (rwV r).length = 3 := rfl
def entR (r : RE) : Ent := (r.s, r.l)
def aloneB (rs : List RE) (k : Nat) : Bool := (rs.take k).all fun r => !clash2 r.l (rs.getD k re0).l
theorem ahead_take {E : List Ent} (hn : (E.map (·.1)).Nodup) {k : Nat} (hk : k < E.length) : aheadE E (E[k]).1 = E.take k := by
  induction E generalizing k with
  | nil => simp at hk
  | cons e E ih =>
    rw [List.map_cons, List.nodup_cons] at hn
    unfold aheadE at ih ⊢
    cases k with
    | zero => simp
    | succ k =>
      have hk' : k < E.length := by simpa using hk
      have : ¬ e.1 = (E[k]).1 := fun q => hn.1 (by rw [q]; exact List.mem_map.2 ⟨E[k], List.getElem_mem _, rfl⟩)
      rw [List.takeWhile_cons, List.getElem_cons_succ]
      simp only [this, decide_false, Bool.not_false, if_true, List.take_succ_cons]
      rw [ih hn.2 hk']
section
variable {t : LS} {N : Nat} {rs : List RE}
theorem ok_nodup (ok : OkT N t) : (t.E.map (·.1)).Nodup := ok.srt.imp (fun {a b} q e => by omega)
theorem waits_len (t : LS) (s : Int) : (waitsE t s).length ≤ t.E.length := by
  unfold waitsE
  cases eget t.E s with
  | none => simp
  | some l =>
    simp only [List.length_map]
    exact Nat.le_trans (List.length_filter_le _ _) (List.takeWhile_sublist _).length_le
end
end Go.Proofs.Ytomabcbemokijaa

namespace Go.Proofs.Ytomabcbemokijaa
open Go.RowKit Go.Proofs.Eng Go.Proofs.Foot Go.Proofs.Locks
set_option linter.unusedSimpArgs false
set_option linter.unusedVariables false set_option maxRecDepth 10000
attribute [local irreducible] T TL LV TH TA
set_option maxHeartbeats 1600000
abbrev RwRow (w : World) (base : Nat) (x : SL) (rs : List RE) : Prop := Own w base 39 3 x.1 x.2.1 x.2.2 (rowV rwV rs)
def woU (rs : List RE) (s : Int) (i : Nat) : List RE := (rs.take i).filter fun r => !decide (r.s = s)
end Go.Proofs.Ytomabcbemokijaa

namespace Go.Proofs.Ytomabcbemokijaa
open Go.RowKit Go.Proofs.Eng Go.Proofs.Foot Go.Proofs.Locks
set_option linter.unusedSimpArgs false
set_option linter.unusedVariables false set_option maxRecDepth 10000
attribute [local irreducible] T TL LV TH TA
set_option maxHeartbeats 1600000
/-- An entry of the document's table. -/
structure WE where
  s : Int
  A : Option Addr
  n : Nat
  c : Nat
  l : List Lk
def we0 : WE := ⟨0, none, 0, 0, []⟩
def weV (e : WE) : List Value := [.int .i64 e.s, .slice e.A e.n e.c]
theorem weV_len (e : WE) : (weV e).length = 2 := rfl
theorem weV_one (e : WE) : ∀ u ∈ weV e, u.oneCell' = true := by
  intro u hu
  simp only [weV, List.mem_cons, List.not_mem_nil, or_false] at hu
  rcases hu with rfl | rfl <;> rfl
def entW (e : WE) : Ent := (e.s, e.l)
structure RfM (w : World) (q : Nat) (x : SL) (last : Int) (es : List WE) : Prop where
  blk : Blk w q 88 [sL x, .int .i64 last]
  rd : Rd w x.1 x.2.1 2 (rowV weV es)
  lk : ∀ e ∈ es, Rd w e.A e.n 2 (rowV lkV e.l) ∧ e.n ≤ 2000
  ln : es.length ≤ 100000
theorem RfM.len {w : World} {q : Nat} {x : SL} {last : Int} {es : List WE} (h : RfM w q x last es) : es.length = x.2.1 := by
  have := h.rd.1
  rw [rowV_len weV_len] at this
  omega
theorem RfM.ext {w w' : World} {q : Nat} {x : SL} {last : Int} {es : List WE} (h : RfM w q x last es) (e : Ext w w') : RfM w' q x last es :=
  ⟨h.blk.be e, h.rd.be e, fun r hr => ⟨(h.lk r hr).1.be e, (h.lk r hr).2⟩, h.ln⟩
theorem asks_at : ∀ {l : List Lk} {k : Tx} {i : Nat}, i < l.length → (l.getD i lk0).1 = k → (∀ j, j < i → ¬ (l.getD j lk0).1 = k) → asks l k = some (l.getD i lk0).2
  | [], _, _, h, _, _ => by simp at h
  | x :: q, k, 0, _, h1, _ => by simp at h1; simp [asks, h1]
  | x :: q, k, i + 1, h, h1, h2 => by
    have h0 := h2 0 (by omega)
    simp at h0
    have ih := asks_at (l := q) (k := k) (i := i) (by simpa using h) (by simpa using h1) (fun j hj => by have := h2 (j + 1) (by omega); simpa using this)
    simpa [asks, h0] using ih
theorem asks_no : ∀ {l : List Lk} {k : Tx}, (∀ j, j < l.length → ¬ (l.getD j lk0).1 = k) → asks l k = none
  | [], _, _ => rfl
  | x :: q, k, h => by
    have h0 := h 0 (by simp)
    simp at h0
    have ih := asks_no (l := q) (k := k) (fun j hj => by have := h (j + 1) (by simpa using hj); simpa using this)
    simpa [asks, h0] using ih
def asksB (l : List Lk) (k : Tx) : Bool := (asks l k).getD false
def asksT (l : List Lk) (k : Tx) : Bool := (asks l k).isSome
theorem ne_str {a b : Tx} (h : ¬ a = b) : ¬ ofL a = ofL b := fun q => h (by have := congrArg (fun z : ByteArray => z.data.toList) q; simpa [ofL] using this)
theorem Asks_c (e : WE) (k : Tx) (w : World) (h : Rd w e.A e.n 2 (rowV lkV e.l)) (hn : e.n ≤ 1000000) :
    Ret Try.prog 63 [.agg #[.int .i64 e.s, .slice e.A e.n e.c], .string (ofL k)] w (fun v w' => v = .tuple #[.bool (asksB e.l k), .bool (asksT e.l k)] ∧ Ext w w') := by
  have hl : e.l.length = e.n := by have := h.1; rw [rowV_len lkV_len] at this; omega
  refine ret_T (n := 28) Try.func63 rfl rfl ?_
  repeat (first | refine T_seq ?_ | refine T_region ?_)
  refine TL_box (hk := ?_); intro b2 w2 e2 h2 h2' k2
  replace k2 : Blk w2 b2 91 [.int .i64 e.s, .slice e.A e.n e.c] := k2
  have hr2 := h.be e2
  repeat (first | refine T_seq ?_ | refine T_region ?_ | refine T_block ?_ | refine TL_nil ?_ | refine TL_assign (hk := ?_))
  refine T_loop (ι := Nat) (fun i => [(6, .int .i64 (i : Int)), (2, pT b2), (1, .string (ofL k))]) (fun i w' => w' = w2 ∧ i ≤ e.n ∧ ∀ j, j < i → ¬ (e.l.getD j lk0).1 = k) (fun i => e.n - i) 0 (.c rfl (.c rfl (.c rfl (.n)))) ⟨rfl, Nat.zero_le _, fun j h => absurd h (by omega)⟩ ?_
  rintro i w3 ⟨rfl, hi, hu⟩ ih
  by_cases hlt : i < e.n
  · have hv0 : (rowV lkV e.l)[i * 2 + 0]? = some (.string (ofL (e.l.getD i lk0).1)) := rowV_at lkV_len e.l i 0 lk0 (by omega) (by omega)
    have hv1 : (rowV lkV e.l)[i * 2 + 1]? = some (.bool (e.l.getD i lk0).2) := rowV_at lkV_len e.l i 1 lk0 (by omega) (by omega)
    have hA : e.A ≠ none := by obtain ⟨_, _, hq, _⟩ := hr2.2 (by omega); rw [hq]; simp
    have hat := asks_at (l := e.l) (k := k) (i := i) (by omega)
    obtain ⟨y, hy⟩ : ∃ y, e.l.getD i lk0 = y := ⟨_, rfl⟩
    rw [hy] at hv0 hv1 hat
    by_cases hk : y.1 = k
    · rw [hk] at hv0
      have hr := hat hk hu
      clear ih
      repeat (first | refine T_seq ?_ | refine T_region ?_ | refine T_cond_true rfl ?_ | refine T_block ?_ | refine T_skip ?_ | refine TL_lt_t (hk := ?_) | refine TL_seq_t (hk := ?_) | refine TL_nil ?_ | refine TL_move (hk := ?_) | refine TL_assign (hk := ?_) | refine TL_load TE (hk := ?_) | refine TL_load_rd TE (hk := ?_) | refine TL_fieldAddr TE (hk := ?_) | refine TL_fieldAddr_e TE (hk := ?_) | refine TL_indexAddrn TE (hk := ?_) | refine TL_len TE (hk := ?_))
      exact T_ret2 rfl rfl rfl ⟨by rw [asksB, asksT, hr]; rfl, e2⟩
    · have hne := ne_str hk
      repeat (first | refine T_seq ?_ | refine T_region ?_ | refine T_cond_true rfl ?_ | refine T_cond_false rfl ?_ | refine T_block ?_ | refine T_inBlock ?_ | refine T_skip ?_ | refine TL_add (hk := ?_) | refine TL_lt_t (hk := ?_) | refine TL_seq_f (hk := ?_) | refine TL_nil ?_ | refine TL_move (hk := ?_) | refine TL_assign (hk := ?_) | refine TL_load TE (hk := ?_) | refine TL_load_rd TE (hk := ?_) | refine TL_fieldAddr TE (hk := ?_) | refine TL_fieldAddr_e TE (hk := ?_) | refine TL_indexAddrn TE (hk := ?_) | refine TL_len TE (hk := ?_))
      exact ih (i + 1) _ _ (by omega) ⟨rfl, by omega, fun j hj => by
        by_cases q : j = i
        · rw [q, hy]; exact hk
        · exact hu j (by omega)⟩ (.c rfl (.c rfl (.c rfl (.n))))
  · clear ih
    have hr := asks_no (l := e.l) (k := k) (fun j hj => hu j (by omega))
    repeat (first | refine T_seq ?_ | refine T_region ?_ | refine T_cond_false rfl ?_ | refine T_exit rfl ?_ | refine TL_lt_f (hk := ?_) | refine TL_nil ?_ | refine TL_move (hk := ?_) | refine TL_assign (hk := ?_) | refine TL_load TE (hk := ?_) | refine TL_fieldAddr TE (hk := ?_) | refine TL_len TE (hk := ?_))
    exact T_ret2 rfl rfl rfl ⟨by rw [asksB, asksT, hr]; rfl, e2⟩
def grB (es : List WE) (p : Nat) (k : Tx) : Bool := (es.take p).all fun e => !(asksT e.l k && (asksB (es.getD p we0).l k || asksB e.l k))
theorem granted_c14 {q : Nat} {x : SL} {last : Int} {es : List WE} (p : Nat) (k : Tx) (w : World) (h : RfM w q x last es) (hp : p < es.length) :
    Ret Try.prog 62 [pT q, .int .i64 (p : Int), .string (ofL k)] w (fun v w' => v = .bool (grB es p k) ∧ Ext w w') := by
  have hl := h.len
  have hb := h.blk
  have hr := h.rd
  have hln := h.ln
  have hmp : es.getD p we0 ∈ es := by rw [List.getD_eq_getElem?_getD, List.getElem?_eq_getElem hp]; exact List.getElem_mem _
  have t0 := rowV_elem weV_len es p we0 hp
  have hg : grB es p k = (es.take p).all fun e => !(asksT e.l k && (asksB (es.getD p we0).l k || asksB e.l k)) := rfl
  obtain ⟨y, hy⟩ : ∃ y, es.getD p we0 = y := ⟨_, rfl⟩
  rw [hy] at hmp t0 hg
  have hA : x.1 ≠ none := by obtain ⟨_, _, hq, _⟩ := hr.2 (by omega); rw [hq]; simp
  obtain ⟨ry, yn⟩ := h.lk y hmp
  refine ret_T (n := 48) Try.func62 rfl rfl ?_
  repeat (first | refine T_seq ?_ | refine T_region ?_ | refine TL_nil ?_ | refine TL_move (hk := ?_) | refine TL_assign (hk := ?_) | refine TL_load TE (hk := ?_) | refine TL_fieldAddr TE (hk := ?_) | refine TL_indexAddrn TE (hk := ?_) | refine TL_nilCheck (hk := ?_))
  refine TL_loada TE (cs := weV y) (hx := rfl) (ht := rfl) (hi := rfl) (hr := hr) (hc := t0) (h0 := Nat.succ_pos _) (hk := ?_)
  repeat (refine TL_move (hk := ?_))
  refine TL_call TE (hc := Asks_c y k _ ry (by omega)) (hk := ?_)
  rintro _ w1 ⟨rfl, e1⟩
  repeat (first | refine T_seq ?_ | refine T_region ?_ | refine T_block ?_ | refine TL_nil ?_ | refine TL_move (hk := ?_) | refine TL_assign (hk := ?_) | refine TL_extract (hk := ?_))
  refine T_loop (ι := Nat) (fun i => [(9, .int .i64 (i : Int)), (7, .bool (asksB y.l k)), (0, pT q), (1, .int .i64 (p : Int)), (2, .string (ofL k))]) (fun i w' => Ext w w' ∧ i ≤ p ∧ ∀ j, j < i → (asksT (es.getD j we0).l k && (asksB y.l k || asksB (es.getD j we0).l k)) = false) (fun i => p - i) 0 (.c rfl (.c rfl (.c rfl (.c rfl (.c rfl (.n)))))) ⟨e1, Nat.zero_le _, fun j h => absurd h (by omega)⟩ ?_
  rintro i w2 ⟨e2, hi, hu⟩ ih
  clear e1 hb hr
  have hb := h.blk.be e2
  have hr := h.rd.be e2
  by_cases hlt : i < p
  · have t1 := rowV_elem weV_len es i we0 (by omega)
    have hm : es.getD i we0 ∈ es.take p := by
      rw [List.getD_eq_getElem?_getD, List.getElem?_eq_getElem (by omega), List.mem_iff_getElem]
      exact ⟨i, by simp; omega, by simp⟩
    obtain ⟨z, hz⟩ : ∃ z, es.getD i we0 = z := ⟨_, rfl⟩
    rw [hz] at t1 hm
    obtain ⟨rz, zn⟩ := h.lk z (List.mem_of_mem_take hm)
    repeat (first | refine T_seq ?_ | refine T_region ?_ | refine T_cond_true rfl ?_ | refine T_block ?_ | refine T_skip ?_ | refine TL_lt_t (hk := ?_) | refine TL_nil ?_ | refine TL_move (hk := ?_) | refine TL_load TE (hk := ?_) | refine TL_fieldAddr TE (hk := ?_) | refine TL_indexAddrn TE (hk := ?_) | refine TL_nilCheck (hk := ?_))
    refine TL_loada TE (cs := weV z) (hx := rfl) (ht := rfl) (hi := rfl) (hr := hr) (hc := t1) (h0 := Nat.succ_pos _) (hk := ?_)
    repeat (refine TL_move (hk := ?_))
    refine TL_call TE (hc := Asks_c z k _ (rz.be e2) (by omega)) (hk := ?_)
    rintro _ w3 ⟨rfl, e3⟩
    cases hT : asksT z.l k with
    | false =>
      repeat (first | refine T_seq ?_ | refine T_region ?_ | refine T_cond_false rfl ?_ | refine T_inBlock ?_ | refine T_skip ?_ | refine TL_add (hk := ?_) | refine TL_nil ?_ | refine TL_move (hk := ?_) | refine TL_assign (hk := ?_) | refine TL_no (hk := ?_) | refine TL_pick_f (hk := ?_) | refine TL_extract (hk := ?_))
      exact ih (i + 1) w3 _ (by omega) ⟨e2.ext e3, by omega, fun j hj => by
        by_cases q : j = i
        · rw [q, hz, hT]; rfl
        · exact hu j (by omega)⟩ (.c rfl (.c rfl (.c rfl (.c rfl (.c rfl (.n))))))
    | true =>
      cases hY : asksB y.l k with
      | true =>
        have hg2 : grB es p k = false := by
          rw [hg, List.all_eq_false]
          exact ⟨z, hm, by rw [hT, hY]; simp⟩
        rw [hY] at hu
        clear ih
        repeat (first | refine T_seq ?_ | refine T_region ?_ | refine T_cond_true rfl ?_ | refine TL_nil ?_ | refine TL_move (hk := ?_) | refine TL_assign (hk := ?_) | refine TL_yes (hk := ?_) | refine TL_no (hk := ?_) | refine TL_pick_t (hk := ?_) | refine TL_extract (hk := ?_))
        exact T_ret1 rfl rfl ⟨by rw [hg2], e2.ext e3⟩
      | false =>
        cases hZ : asksB z.l k with
        | true =>
          have hg2 : grB es p k = false := by
            rw [hg, List.all_eq_false]
            exact ⟨z, hm, by rw [hT, hZ]; simp⟩
          clear ih
          repeat (first | refine T_seq ?_ | refine T_region ?_ | refine T_cond_true rfl ?_ | refine TL_nil ?_ | refine TL_move (hk := ?_) | refine TL_assign (hk := ?_) | refine TL_yes (hk := ?_) | refine TL_pick_t (hk := ?_) | refine TL_pick_f (hk := ?_) | refine TL_extract (hk := ?_))
          exact T_ret1 rfl rfl ⟨by rw [hg2], e2.ext e3⟩
        | false =>
          rw [hY] at hu ih
          repeat (first | refine T_seq ?_ | refine T_region ?_ | refine T_cond_false rfl ?_ | refine T_inBlock ?_ | refine T_skip ?_ | refine TL_add (hk := ?_) | refine TL_nil ?_ | refine TL_move (hk := ?_) | refine TL_assign (hk := ?_) | refine TL_yes (hk := ?_) | refine TL_pick_t (hk := ?_) | refine TL_pick_f (hk := ?_) | refine TL_extract (hk := ?_))
          exact ih (i + 1) w3 _ (by omega) ⟨e2.ext e3, by omega, fun j hj => by
            by_cases q : j = i
            · rw [q, hz, hT, hZ]; rfl
            · exact hu j (by omega)⟩ (.c rfl (.c rfl (.c rfl (.c rfl (.c rfl (.n))))))
  · clear ih
    have hg2 : grB es p k = true := by
      rw [hg, List.all_eq_true]
      intro e he
      obtain ⟨j, hj, rfl⟩ := List.mem_iff_getElem.1 he
      have hj' : j < i := by simp at hj; omega
      have := hu j hj'
      rw [List.getD_eq_getElem?_getD, List.getElem?_eq_getElem (by omega)] at this
      simp only [List.getElem_take, Option.getD_some] at this ⊢
      rw [this]; rfl
    repeat (first | refine T_seq ?_ | refine T_region ?_ | refine T_cond_false rfl ?_ | refine T_exit rfl ?_ | refine TL_lt_f (hk := ?_) | refine TL_nil ?_ | refine TL_move (hk := ?_) | refine TL_assign (hk := ?_))
    exact T_ret1 rfl rfl ⟨by rw [hg2], e2⟩
def rdB (es : List WE) (p : Nat) : Bool := (es.getD p we0).l.all fun y => grB es p y.1
theorem ready_c14 {q : Nat} {x : SL} {last : Int} {es : List WE} (p : Nat) (w : World) (h : RfM w q x last es) (hp : p < es.length) :
    Ret Try.prog 45 [pT q, .int .i64 (p : Int)] w (fun v w' => v = .bool (rdB es p) ∧ Ext w w') := by
  have hl := h.len
  have hln := h.ln
  have hmp : es.getD p we0 ∈ es := by rw [List.getD_eq_getElem?_getD, List.getElem?_eq_getElem hp]; exact List.getElem_mem _
  have hvp : (rowV weV es)[p * 2 + 1]? = some (.slice (es.getD p we0).A (es.getD p we0).n (es.getD p we0).c) := rowV_at weV_len es p 1 we0 hp (by omega)
  have hg : rdB es p = (es.getD p we0).l.all fun y => grB es p y.1 := rfl
  obtain ⟨y, hy⟩ : ∃ y, es.getD p we0 = y := ⟨_, rfl⟩
  rw [hy] at hmp hvp hg
  have hA : x.1 ≠ none := by obtain ⟨_, _, hq, _⟩ := h.rd.2 (by omega); rw [hq]; simp
  obtain ⟨ry, yn⟩ := h.lk y hmp
  have hyl : y.l.length = y.n := by have := ry.1; rw [rowV_len lkV_len] at this; omega
  refine ret_T (n := 35) Try.func45 rfl rfl ?_
  repeat (first | refine T_seq ?_ | refine T_region ?_ | refine T_block ?_ | refine TL_nil ?_ | refine TL_assign (hk := ?_))
  refine T_loop (ι := Nat) (fun i => [(5, .int .i64 (i : Int)), (0, pT q), (1, .int .i64 (p : Int))]) (fun i w' => Ext w w' ∧ i ≤ y.n ∧ ∀ j, j < i → grB es p (y.l.getD j lk0).1 = true) (fun i => y.n - i) 0 (.c rfl (.c rfl (.c rfl (.n)))) ⟨Mod.refl _ _, Nat.zero_le _, fun j h => absurd h (by omega)⟩ ?_
  rintro i w2 ⟨e2, hi, hu⟩ ih
  have h2 := h.ext e2
  have hb := h2.blk
  have hr := h2.rd
  have hry := ry.be e2
  by_cases hlt : i < y.n
  · have hv0 : (rowV lkV y.l)[i * 2 + 0]? = some (.string (ofL (y.l.getD i lk0).1)) := rowV_at lkV_len y.l i 0 lk0 (by omega) (by omega)
    have hyA : y.A ≠ none := by obtain ⟨_, _, hq, _⟩ := hry.2 (by omega); rw [hq]; simp
    have hm : y.l.getD i lk0 ∈ y.l := by rw [List.getD_eq_getElem?_getD, List.getElem?_eq_getElem (by omega)]; exact List.getElem_mem _
    obtain ⟨z, hz⟩ : ∃ z, y.l.getD i lk0 = z := ⟨_, rfl⟩
    rw [hz] at hv0 hm
    repeat (first | refine T_seq ?_ | refine T_region ?_ | refine T_cond_true rfl ?_ | refine T_block ?_ | refine T_skip ?_ | refine TL_lt_t (hk := ?_) | refine TL_nil ?_ | refine TL_move (hk := ?_) | refine TL_load TE (hk := ?_) | refine TL_load_rd TE (hk := ?_) | refine TL_fieldAddr TE (hk := ?_) | refine TL_fieldAddr_e TE (hk := ?_) | refine TL_indexAddrn TE (hk := ?_) | refine TL_len TE (hk := ?_) | refine TL_nilCheck (hk := ?_))
    refine TL_call TE (hc := granted_c14 p z.1 _ h2 hp) (hk := ?_)
    rintro _ w3 ⟨rfl, e3⟩
    cases hG : grB es p z.1 with
    | false =>
      have hg2 : rdB es p = false := by
        rw [hg, List.all_eq_false]
        exact ⟨z, hm, by rw [hG]; simp⟩
      clear ih
      repeat (first | refine T_seq ?_ | refine T_region ?_ | refine T_cond_true rfl ?_ | refine TL_nil ?_ | refine TL_assign (hk := ?_) | refine TL_not (hk := ?_))
      exact T_ret1 rfl rfl ⟨by rw [hg2], e2.ext e3⟩
    | true =>
      repeat (first | refine T_region ?_ | refine T_cond_false rfl ?_ | refine T_inBlock ?_ | refine T_skip ?_ | refine TL_add (hk := ?_) | refine TL_nil ?_ | refine TL_move (hk := ?_) | refine TL_assign (hk := ?_) | refine TL_not (hk := ?_))
      exact ih (i + 1) w3 _ (by omega) ⟨e2.ext e3, by omega, fun j hj => by
        by_cases q : j = i
        · rw [q, hz, hG]
        · exact hu j (by omega)⟩ (.c rfl (.c rfl (.c rfl (.n))))
  · clear ih
    have hg2 : rdB es p = true := by
      rw [hg, List.all_eq_true]
      intro e he
      obtain ⟨j, hj, rfl⟩ := List.mem_iff_getElem.1 he
      have := hu j (by omega)
      rwa [List.getD_eq_getElem?_getD, List.getElem?_eq_getElem hj] at this
    repeat (first | refine T_seq ?_ | refine T_region ?_ | refine T_cond_false rfl ?_ | refine T_exit rfl ?_ | refine TL_lt_f (hk := ?_) | refine TL_nil ?_ | refine TL_move (hk := ?_) | refine TL_assign (hk := ?_) | refine TL_load TE (hk := ?_) | refine TL_load_rd TE (hk := ?_) | refine TL_fieldAddr TE (hk := ?_) | refine TL_fieldAddr_e TE (hk := ?_) | refine TL_indexAddrn TE (hk := ?_) | refine TL_len TE (hk := ?_) | refine TL_nilCheck (hk := ?_))
    exact T_ret1 rfl rfl ⟨by rw [hg2], e2⟩
/-- The place of a number; none: −1. -/
def atW (es : List WE) (s : Int) : Int := match es.findIdx? fun e => decide (e.s = s) with
  | some i => (i : Int)
  | none => -1
theorem atW_at {es : List WE} {s : Int} {i : Nat} (hi : i < es.length) (h : (es.getD i we0).s = s) (hu : ∀ j, j < i → ¬ (es.getD j we0).s = s) : atW es s = (i : Int) := by
  have hg : ∀ j (h : j < es.length), es.getD j we0 = es[j] := fun j h => by rw [List.getD_eq_getElem?_getD, List.getElem?_eq_getElem h]; rfl
  have : es.findIdx? (fun e => decide (e.s = s)) = some i := by
    rw [List.findIdx?_eq_some_iff_getElem]
    refine ⟨hi, by rw [hg i hi] at h; simp [h], fun j hj => ?_⟩
    have := hu j hj
    rw [hg j (by omega)] at this
    simpa using this
  unfold atW
  rw [this]
theorem atW_no {es : List WE} {s : Int} (hu : ∀ j, j < es.length → ¬ (es.getD j we0).s = s) : atW es s = -1 := by
  have : es.findIdx? (fun e => decide (e.s = s)) = none := by
    rw [List.findIdx?_eq_none_iff]
    intro e he
    obtain ⟨j, hj, rfl⟩ := List.mem_iff_getElem.1 he
    have := hu j hj
    rw [List.getD_eq_getElem?_getD, List.getElem?_eq_getElem hj] at this
    simpa using this
  unfold atW
  rw [this]
theorem at_c14 {q : Nat} {x : SL} {last : Int} {es : List WE} (s : Int) (w : World) (h : RfM w q x last es) :
    Ret Try.prog 44 [pT q, .int .i64 s] w (fun v w' => v = .int .i64 (atW es s) ∧ w' = w) := by
  have hl := h.len
  have hln := h.ln
  have hb := h.blk
  have hr := h.rd
  refine ret_T (n := 26) Try.func44 rfl rfl ?_
  repeat (first | refine T_seq ?_ | refine T_region ?_ | refine T_block ?_ | refine TL_nil ?_ | refine TL_assign (hk := ?_))
  refine T_loop (ι := Nat) (fun i => [(5, .int .i64 (i : Int)), (0, pT q), (1, .int .i64 s)]) (fun i w' => w' = w ∧ i ≤ es.length ∧ ∀ j, j < i → ¬ (es.getD j we0).s = s) (fun i => es.length - i) 0 (.c rfl (.c rfl (.c rfl (.n)))) ⟨rfl, Nat.zero_le _, fun j h => absurd h (by omega)⟩ ?_
  rintro i w2 ⟨rfl, hi, hu⟩ ih
  by_cases hlt : i < es.length
  · have hv0 : (rowV weV es)[i * 2 + 0]? = some (.int .i64 (es.getD i we0).s) := rowV_at weV_len es i 0 we0 (by omega) (by omega)
    have hA : x.1 ≠ none := by obtain ⟨_, _, hq, _⟩ := hr.2 (by omega); rw [hq]; simp
    have hat := atW_at (s := s) hlt
    have hmz : (es.getD i we0).s = s ∨ ¬ (es.getD i we0).s = s := Decidable.em _
    obtain ⟨z, hz⟩ : ∃ z, (es.getD i we0).s = z := ⟨_, rfl⟩
    rw [hz] at hv0 hat
    by_cases hk : z = s
    · have ha := hat hk hu
      rw [hk] at hv0
      clear ih
      repeat (first | refine T_seq ?_ | refine T_region ?_ | refine T_cond_true rfl ?_ | refine T_block ?_ | refine T_skip ?_ | refine TL_lt_t (hk := ?_) | refine TL_eq_t (hk := ?_) | refine TL_nil ?_ | refine TL_move (hk := ?_) | refine TL_assign (hk := ?_) | refine TL_load TE (hk := ?_) | refine TL_load_rd TE (hk := ?_) | refine TL_fieldAddr TE (hk := ?_) | refine TL_fieldAddr_e TE (hk := ?_) | refine TL_indexAddrn TE (hk := ?_) | refine TL_len TE (hk := ?_) | refine TL_nilCheck (hk := ?_))
      exact T_ret1 rfl rfl ⟨by rw [ha], rfl⟩
    · repeat (first | refine T_seq ?_ | refine T_region ?_ | refine T_cond_true rfl ?_ | refine T_cond_false rfl ?_ | refine T_block ?_ | refine T_inBlock ?_ | refine T_skip ?_ | refine TL_add (hk := ?_) | refine TL_lt_t (hk := ?_) | refine TL_eq_f (hk := ?_) | refine TL_nil ?_ | refine TL_move (hk := ?_) | refine TL_assign (hk := ?_) | refine TL_load TE (hk := ?_) | refine TL_load_rd TE (hk := ?_) | refine TL_fieldAddr TE (hk := ?_) | refine TL_fieldAddr_e TE (hk := ?_) | refine TL_indexAddrn TE (hk := ?_) | refine TL_len TE (hk := ?_) | refine TL_nilCheck (hk := ?_))
      exact ih (i + 1) _ _ (by omega) ⟨rfl, by omega, fun j hj => by
        by_cases q : j = i
        · rw [q, hz]; exact hk
        · exact hu j (by omega)⟩ (.c rfl (.c rfl (.c rfl (.n))))
  · clear ih
    have ha := atW_no (es := es) (s := s) (fun j hj => hu j (by omega))
    repeat (first | refine T_seq ?_ | refine T_region ?_ | refine T_cond_false rfl ?_ | refine T_exit rfl ?_ | refine TL_lt_f (hk := ?_) | refine TL_nil ?_ | refine TL_move (hk := ?_) | refine TL_assign (hk := ?_) | refine TL_load TE (hk := ?_) | refine TL_fieldAddr TE (hk := ?_) | refine TL_len TE (hk := ?_) | refine TL_nilCheck (hk := ?_))
    exact T_ret1 rfl rfl ⟨by rw [ha], rfl⟩
end Go.Proofs.Ytomabcbemokijaa

namespace Go.Proofs.Ytomabcbemokijaa
open Go.RowKit Go.Proofs.Eng Go.Proofs.Foot Go.Proofs.Locks
set_option linter.unusedSimpArgs false
set_option linter.unusedVariables false set_option maxRecDepth 10000
attribute [local irreducible] T TL LV TH TA
set_option maxHeartbeats 1600000
def rdU (es : List WE) (i : Nat) : List Int := ((List.range i).filter (rdB es)).map fun j => (es.getD j we0).s
theorem rdU_succ (es : List WE) (i : Nat) : rdU es (i + 1) = rdU es i ++ (if rdB es i = true then [(es.getD i we0).s] else []) := by
  unfold rdU
  rw [List.range_succ, List.filter_append, List.map_append]
  congr 1
  by_cases e : rdB es i = true <;> simp [e]
def quU (es : List WE) (k : Tx) (i : Nat) : List (Akk × Bool) := (List.range i).filterMap fun j => (asks (es.getD j we0).l k).map fun b => (((es.getD j we0).s, b), grB es j k)
theorem quU_succ (es : List WE) (k : Tx) (i : Nat) : quU es k (i + 1) = quU es k i ++ (if asksT (es.getD i we0).l k = true then [(((es.getD i we0).s, asksB (es.getD i we0).l k), grB es i k)] else []) := by
  unfold quU
  rw [List.range_succ, List.filterMap_append]
  congr 1
  unfold asksT asksB
  cases h : asks (es.getD i we0).l k with
  | none => simp only [List.filterMap_cons, List.filterMap_nil, h]; rfl
  | some b => simp only [List.filterMap_cons, List.filterMap_nil, h]; rfl
def alU (es : List WE) (i : Nat) : List Int := (es.take i).map (·.s)
theorem alU_succ (es : List WE) (i : Nat) (hi : i < es.length) : alU es (i + 1) = alU es i ++ [(es.getD i we0).s] := by
  unfold alU
  have hg : es.getD i we0 = es[i] := by rw [List.getD_eq_getElem?_getD, List.getElem?_eq_getElem hi]; rfl
  rw [List.take_succ_eq_append_getElem hi, List.map_append, hg]
  rfl
section
variable {q : Nat} {x : SL} {last : Int} {es : List WE}
theorem RAll_c (w : World) (h : RfM w q x last es) :
    Ret Try.prog 48 [pT q] w (fun v w' => ∃ y, v = sL y ∧ Ext w w' ∧ IRow w' w.heap.size y (alU es es.length)) := by
  have hl := h.len
  have hln := h.ln
  refine ret_T (n := 26) Try.func48 rfl rfl ?_
  repeat (first | refine T_seq ?_ | refine T_region ?_ | refine T_block ?_ | refine TL_nil ?_ | refine TL_assign (hk := ?_))
  refine T_loop (ι := Nat × SL) (fun i => [(4, .int .i64 (i.1 : Int)), (3, sL i.2), (0, pT q)]) (fun i w' => Ext w w' ∧ i.1 ≤ es.length ∧ i.2.2.1 ≤ i.1 ∧ IRow w' w.heap.size i.2 (alU es i.1)) (fun i => es.length - i.1) (0, (none, 0, 0)) (.c rfl (.c rfl (.c rfl (.n)))) ⟨Mod.refl _ _, Nat.zero_le _, Nat.le_refl _, Own.nil _ _ _ _⟩ ?_
  rintro ⟨i, y⟩ w2 ⟨e2, hi, hyl, ry⟩ ih
  simp only at hi hyl ry ih ⊢
  have hb := h.blk.be e2
  have hr := h.rd.be e2
  have z2 := e2.size
  by_cases hlt : i < es.length
  · have hv := rowV_at weV_len es i 0 we0 (by omega) (by omega)
    have hs := alU_succ es i hlt
    obtain ⟨a, ha⟩ : ∃ a, es.getD i we0 = a := ⟨_, rfl⟩
    rw [ha] at hv hs
    replace hv : (rowV weV es)[i * 2 + 0]? = some (.int .i64 a.s) := hv
    have hA : x.1 ≠ none := by obtain ⟨_, _, hq, _⟩ := hr.2 (by omega); rw [hq]; simp
    repeat (first | refine T_seq ?_ | refine T_region ?_ | refine T_cond_true rfl ?_ | refine T_block ?_ | refine T_skip ?_ | refine TL_lt_t (hk := ?_) | refine TL_nil ?_ | refine TL_move (hk := ?_) | refine TL_load TE (hk := ?_) | refine TL_load_rd TE (hk := ?_) | refine TL_fieldAddr TE (hk := ?_) | refine TL_fieldAddr_e TE (hk := ?_) | refine TL_indexAddrn TE (hk := ?_) | refine TL_len TE (hk := ?_) | refine TL_nilCheck (hk := ?_))
    refine TL_buildSlice TE (hk := ?_); intro b5 w5 e5 h5 h5' k5
    replace k5 : Blk w5 b5 2 (iv [a.s]) := k5
    have r5 : Rd w5 (some ⟨b5, 0, none⟩) 1 1 (iv [a.s]) := Rd.blk k5 rfl
    have z5 := e5.size
    --
    refine TL_append TE (ho := Own.be e5 ry) (hr := r5) (h1 := iv_one _) (hk := ?_); intro A6 c6 w6 o6 m6 n6
    rw [← iv_append, ← hs] at o6
    repeat (first | refine T_region ?_ | refine T_inBlock ?_ | refine TL_add (hk := ?_) | refine TL_nil ?_ | refine TL_move (hk := ?_) | refine TL_assign (hk := ?_))
    exact ih (i + 1, (A6, y.2.1 + 1, c6)) w6 _ (by simp only; omega) ⟨Mod.own (e2.ext e5) m6 ry.hi, by simp only; omega, by simp only; omega, o6⟩ (.c rfl (.c rfl (.c rfl (.n))))
  · clear ih
    have hin : i = es.length := by omega
    rw [hin] at ry
    repeat (first | refine T_seq ?_ | refine T_region ?_ | refine T_cond_false rfl ?_ | refine T_exit rfl ?_ | refine TL_lt_f (hk := ?_) | refine TL_nil ?_ | refine TL_move (hk := ?_) | refine TL_assign (hk := ?_) | refine TL_load TE (hk := ?_) | refine TL_fieldAddr TE (hk := ?_) | refine TL_len TE (hk := ?_) | refine TL_nilCheck (hk := ?_))
    exact T_ret1 rfl rfl ⟨y, rfl, e2, ry⟩
theorem RReadies_c (w : World) (h : RfM w q x last es) :
    Ret Try.prog 49 [pT q] w (fun v w' => ∃ y, v = sL y ∧ Ext w w' ∧ IRow w' w.heap.size y (rdU es es.length)) := by
  have hl := h.len
  have hln := h.ln
  refine ret_T (n := 29) Try.func49 rfl rfl ?_
  repeat (first | refine T_seq ?_ | refine T_region ?_ | refine T_block ?_ | refine TL_nil ?_ | refine TL_assign (hk := ?_))
  refine T_loop (ι := Nat × SL) (fun i => [(4, .int .i64 (i.1 : Int)), (3, sL i.2), (0, pT q)]) (fun i w' => Ext w w' ∧ i.1 ≤ es.length ∧ i.2.2.1 ≤ i.1 ∧ IRow w' w.heap.size i.2 (rdU es i.1)) (fun i => es.length - i.1) (0, (none, 0, 0)) (.c rfl (.c rfl (.c rfl (.n)))) ⟨Mod.refl _ _, Nat.zero_le _, Nat.le_refl _, Own.nil _ _ _ _⟩ ?_
  rintro ⟨i, y⟩ w2 ⟨e2, hi, hyl, ry⟩ ih
  simp only at hi hyl ry ih ⊢
  have h2 := h.ext e2
  have hb := h2.blk
  have hr := h2.rd
  have z2 := e2.size
  by_cases hlt : i < es.length
  · have hv := rowV_at weV_len es i 0 we0 (by omega) (by omega)
    have hs := rdU_succ es i
    obtain ⟨a, ha⟩ : ∃ a, es.getD i we0 = a := ⟨_, rfl⟩
    rw [ha] at hv hs
    replace hv : (rowV weV es)[i * 2 + 0]? = some (.int .i64 a.s) := hv
    have hA : x.1 ≠ none := by obtain ⟨_, _, hq, _⟩ := hr.2 (by omega); rw [hq]; simp
    repeat (first | refine T_seq ?_ | refine T_region ?_ | refine T_cond_true rfl ?_ | refine T_block ?_ | refine T_skip ?_ | refine TL_lt_t (hk := ?_) | refine TL_nil ?_ | refine TL_move (hk := ?_) | refine TL_load TE (hk := ?_) | refine TL_fieldAddr TE (hk := ?_) | refine TL_len TE (hk := ?_) | refine TL_nilCheck (hk := ?_))
    refine TL_call TE (hc := ready_c14 i _ h2 hlt) (hk := ?_)
    rintro _ w3 ⟨rfl, e3⟩
    have ry3 := Own.be e3 ry
    have z3 := e3.size
    have hb3 := hb.be e3
    have hr3 := hr.be e3
    clear hb hr ry
    cases hg : rdB es i with
    | true =>
      rw [if_pos hg] at hs
      repeat (first | refine T_region ?_ | refine T_cond_true rfl ?_ | refine TL_nil ?_ | refine TL_move (hk := ?_) | refine TL_load TE (hk := ?_) | refine TL_load_rd TE (hk := ?_) | refine TL_fieldAddr TE (hk := ?_) | refine TL_fieldAddr_e TE (hk := ?_) | refine TL_indexAddrn TE (hk := ?_) | refine TL_nilCheck (hk := ?_))
      refine TL_buildSlice TE (hk := ?_); intro b5 w5 e5 h5 h5' k5
      replace k5 : Blk w5 b5 2 (iv [a.s]) := k5
      have r5 : Rd w5 (some ⟨b5, 0, none⟩) 1 1 (iv [a.s]) := Rd.blk k5 rfl
      have z5 := e5.size
      --
      refine TL_append TE (ho := Own.be e5 ry3) (hr := r5) (h1 := iv_one _) (hk := ?_); intro A6 c6 w6 o6 m6 n6
      rw [← iv_append, ← hs] at o6
      repeat (first | refine T_region ?_ | refine T_inBlock ?_ | refine TL_add (hk := ?_) | refine TL_nil ?_ | refine TL_move (hk := ?_) | refine TL_assign (hk := ?_))
      exact ih (i + 1, (A6, y.2.1 + 1, c6)) w6 _ (by simp only; omega) ⟨Mod.own ((e2.ext e3).ext e5) m6 ry3.hi, by simp only; omega, by simp only; omega, o6⟩ (.c rfl (.c rfl (.c rfl (.n))))
    | false =>
      rw [if_neg (by rw [hg]; decide), List.append_nil] at hs
      rw [← hs] at ry3
      repeat (first | refine T_region ?_ | refine T_cond_false rfl ?_ | refine T_inBlock ?_ | refine T_skip ?_ | refine TL_add (hk := ?_) | refine TL_nil ?_ | refine TL_move (hk := ?_) | refine TL_assign (hk := ?_))
      exact ih (i + 1, y) w3 _ (by simp only; omega) ⟨e2.ext e3, by simp only; omega, by simp only; omega, ry3⟩ (.c rfl (.c rfl (.c rfl (.n))))
  · clear ih
    have hin : i = es.length := by omega
    rw [hin] at ry
    repeat (first | refine T_seq ?_ | refine T_region ?_ | refine T_cond_false rfl ?_ | refine T_exit rfl ?_ | refine TL_lt_f (hk := ?_) | refine TL_nil ?_ | refine TL_move (hk := ?_) | refine TL_assign (hk := ?_) | refine TL_load TE (hk := ?_) | refine TL_fieldAddr TE (hk := ?_) | refine TL_len TE (hk := ?_) | refine TL_nilCheck (hk := ?_))
    exact T_ret1 rfl rfl ⟨y, rfl, e2, ry⟩
def rdyW (es : List WE) (s : Int) : Bool := if 0 ≤ atW es s then rdB es (atW es s).toNat else false
theorem atW_lt {s : Int} (h : 0 ≤ atW es s) : (atW es s).toNat < es.length ∧ atW es s = ((atW es s).toNat : Int) := by
  unfold atW at h ⊢
  cases h1 : es.findIdx? fun e => decide (e.s = s) with
  | none => rw [h1] at h; simp at h
  | some i =>
    rw [List.findIdx?_eq_some_iff_getElem] at h1
    obtain ⟨h2, _⟩ := h1
    exact ⟨by simpa using h2, by simp⟩
theorem atW_neg {s : Int} (h : ¬ 0 ≤ atW es s) : atW es s = -1 := by
  unfold atW at h ⊢
  cases h1 : es.findIdx? fun e => decide (e.s = s) with
  | none => rfl
  | some i => rw [h1] at h; simp only at h; omega
theorem RReady_c (s : Int) (w : World) (h : RfM w q x last es) :
    Ret Try.prog 50 [pT q, .int .i64 s] w (fun v w' => v = .bool (rdyW es s) ∧ Ext w w') := by
  have hln := h.ln
  refine ret_T (n := 16) Try.func50 rfl rfl ?_
  repeat (first | refine T_seq ?_ | refine T_region ?_ | refine TL_nil ?_ | refine TL_move (hk := ?_) | refine TL_assign (hk := ?_))
  refine TL_call TE (hc := at_c14 s _ h) (hk := ?_)
  rintro _ w ⟨rfl, rfl⟩
  by_cases h0 : 0 ≤ atW es s
  · obtain ⟨h1, h2⟩ := atW_lt h0
    have hr : rdyW es s = rdB es (atW es s).toNat := if_pos h0
    generalize (atW es s).toNat = p at h1 h2 hr
    rw [h2]
    repeat (first | refine T_seq ?_ | refine T_region ?_ | refine TL_ge_t (hk := ?_) | refine TL_nil ?_ | refine TL_move (hk := ?_) | refine TL_assign (hk := ?_) | refine TL_yes (hk := ?_))
    refine TL_call TE (hc := ready_c14 p _ h h1) (hk := ?_)
    rintro _ w3 ⟨rfl, e3⟩
    repeat (first | refine TL_nil ?_ | refine TL_assign (hk := ?_) | refine TL_pick_t (hk := ?_))
    exact T_ret1 rfl rfl ⟨by rw [hr], e3⟩
  · have hr : rdyW es s = false := if_neg h0
    rw [atW_neg h0]
    repeat (first | refine T_seq ?_ | refine T_region ?_ | refine TL_ge_f (hk := ?_) | refine TL_nil ?_ | refine TL_move (hk := ?_) | refine TL_assign (hk := ?_) | refine TL_no (hk := ?_) | refine TL_pick_f (hk := ?_))
    exact T_ret1 rfl rfl ⟨by rw [hr], Mod.refl _ _⟩
end
theorem numbers_c14 (A B : Option Addr) (n c m d : Nat) (a b : List Int) (w : World) (ha : Rd w A n 1 (iv a)) (hb : Rd w B m 1 (iv b)) (hn : n ≤ 1000000) (hm : m ≤ 1000000) :
    Ret Try.prog 47 [.slice A n c, .slice B m d] w (fun v w' => v = .bool (decide (a = b)) ∧ Ext w w') := by
  have hal : a.length = n := by have := ha.1; rw [iv_len] at this; omega
  have hbl : b.length = m := by have := hb.1; rw [iv_len] at this; omega
  refine ret_T (n := 26) Try.func47 rfl rfl ?_
  by_cases hnm : n = m
  · subst hnm
    repeat (first | refine T_seq ?_ | refine T_region ?_ | refine T_cond_false rfl ?_ | refine T_block ?_ | refine T_skip ?_ | refine TL_ne_f (hk := ?_) | refine TL_nil ?_ | refine TL_move (hk := ?_) | refine TL_assign (hk := ?_) | refine TL_len TE (hk := ?_))
    refine T_loop (ι := Nat) (fun i => [(5, .int .i64 (i : Int)), (0, .slice A n c), (1, .slice B n d)]) (fun i w' => Ext w w' ∧ i ≤ n ∧ ∀ j, j < i → a.getD j 0 = b.getD j 0) (fun i => n - i) 0 (.c rfl (.c rfl (.c rfl (.n)))) ⟨Mod.refl _ _, Nat.zero_le _, fun j h => absurd h (by omega)⟩ ?_
    rintro i w1 ⟨e1, hi, hu⟩ ih
    have ra := ha.be e1
    have rb := hb.be e1
    by_cases hlt : i < n
    · have hva := iv_get a i (by omega)
      have hvb := iv_get b i (by omega)
      have hA : A ≠ none := by obtain ⟨_, _, hq, _⟩ := ra.2 (by omega); rw [hq]; simp
      have hB : B ≠ none := by obtain ⟨_, _, hq, _⟩ := rb.2 (by omega); rw [hq]; simp
      have hne : ¬ a.getD i 0 = b.getD i 0 → ¬ a = b := fun q e => q (by rw [e])
      obtain ⟨s, hs⟩ : ∃ s, a.getD i 0 = s := ⟨_, rfl⟩
      obtain ⟨t, ht⟩ : ∃ t, b.getD i 0 = t := ⟨_, rfl⟩
      rw [hs] at hva hne
      rw [ht] at hvb hne
      by_cases e : s = t
      · subst e
        repeat (first | refine T_seq ?_ | refine T_region ?_ | refine T_region_q TE.mixed (by kernel_rfl) ?_ | refine T_cond_true rfl ?_ | refine T_block ?_ | refine T_skip ?_ | refine TL_lt_t (hk := ?_) | refine TL_ne_f (hk := ?_) | refine TL_nil ?_ | refine TL_move (hk := ?_) | refine TL_load_rd TE (hk := ?_) | refine TL_indexAddr1n TE (hk := ?_) | refine TL_len TE (hk := ?_))
        refine TL_nil_q ?_; intro w2 e2
        repeat (first | refine T_region ?_ | refine T_cond_false rfl ?_ | refine T_inBlock ?_ | refine T_skip ?_ | refine TL_add (hk := ?_) | refine TL_nil ?_ | refine TL_move (hk := ?_) | refine TL_assign (hk := ?_))
        exact ih (i + 1) w2 _ (by omega) ⟨e1.ext e2, by omega, fun j hj => by
          by_cases q : j = i
          · rw [q, hs, ht]
          · exact hu j (by omega)⟩ (.c rfl (.c rfl (.c rfl (.n))))
      · have hr := hne e
        clear ih
        repeat (first | refine T_seq ?_ | refine T_region ?_ | refine T_region_q TE.mixed (by kernel_rfl) ?_ | refine T_cond_true rfl ?_ | refine T_block ?_ | refine T_skip ?_ | refine TL_lt_t (hk := ?_) | refine TL_ne_t (hk := ?_) | refine TL_nil ?_ | refine TL_move (hk := ?_) | refine TL_load_rd TE (hk := ?_) | refine TL_indexAddr1n TE (hk := ?_) | refine TL_len TE (hk := ?_))
        refine TL_nil_q ?_; intro w2 e2
        repeat (first | refine T_seq ?_ | refine T_region ?_ | refine T_cond_true rfl ?_ | refine TL_nil ?_ | refine TL_assign (hk := ?_))
        exact T_ret1 rfl rfl ⟨by rw [decide_eq_false hr], e1.ext e2⟩
    · clear ih
      have hr : a = b := List.ext_getElem (by omega) (fun j h1 h2 => by
        have := hu j (by omega)
        rwa [List.getD_eq_getElem?_getD, List.getElem?_eq_getElem h1, List.getD_eq_getElem?_getD, List.getElem?_eq_getElem h2] at this)
      repeat (first | refine T_seq ?_ | refine T_region ?_ | refine T_cond_false rfl ?_ | refine T_exit rfl ?_ | refine TL_lt_f (hk := ?_) | refine TL_nil ?_ | refine TL_move (hk := ?_) | refine TL_assign (hk := ?_) | refine TL_len TE (hk := ?_))
      exact T_ret1 rfl rfl ⟨by rw [decide_eq_true hr], e1⟩
  · have hr : ¬ a = b := fun q => hnm (by rw [← hal, ← hbl, q])
    repeat (first | refine T_seq ?_ | refine T_region ?_ | refine T_cond_true rfl ?_ | refine TL_ne_t (hk := ?_) | refine TL_nil ?_ | refine TL_move (hk := ?_) | refine TL_assign (hk := ?_) | refine TL_len TE (hk := ?_))
    exact T_ret1 rfl rfl ⟨by rw [decide_eq_false hr], Mod.refl _ _⟩
end Go.Proofs.Ytomabcbemokijaa
