import Derived.Test.YthiacmmkfngpbaaCh1
import Derived.Shelf.SlIterI.Nil
import Derived.Shelf.SlIterI.Sorted
import Derived.Shelf.SlIterI.Collect
import Derived.Shelf.SortM.Plain
import Derived.Shelf.SortM.SortNone
import Derived.ArgAppend
import Derived.Shelf.Small.Bits
import Derived.Shelf.Small.Strs
import Derived.Shelf.Strconv.Itoa0
import Derived.Shelf.Strings.Search1
import Derived.Shelf.Sort.Plain
import Derived.Shelf.Slices.In.SortNone
import Derived.Test.YthiacmmkfngpbaaProg
import Derived.Sort.OwnSorted
/- Parts: OSpec OLaw1 OLaw2 OLaw3 OLaw4 Eng10 Eng29 Eng30 Eng31 Eng32 Eng26 Eng27 Eng19 OMem Shelf FW1 FW2 OW1 OW2 OW3 Eng33 OW4 OW5 OW6 OW7 OW8 OW9 OW10. -/
/- Which keys are warm, in plain words. -/
namespace Go.Proofs.Cold
open Go.Proofs.Eng Go.Proofs.Foot
set_option linter.unusedSimpArgs false
set_option linter.unusedVariables false
structure LnE where
  st : Nat
  pins : Nat
  since : Nat
  left : Nat
structure HdE where
  id : Int
  ks : List Tx
  st : Nat
structure CS where
  room : Nat
  lines : Nat
  delay : Nat
  K : List (Tx × LnE)
  H : List HdE
  wt : List Tx
  now : Nat
  num : Nat
  fet : Nat
def ln0 : LnE := ⟨0, 0, 0, 0⟩
def hd0 : HdE := ⟨0, [], 0⟩
def cntE (p : LnE → Bool) (K : List (Tx × LnE)) : Nat := (K.filter fun x => p x.2).length
def pinned (l : LnE) : Bool := decide (0 < l.pins)
def isF (l : LnE) : Bool := decide (l.st = 2)
def isNW (l : LnE) : Bool := !decide (l.st = 1)
def freeK (K : List (Tx × LnE)) (k : Tx) : Bool := match mget K k with
  | none => true
  | some l => decide (l.pins = 0)
def fitsE (t : CS) (ks : List Tx) : Bool := decide (cntE pinned t.K + (ks.filter (freeK t.K)).length ≤ t.room)
def pinE (q : List (Tx × LnE) × List Tx) (k : Tx) : List (Tx × LnE) × List Tx := match mget q.1 k with
  | none => (mput q.1 k ⟨1, 1, 0, 0⟩, q.2 ++ [k])
  | some l => (mput q.1 k { l with pins := l.pins + 1 }, q.2)
def warmK (K : List (Tx × LnE)) (k : Tx) : Bool := match mget K k with
  | some l => decide (l.st = 3)
  | none => false
def warmE (K : List (Tx × LnE)) (ks : List Tx) : Bool := ks.all (warmK K)
def settleE (K : List (Tx × LnE)) (h : HdE) : HdE := if h.st = 2 ∧ warmE K h.ks = true then { h with st := 3 } else h
def enterE (t : CS) (i : Nat) : CS :=
  let h := t.H.getD i hd0
  let p := h.ks.foldl pinE (t.K, t.wt)
  { t with K := p.1, wt := p.2, H := t.H.set i (settleE p.1 { h with st := 2 }) }
def waitI (t : CS) : Option Nat := t.H.findIdx? fun h => decide (h.st = 1)
def letL : Nat → CS → CS
  | 0, t => t
  | f + 1, t => match waitI t with
    | none => t
    | some i => if fitsE t (t.H.getD i hd0).ks = true then letL f (enterE t i) else t
def idleE (l : LnE) : Bool := decide (l.st = 3) && decide (l.pins = 0)
def sinceK (K : List (Tx × LnE)) (k : Tx) : Nat := ((mget K k).getD ln0).since
def idlStep (K : List (Tx × LnE)) (b : Tx) (x : Tx × LnE) : Tx := if idleE x.2 = true ∧ (b = [] ∨ x.2.since < sinceK K b ∨ x.2.since = sinceK K b ∧ x.1 < b) then x.1 else b
def idl (K : List (Tx × LnE)) : Tx := K.foldl (idlStep K) []
def fetchE (t : CS) (k : Tx) (r : List Tx) : CS := { t with K := mput t.K k { (mget t.K k).getD ln0 with st := 2, left := t.delay }, wt := r, fet := t.fet + 1 }
def takeL : Nat → CS → CS
  | 0, t => t
  | f + 1, t => match t.wt with
    | [] => t
    | k :: r => if cntE isF t.K < t.lines then
        (if t.room ≤ cntE isNW t.K then (if idl t.K = [] then t else takeL f (fetchE { t with K := mdel t.K (idl t.K) } k r)) else takeL f (fetchE t k r))
      else t
def takeE (t : CS) : CS := takeL t.wt.length t
def letE (t : CS) : CS := takeE (letL t.H.length t)
def overK (p : Option Tx) (x : Tx) : Bool := match p with
  | some y => decide (x ≤ y)
  | none => false
def chkK : Option Tx → List Tx → Nat
  | _, [] => 0
  | p, x :: t => if validT x = false then 30 else if overK p x = true then 40 else chkK (some x) t
def findE (t : CS) (id : Int) : Option Nat := t.H.findIdx? fun h => decide (h.id = id)
def holdE (t : CS) (id : Int) (ks : List Tx) : CS × Nat :=
  if (findE t id).isSome = true then (t, 8) else if id < 0 then (t, 2) else if chkK none ks ≠ 0 then (t, chkK none ks) else if t.room < ks.length then (t, 6)
  else (letE { t with H := t.H ++ [⟨id, ks, 1⟩] }, 0)
def tickLn (num : Nat) (l : LnE) : LnE := if l.st = 2 then (if l.left = 1 then { l with st := 3, left := 0, since := num } else { l with left := l.left - 1 }) else l
def tickK (num : Nat) (K : List (Tx × LnE)) : List (Tx × LnE) := K.map fun x => (x.1, tickLn num x.2)
def doneK (K : List (Tx × LnE)) : List Tx := (K.filter fun x => decide (x.2.st = 2) && decide (x.2.left = 1)).map (·.1)
def tickC (t : CS) : CS := takeE { t with now := t.now + 1, num := t.num + 1, K := tickK (t.num + 1) t.K, H := t.H.map (settleE (tickK (t.num + 1) t.K)) }
def unpinE (num : Nat) (q : List (Tx × LnE) × List Tx) (k : Tx) : List (Tx × LnE) × List Tx := match mget q.1 k with
  | none => q
  | some l => if 1 < l.pins then (mput q.1 k { l with pins := l.pins - 1 }, q.2) else if l.st = 1 then (mdel q.1 k, q.2.filter fun x => !decide (x = k)) else (mput q.1 k { l with pins := 0, since := num }, q.2)
def relE (t : CS) (id : Int) : CS × Nat := match findE t id with
  | none => (t, 280)
  | some i =>
    let h := t.H.getD i hd0
    let p := if h.st = 1 then (t.K, t.wt) else h.ks.foldl (unpinE (t.num + 1)) (t.K, t.wt)
    (letE { t with H := t.H.eraseIdx i, num := t.num + 1, K := p.1, wt := p.2 }, 0)
def stateE (t : CS) (id : Int) : Nat := match findE t id with
  | none => 0
  | some i => (t.H.getD i hd0).st
def readyC (t : CS) : List Int := (t.H.filter fun h => decide (h.st = 3)).map (·.id)
def withE (t : CS) (s : Nat) : List Tx := (t.K.filter fun x => decide (x.2.st = s)).map (·.1)
def pinsE (t : CS) (k : Tx) : Nat := ((mget t.K k).getD ln0).pins
def newC (room lines delay : Nat) : CS := ⟨room, lines, delay, [], [], [], 0, 0, 0⟩
end Go.Proofs.Cold

/- Lists of pairs, and how many of them are so. -/
namespace Go.Proofs.Cold
open Go.Proofs.Eng Go.Proofs.Foot
set_option linter.unusedSimpArgs false
set_option linter.unusedVariables false
section
variable {κ α : Type} [DecidableEq κ]
theorem mget_put (k : κ) (v : α) : ∀ (l : List (κ × α)) (j : κ), mget (mput l k v) j = if j = k then some v else mget l j
  | [], j => by
    by_cases e : j = k
    · subst e; simp [mput, mget]
    · have : ¬ k = j := fun q => e q.symm
      simp [mput, mget, e, this]
  | x :: l, j => by
    unfold mput
    by_cases h : x.1 = k
    · rw [if_pos h]
      by_cases e : j = k
      · subst e; simp [mget]
      · have : ¬ k = j := fun q => e q.symm
        have h2 : ¬ x.1 = j := fun q => e (q ▸ h)
        simp [mget, e, this, h2]
    · rw [if_neg h]
      have ih := mget_put k v l j
      by_cases e2 : x.1 = j
      · have : ¬ j = k := fun q => h (e2.trans q)
        simp [mget, e2, this]
      · simp only [mget, e2, if_false]
        exact ih
theorem mget_keys : ∀ (l : List (κ × α)) (k : κ), mget l k = none ↔ k ∉ l.map (·.1)
  | [], k => by simp [mget]
  | x :: l, k => by
    unfold mget
    by_cases e : x.1 = k
    · rw [if_pos e]; simp [e]
    · rw [if_neg e, mget_keys l k]
      have : ¬ k = x.1 := fun q => e q.symm
      simp [this]
theorem mget_del (k : κ) : ∀ (l : List (κ × α)), (l.map (·.1)).Nodup → ∀ j, mget (mdel l k) j = if j = k then none else mget l j
  | [], _, j => by simp [mdel, mget]
  | x :: l, hn, j => by
    rw [List.map_cons, List.nodup_cons] at hn
    unfold mdel
    by_cases h : x.1 = k
    · rw [if_pos h]
      by_cases e : j = k
      · rw [if_pos e, e, ← h]
        exact (mget_keys _ _).2 hn.1
      · rw [if_neg e]
        have h2 : ¬ x.1 = j := fun q => e (q ▸ h)
        simp [mget, h2]
    · rw [if_neg h]
      have ih := mget_del k l hn.2 j
      by_cases e2 : x.1 = j
      · have : ¬ j = k := fun q => h (e2.trans q)
        simp [mget, e2, this]
      · simp only [mget, e2, if_false]
        exact ih
theorem keys_put : ∀ (l : List (κ × α)) (k : κ) (v : α), (mput l k v).map (·.1) = if mget l k = none then l.map (·.1) ++ [k] else l.map (·.1)
  | [], k, v => by simp [mput, mget]
  | x :: l, k, v => by
    unfold mput mget
    by_cases e : x.1 = k
    · simp [e]
    · rw [if_neg e, if_neg e, List.map_cons, keys_put l k v]
      split <;> simp
theorem keys_del : ∀ (l : List (κ × α)) (k : κ), (mdel l k).map (·.1) = (l.map (·.1)).erase k
  | [], k => by simp [mdel]
  | x :: l, k => by
    unfold mdel
    by_cases e : x.1 = k
    · rw [if_pos e, List.map_cons, e, List.erase_cons_head]
    · rw [if_neg e, List.map_cons, List.map_cons, keys_del l k, List.erase_cons_tail (by simpa using e)]
theorem mput_nd {l : List (κ × α)} (k : κ) (v : α) (h : (l.map (·.1)).Nodup) : ((mput l k v).map (·.1)).Nodup := by
  rw [keys_put]
  split
  · rename_i q
    rw [List.nodup_append]
    refine ⟨h, by simp, fun a ha b hb e => ?_⟩
    simp only [List.mem_singleton] at hb
    rw [e, hb] at ha
    exact (mget_keys _ _).1 q ha
  · exact h
theorem mdel_nd {l : List (κ × α)} (k : κ) (h : (l.map (·.1)).Nodup) : ((mdel l k).map (·.1)).Nodup := by
  rw [keys_del]
  exact h.erase k
theorem mget_in {l : List (κ × α)} {k : κ} {v : α} (h : mget l k = some v) : (k, v) ∈ l := by
  induction l with
  | nil => cases h
  | cons x l ih =>
    unfold mget at h
    by_cases e : x.1 = k
    · rw [if_pos e] at h
      cases h
      rw [← e]
      exact List.mem_cons_self
    · rw [if_neg e] at h
      exact List.mem_cons_of_mem _ (ih h)
theorem mget_of {l : List (κ × α)} (hn : (l.map (·.1)).Nodup) {x : κ × α} (hx : x ∈ l) : mget l x.1 = some x.2 := by
  induction l with
  | nil => cases hx
  | cons y l ih =>
    rw [List.map_cons, List.nodup_cons] at hn
    unfold mget
    rcases List.mem_cons.1 hx with rfl | hx
    · rw [if_pos rfl]
    · rw [if_neg (fun q => hn.1 (by rw [q]; exact List.mem_map.2 ⟨x, hx, rfl⟩))]
      exact ih hn.2 hx
theorem mput_none {l : List (κ × α)} {k : κ} (v : α) (h : mget l k = none) : mput l k v = l ++ [(k, v)] := by
  induction l with
  | nil => rfl
  | cons x l ih =>
    unfold mget at h
    by_cases e : x.1 = k
    · rw [if_pos e] at h; cases h
    · rw [if_neg e] at h
      unfold mput
      rw [if_neg e, ih h]
      rfl
theorem len_put {l : List (κ × α)} (k : κ) (v : α) : (mput l k v).length = if mget l k = none then l.length + 1 else l.length := by
  have h := congrArg List.length (keys_put l k v)
  rw [List.length_map] at h
  rw [h]
  split <;> simp
theorem len_del {l : List (κ × α)} (k : κ) : (mdel l k).length ≤ l.length := by
  have h := congrArg List.length (keys_del l k)
  rw [List.length_map] at h
  rw [h]
  have := List.length_erase_le (l := l.map (·.1)) (a := k)
  rwa [List.length_map] at this
end
def b2n (b : Bool) : Nat := if b = true then 1 else 0
theorem b2n_le (b : Bool) : b2n b ≤ 1 := by cases b <;> decide
section
variable {p : LnE → Bool} {K : List (Tx × LnE)} {k : Tx} {l l0 : LnE}
theorem cnt_cons (x : Tx × LnE) (K : List (Tx × LnE)) : cntE p (x :: K) = b2n (p x.2) + cntE p K := by
  unfold cntE b2n
  rw [List.filter_cons]
  split <;> simp; omega
theorem cnt_new (h : mget K k = none) : cntE p (mput K k l) = cntE p K + b2n (p l) := by
  rw [mput_none _ h]
  unfold cntE b2n
  rw [List.filter_append, List.length_append, List.filter_cons]
  simp only [List.filter_nil]
  split <;> simp
theorem cnt_old (h : mget K k = some l0) : cntE p (mput K k l) + b2n (p l0) = cntE p K + b2n (p l) := by
  induction K with
  | nil => cases h
  | cons x K ih =>
    unfold mget at h
    unfold mput
    by_cases e : x.1 = k
    · rw [if_pos e] at h ⊢
      cases h
      rw [cnt_cons, cnt_cons]; simp only; omega
    · rw [if_neg e] at h ⊢
      rw [cnt_cons, cnt_cons]
      have := ih h
      omega
theorem cnt_del (h : mget K k = some l0) : cntE p (mdel K k) + b2n (p l0) = cntE p K := by
  induction K with
  | nil => cases h
  | cons x K ih =>
    unfold mget at h
    unfold mdel
    by_cases e : x.1 = k
    · rw [if_pos e] at h ⊢
      cases h
      rw [cnt_cons]; omega
    · rw [if_neg e] at h ⊢
      rw [cnt_cons, cnt_cons]
      have := ih h
      omega
theorem cnt_len (p : LnE → Bool) (K : List (Tx × LnE)) : cntE p K ≤ K.length := List.length_filter_le _ _
theorem cnt_all (h : ∀ x ∈ K, p x.2 = true) : cntE p K = K.length := by
  unfold cntE
  rw [List.filter_eq_self.2 h]
theorem cnt_none (h : ∀ x ∈ K, p x.2 = false) : cntE p K = 0 := by
  unfold cntE
  rw [List.filter_eq_nil_iff.2 (fun x hx => by rw [h x hx]; simp)]
  rfl
theorem cnt_zero (h : cntE p K = 0) : ∀ x ∈ K, p x.2 = false := fun x hx => by
  unfold cntE at h
  have := List.filter_eq_nil_iff.1 (List.eq_nil_of_length_eq_zero h) x hx
  simpa using this
theorem cnt_lt {x : Tx × LnE} (hx : x ∈ K) (hp : p x.2 = false) : cntE p K < K.length := by
  induction K with
  | nil => cases hx
  | cons y K ih =>
    rw [cnt_cons, List.length_cons]
    rcases List.mem_cons.1 hx with rfl | hx
    · rw [hp]
      have := cnt_len p K
      unfold b2n
      simp
      omega
    · have := ih hx
      have := b2n_le (p y.2)
      omega
theorem cnt_map {q : LnE → Bool} (g : Tx × LnE → LnE) (h : ∀ x ∈ K, p (g x) = q x.2) : cntE p (K.map fun x => (x.1, g x)) = cntE q K := by
  induction K with
  | nil => rfl
  | cons x K ih =>
    rw [List.map_cons, cnt_cons, cnt_cons, h x List.mem_cons_self, ih (fun y hy => h y (List.mem_cons_of_mem _ hy))]
theorem cnt_mono {q : LnE → Bool} (h : ∀ x ∈ K, q x.2 = true → p x.2 = true) : cntE q K ≤ cntE p K := by
  induction K with
  | nil => exact Nat.le_refl _
  | cons x K ih =>
    rw [cnt_cons, cnt_cons]
    have := ih (fun y hy => h y (List.mem_cons_of_mem _ hy))
    have h2 : b2n (q x.2) ≤ b2n (p x.2) := by
      unfold b2n
      have := h x List.mem_cons_self
      split <;> simp_all
    omega
end
end Go.Proofs.Cold

/- What holds of the keys. -/
namespace Go.Proofs.Cold
open Go.Proofs.Eng Go.Proofs.Foot
set_option linter.unusedSimpArgs false
set_option linter.unusedVariables false
theorem chk_rise : ∀ {l : List Tx} {p : Option Tx}, chkK p l = 0 → l.Pairwise (· < ·) ∧ (∀ x ∈ l, validT x = true) ∧ ∀ y, p = some y → ∀ x ∈ l, y < x
  | [], p, h => by simp
  | x :: t, p, h => by
    unfold chkK at h
    by_cases h1 : validT x = false
    · rw [if_pos h1] at h; cases h
    · rw [if_neg h1] at h
      by_cases h2 : overK p x = true
      · rw [if_pos h2] at h; cases h
      · rw [if_neg h2] at h
        obtain ⟨g1, g2, g3⟩ := chk_rise h
        have g3 := g3 x rfl
        have hp : ∀ y, p = some y → y < x := fun y e => by
          subst e
          simp only [overK, decide_eq_true_eq] at h2
          exact List.not_le.1 h2
        refine ⟨List.pairwise_cons.2 ⟨g3, g1⟩, ?_, ?_⟩
        · intro z hz
          rcases List.mem_cons.1 hz with rfl | hz
          · simpa using h1
          · exact g2 z hz
        · intro y e z hz
          rcases List.mem_cons.1 hz with rfl | hz
          · exact hp y e
          · exact List.lt_trans (hp y e) (g3 z hz)
theorem chk_nodup {l : List Tx} (h : chkK none l = 0) : l.Nodup := (chk_rise h).1.imp (fun {a b} h e => by subst e; exact List.lt_irrefl a h)
theorem valid_ne {x : Tx} (h : validT x = true) : x ≠ [] := fun e => by subst e; simp [validT] at h
/-- What holds of the keys, each having so many pins. -/
structure KOk (room lines delay : Nat) (K : List (Tx × LnE)) (wt : List Tx) (pc : Tx → Nat) : Prop where
  nd : (K.map (·.1)).Nodup
  ne : ∀ k l, mget K k = some l → k ≠ []
  wn : wt.Nodup
  wk : ∀ k, k ∈ wt ↔ ∃ l, mget K k = some l ∧ l.st = 1
  pn : ∀ k, ((mget K k).getD ln0).pins = pc k
  wp : ∀ k l, mget K k = some l → l.st = 1 → 1 ≤ l.pins
  sg : ∀ k l, mget K k = some l → (l.st = 1 ∨ l.st = 2 ∨ l.st = 3) ∧ (l.st = 2 → 1 ≤ l.left ∧ l.left ≤ delay) ∧ l.left ≤ delay
  fl : cntE isF K ≤ lines
  nw : cntE isNW K ≤ room
  pr : cntE pinned K ≤ room
section
variable {room lines delay : Nat} {K : List (Tx × LnE)} {wt : List Tx} {pc : Tx → Nat}
theorem KOk.start : KOk room lines delay [] [] (fun _ => 0) := by
  constructor <;> simp [mget, cntE, ln0]
theorem KOk.congr (h : KOk room lines delay K wt pc) {pc' : Tx → Nat} (e : ∀ k, pc k = pc' k) : KOk room lines delay K wt pc' := { h with pn := fun k => by rw [← e]; exact h.pn k }
theorem KOk.in_ (h : KOk room lines delay K wt pc) {k : Tx} (hk : 1 ≤ pc k) : ∃ l, mget K k = some l ∧ l.pins = pc k := by
  have := h.pn k
  cases hq : mget K k with
  | none => rw [hq] at this; simp [ln0] at this; omega
  | some l => rw [hq] at this; exact ⟨l, rfl, this⟩
/-- What a key's line is does not hang on pins. -/
def stK (K : List (Tx × LnE)) (k : Tx) : Nat := ((mget K k).getD ln0).st
theorem warmK_st (K : List (Tx × LnE)) (k : Tx) : warmK K k = decide (stK K k = 3) := by
  unfold warmK stK
  cases mget K k with
  | none => rfl
  | some l => rfl
theorem warmE_congr {K K' : List (Tx × LnE)} {ks : List Tx} (h : ∀ k ∈ ks, warmK K' k = warmK K k) : warmE K' ks = warmE K ks := by
  unfold warmE
  induction ks with
  | nil => rfl
  | cons k ks ih =>
    rw [List.all_cons, List.all_cons, h k List.mem_cons_self, ih (fun x hx => h x (List.mem_cons_of_mem _ hx))]
theorem KOk.pin1 (h : KOk room lines delay K wt pc) {k : Tx} (hne : k ≠ []) (hf : cntE pinned K + (if freeK K k = true then 1 else 0) ≤ room) :
    KOk room lines delay (pinE (K, wt) k).1 (pinE (K, wt) k).2 (fun j => pc j + if j = k then 1 else 0) ∧ cntE pinned (pinE (K, wt) k).1 = cntE pinned K + (if freeK K k = true then 1 else 0) ∧ (∀ j, j ≠ k → freeK (pinE (K, wt) k).1 j = freeK K j) ∧ (∀ j, warmK (pinE (K, wt) k).1 j = warmK K j) := by
  have hpn := h.pn k
  unfold pinE freeK at *
  simp only at hf ⊢
  cases hq : mget K k with
  | none =>
    rw [hq] at hf hpn
    simp only [if_true] at hf ⊢
    have hpk : pc k = 0 := by rw [← hpn]; rfl
    have hg := fun j => mget_put k (⟨1, 1, 0, 0⟩ : LnE) K j
    have c1 := fun p => cnt_new (p := p) (l := (⟨1, 1, 0, 0⟩ : LnE)) hq
    have hkw : k ∉ wt := fun q => by obtain ⟨l, hl, _⟩ := (h.wk k).1 q; rw [hq] at hl; cases hl
    refine ⟨⟨mput_nd _ _ h.nd, fun j l hj => ?_, ?_, fun j => ?_, fun j => ?_, fun j l hj hs => ?_, fun j l hj => ?_, ?_, ?_, ?_⟩, ?_, fun j hj => ?_, fun j => ?_⟩
    · rw [hg] at hj
      by_cases e : j = k
      · rw [e]; exact hne
      · rw [if_neg e] at hj; exact h.ne j l hj
    · rw [List.nodup_append]
      exact ⟨h.wn, by simp, fun a ha b hb e => by rw [List.mem_singleton] at hb; rw [e, hb] at ha; exact hkw ha⟩
    · rw [hg, List.mem_append, List.mem_singleton]
      by_cases e : j = k
      · rw [if_pos e]; simp [e]
      · rw [if_neg e, h.wk j]; simp [e]
    · rw [hg]
      by_cases e : j = k
      · rw [if_pos e, if_pos e, e, hpk]; rfl
      · rw [if_neg e, if_neg e]; exact h.pn j
    · rw [hg] at hj
      by_cases e : j = k
      · rw [if_pos e] at hj; cases hj; exact Nat.le_refl _
      · rw [if_neg e] at hj; exact h.wp j l hj hs
    · rw [hg] at hj
      by_cases e : j = k
      · rw [if_pos e] at hj; cases hj; exact ⟨.inl rfl, fun q => by simp at q, Nat.zero_le _⟩
      · rw [if_neg e] at hj; exact h.sg j l hj
    · rw [c1]; have := h.fl; simp [b2n, isF]; omega
    · rw [c1]; have := h.nw; simp [b2n, isNW]; omega
    · rw [c1]; simp [b2n, pinned]; omega
    · rw [c1]; rfl
    · rw [hg, if_neg hj]
    · rw [warmK_st, warmK_st]
      unfold stK
      rw [hg]
      by_cases e : j = k
      · rw [if_pos e, e, hq]; rfl
      · rw [if_neg e]
  | some l =>
    rw [hq] at hf hpn
    simp only [decide_eq_true_eq] at hf ⊢
    replace hpn : l.pins = pc k := hpn
    have hg := fun j => mget_put k ({ l with pins := l.pins + 1 } : LnE) K j
    have c1 := fun p => cnt_old (p := p) (l := { l with pins := l.pins + 1 }) hq
    have hp1 : cntE pinned (mput K k { l with pins := l.pins + 1 }) = cntE pinned K + if l.pins = 0 then 1 else 0 := by
      have h9 := c1 pinned
      have h8 : b2n (pinned { l with pins := l.pins + 1 }) = 1 := by simp [b2n, pinned]
      have h7 : b2n (pinned l) = if l.pins = 0 then 0 else 1 := by
        unfold b2n pinned
        by_cases e : l.pins = 0
        · simp [e]
        · have e2 : 0 < l.pins := by omega
          simp [e, e2]
      rw [h8, h7] at h9
      split at h9
      · rename_i e; rw [if_pos e]; omega
      · rename_i e; rw [if_neg e]; omega
    refine ⟨⟨mput_nd _ _ h.nd, fun j l' hj => ?_, h.wn, fun j => ?_, fun j => ?_, fun j l' hj hs => ?_, fun j l' hj => ?_, ?_, ?_, ?_⟩, hp1, fun j hj => ?_, fun j => ?_⟩
    · rw [hg] at hj
      by_cases e : j = k
      · rw [e]; exact hne
      · rw [if_neg e] at hj; exact h.ne j l' hj
    · rw [hg]
      by_cases e : j = k
      · rw [if_pos e, e, h.wk k, hq]
        constructor
        · rintro ⟨l2, h1, h2⟩; cases h1; exact ⟨_, rfl, h2⟩
        · rintro ⟨l2, h1, h2⟩; cases h1; exact ⟨_, rfl, h2⟩
      · rw [if_neg e]; exact h.wk j
    · rw [hg]
      by_cases e : j = k
      · rw [if_pos e, if_pos e, e, ← hpn]; rfl
      · rw [if_neg e, if_neg e]; exact h.pn j
    · rw [hg] at hj
      by_cases e : j = k
      · rw [if_pos e] at hj; cases hj; simp only; omega
      · rw [if_neg e] at hj; exact h.wp j l' hj hs
    · rw [hg] at hj
      by_cases e : j = k
      · rw [if_pos e] at hj; cases hj; exact h.sg k l hq
      · rw [if_neg e] at hj; exact h.sg j l' hj
    · have := c1 isF; have := h.fl; simp only [isF] at *; omega
    · have := c1 isNW; have := h.nw; simp only [isNW] at *; omega
    · rw [hp1]; exact hf
    · rw [hg, if_neg hj]
    · rw [warmK_st, warmK_st]
      unfold stK
      rw [hg]
      by_cases e : j = k
      · rw [if_pos e, e, hq]; rfl
      · rw [if_neg e]
theorem KOk.pins (ks : List Tx) : ∀ {K : List (Tx × LnE)} {wt : List Tx} {pc : Tx → Nat}, KOk room lines delay K wt pc → ks.Nodup → (∀ k ∈ ks, k ≠ []) → cntE pinned K + (ks.filter (freeK K)).length ≤ room →
    KOk room lines delay (ks.foldl pinE (K, wt)).1 (ks.foldl pinE (K, wt)).2 (fun j => pc j + if j ∈ ks then 1 else 0) ∧ (∀ j, warmK (ks.foldl pinE (K, wt)).1 j = warmK K j) := by
  induction ks with
  | nil => intro K wt pc h _ _ _; exact ⟨h.congr (fun k => by simp), fun j => rfl⟩
  | cons k ks ih =>
    intro K wt pc h hn hne hf
    rw [List.nodup_cons] at hn
    have hf2 : cntE pinned K + (if freeK K k = true then 1 else 0) + (ks.filter (freeK K)).length ≤ room := by
      rw [List.filter_cons] at hf
      split at hf
      · rename_i q; rw [if_pos q]; simp only [List.length_cons] at hf; omega
      · rename_i q; rw [if_neg q]; omega
    obtain ⟨h1, h2, h3, h4⟩ := h.pin1 (hne k List.mem_cons_self) (by omega)
    have hfl : ks.filter (freeK (pinE (K, wt) k).1) = ks.filter (freeK K) := List.filter_congr (fun j hj => h3 j (fun e => hn.1 (e ▸ hj)))
    rw [List.foldl_cons]
    obtain ⟨g1, g2⟩ := ih h1 hn.2 (fun j hj => hne j (List.mem_cons_of_mem _ hj)) (by rw [hfl, h2]; exact hf2)
    refine ⟨g1.congr (fun j => ?_), fun j => (g2 j).trans (h4 j)⟩
    by_cases e : j = k
    · subst e; simp [hn.1]
    · simp [e]
theorem KOk.unpin1 (h : KOk room lines delay K wt pc) {k : Tx} (num : Nat) (hk : 1 ≤ pc k) :
    KOk room lines delay (unpinE num (K, wt) k).1 (unpinE num (K, wt) k).2 (fun j => pc j - if j = k then 1 else 0) ∧ (∀ j, warmK (unpinE num (K, wt) k).1 j = warmK K j) := by
  obtain ⟨l, hq, hl⟩ := h.in_ hk
  have c1 := fun p l2 => cnt_old (p := p) (l := l2) hq
  unfold unpinE
  rw [hq]
  simp only
  have upd : ∀ l2 : LnE, l2.st = l.st → l2.left = l.left → l2.pins + 1 = l.pins → (l.st = 1 → 1 ≤ l2.pins) → KOk room lines delay (mput K k l2) wt (fun j => pc j - if j = k then 1 else 0) ∧ (∀ j, warmK (mput K k l2) j = warmK K j) := fun l2 hs hlf hp hw => by
    have hg := fun j => mget_put k l2 K j
    refine ⟨⟨mput_nd _ _ h.nd, fun j l' hj => ?_, h.wn, fun j => ?_, fun j => ?_, fun j l' hj hs' => ?_, fun j l' hj => ?_, ?_, ?_, ?_⟩, fun j => ?_⟩
    · rw [hg] at hj
      by_cases e : j = k
      · rw [e]; exact h.ne k l hq
      · rw [if_neg e] at hj; exact h.ne j l' hj
    · rw [hg]
      by_cases e : j = k
      · rw [if_pos e, e, h.wk k, hq]
        constructor
        · rintro ⟨l3, h1, h2⟩; cases h1; exact ⟨_, rfl, hs.trans h2⟩
        · rintro ⟨l3, h1, h2⟩; cases h1; exact ⟨_, rfl, hs.symm.trans h2⟩
      · rw [if_neg e]; exact h.wk j
    · rw [hg]
      by_cases e : j = k
      · rw [if_pos e, if_pos e, e, ← hl]; show l2.pins = _; omega
      · rw [if_neg e, if_neg e]; exact h.pn j
    · rw [hg] at hj
      by_cases e : j = k
      · rw [if_pos e] at hj; cases hj; exact hw (hs.symm.trans hs')
      · rw [if_neg e] at hj; exact h.wp j l' hj hs'
    · rw [hg] at hj
      by_cases e : j = k
      · rw [if_pos e] at hj; cases hj; rw [hs, hlf]; exact h.sg k l hq
      · rw [if_neg e] at hj; exact h.sg j l' hj
    · have := c1 isF l2; have := h.fl; simp only [isF, hs] at *; omega
    · have := c1 isNW l2; have := h.nw; simp only [isNW, hs] at *; omega
    · have := c1 pinned l2
      have := h.pr
      have h9 : b2n (pinned l2) ≤ b2n (pinned l) := by
        unfold b2n pinned
        by_cases e : 0 < l2.pins
        · have e2 : 0 < l.pins := by omega
          simp [e, e2]
        · simp [e]
      omega
    · rw [warmK_st, warmK_st]
      unfold stK
      rw [hg]
      by_cases e : j = k
      · rw [if_pos e, e, hq]; show decide (l2.st = 3) = decide (l.st = 3); rw [hs]
      · rw [if_neg e]
  by_cases h1 : 1 < l.pins
  · rw [if_pos h1]
    exact upd { l with pins := l.pins - 1 } rfl rfl (by simp only; omega) (fun _ => by simp only; omega)
  · rw [if_neg h1]
    by_cases h2 : l.st = 1
    · rw [if_pos h2]
      have hg := mget_del k K h.nd
      have c2 := fun p => cnt_del (p := p) hq
      refine ⟨⟨mdel_nd _ h.nd, fun j l' hj => ?_, h.wn.filter _, fun j => ?_, fun j => ?_, fun j l' hj hs' => ?_, fun j l' hj => ?_, ?_, ?_, ?_⟩, fun j => ?_⟩
      · rw [hg] at hj
        by_cases e : j = k
        · rw [if_pos e] at hj; cases hj
        · rw [if_neg e] at hj; exact h.ne j l' hj
      · rw [hg, List.mem_filter]
        by_cases e : j = k
        · rw [if_pos e]; simp [e]
        · rw [if_neg e, h.wk j]; simp [e]
      · rw [hg]
        by_cases e : j = k
        · rw [if_pos e, if_pos e, e, ← hl]; show 0 = _; omega
        · rw [if_neg e, if_neg e]; exact h.pn j
      · rw [hg] at hj
        by_cases e : j = k
        · rw [if_pos e] at hj; cases hj
        · rw [if_neg e] at hj; exact h.wp j l' hj hs'
      · rw [hg] at hj
        by_cases e : j = k
        · rw [if_pos e] at hj; cases hj
        · rw [if_neg e] at hj; exact h.sg j l' hj
      · have := c2 isF; have := h.fl; simp only; omega
      · have := c2 isNW; have := h.nw; simp only; omega
      · have := c2 pinned; have := h.pr; simp only; omega
      · rw [warmK_st, warmK_st]
        unfold stK
        rw [hg]
        by_cases e : j = k
        · rw [if_pos e, e, hq]; show decide (0 = 3) = decide (l.st = 3); rw [h2]; rfl
        · rw [if_neg e]
    · rw [if_neg h2]
      exact upd { l with pins := 0, since := num } rfl rfl (by simp only; omega) (fun q => absurd q h2)
theorem KOk.unpins (num : Nat) (ks : List Tx) : ∀ {K : List (Tx × LnE)} {wt : List Tx} {pc : Tx → Nat}, KOk room lines delay K wt pc → ks.Nodup → (∀ k ∈ ks, 1 ≤ pc k) →
    KOk room lines delay (ks.foldl (unpinE num) (K, wt)).1 (ks.foldl (unpinE num) (K, wt)).2 (fun j => pc j - if j ∈ ks then 1 else 0) ∧ (∀ j, warmK (ks.foldl (unpinE num) (K, wt)).1 j = warmK K j) := by
  induction ks with
  | nil => intro K wt pc h _ _; exact ⟨h.congr (fun k => by simp), fun j => rfl⟩
  | cons k ks ih =>
    intro K wt pc h hn hp
    rw [List.nodup_cons] at hn
    obtain ⟨h1, h2⟩ := h.unpin1 num (hp k List.mem_cons_self)
    rw [List.foldl_cons]
    obtain ⟨g1, g2⟩ := ih h1 hn.2 (fun j hj => by
      have e : ¬ j = k := fun e => hn.1 (e ▸ hj)
      simp only [if_neg e]
      exact hp j (List.mem_cons_of_mem _ hj))
    refine ⟨g1.congr (fun j => ?_), fun j => (g2 j).trans (h2 j)⟩
    by_cases e : j = k
    · subst e; simp [hn.1]
    · simp [e]
end
end Go.Proofs.Cold

/- Which key is idle the longest; lines begin to bring keys. -/
namespace Go.Proofs.Cold
open Go.Proofs.Eng Go.Proofs.Foot
set_option linter.unusedSimpArgs false
set_option linter.unusedVariables false
def aheadK (x : Tx × LnE) (b : Tx) (l : LnE) : Prop := x.2.since < l.since ∨ x.2.since = l.since ∧ x.1 < b
/-- The longest idle of those that were looked at (r: those left). -/
def IdlI (K r : List (Tx × LnE)) (b : Tx) : Prop :=
  (b = [] ∧ ∀ x ∈ K, x ∉ r → idleE x.2 = false) ∨ ∃ l, mget K b = some l ∧ idleE l = true ∧ b ≠ [] ∧ ∀ x ∈ K, x ∉ r → idleE x.2 = true → ¬ aheadK x b l
theorem IdlI.start (K : List (Tx × LnE)) : IdlI K K [] := .inl ⟨rfl, fun x h1 h2 => absurd h1 h2⟩
theorem IdlI.step {K l1 l2 : List (Tx × LnE)} {p : Tx × LnE} {b : Tx} (hn : (K.map (·.1)).Nodup) (hp : p ∈ K) (hne : p.1 ≠ []) (h : IdlI K (l1 ++ p :: l2) b) : IdlI K (l1 ++ l2) (idlStep K b p) := by
  have hm := mget_of hn hp
  have out : ∀ x, x ∉ l1 ++ l2 → x = p ∨ x ∉ l1 ++ p :: l2 := fun x hx => by
    by_cases e : x = p
    · exact .inl e
    · right
      intro q
      apply hx
      rcases List.mem_append.1 q with q | q
      · exact List.mem_append_left _ q
      · rcases List.mem_cons.1 q with q | q
        · exact absurd q e
        · exact List.mem_append_right _ q
  unfold idlStep
  by_cases hi : idleE p.2 = true
  · rcases h with ⟨rfl, h2⟩ | ⟨l, h1, h2, h3, h4⟩
    · rw [if_pos ⟨hi, .inl rfl⟩]
      refine .inr ⟨p.2, hm, hi, hne, fun x hx hxr hxi => ?_⟩
      rcases out x hxr with e | e
      · subst e
        rintro (q | ⟨_, q⟩)
        · omega
        · exact List.lt_irrefl _ q
      · rw [h2 x hx e] at hxi; cases hxi
    · have hs : sinceK K b = l.since := by unfold sinceK; rw [h1]; rfl
      rw [hs]
      by_cases ha : aheadK p b l
      · rw [if_pos ⟨hi, .inr ha⟩]
        refine .inr ⟨p.2, hm, hi, hne, fun x hx hxr hxi => ?_⟩
        rcases out x hxr with e | e
        · subst e
          rintro (q | ⟨_, q⟩)
          · omega
          · exact List.lt_irrefl _ q
        · intro q
          apply h4 x hx e hxi
          rcases q with q | ⟨q, q'⟩
          · rcases ha with ha | ⟨ha, _⟩
            · exact .inl (by omega)
            · exact .inl (by omega)
          · rcases ha with ha | ⟨ha, ha'⟩
            · exact .inl (by omega)
            · exact .inr ⟨by omega, List.lt_trans q' ha'⟩
      · rw [if_neg (fun q => by
          rcases q.2 with q | q
          · exact h3 q
          · exact ha q)]
        refine .inr ⟨l, h1, h2, h3, fun x hx hxr hxi => ?_⟩
        rcases out x hxr with e | e
        · subst e; exact ha
        · exact h4 x hx e hxi
  · rw [if_neg (fun q => hi q.1)]
    have hi' : idleE p.2 = false := by simpa using hi
    rcases h with ⟨rfl, h2⟩ | ⟨l, h1, h2, h3, h4⟩
    · refine .inl ⟨rfl, fun x hx hxr => ?_⟩
      rcases out x hxr with e | e
      · subst e; exact hi'
      · exact h2 x hx e
    · refine .inr ⟨l, h1, h2, h3, fun x hx hxr hxi => ?_⟩
      rcases out x hxr with e | e
      · subst e; rw [hi'] at hxi; cases hxi
      · exact h4 x hx e hxi
theorem IdlI.uniq {K : List (Tx × LnE)} {b c : Tx} (hn : (K.map (·.1)).Nodup) (h : IdlI K [] b) (g : IdlI K [] c) : b = c := by
  rcases h with ⟨rfl, h2⟩ | ⟨l, h1, h2, h3, h4⟩
  · rcases g with ⟨rfl, _⟩ | ⟨m, g1, g2, g3, g4⟩
    · rfl
    · have := h2 _ (mget_in g1) (by simp)
      rw [g2] at this; cases this
  · rcases g with ⟨rfl, g2⟩ | ⟨m, g1, g2, g3, g4⟩
    · have := g2 _ (mget_in h1) (by simp)
      rw [h2] at this; cases this
    · have a1 := h4 _ (mget_in g1) (by simp) g2
      have a2 := g4 _ (mget_in h1) (by simp) h2
      unfold aheadK at a1 a2
      simp only at a1 a2
      have hs : l.since = m.since := by omega
      have b1 : ¬ c < b := fun q => a1 (.inr ⟨hs.symm, q⟩)
      have b2 : ¬ b < c := fun q => a2 (.inr ⟨hs, q⟩)
      exact List.le_antisymm (List.not_lt.1 b1) (List.not_lt.1 b2)
theorem idl_is {K : List (Tx × LnE)} (hn : (K.map (·.1)).Nodup) (hne : ∀ x ∈ K, x.1 ≠ []) : IdlI K [] (idl K) := by
  have key : ∀ (r : List (Tx × LnE)) (b : Tx), (∀ x ∈ r, x ∈ K) → IdlI K r b → IdlI K [] (r.foldl (idlStep K) b) := by
    intro r
    induction r with
    | nil => intro b _ h; exact h
    | cons p r ih =>
      intro b hr h
      rw [List.foldl_cons]
      exact ih _ (fun x hx => hr x (List.mem_cons_of_mem _ hx)) (IdlI.step (l1 := []) hn (hr p List.mem_cons_self) (hne p (hr p List.mem_cons_self)) h)
  exact key K [] (fun x h => h) (IdlI.start K)
def sumE (g : LnE → Nat) (K : List (Tx × LnE)) : Nat := (K.map fun x => g x.2).sum
theorem sum_cons (g : LnE → Nat) (x : Tx × LnE) (K : List (Tx × LnE)) : sumE g (x :: K) = g x.2 + sumE g K := by simp [sumE]
theorem sum_old {g : LnE → Nat} {K : List (Tx × LnE)} {k : Tx} {l l0 : LnE} (h : mget K k = some l0) : sumE g (mput K k l) + g l0 = sumE g K + g l := by
  induction K with
  | nil => cases h
  | cons x K ih =>
    unfold mget at h
    unfold mput
    by_cases e : x.1 = k
    · rw [if_pos e] at h ⊢
      cases h
      rw [sum_cons, sum_cons]; simp only; omega
    · rw [if_neg e] at h ⊢
      rw [sum_cons, sum_cons]
      have := ih h
      omega
theorem sum_del {g : LnE → Nat} {K : List (Tx × LnE)} {k : Tx} {l0 : LnE} (h : mget K k = some l0) : sumE g (mdel K k) + g l0 = sumE g K := by
  induction K with
  | nil => cases h
  | cons x K ih =>
    unfold mget at h
    unfold mdel
    by_cases e : x.1 = k
    · rw [if_pos e] at h ⊢
      cases h
      rw [sum_cons]; omega
    · rw [if_neg e] at h ⊢
      rw [sum_cons, sum_cons]
      have := ih h
      omega
def lft (l : LnE) : Nat := if l.st = 2 then l.left else 0
def potE (t : CS) : Nat := t.delay * t.wt.length + sumE lft t.K
section
variable {room lines delay : Nat} {K : List (Tx × LnE)} {wt : List Tx} {pc : Tx → Nat}
theorem KOk.fetch {k : Tx} {r : List Tx} (h : KOk room lines delay K (k :: r) pc) (hd : 1 ≤ delay) (h1 : cntE isF K < lines) (h2 : cntE isNW K < room) :
    ∃ l, mget K k = some l ∧ l.st = 1 ∧ KOk room lines delay (mput K k { l with st := 2, left := delay }) r pc ∧ (∀ j, warmK (mput K k { l with st := 2, left := delay }) j = warmK K j) ∧ sumE lft (mput K k { l with st := 2, left := delay }) = sumE lft K + delay := by
  obtain ⟨l, hq, hs⟩ := (h.wk k).1 List.mem_cons_self
  have hg := fun j => mget_put k ({ l with st := 2, left := delay } : LnE) K j
  have c1 := fun p => cnt_old (p := p) (l := { l with st := 2, left := delay }) hq
  have hwn := List.nodup_cons.1 h.wn
  refine ⟨l, hq, hs, ⟨mput_nd _ _ h.nd, fun j l' hj => ?_, hwn.2, fun j => ?_, fun j => ?_, fun j l' hj hs' => ?_, fun j l' hj => ?_, ?_, ?_, ?_⟩, fun j => ?_, ?_⟩
  · rw [hg] at hj
    by_cases e : j = k
    · rw [e]; exact h.ne k l hq
    · rw [if_neg e] at hj; exact h.ne j l' hj
  · rw [hg]
    by_cases e : j = k
    · rw [if_pos e, e]
      constructor
      · intro q; exact absurd q hwn.1
      · rintro ⟨l2, q1, q2⟩; cases q1; cases q2
    · rw [if_neg e, ← h.wk j]; simp [e]
  · rw [hg]
    by_cases e : j = k
    · rw [if_pos e, e]
      have := h.pn k
      rw [hq] at this
      exact this
    · rw [if_neg e]; exact h.pn j
  · rw [hg] at hj
    by_cases e : j = k
    · rw [if_pos e] at hj; cases hj; cases hs'
    · rw [if_neg e] at hj; exact h.wp j l' hj hs'
  · rw [hg] at hj
    by_cases e : j = k
    · rw [if_pos e] at hj; cases hj; exact ⟨.inr (.inl rfl), fun _ => ⟨hd, Nat.le_refl _⟩, Nat.le_refl _⟩
    · rw [if_neg e] at hj; exact h.sg j l' hj
  · have := c1 isF
    have e1 : b2n (isF l) = 0 := by simp [b2n, isF, hs]
    have e2 : b2n (isF { l with st := 2, left := delay }) = 1 := by simp [b2n, isF]
    omega
  · have := c1 isNW
    have e1 : b2n (isNW l) = 0 := by simp [b2n, isNW, hs]
    have e2 : b2n (isNW { l with st := 2, left := delay }) = 1 := by simp [b2n, isNW]
    omega
  · have := c1 pinned
    have := h.pr
    simp only [pinned] at *
    omega
  · rw [warmK_st, warmK_st]
    unfold stK
    rw [hg]
    by_cases e : j = k
    · rw [if_pos e, e, hq]; show decide (2 = 3) = decide (l.st = 3); rw [hs]; rfl
    · rw [if_neg e]
  · have := sum_old (g := lft) (l := { l with st := 2, left := delay }) hq
    have e1 : lft l = 0 := by simp [lft, hs]
    have e2 : lft { l with st := 2, left := delay } = delay := by simp [lft]
    omega
theorem KOk.evict (h : KOk room lines delay K wt pc) {b : Tx} {l : LnE} (hq : mget K b = some l) (hi : idleE l = true) :
    KOk room lines delay (mdel K b) wt pc ∧ cntE isNW (mdel K b) + 1 = cntE isNW K ∧ cntE isF (mdel K b) = cntE isF K ∧ (∀ j, 1 ≤ pc j → warmK (mdel K b) j = warmK K j) ∧ (∀ j, warmK (mdel K b) j = true → warmK K j = true) ∧ sumE lft (mdel K b) = sumE lft K := by
  unfold idleE at hi
  simp only [Bool.and_eq_true, decide_eq_true_eq] at hi
  obtain ⟨hs, hp⟩ := hi
  have hg := mget_del b K h.nd
  have c2 := fun p => cnt_del (p := p) hq
  have hpb : pc b = 0 := by have := h.pn b; rw [hq] at this; rw [← this]; exact hp
  have n1 : b2n (isNW l) = 1 := by simp [b2n, isNW, hs]
  have n2 : b2n (isF l) = 0 := by simp [b2n, isF, hs]
  refine ⟨⟨mdel_nd _ h.nd, fun j l' hj => ?_, h.wn, fun j => ?_, fun j => ?_, fun j l' hj hs' => ?_, fun j l' hj => ?_, ?_, ?_, ?_⟩, ?_, ?_, fun j hj => ?_, fun j hj => ?_, ?_⟩
  · rw [hg] at hj
    by_cases e : j = b
    · rw [if_pos e] at hj; cases hj
    · rw [if_neg e] at hj; exact h.ne j l' hj
  · rw [hg, h.wk j]
    by_cases e : j = b
    · rw [if_pos e, e, hq]
      constructor
      · rintro ⟨l2, q1, q2⟩; cases q1; omega
      · rintro ⟨l2, q1, q2⟩; cases q1
    · rw [if_neg e]
  · rw [hg]
    by_cases e : j = b
    · rw [if_pos e, e, hpb]; rfl
    · rw [if_neg e]; exact h.pn j
  · rw [hg] at hj
    by_cases e : j = b
    · rw [if_pos e] at hj; cases hj
    · rw [if_neg e] at hj; exact h.wp j l' hj hs'
  · rw [hg] at hj
    by_cases e : j = b
    · rw [if_pos e] at hj; cases hj
    · rw [if_neg e] at hj; exact h.sg j l' hj
  · have := c2 isF; have := h.fl; omega
  · have := c2 isNW; have := h.nw; omega
  · have := c2 pinned; have := h.pr; omega
  · have := c2 isNW; omega
  · have := c2 isF; omega
  · have e : j ≠ b := fun e => by rw [e, hpb] at hj; omega
    rw [warmK_st, warmK_st]
    unfold stK
    rw [hg, if_neg e]
  · rw [warmK_st] at hj ⊢
    unfold stK at hj ⊢
    rw [hg] at hj
    by_cases e : j = b
    · rw [if_pos e] at hj; cases hj
    · rw [if_neg e] at hj; exact hj
  · have := sum_del (g := lft) hq
    have e1 : lft l = 0 := by simp [lft, hs]
    omega
theorem KOk.tick (h : KOk room lines delay K wt pc) (num : Nat) : KOk room lines delay (tickK num K) wt pc ∧ (∀ j, warmK K j = true → warmK (tickK num K) j = true) ∧ sumE lft (tickK num K) + cntE isF K = sumE lft K := by
  have hk : (tickK num K).map (·.1) = K.map (·.1) := by simp [tickK, List.map_map, Function.comp_def]
  have hg : ∀ j, mget (tickK num K) j = (mget K j).map (tickLn num) := fun j => by
    unfold tickK
    clear h hk
    induction K with
    | nil => rfl
    | cons x K ih =>
      simp only [List.map_cons, mget]
      by_cases e : x.1 = j
      · rw [if_pos e, if_pos e]; rfl
      · rw [if_neg e, if_neg e]; exact ih
  have t1 : ∀ l : LnE, (tickLn num l).pins = l.pins := fun l => by unfold tickLn; split; split <;> rfl; rfl
  have t2 : ∀ l : LnE, (tickLn num l).st = 1 ↔ l.st = 1 := fun l => by
    unfold tickLn
    by_cases e : l.st = 2
    · rw [if_pos e]
      split
      · simp; omega
      · simp only; 
    · rw [if_neg e]
  have t3 : ∀ l : LnE, l.st = 3 → (tickLn num l).st = 3 := fun l e => by unfold tickLn; rw [if_neg (by omega)]; exact e
  have cm : ∀ p : LnE → Bool, (∀ l, p (tickLn num l) = p l) → cntE p (tickK num K) = cntE p K := fun p hp => cnt_map (p := p) (q := p) (fun x => tickLn num x.2) (fun x _ => hp x.2)
  have t4 : ∀ l, isF (tickLn num l) = true → isF l = true := fun l => by
    unfold isF tickLn
    by_cases e : l.st = 2
    · simp [e]
    · simp [e]
  refine ⟨⟨by rw [hk]; exact h.nd, fun j l hj => ?_, h.wn, fun j => ?_, fun j => ?_, fun j l hj hs => ?_, fun j l hj => ?_, ?_, ?_, ?_⟩, fun j hj => ?_, ?_⟩
  · rw [hg] at hj
    cases hq : mget K j with
    | none => rw [hq] at hj; cases hj
    | some l0 => exact h.ne j l0 hq
  · rw [h.wk j, hg]
    cases hq : mget K j with
    | none => simp
    | some l0 => simp [t2]
  · rw [hg, ← h.pn j]
    cases hq : mget K j with
    | none => rfl
    | some l0 => exact t1 l0
  · rw [hg] at hj
    cases hq : mget K j with
    | none => rw [hq] at hj; cases hj
    | some l0 =>
      rw [hq] at hj
      cases hj
      rw [t1]
      exact h.wp j l0 hq ((t2 l0).1 hs)
  · rw [hg] at hj
    cases hq : mget K j with
    | none => rw [hq] at hj; cases hj
    | some l0 =>
      rw [hq] at hj
      cases hj
      obtain ⟨a1, a2, a3⟩ := h.sg j l0 hq
      unfold tickLn
      by_cases e : l0.st = 2
      · rw [if_pos e]
        have := a2 e
        split
        · exact ⟨.inr (.inr rfl), fun q => by simp at q, Nat.zero_le _⟩
        · exact ⟨.inr (.inl e), fun _ => ⟨by simp only; omega, by simp only; omega⟩, by simp only; omega⟩
      · rw [if_neg e]; exact ⟨a1, a2, a3⟩
  · have h1 : cntE isF (tickK num K) ≤ cntE isF K := by
      unfold tickK
      rw [cnt_map (p := isF) (q := fun l => isF (tickLn num l)) (fun x => tickLn num x.2) (fun x _ => rfl)]
      exact cnt_mono (fun x _ q => t4 _ q)
    have := h.fl
    omega
  · rw [cm isNW (fun l => by unfold isNW; congr 1; rw [decide_eq_decide]; exact t2 l)]; exact h.nw
  · rw [cm pinned (fun l => by unfold pinned; rw [t1])]; exact h.pr
  · rw [warmK_st, decide_eq_true_eq] at hj ⊢
    unfold stK at hj ⊢
    rw [hg]
    cases hq : mget K j with
    | none => rw [hq] at hj; cases hj
    | some l0 => rw [hq] at hj; exact t3 l0 hj
  · have hs := fun x (hx : x ∈ K) => (h.sg x.1 x.2 (mget_of h.nd hx)).2.1
    clear h hk hg cm
    induction K with
    | nil => rfl
    | cons x K ih =>
      have ih := ih (fun y hy => hs y (List.mem_cons_of_mem _ hy))
      have hx := hs x List.mem_cons_self
      show sumE lft ((x.1, tickLn num x.2) :: tickK num K) + _ = _
      rw [sum_cons, sum_cons, cnt_cons]
      have : lft (tickLn num x.2) + b2n (isF x.2) = lft x.2 := by
        unfold lft tickLn b2n isF
        by_cases e : x.2.st = 2
        · have := hx e
          by_cases e2 : x.2.left = 1
          · simp [e, e2]
          · simp [e, e2]; omega
        · simp [e]
      simp only
      omega
/-- As far as lines take keys. -/
structure TakeI (t t' : CS) (pc : Tx → Nat) : Prop where
  k : KOk t.room t.lines t.delay t'.K t'.wt pc
  w1 : ∀ j, 1 ≤ pc j → warmK t'.K j = warmK t.K j
  w2 : ∀ j, warmK t'.K j = true → warmK t.K j = true
  eH : t'.H = t.H
  er : t'.room = t.room
  el : t'.lines = t.lines
  ed : t'.delay = t.delay
  en : t'.now = t.now
  em : t'.num = t.num
  po : potE t' = potE t
  fe : t'.fet + t'.wt.length ≤ t.fet + t.wt.length
  kl : t'.K.length ≤ t.K.length
  sub : ∀ j, mget t'.K j ≠ none → mget t.K j ≠ none
theorem TakeI.refl {t : CS} (h : KOk t.room t.lines t.delay t.K t.wt pc) : TakeI t t pc := ⟨h, fun _ _ => rfl, fun _ q => q, rfl, rfl, rfl, rfl, rfl, rfl, rfl, Nat.le_refl _, Nat.le_refl _, fun _ q => q⟩
theorem TakeI.trans {t t1 t2 : CS} (h : TakeI t t1 pc) (g : TakeI t1 t2 pc) : TakeI t t2 pc :=
  ⟨by have := g.k; rw [h.er, h.el, h.ed] at this; exact this, fun j q => (g.w1 j q).trans (h.w1 j q), fun j q => h.w2 j (g.w2 j q), g.eH.trans h.eH, g.er.trans h.er, g.el.trans h.el, g.ed.trans h.ed, g.en.trans h.en, g.em.trans h.em, g.po.trans h.po, Nat.le_trans g.fe h.fe, Nat.le_trans g.kl h.kl, fun j q => h.sub j (g.sub j q)⟩
theorem KOk.ne' (h : KOk room lines delay K wt pc) : ∀ x ∈ K, x.1 ≠ [] := fun x hx => h.ne x.1 x.2 (mget_of h.nd hx)
def StopI (t : CS) : Prop := t.wt = [] ∨ t.lines ≤ cntE isF t.K ∨ (t.room ≤ cntE isNW t.K ∧ idl t.K = [])
theorem fetch_take {t : CS} {k : Tx} {r : List Tx} (hw : t.wt = k :: r) (h : KOk t.room t.lines t.delay t.K t.wt pc) (hd : 1 ≤ t.delay) (h1 : cntE isF t.K < t.lines) (h2 : cntE isNW t.K < t.room) : TakeI t (fetchE t k r) pc := by
  rw [hw] at h
  obtain ⟨l, hq, hs, hk, hww, hsm⟩ := h.fetch hd h1 h2
  have e : fetchE t k r = { t with K := mput t.K k { l with st := 2, left := t.delay }, wt := r, fet := t.fet + 1 } := by unfold fetchE; rw [hq]; rfl
  rw [e]
  refine ⟨hk, fun j _ => hww j, fun j q => by rw [← hww j]; exact q, rfl, rfl, rfl, rfl, rfl, rfl, ?_, by simp only; rw [hw]; simp; omega, ?_, fun j q => ?_⟩
  · unfold potE
    simp only
    rw [hw, hsm, List.length_cons, Nat.mul_succ]
    omega
  · simp only
    rw [len_put, hq]
    simp
  · simp only at q
    rw [mget_put] at q
    by_cases e2 : j = k
    · rw [e2, hq]; simp
    · rw [if_neg e2] at q; exact q
theorem take_good : ∀ (f : Nat) (t : CS), KOk t.room t.lines t.delay t.K t.wt pc → t.wt.length ≤ f → 1 ≤ t.delay → TakeI t (takeL f t) pc ∧ StopI (takeL f t)
  | 0, t, h, hf, hd => ⟨TakeI.refl h, .inl (List.eq_nil_of_length_eq_zero (by show t.wt.length = 0; omega))⟩
  | f + 1, t, h, hf, hd => by
    unfold takeL
    cases hw : t.wt with
    | nil => exact ⟨TakeI.refl h, .inl hw⟩
    | cons k r =>
      rw [hw] at hf
      simp only [List.length_cons] at hf
      simp only
      by_cases h1 : cntE isF t.K < t.lines
      · rw [if_pos h1]
        by_cases h2 : t.room ≤ cntE isNW t.K
        · rw [if_pos h2]
          by_cases h3 : idl t.K = []
          · rw [if_pos h3]
            exact ⟨TakeI.refl h, .inr (.inr ⟨h2, h3⟩)⟩
          · rw [if_neg h3]
            rcases idl_is h.nd h.ne' with ⟨e, _⟩ | ⟨l, hq, hi, _, _⟩
            · exact absurd e h3
            obtain ⟨k1, k2, k3, k4, k5, k6⟩ := h.evict hq hi
            have hT1 : TakeI t { t with K := mdel t.K (idl t.K) } pc := ⟨k1, k4, k5, rfl, rfl, rfl, rfl, rfl, rfl, by unfold potE; simp only; rw [k6], Nat.le_refl _, len_del _, fun j q => by
              simp only at q
              rw [mget_del _ _ h.nd] at q
              by_cases e : j = idl t.K
              · rw [e, hq]; simp
              · rw [if_neg e] at q; exact q⟩
            have hnw := h.nw
            have hT2 := fetch_take (t := { t with K := mdel t.K (idl t.K) }) (k := k) (r := r) hw k1 hd (by simp only; omega) (by simp only; omega)
            have hT := hT1.trans hT2
            have hk2 := hT2.k
            obtain ⟨g1, g2⟩ := take_good f (fetchE { t with K := mdel t.K (idl t.K) } k r) hk2 (by show r.length ≤ f; omega) hd
            exact ⟨hT.trans g1, g2⟩
        · rw [if_neg h2]
          have hT := fetch_take hw h hd h1 (by omega)
          obtain ⟨g1, g2⟩ := take_good f (fetchE t k r) hT.k (by show r.length ≤ f; omega) hd
          exact ⟨hT.trans g1, g2⟩
      · rw [if_neg h1]
        exact ⟨TakeI.refl h, .inr (.inl (by omega))⟩
/-- Something is brought as long as something is wanted. -/
theorem StopI.prog {t : CS} (h : KOk t.room t.lines t.delay t.K t.wt pc) (hl : 1 ≤ t.lines) (hs : StopI t) (hw : t.wt ≠ []) : 1 ≤ cntE isF t.K := by
  rcases hs with hs | hs | ⟨h1, h2⟩
  · exact absurd hs hw
  · omega
  · cases hc : cntE isF t.K with
    | succ n => omega
    | zero =>
      exfalso
      have nf := cnt_zero hc
      rcases idl_is h.nd h.ne' with ⟨_, hi⟩ | ⟨l, _, _, hb, _⟩
      · have hall : ∀ x ∈ t.K, pinned x.2 = true := fun x hx => by
          have hq := mget_of h.nd hx
          obtain ⟨a1, _, _⟩ := h.sg _ _ hq
          rcases a1 with a1 | a1 | a1
          · have := h.wp _ _ hq a1
            unfold pinned; simp; omega
          · have := nf x hx
            unfold isF at this
            rw [a1] at this; cases this
          · have := hi x hx (by simp)
            unfold idleE at this
            rw [a1] at this
            unfold pinned
            simp at this ⊢
            omega
        have hp := cnt_all hall
        have hpr := h.pr
        obtain ⟨k, hk⟩ := List.exists_mem_of_ne_nil _ hw
        obtain ⟨l, hq, h3⟩ := (h.wk k).1 hk
        have := cnt_lt (p := isNW) (mget_in hq) (by simp [isNW, h3])
        omega
      · exact hb h2
end
end Go.Proofs.Cold

/- What holds of a tier, whatever is done. -/
namespace Go.Proofs.Cold
open Go.Proofs.Eng Go.Proofs.Foot
set_option linter.unusedSimpArgs false
set_option linter.unusedVariables false
def inP (k : Tx) (h : HdE) : Bool := !decide (h.st = 1) && decide (k ∈ h.ks)
def pcH (H : List HdE) (k : Tx) : Nat := (H.filter (inP k)).length
theorem filter_set {α : Type} (p : α → Bool) : ∀ (l : List α) (i : Nat) (x d : α), i < l.length → ((l.set i x).filter p).length + b2n (p (l.getD i d)) = (l.filter p).length + b2n (p x)
  | [], i, x, d, h => by simp at h
  | y :: l, 0, x, d, h => by
    simp only [List.set_cons_zero, List.filter_cons, List.getD_cons_zero, b2n]
    split <;> split <;> simp <;> omega
  | y :: l, i + 1, x, d, h => by
    have ih := filter_set p l i x d (by simpa using h)
    simp only [List.set_cons_succ, List.filter_cons, List.getD_cons_succ]
    split <;> (try simp only [List.length_cons]) <;> omega
theorem filter_erase {α : Type} (p : α → Bool) : ∀ (l : List α) (i : Nat) (d : α), i < l.length → ((l.eraseIdx i).filter p).length + b2n (p (l.getD i d)) = (l.filter p).length
  | [], i, d, h => by simp at h
  | y :: l, 0, d, h => by
    simp only [List.eraseIdx_cons_zero, List.filter_cons, List.getD_cons_zero, b2n]
    split <;> simp
  | y :: l, i + 1, d, h => by
    have ih := filter_erase p l i d (by simpa using h)
    simp only [List.eraseIdx_cons_succ, List.filter_cons, List.getD_cons_succ]
    split <;> (try simp only [List.length_cons]) <;> omega
theorem getD_mem {α : Type} {l : List α} {i : Nat} {d : α} (h : i < l.length) : l.getD i d ∈ l := by rw [List.getD_eq_getElem?_getD, List.getElem?_eq_getElem h]; exact List.getElem_mem _
theorem settle_id (K : List (Tx × LnE)) (h : HdE) : (settleE K h).id = h.id ∧ (settleE K h).ks = h.ks ∧ ((settleE K h).st = 1 ↔ h.st = 1) := by
  unfold settleE
  split
  · rename_i q; exact ⟨rfl, rfl, by simp; omega⟩
  · exact ⟨rfl, rfl, Iff.rfl⟩
structure CI0 (t : CS) : Prop where
  rm : 1 ≤ t.room ∧ t.room ≤ 4096
  ls : 1 ≤ t.lines ∧ t.lines ≤ 64
  dl : 1 ≤ t.delay ∧ t.delay ≤ 1000
  k : KOk t.room t.lines t.delay t.K t.wt (pcH t.H)
  hs : ∀ h ∈ t.H, (h.st = 1 ∨ h.st = 2 ∨ h.st = 3) ∧ chkK none h.ks = 0 ∧ h.ks.length ≤ t.room ∧ 0 ≤ h.id
  ids : (t.H.map (·.id)).Nodup
  ord : t.H.Pairwise (fun a b => a.st = 1 → b.st = 1)
  rdy : ∀ h ∈ t.H, h.st = 3 → warmE t.K h.ks = true
  fet : ∀ h ∈ t.H, h.st = 2 → warmE t.K h.ks = false
/-- The first one is let in; something is brought if something is wanted. -/
structure CI (t : CS) : Prop extends CI0 t where
  fst : ∀ h r, t.H = h :: r → h.st ≠ 1
  prg : t.wt ≠ [] → 1 ≤ cntE isF t.K
/-- Who is held, as it was held. -/
def whoH (t : CS) : List (Int × List Tx) := t.H.map fun h => (h.id, h.ks)
theorem waitI_some {t : CS} {i : Nat} (h : waitI t = some i) : i < t.H.length ∧ (t.H.getD i hd0).st = 1 ∧ ∀ j, j < i → (t.H.getD j hd0).st ≠ 1 := by
  unfold waitI at h
  rw [List.findIdx?_eq_some_iff_getElem] at h
  obtain ⟨h1, h2, h3⟩ := h
  refine ⟨h1, ?_, fun j hj => ?_⟩
  · rw [List.getD_eq_getElem?_getD, List.getElem?_eq_getElem h1]; simpa using h2
  · rw [List.getD_eq_getElem?_getD, List.getElem?_eq_getElem (by omega)]
    have := h3 j hj
    simpa using this
theorem waitI_none {t : CS} (h : waitI t = none) : ∀ x ∈ t.H, x.st ≠ 1 := fun x hx => by
  unfold waitI at h
  rw [List.findIdx?_eq_none_iff] at h
  have := h x hx
  simpa using this
def waitN (t : CS) : Nat := (t.H.filter fun h => decide (h.st = 1)).length
theorem enter_good {t : CS} {i : Nat} (h : CI0 t) (hi : waitI t = some i) (hf : fitsE t (t.H.getD i hd0).ks = true) :
    CI0 (enterE t i) ∧ whoH (enterE t i) = whoH t ∧ waitN (enterE t i) + 1 = waitN t ∧ (enterE t i).K.length ≤ t.K.length + (t.H.getD i hd0).ks.length ∧ (enterE t i).room = t.room ∧ (enterE t i).lines = t.lines ∧ (enterE t i).delay = t.delay ∧ (enterE t i).now = t.now ∧ (enterE t i).num = t.num ∧ (enterE t i).fet = t.fet ∧ (enterE t i).H.length = t.H.length := by
  obtain ⟨h1, h2, h3⟩ := waitI_some hi
  have hm := getD_mem (d := hd0) h1
  obtain ⟨s1, s2, s3, s4⟩ := h.hs _ hm
  unfold fitsE at hf
  rw [decide_eq_true_eq] at hf
  have hks : ∀ k ∈ (t.H.getD i hd0).ks, k ≠ [] := fun k hk => valid_ne ((chk_rise s2).2.1 k hk)
  obtain ⟨g1, g2⟩ := h.k.pins (t.H.getD i hd0).ks (chk_nodup s2) hks hf
  have hlen : ∀ (ks : List Tx) (K : List (Tx × LnE)) (wt : List Tx), (ks.foldl pinE (K, wt)).1.length ≤ K.length + ks.length := fun ks => by
    induction ks with
    | nil => intro K wt; exact Nat.le_refl _
    | cons k ks ih =>
      intro K wt
      rw [List.foldl_cons]
      have h1 : (pinE (K, wt) k).1.length ≤ K.length + 1 := by
        unfold pinE
        cases mget K k with
        | none => simp only; rw [len_put]; split <;> omega
        | some l => simp only; rw [len_put]; split <;> omega
      have := ih (pinE (K, wt) k).1 (pinE (K, wt) k).2
      simp only [List.length_cons]
      exact Nat.le_trans this (by omega)
  have hln := hlen (t.H.getD i hd0).ks t.K t.wt
  unfold enterE
  simp only
  generalize hq : t.H.getD i hd0 = h0 at *
  generalize h0.ks.foldl pinE (t.K, t.wt) = p at *
  have hst : (settleE p.1 { h0 with st := 2 }).st ≠ 1 := fun q => by
    have := (settle_id p.1 { h0 with st := 2 }).2.2.1 q
    cases this
  obtain ⟨e1, e2, -⟩ := settle_id p.1 { h0 with st := 2 }
  have hget : ∀ j, j < t.H.length → ∀ x, (t.H.set i (settleE p.1 { h0 with st := 2 }))[j]? = some x → (j = i ∧ x = settleE p.1 { h0 with st := 2 }) ∨ (j ≠ i ∧ t.H[j]? = some x) := fun j hj x hx => by
    by_cases e : j = i
    · subst e
      rw [List.getElem?_set_self (by omega)] at hx
      cases hx; exact .inl ⟨rfl, rfl⟩
    · rw [List.getElem?_set_ne (fun q => e q.symm)] at hx
      exact .inr ⟨e, hx⟩
  have hmem : ∀ x ∈ t.H.set i (settleE p.1 { h0 with st := 2 }), x = settleE p.1 { h0 with st := 2 } ∨ x ∈ t.H := fun x hx => (List.mem_or_eq_of_mem_set hx).symm
  have hset : ∀ {β : Type} (g : HdE → β), g (settleE p.1 { h0 with st := 2 }) = g h0 → (t.H.set i (settleE p.1 { h0 with st := 2 })).map g = t.H.map g := fun g hg => by
    rw [List.map_set, hg, ← hq]
    rw [List.getD_eq_getElem?_getD, List.getElem?_eq_getElem h1]
    have : (t.H.map g).set i (g t.H[i]) = t.H.map g := by
      have e : g t.H[i] = (t.H.map g)[i]'(by simpa using h1) := by simp
      rw [e]; exact List.set_getElem_self _
    simpa using this
  have hw : ∀ k, warmK p.1 k = warmK t.K k := g2
  refine ⟨⟨h.rm, h.ls, h.dl, g1.congr (fun k => ?_), fun x hx => ?_, ?_, ?_, fun x hx hx3 => ?_, fun x hx hx2 => ?_⟩, ?_, ?_, hln, trivial, trivial, trivial, trivial, trivial, trivial, by simp⟩
  · have := filter_set (inP k) t.H i (settleE p.1 { h0 with st := 2 }) hd0 h1
    rw [hq] at this
    have a1 : inP k h0 = false := by unfold inP; rw [h2]; rfl
    have a2 : inP k (settleE p.1 { h0 with st := 2 }) = decide (k ∈ h0.ks) := by unfold inP; rw [e2]; simp [hst]
    rw [a1, a2] at this
    unfold b2n at this
    unfold pcH
    simp at this ⊢
    omega
  · rcases hmem x hx with rfl | hx
    · refine ⟨?_, by rw [e2]; exact s2, by rw [e2]; exact s3, by rw [e1]; exact s4⟩
      unfold settleE
      split
      · exact .inr (.inr rfl)
      · exact .inr (.inl rfl)
    · exact h.hs x hx
  · rw [hset (·.id) e1]; exact h.ids
  · rw [List.pairwise_iff_getElem]
    intro a b ha hb hab hst1
    simp only [List.length_set] at ha hb
    have hpw := List.pairwise_iff_getElem.1 h.ord a b ha hb hab
    rw [List.getElem_set] at hst1 ⊢
    by_cases ea : i = a
    · rw [if_pos ea] at hst1; exact absurd hst1 hst
    · rw [if_neg ea] at hst1
      have hab2 := hpw hst1
      by_cases eb : i = b
      · exfalso
        have := h3 a (by omega)
        rw [List.getD_eq_getElem?_getD, List.getElem?_eq_getElem ha] at this
        exact this hst1
      · rw [if_neg eb]; exact hab2
  · rcases hmem x hx with rfl | hx
    · rw [e2]
      unfold settleE at hx3
      split at hx3
      · rename_i q; exact q.2
      · cases hx3
    · rw [warmE_congr (fun k _ => hw k)]; exact h.rdy x hx hx3
  · rcases hmem x hx with rfl | hx
    · rw [e2]
      unfold settleE at hx2
      split at hx2
      · cases hx2
      · rename_i q
        cases hz : warmE p.1 h0.ks with
        | false => rfl
        | true => exact absurd ⟨rfl, hz⟩ q
    · rw [warmE_congr (fun k _ => hw k)]; exact h.fet x hx hx2
  · unfold whoH
    exact hset (fun h => (h.id, h.ks)) (by rw [e1, e2])
  · have := filter_set (fun h : HdE => decide (h.st = 1)) t.H i (settleE p.1 { h0 with st := 2 }) hd0 h1
    rw [hq] at this
    unfold waitN
    simp only [h2, hst, decide_true, decide_false, b2n] at this ⊢
    simpa using this
theorem let_good : ∀ (f : Nat) (t : CS), CI0 t → waitN t ≤ f →
    CI0 (letL f t) ∧ whoH (letL f t) = whoH t ∧ (waitI (letL f t) = none ∨ ∃ i, waitI (letL f t) = some i ∧ fitsE (letL f t) ((letL f t).H.getD i hd0).ks = false) ∧ (letL f t).room = t.room ∧ (letL f t).lines = t.lines ∧ (letL f t).delay = t.delay ∧ (letL f t).now = t.now ∧ (letL f t).num = t.num ∧ (letL f t).fet = t.fet
  | 0, t, h, hf => ⟨h, rfl, .inl (by
      show waitI t = none
      unfold waitI
      rw [List.findIdx?_eq_none_iff]
      intro x hx
      unfold waitN at hf
      have := List.filter_eq_nil_iff.1 (List.eq_nil_of_length_eq_zero (Nat.le_zero.1 hf)) x hx
      simpa using this), rfl, rfl, rfl, rfl, rfl, rfl⟩
  | f + 1, t, h, hf => by
    unfold letL
    cases hw : waitI t with
    | none => exact ⟨h, rfl, .inl hw, rfl, rfl, rfl, rfl, rfl, rfl⟩
    | some i =>
      simp only
      by_cases hfit : fitsE t (t.H.getD i hd0).ks = true
      · rw [if_pos hfit]
        obtain ⟨g1, g2, g3, _, g4, g5, g6, g7, g8, g9, _⟩ := enter_good h hw hfit
        obtain ⟨k1, k2, k3, k4, k5, k6, k7, k8, k9⟩ := let_good f (enterE t i) g1 (by omega)
        exact ⟨k1, k2.trans g2, k3, k4.trans g4, k5.trans g5, k6.trans g6, k7.trans g7, k8.trans g8, k9.trans g9⟩
      · rw [if_neg hfit]
        exact ⟨h, rfl, .inr ⟨i, hw, by simpa using hfit⟩, rfl, rfl, rfl, rfl, rfl, rfl⟩
theorem let_first {t : CS} (h : CI0 t) (hs : waitI t = none ∨ ∃ i, waitI t = some i ∧ fitsE t (t.H.getD i hd0).ks = false) : ∀ x r, t.H = x :: r → x.st ≠ 1 := by
  intro x r hH hx
  rcases hs with hs | ⟨i, hi, hf⟩
  · exact waitI_none hs x (by rw [hH]; simp) hx
  · have h0 : i = 0 := by
      rcases Nat.eq_zero_or_pos i with q | q
      · exact q
      · have := (waitI_some hi).2.2 0 q
        rw [hH] at this
        exact absurd hx this
    subst h0
    have hall : ∀ y ∈ t.H, y.st = 1 := fun y hy => by
      rw [hH] at hy
      have ho := h.ord
      rw [hH, List.pairwise_cons] at ho
      rcases List.mem_cons.1 hy with rfl | hy
      · exact hx
      · exact ho.1 y hy hx
    have hpc : ∀ k, pcH t.H k = 0 := fun k => by
      unfold pcH
      rw [List.filter_eq_nil_iff.2 (fun y hy => by unfold inP; rw [hall y hy]; simp)]
      rfl
    have hc : cntE pinned t.K = 0 := cnt_none (fun y hy => by
      have := h.k.pn y.1
      rw [mget_of h.k.nd hy, hpc] at this
      unfold pinned
      simp only [Option.getD_some] at this
      simp [this])
    have hl := (h.hs x (by rw [hH]; simp)).2.2.1
    unfold fitsE at hf
    rw [hH] at hf
    simp only [List.getD_cons_zero] at hf
    rw [decide_eq_false_iff_not, hc] at hf
    have := List.length_filter_le (freeK t.K) x.ks
    omega
theorem pc_pos {t : CS} {h : HdE} (hh : h ∈ t.H) (hs : h.st ≠ 1) {k : Tx} (hk : k ∈ h.ks) : 1 ≤ pcH t.H k := by
  unfold pcH
  exact List.length_pos_iff.2 (List.ne_nil_of_mem (List.mem_filter.2 ⟨hh, by unfold inP; simp [hs, hk]⟩))
/-- Lines take keys behind what was done. -/
theorem take_ci {t : CS} (h : CI0 t) (hfst : ∀ x r, t.H = x :: r → x.st ≠ 1) : CI (takeE t) ∧ whoH (takeE t) = whoH t ∧ TakeI t (takeE t) (pcH t.H) := by
  obtain ⟨g, hs⟩ := take_good t.wt.length t h.k (Nat.le_refl _) h.dl.1
  change TakeI t (takeE t) _ at g
  change StopI (takeE t) at hs
  have hk : KOk (takeE t).room (takeE t).lines (takeE t).delay (takeE t).K (takeE t).wt (pcH (takeE t).H) := by rw [g.er, g.el, g.ed, g.eH]; exact g.k
  refine ⟨{ rm := by rw [g.er]; exact h.rm, ls := by rw [g.el]; exact h.ls, dl := by rw [g.ed]; exact h.dl, k := hk, hs := by rw [g.eH, g.er]; exact h.hs, ids := by rw [g.eH]; exact h.ids, ord := by rw [g.eH]; exact h.ord, rdy := fun x hx hx3 => ?_, fet := fun x hx hx2 => ?_, fst := by rw [g.eH]; exact hfst, prg := fun hw => hs.prog hk (by rw [g.el]; exact h.ls.1) hw }, by unfold whoH; rw [g.eH], g⟩
  · rw [g.eH] at hx
    rw [warmE_congr (fun k hk => g.w1 k (pc_pos hx (by omega) hk))]
    exact h.rdy x hx hx3
  · rw [g.eH] at hx
    have := h.fet x hx hx2
    cases hz : warmE (takeE t).K x.ks with
    | false => rfl
    | true =>
      unfold warmE at hz this
      rw [List.all_eq_true] at hz
      rw [← this]
      symm
      rw [List.all_eq_true]
      exact fun k hk => g.w2 k (hz k hk)
theorem letE_good {t : CS} (h : CI0 t) : CI (letE t) ∧ whoH (letE t) = whoH t ∧ (letE t).room = t.room ∧ (letE t).lines = t.lines ∧ (letE t).delay = t.delay ∧ (letE t).now = t.now ∧ (letE t).num = t.num := by
  have hn : waitN t ≤ t.H.length := List.length_filter_le _ _
  obtain ⟨k1, k2, k3, k4, k5, k6, k7, k8, k9⟩ := let_good t.H.length t h hn
  obtain ⟨g1, g2, g3⟩ := take_ci k1 (let_first k1 k3)
  exact ⟨g1, g2.trans k2, g3.er.trans k4, g3.el.trans k5, g3.ed.trans k6, g3.en.trans k7, g3.em.trans k8⟩
theorem new_ci {r l d : Nat} (hr : 1 ≤ r ∧ r ≤ 4096) (hl : 1 ≤ l ∧ l ≤ 64) (hd : 1 ≤ d ∧ d ≤ 1000) : CI (newC r l d) :=
  { rm := hr, ls := hl, dl := hd, k := KOk.start, hs := (fun h hh => by cases hh), ids := List.nodup_nil, ord := List.Pairwise.nil, rdy := (fun h hh => by cases hh), fet := (fun h hh => by cases hh), fst := (fun h r e => by cases e), prg := fun e => absurd rfl e }
theorem find_none {t : CS} {id : Int} (h : findE t id = none) : ∀ x ∈ t.H, x.id ≠ id := fun x hx => by
  unfold findE at h
  rw [List.findIdx?_eq_none_iff] at h
  simpa using h x hx
theorem find_some {t : CS} {id : Int} {i : Nat} (h : findE t id = some i) : i < t.H.length ∧ (t.H.getD i hd0).id = id := by
  unfold findE at h
  rw [List.findIdx?_eq_some_iff_getElem] at h
  obtain ⟨h1, h2, _⟩ := h
  exact ⟨h1, by rw [List.getD_eq_getElem?_getD, List.getElem?_eq_getElem h1]; simpa using h2⟩
theorem hold_ci {t : CS} (h : CI t) (id : Int) (ks : List Tx) : CI (holdE t id ks).1 ∧ ((holdE t id ks).2 = 0 → whoH (holdE t id ks).1 = whoH t ++ [(id, ks)]) ∧ ((holdE t id ks).2 ≠ 0 → (holdE t id ks).1 = t) := by
  unfold holdE
  by_cases h1 : (findE t id).isSome = true
  · rw [if_pos h1]; exact ⟨h, (fun q => by cases q), fun _ => rfl⟩
  rw [if_neg h1]
  by_cases h2 : id < 0
  · rw [if_pos h2]; exact ⟨h, (fun q => by cases q), fun _ => rfl⟩
  rw [if_neg h2]
  by_cases h3 : chkK none ks ≠ 0
  · rw [if_pos h3]; exact ⟨h, fun q => absurd q h3, fun _ => rfl⟩
  rw [if_neg h3]
  by_cases h4 : t.room < ks.length
  · rw [if_pos h4]; exact ⟨h, (fun q => by cases q), fun _ => rfl⟩
  rw [if_neg h4]
  have hf : findE t id = none := by simpa using h1
  have h0 : CI0 { t with H := t.H ++ [⟨id, ks, 1⟩] } :=
    { rm := h.rm, ls := h.ls, dl := h.dl
      k := h.k.congr (fun k => by unfold pcH; simp [List.filter_append, inP])
      hs := fun x hx => by
        rcases List.mem_append.1 hx with hx | hx
        · exact h.hs x hx
        · rw [List.mem_singleton.1 hx]
          exact ⟨.inl rfl, by simpa using h3, by simp only; omega, by simp only; omega⟩
      ids := by
        rw [List.map_append, List.nodup_append]
        refine ⟨h.ids, by simp, fun a ha b hb e => ?_⟩
        simp at hb
        obtain ⟨x, hx, rfl⟩ := List.mem_map.1 ha
        exact find_none hf x hx (e.trans hb)
      ord := by
        rw [List.pairwise_append]
        exact ⟨h.ord, List.pairwise_singleton _ _, fun a _ b hb _ => by rw [List.mem_singleton.1 hb]⟩
      rdy := fun x hx hx3 => by
        rcases List.mem_append.1 hx with hx | hx
        · exact h.rdy x hx hx3
        · rw [List.mem_singleton.1 hx] at hx3; cases hx3
      fet := fun x hx hx2 => by
        rcases List.mem_append.1 hx with hx | hx
        · exact h.fet x hx hx2
        · rw [List.mem_singleton.1 hx] at hx2; cases hx2 }
  obtain ⟨g1, g2, _⟩ := letE_good h0
  exact ⟨g1, fun _ => by rw [g2]; simp [whoH], fun q => absurd rfl q⟩
theorem tick_ci {t : CS} (h : CI t) : CI (tickC t) ∧ whoH (tickC t) = whoH t ∧ potE (tickC t) + cntE isF t.K = potE t ∧ (∀ x ∈ t.H, x.st = 3 → ∃ y ∈ (tickC t).H, y.id = x.id ∧ y.st = 3) ∧ (tickC t).delay = t.delay ∧ (tickC t).lines = t.lines ∧ (tickC t).room = t.room := by
  obtain ⟨k1, k2, k3⟩ := h.k.tick (t.num + 1)
  have hsid := fun x => settle_id (tickK (t.num + 1) t.K) x
  have hmap : ∀ {x}, x ∈ t.H.map (settleE (tickK (t.num + 1) t.K)) → ∃ y ∈ t.H, settleE (tickK (t.num + 1) t.K) y = x := fun hx => List.mem_map.1 hx
  have mono : ∀ ks, warmE t.K ks = true → warmE (tickK (t.num + 1) t.K) ks = true := fun ks hw => by
    unfold warmE at hw ⊢
    rw [List.all_eq_true] at hw ⊢
    exact fun k hk => k2 k (hw k hk)
  have h0 : CI0 { t with now := t.now + 1, num := t.num + 1, K := tickK (t.num + 1) t.K, H := t.H.map (settleE (tickK (t.num + 1) t.K)) } :=
    { rm := h.rm, ls := h.ls, dl := h.dl
      k := k1.congr (fun k => by
        unfold pcH
        rw [List.filter_map, List.length_map]
        congr 1
        apply List.filter_congr
        intro x _
        simp only [Function.comp_def, inP, (hsid x).2.1]
        congr 2
        rw [decide_eq_decide]
        exact (hsid x).2.2.symm)
      hs := fun x hx => by
        obtain ⟨y, hy, rfl⟩ := hmap hx
        obtain ⟨s1, s2, s3, s4⟩ := h.hs y hy
        refine ⟨?_, by rw [(hsid y).2.1]; exact s2, by rw [(hsid y).2.1]; exact s3, by rw [(hsid y).1]; exact s4⟩
        unfold settleE
        split
        · exact .inr (.inr rfl)
        · exact s1
      ids := by
        rw [List.map_map]
        rw [show ((fun x : HdE => x.id) ∘ settleE (tickK (t.num + 1) t.K)) = fun x => x.id from funext fun x => (hsid x).1]
        exact h.ids
      ord := by
        rw [List.pairwise_map]
        exact h.ord.imp (fun {a b} (q : a.st = 1 → b.st = 1) (e : (settleE (tickK (t.num + 1) t.K) a).st = 1) => (hsid b).2.2.2 (q ((hsid a).2.2.1 e)))
      rdy := fun x hx hx3 => by
        obtain ⟨y, hy, rfl⟩ := hmap hx
        rw [(hsid y).2.1]
        unfold settleE at hx3
        split at hx3
        · rename_i q; exact q.2
        · exact mono _ (h.rdy y hy hx3)
      fet := fun x hx hx2 => by
        obtain ⟨y, hy, rfl⟩ := hmap hx
        rw [(hsid y).2.1]
        unfold settleE at hx2
        split at hx2
        · cases hx2
        · rename_i q
          cases hz : warmE (tickK (t.num + 1) t.K) y.ks with
          | false => rfl
          | true => exact absurd ⟨hx2, hz⟩ q }
  have hfst : ∀ x r, ({ t with now := t.now + 1, num := t.num + 1, K := tickK (t.num + 1) t.K, H := t.H.map (settleE (tickK (t.num + 1) t.K)) } : CS).H = x :: r → x.st ≠ 1 := fun x r e => by
    simp only at e
    cases hH : t.H with
    | nil => rw [hH] at e; cases e
    | cons y s =>
      rw [hH, List.map_cons] at e
      cases e
      exact fun q => h.fst y s hH ((hsid y).2.2.1 q)
  obtain ⟨g1, g2, g3⟩ := take_ci h0 hfst
  refine ⟨g1, g2.trans ?_, ?_, fun x hx hx3 => ?_, g3.ed, g3.el, g3.er⟩
  · unfold whoH
    rw [List.map_map]
    congr 1
    funext x
    simp [Function.comp_def, (hsid x).1, (hsid x).2.1]
  · show potE (takeE _) + _ = _
    rw [g3.po]
    unfold potE
    simp only
    omega
  · refine ⟨settleE (tickK (t.num + 1) t.K) x, ?_, (hsid x).1, ?_⟩
    · show _ ∈ (takeE _).H
      rw [g3.eH]
      exact List.mem_map.2 ⟨x, hx, rfl⟩
    · unfold settleE
      rw [if_neg (by omega)]
      exact hx3
theorem rel_ci {t : CS} (h : CI t) (id : Int) : CI (relE t id).1 ∧ whoH (relE t id).1 = (whoH t).filter (fun x => !decide (x.1 = id)) ∧ ((relE t id).2 = 0 ↔ (findE t id).isSome = true) ∧ ((relE t id).2 ≠ 0 → (relE t id).1 = t) := by
  unfold relE
  cases hf : findE t id with
  | none =>
    refine ⟨h, ?_, by simp, fun _ => rfl⟩
    unfold whoH
    symm
    rw [List.filter_eq_self]
    intro x hx
    obtain ⟨y, hy, rfl⟩ := List.mem_map.1 hx
    simp [find_none hf y hy]
  | some i =>
    obtain ⟨h1, h2⟩ := find_some hf
    have hm := getD_mem (d := hd0) h1
    obtain ⟨s1, s2, s3, s4⟩ := h.hs _ hm
    simp only
    have hsub : ∀ x ∈ t.H.eraseIdx i, x ∈ t.H := fun x hx => List.mem_of_mem_eraseIdx hx
    have hlist : whoH { t with H := t.H.eraseIdx i } = (whoH t).filter (fun x => !decide (x.1 = id)) := by
      unfold whoH
      simp only
      have hn := h.ids
      clear hf s1 s2 s3 s4 hm hsub
      generalize t.H = H at h1 h2 hn
      induction H generalizing i with
      | nil => simp at h1
      | cons y H ih =>
        rw [List.map_cons, List.nodup_cons] at hn
        cases i with
        | zero =>
          simp only [List.getD_cons_zero] at h2
          rw [List.eraseIdx_cons_zero, List.map_cons, List.filter_cons, if_neg (by simp [h2])]
          symm
          rw [List.filter_eq_self]
          intro x hx
          obtain ⟨z, hz, rfl⟩ := List.mem_map.1 hx
          have : ¬ z.id = id := fun q => hn.1 (by rw [h2, ← q]; exact List.mem_map.2 ⟨z, hz, rfl⟩)
          simp [this]
        | succ i =>
          simp only [List.getD_cons_succ] at h2
          have h1' : i < H.length := by simpa using h1
          have hne : ¬ y.id = id := fun q => hn.1 (by
            rw [q, ← h2]
            exact List.mem_map.2 ⟨_, getD_mem h1', rfl⟩)
          rw [List.eraseIdx_cons_succ, List.map_cons, List.map_cons, List.filter_cons, if_pos (by simp [hne])]
          congr 1
          exact ih i h1' h2 hn.2
    have herase := fun k => filter_erase (inP k) t.H i hd0 h1
    generalize t.H.getD i hd0 = h0 at *
    have hKp : KOk t.room t.lines t.delay (if h0.st = 1 then (t.K, t.wt) else h0.ks.foldl (unpinE (t.num + 1)) (t.K, t.wt)).1 (if h0.st = 1 then (t.K, t.wt) else h0.ks.foldl (unpinE (t.num + 1)) (t.K, t.wt)).2 (pcH (t.H.eraseIdx i)) ∧ (∀ j, warmK (if h0.st = 1 then (t.K, t.wt) else h0.ks.foldl (unpinE (t.num + 1)) (t.K, t.wt)).1 j = warmK t.K j) := by
      by_cases e : h0.st = 1
      · rw [if_pos e]
        refine ⟨h.k.congr (fun k => ?_), fun _ => rfl⟩
        have := herase k
        have a1 : inP k h0 = false := by unfold inP; rw [e]; rfl
        rw [a1] at this
        unfold pcH; simp [b2n] at this; omega
      · rw [if_neg e]
        obtain ⟨g1, g2⟩ := h.k.unpins (t.num + 1) h0.ks (chk_nodup s2) (fun k hk => pc_pos hm e hk)
        refine ⟨g1.congr (fun k => ?_), g2⟩
        have := herase k
        have a1 : inP k h0 = decide (k ∈ h0.ks) := by unfold inP; simp [e]
        rw [a1] at this
        unfold pcH
        unfold b2n at this
        simp at this ⊢
        omega
    obtain ⟨q1, q2⟩ := hKp
    generalize (if h0.st = 1 then (t.K, t.wt) else h0.ks.foldl (unpinE (t.num + 1)) (t.K, t.wt)) = p at q1 q2
    have hc0 : CI0 { t with H := t.H.eraseIdx i, num := t.num + 1, K := p.1, wt := p.2 } :=
      { rm := h.rm, ls := h.ls, dl := h.dl, k := q1, hs := fun x hx => h.hs x (hsub x hx)
        ids := by
          have : ((t.H.eraseIdx i).map (·.id)).Sublist (t.H.map (·.id)) := (List.eraseIdx_sublist _ _).map _
          exact this.nodup h.ids
        ord := h.ord.sublist (List.eraseIdx_sublist _ _)
        rdy := fun x hx hx3 => by rw [warmE_congr (fun k _ => q2 k)]; exact h.rdy x (hsub x hx) hx3
        fet := fun x hx hx2 => by rw [warmE_congr (fun k _ => q2 k)]; exact h.fet x (hsub x hx) hx2 }
    obtain ⟨g1, g2, _⟩ := letE_good hc0
    exact ⟨g1, g2.trans hlist, by simp, fun q => absurd rfl q⟩
end Go.Proofs.Cold

/- What an argument that reads as data looks like, and how much it holds. -/
namespace Go.Proofs.Eng
open Go.RowKit Go.WideShapes
set_option linter.unusedSimpArgs false
set_option linter.unusedVariables false
/-- How much a reading holds. -/
structure Bulk (H : Type) where
  one : DataW H → Nat
  all : List (DataW H) → Nat
  lit : ∀ l, 1 ≤ one (.lit l)
  str : ∀ b, one (.lit (.string b)) = b.length + 1
  nil : one .nil = 1
  slice : ∀ e s, one (.slice e s) = all e + all s + 1
  agg : ∀ p, one (.agg p) = all p + 1
  none : all [] = 0
  some : ∀ d r, all (d :: r) = one d + all r
def FitB (w : World) : Ty → List Value → Nat → Prop
  | .int k, cs, m => 1 ≤ m ∧ ∃ n, cs = [.int k n] ∧ Fits k n
  | .bool, cs, m => 1 ≤ m ∧ ∃ b, cs = [.bool b]
  | .str, cs, m => ∃ s : ByteArray, cs = [.string s] ∧ s.size ≤ maxLen ∧ s.size + 1 ≤ m
  | .slice e, cs, m => ∃ (A : Option Addr) (n c : Nat) (xs : List (List Value)) (ms : List Nat), cs = [.slice A n c] ∧ n ≤ c ∧ c ≤ maxLen ∧ xs.length = n ∧ ms.length = n ∧ ms.sum + 1 ≤ m ∧ Rd w A n e.size xs.flatten ∧
      ∀ (i : Nat) (x : List Value) (k : Nat), xs[i]? = some x → ms[i]? = some k → x.length = e.size ∧ FitB w e x k
  | .unit, cs, _ => cs = []
  | .cons a b, cs, m => ∃ x y p q, cs = x ++ y ∧ x.length = a.size ∧ p + q ≤ m ∧ FitB w a x p ∧ FitB w b y q
  | .struct p, cs, m => FitB w p cs m
  | .array n e, cs, m => ∃ (xs : List (List Value)) (ms : List Nat), cs = xs.flatten ∧ xs.length = n ∧ ms.length = n ∧ ms.sum ≤ m ∧ ∀ (i : Nat) (x : List Value) (k : Nat), xs[i]? = some x → ms[i]? = some k → x.length = e.size ∧ FitB w e x k
theorem FitB.mono {w : World} : ∀ {ty : Ty} {cs : List Value} {m m' : Nat}, FitB w ty cs m → m ≤ m' → FitB w ty cs m'
  | .int _, _, _, _, ⟨h, r⟩, hm => ⟨Nat.le_trans h hm, r⟩
  | .bool, _, _, _, ⟨h, r⟩, hm => ⟨Nat.le_trans h hm, r⟩
  | .str, _, _, _, ⟨s, h1, h2, h3⟩, hm => ⟨s, h1, h2, Nat.le_trans h3 hm⟩
  | .slice _, _, _, _, ⟨A, n, c, xs, ms, h1, h2, h3, h4, h5, h6, h7⟩, hm => ⟨A, n, c, xs, ms, h1, h2, h3, h4, h5, Nat.le_trans h6 hm, h7⟩
  | .unit, _, _, _, h, _ => h
  | .cons _ _, _, _, _, ⟨x, y, p, q, h1, h2, h3, h4⟩, hm => ⟨x, y, p, q, h1, h2, Nat.le_trans h3 hm, h4⟩
  | .struct p, _, _, _, h, hm => FitB.mono (ty := p) h hm
  | .array _ _, _, _, _, ⟨xs, ms, h1, h2, h3, h4, h5⟩, hm => ⟨xs, ms, h1, h2, h3, Nat.le_trans h4 hm, h5⟩
section
variable {H : Type} {enc : TypeId × Value → H} {P : Program} {w : World} {base : Nat} {spare : Nat → Bool} {held : Bool}
theorem Bulk.map_sum (K : Bulk H) (l : List (DataW H × List MemPlace)) : K.all (l.map (·.1)) = (l.map fun x => K.one x.1).sum := by
  induction l with
  | nil => simp [K.none]
  | cons a l ih => simp [K.some, ih]
theorem fitb_of_trod (E : Env P) (K : Bulk H) : ∀ (ty : Ty),
    (∀ t, tyOk E ty (.at t) = true → ∀ fuel cs x, DataW.trod enc P w base spare held fuel t cs = some x → FitB w ty cs (K.one x.1)) ∧
    (∀ off fl, tyOk E ty (.from off fl) = true → ∀ (cs : List Value) (ys : List (DataW H × List MemPlace)), cs.length = off + ty.size → ys.length = fl.length →
      (∀ (i : Nat) (o : Nat) (t : TypeId) y, fl[i]? = some (o, t) → ys[i]? = some y → ∃ n, DataW.trod enc P w base spare held n t ((cs.drop o).take (P.cellsOf t)) = some y) → FitB w ty (cs.drop off) (ys.map fun x => K.one x.1).sum) := by
  intro ty
  induction ty with
  | int k =>
    refine ⟨fun t h fuel cs x hd => ?_, fun _ _ h => by simp [tyOk] at h⟩
    obtain ⟨n, h1, h3, h2⟩ := DataW.trod_int (und_int h) hd
    rw [h3]
    exact ⟨K.lit _, n, h1, fits_of_wf h2⟩
  | bool =>
    refine ⟨fun t h fuel cs x hd => ?_, fun _ _ h => by simp [tyOk] at h⟩
    obtain ⟨b, h1, h3⟩ := DataW.trod_bool (und_bool h) hd
    rw [h3]
    exact ⟨K.lit _, b, h1⟩
  | str =>
    refine ⟨fun t h fuel cs x hd => ?_, fun _ _ h => by simp [tyOk] at h⟩
    obtain ⟨s, h1, h3, h2⟩ := DataW.trod_string (und_str h) hd
    rw [h3]
    exact ⟨s, h1, h2, by rw [K.str]; simp⟩
  | slice e ih =>
    refine ⟨fun t h fuel cs x hd => ?_, fun _ _ h => by simp [tyOk] at h⟩
    simp only [tyOk] at h
    split at h
    · rename_i u hu
      simp only [Bool.and_eq_true] at h
      obtain ⟨⟨h1, h2⟩, h3⟩ := h
      have hsz := sizeIs_ok h2
      have h0 : 0 < e.size := by simpa [Nat.blt_eq] using h3
      rcases DataW.trod_slice (E.und_ok _ _ hu) hd with ⟨rfl, hx⟩ | ⟨a, len, cap, elems, rest, n, _, rfl, hx, hb, hl, hm, hlen, hel, _⟩
      · rw [hx]
        exact ⟨none, 0, 0, [], [], rfl, Nat.le_refl _, by decide, rfl, rfl, by simp [K.nil], Rd.nil _ _ _, by simp⟩
      · rw [hsz] at hel
        have hget : ∀ i, i < len → ∃ y z, w.cells? base (a.add (i * e.size)) e.size = some y ∧ elems[i]? = some z ∧ DataW.trod enc P w base spare held n u y = some z := fun i hi => by
          have h4 := hel i hi
          rw [List.getElem?_eq_getElem (by omega)] at h4
          cases hc : w.cells? base (a.add (i * e.size)) e.size with
          | none => rw [hc] at h4; simp at h4
          | some y => rw [hc] at h4; simp at h4; exact ⟨y, _, rfl, List.getElem?_eq_getElem (by omega), h4⟩
        have hsome : ∀ (i : Nat) (x : List Value), ((List.range len).map fun i => (w.cells? base (a.add (i * e.size)) e.size).getD [])[i]? = some x → w.cells? base (a.add (i * e.size)) e.size = some x ∧ x.length = e.size ∧ ∃ z, elems[i]? = some z ∧ FitB w e x (K.one z.1) := fun i x hx => by
          have hi : i < len := by have := (List.getElem?_eq_some_iff.1 hx).1; simpa using this
          obtain ⟨y, z, hy, hz, ht⟩ := hget i hi
          rw [List.getElem?_map, List.getElem?_range hi] at hx
          simp only [Option.map_some, hy, Option.getD_some, Option.some.injEq] at hx
          subst hx
          exact ⟨hy, (World.cells?_some hy).2.1, z, hz, ih.1 u h1 n y z ht⟩
        have hmem : ∀ x ∈ (List.range len).map (fun i => (w.cells? base (a.add (i * e.size)) e.size).getD []), x.length = e.size := fun x hx => by
          obtain ⟨i, hi⟩ := List.getElem?_of_mem hx
          exact (hsome i x hi).2.1
        refine ⟨some a, len, cap, _, elems.map fun x => K.one x.1, rfl, hl, hm, by simp, by simp [hlen], ?_, rows_read h0 (by simp) (fun i x hx => (hsome i x hx).1) hmem, ?_⟩
        · rw [hx]
          simp only [K.slice, K.map_sum]
          omega
        · intro i x k hx hk
          obtain ⟨_, h5, z, hz, h6⟩ := hsome i x hx
          rw [List.getElem?_map, hz] at hk
          simp at hk
          subst hk
          exact ⟨h5, h6⟩
    · cases h
  | unit =>
    refine ⟨fun t h => by simp [tyOk] at h, fun off fl h cs ys hl _ _ => ?_⟩
    show cs.drop off = []
    exact List.drop_of_length_le (by simp only [Ty.size] at hl; omega)
  | cons a b iha ihb =>
    refine ⟨fun t h => by simp [tyOk] at h, fun off fl h cs ys hl hyl hf => ?_⟩
    cases fl with
    | nil => simp [tyOk] at h
    | cons p fl =>
      cases ys with
      | nil => simp at hyl
      | cons y ys =>
        obtain ⟨o, t⟩ := p
        simp only [tyOk, Bool.and_eq_true] at h
        obtain ⟨⟨⟨h1, h2⟩, h3⟩, h4⟩ := h
        have ho := Nat.eq_of_beq_eq_true h1
        subst ho
        simp only [Ty.size] at hl
        have hsz := sizeIs_ok h3
        obtain ⟨n, hx⟩ := hf 0 o t y rfl rfl
        rw [hsz] at hx
        refine ⟨(cs.drop o).take a.size, cs.drop (o + a.size), K.one y.1, (ys.map fun x => K.one x.1).sum, ?_, by simp; omega, by simp, iha.1 t h2 n _ y hx, ?_⟩
        · rw [← List.drop_drop, List.take_append_drop]
        · exact ihb.2 (o + a.size) fl h4 cs ys (by omega) (by simpa using hyl) (fun i o' t' y' h' g' => hf (i + 1) o' t' y' (by simpa using h') (by simpa using g'))
  | struct p ih =>
    refine ⟨fun t h fuel cs x hd => ?_, fun _ _ h => by simp [tyOk] at h⟩
    simp only [tyOk] at h
    split at h
    · rename_i fl hfl
      simp only [Bool.and_eq_true] at h
      obtain ⟨h1, h2⟩ := h
      obtain ⟨fs, hu, hmap⟩ := E.fld_ok _ _ hfl
      obtain ⟨xs, n, _, hx, hl, hxl, hfs⟩ := DataW.trod_struct hu hd
      rw [sizeIs_ok h2] at hl
      have := ih.2 0 fl h1 cs xs (by omega) (by rw [hxl, ← hmap]; simp) (fun i o t' y h' g' => by
        rw [← hmap, List.getElem?_map] at h'
        cases hf : fs.toList[i]? with
        | none => rw [hf] at h'; cases h'
        | some f =>
          rw [hf] at h'
          cases h'
          have hf' : fs[i]? = some f := by simpa using hf
          have h5 := hfs i f hf'
          rw [g'] at h5
          exact ⟨n, h5⟩)
      rw [hx]
      refine FitB.mono (ty := p) (by simpa using this) ?_
      rw [K.agg, K.map_sum]
      omega
    · cases h
  | array n e ih =>
    refine ⟨fun t h fuel cs x hd => ?_, fun _ _ h => by simp [tyOk] at h⟩
    simp only [tyOk] at h
    split at h
    · rename_i m u hu
      simp only [Bool.and_eq_true] at h
      obtain ⟨⟨⟨h1, h2⟩, h3⟩, h4⟩ := h
      have hm := Nat.eq_of_beq_eq_true h1
      subst hm
      obtain ⟨xs, q, _, hx, hl, hxl, hel⟩ := DataW.trod_array (E.und_ok _ _ hu) hd
      rw [sizeIs_ok h4] at hl
      rw [sizeIs_ok h3] at hel
      refine ⟨(List.range m).map fun i => (cs.drop (i * e.size)).take e.size, xs.map fun x => K.one x.1, (take_drop_chunks m cs hl).symm, by simp, by simp [hxl], ?_, fun i y k hy hk => ?_⟩
      · rw [hx, K.agg, K.map_sum]
        omega
      · have hi' : i < m := by have := (List.getElem?_eq_some_iff.1 hy).1; simpa using this
        rw [List.getElem?_map, List.getElem?_range hi'] at hy
        simp at hy
        subst hy
        have h5 := hel i hi'
        rw [List.getElem?_map, ← h5] at hk
        cases ht : DataW.trod enc P w base spare held q u ((cs.drop (i * e.size)).take e.size) with
        | none => rw [ht] at hk; simp at hk
        | some z =>
          rw [ht] at hk
          simp at hk
          subst hk
          refine ⟨?_, ih.1 u h2 q _ _ ht⟩
          have : (i + 1) * e.size ≤ m * e.size := Nat.mul_le_mul_right _ hi'
          rw [Nat.succ_mul] at this
          simp; omega
    · cases h
/-- An argument that reads as data and holds so much. -/
def ReadsB (P : Program) (w : World) (base : Nat) (t : TypeId) (v : Value) (m : Nat) : Prop :=
  ∃ (H : Type) (enc : TypeId × Value → H) (d : DataW H) (ps : List MemPlace) (K : Bulk H), DataW.Trod enc P w 0 (fun _ => true) true t v d ps ∧ Value.okWide P w .any base t v ∧ K.one d ≤ m
theorem ReadsB.fit {t : TypeId} {v : Value} {m : Nat} (E : Env P) (h : ReadsB P w base t v m) (ty : Ty) (hok : tyOk E ty (.at t) = true) : FitB w ty v.cells.toList m := by
  obtain ⟨H, enc, d, ps, K, ⟨fuel, hf⟩, _, hm⟩ := h
  exact FitB.mono ((fitb_of_trod E K ty).1 t hok fuel _ _ hf) hm
theorem ReadsB.slice {t e : TypeId} {v : Value} {m : Nat} (E : Env P) (h : ReadsB P w base t v m) (ht : E.und t = some (.slice e)) : ∃ A n c, v = .slice A n c := by
  obtain ⟨_, _, _, _, _, _, hv, _⟩ := h
  exact okWide_slice (E.und_ok _ _ ht) hv
theorem FitB.bytes {A : Option Addr} {n c m : Nat} (h : FitB w (.slice (.int .u8)) [.slice A n c] m) : ∃ l, Rd w A n 1 (bv l) ∧ n ≤ c ∧ c ≤ maxLen ∧ n + 1 ≤ m := by
  obtain ⟨A', n', c', xs, ms, hv, h1, h2, h3, h4, h5, h6, h7⟩ := h
  cases hv
  have hn : n ≤ ms.sum := by
    rw [← h4]
    have key : ∀ (xs : List (List Value)) (ms : List Nat), xs.length = ms.length → (∀ (i : Nat) (x : List Value) (k : Nat), xs[i]? = some x → ms[i]? = some k → 1 ≤ k) → ms.length ≤ ms.sum := by
      intro xs
      induction xs with
      | nil => intro ms hl _; cases ms <;> simp at hl ⊢
      | cons x xs ih =>
        intro ms hl hk
        cases ms with
        | nil => simp
        | cons k ms =>
          have := ih ms (by simpa using hl) (fun i x k a b => hk (i + 1) x k (by simpa using a) (by simpa using b))
          have := hk 0 x k rfl rfl
          simp
          omega
    exact key xs ms (by omega) (fun i x k a b => (h7 i x k a b).2.1)
  have h8 : ∀ x ∈ xs, x.length = 1 ∧ Fit w (.int .u8) x := fun x hx => by
    obtain ⟨i, hi⟩ := List.getElem?_of_mem hx
    have hlt := (List.getElem?_eq_some_iff.1 hi).1
    have := h7 i x ms[i] hi (List.getElem?_eq_getElem (by omega))
    exact ⟨this.1, this.2.2⟩
  obtain ⟨l, hl, h9, h10⟩ := Fit.bytes (w := w) (A := A) (n := n) (c := c) ⟨A, n, c, xs, rfl, h1, h2, h3, h6, h8⟩
  exact ⟨l, hl, h9, h10, by omega⟩
end
end Go.Proofs.Eng

/- An argument that is a row, opened element by element. -/
namespace Go.Proofs.Eng
open Go.RowKit Go.WideShapes
set_option linter.unusedSimpArgs false
set_option linter.unusedVariables false
theorem rows_of {α : Type} {g : α → List Value} {Q : α → Prop} {w : World} {e : Ty} {M : Nat} (h : ∀ (x : List Value) (k : Nat), k ≤ M → FitB w e x k → 1 ≤ k ∧ ∃ a, x = g a ∧ Q a) :
    ∀ (xs : List (List Value)) (ms : List Nat), xs.length = ms.length → ms.sum ≤ M → (∀ (i : Nat) (x : List Value) (k : Nat), xs[i]? = some x → ms[i]? = some k → x.length = e.size ∧ FitB w e x k) → ∃ l : List α, rowV g l = xs.flatten ∧ (∀ a ∈ l, Q a) ∧ l.length = xs.length ∧ xs.length ≤ ms.sum
  | [], [], _, _, _ => ⟨[], rfl, fun a ha => (by cases ha), rfl, Nat.le_refl _⟩
  | [], _ :: _, hl, _, _ => by simp at hl
  | _ :: _, [], hl, _, _ => by simp at hl
  | x :: xs, k :: ms, hl, hs, hk => by
    simp only [List.sum_cons] at hs
    obtain ⟨l, h1, h2, h3, h4⟩ := rows_of h xs ms (by simpa using hl) (by omega) (fun i x k a b => hk (i + 1) x k (by simpa using a) (by simpa using b))
    obtain ⟨h5, a, rfl, ha⟩ := h x k (by omega) (hk 0 x k rfl rfl).2
    exact ⟨a :: l, by rw [rowV_cons, h1]; simp, fun b hb => by
      rcases List.mem_cons.1 hb with rfl | hb
      · exact ha
      · exact h2 b hb, by simp [h3], by simp only [List.length_cons, List.sum_cons]; omega⟩
/-- A row inside an argument. -/
theorem FitB.row {α : Type} {g : α → List Value} {Q : α → Prop} {w : World} {e : Ty} {M k : Nat} (h : ∀ (x : List Value) (k : Nat), k ≤ M → FitB w e x k → 1 ≤ k ∧ ∃ a, x = g a ∧ Q a) {x : List Value} (hx : FitB w (.slice e) x k) (hk : k ≤ M) :
    1 ≤ k ∧ ∃ (A : Option Addr) (n c : Nat) (l : List α), x = [.slice A n c] ∧ n ≤ c ∧ c ≤ maxLen ∧ n < k ∧ l.length = n ∧ Rd w A n e.size (rowV g l) ∧ ∀ a ∈ l, Q a := by
  obtain ⟨A, n, c, xs, ms, h1, h2, h3, h4, h5, h6, h7, h8⟩ := hx
  obtain ⟨l, g1, g2, g3, g4⟩ := rows_of h xs ms (by omega) (by omega) h8
  exact ⟨by omega, A, n, c, l, h1, h2, h3, by omega, by omega, by rw [g1]; exact h7, g2⟩
end Go.Proofs.Eng

/- x & 1 on an int. -/
namespace Go.Proofs.Eng
open Go.RowKit
set_option linter.unusedSimpArgs false
set_option linter.unusedVariables false
section
variable {q : Qm} {P : Program} {fn : Func} {R : Ending → World → Prop} {M : Md} {n : Nat} {st : Slots} {k : List Item} {w : World} {ops rest : List Oper}
  {d : Nat} {ty : TypeId} {ps : String} {af : Array Edge} {X Y : Operand} {t t2 : TypeId} {x y : Int} {K : IntKind}
end
end Go.Proofs.Eng

/- Arrays in memory: an element's place, a whole one read, one built. -/
namespace Go.Proofs.Eng
open Go.RowKit
set_option linter.unusedSimpArgs false
set_option linter.unusedVariables false
set_option linter.unusedSectionVars false
section
variable {q : Qm} {P : Program} {fn : Func} {R : Ending → World → Prop} {M : Md} {n : Nat} {st : Slots} {k : List Item} {w w0 : World} {ops rest : List Oper}
  {d : Nat} {ty : TypeId} {ps : String} {af : Array Edge} {X I : Operand} {t e : TypeId} {by_ s : Nat} {z : Value} {i : Int} {L : IntKind}
end
end Go.Proofs.Eng

/- A load in a region walked move by move, when nothing else may come up: out of the world as it is then. -/
namespace Go.Proofs.Eng
open Go.RowKit
set_option linter.unusedSimpArgs false
set_option linter.unusedVariables false
set_option linter.unusedSectionVars false
section
variable {q : Qm} {P : Program} {fn : Func} {R : Ending → World → Prop} {M : Md} {n : Nat} {st : Slots} {k : List Item} {w : World} {ops rest : List Oper}
  {d : Nat} {ty : TypeId} {ps : String} {af : Array Edge} {X : Operand} {t : TypeId} {dsc : TypeDesc} {v : Value}
end
end Go.Proofs.Eng

/- s[i:j:k]; an append that stays within its own row. -/
namespace Go.Proofs.Eng
open Go.RowKit
set_option linter.unusedSimpArgs false
set_option linter.unusedVariables false
set_option linter.unusedSectionVars false
section
variable {q : Qm} {P : Program} {fn : Func} {R : Ending → World → Prop} {M : Md} {n : Nat} {st : Slots} {k : List Item} {w : World} {ops rest : List Oper}
  {d : Nat} {ty : TypeId} {ps : String} {af : Array Edge} {X Y V Z : Operand} {t e : TypeId} {by_ s base m c m2 c2 i : Nat} {z : Value} {A A2 : Option Addr} {xs ys : List Value} {L L2 L3 : IntKind}
theorem TL_slice3 {j j2 j3 : Int} (E : Env P) (hx : ev st X = some (.slice A m c) := by exact rfl) (hy : ev st Y = some (.int L j) := by exact rfl) (hV : ev st V = some (.int L2 j2) := by exact rfl) (hZ : ev st Z = some (.int L3 j3) := by exact rfl) (ht : E.und t = some (.slice e) := by exact rfl) (he : E.inf e = some (s, by_, z) := by exact rfl) (hd : Nat.blt d n = true := by exact rfl) (h0 : 0 ≤ j := by first | assumption | omega) (h1 : j ≤ j2 := by first | assumption | omega) (h2 : j2 ≤ j3 := by first | assumption | omega) (h3 : j3 ≤ (c : Int) := by first | assumption | omega)
    (hk : TL q P fn R M n ((d, .slice (if j3.toNat = j.toNat then A else A.map (·.add (j.toNat * s))) (j2.toNat - j.toNat) (j3.toNat - j.toNat)) :: st) ops rest k w) : TL q P fn R M n st ops (⟨some d, .slice t X (some Y) (some V) (some Z), ty, ps, af, none⟩ :: rest) k w :=
  TL_val_w hd (fun w ρ h => by
    have a1 : 0 ≤ j2 := by omega
    have a2 : 0 ≤ j3 := by omega
    have a3 : j ≤ (j2.toNat : Int) := by omega
    have a4 : j2 ≤ (j3.toNat : Int) := by omega
    have a5 : j2 ≤ max j3 0 := by omega
    have a6 : j ≤ max j2 0 := by omega
    simp [execOp, Instr.sliceAt, Instr.slice, Instr.sliceBounds, Instr.sliceBound, asIntOf, run_underlying (E.und_ok _ _ ht), h _ _ hx, h _ _ hy, h _ _ hV, h _ _ hZ, h0, h1, h2, h3, a1, a2, a3, a4, a5, a6, run_sizeOf' (E.inf_ok _ _ _ _ he)]) hk
theorem run_append_within (ht : P.underlying t = some (.slice e)) (hi : ∃ i, P.info? e = some i ∧ i.size = s ∧ i.bytes = by_ ∧ i.zero = some z) (hsz : 0 < s)
    (ho : Own w base e s A m c xs) (hr : Rd w A2 m2 s ys) (h1 : ∀ u ∈ ys, u.oneCell' = true) (hroom : i + m2 ≤ m) (tt : TypeId) :
    ∃ w', (Builtin.append_ #[t, t] tt #[.slice A i c, .slice A2 m2 c2]).run P w = .ok (.slice A (i + m2) c) w' ∧ Mod (blkL A) w w' ∧ w'.heap.size = w.heap.size ∧ Own w' base e s A m c (xs.take (i * s) ++ ys ++ xs.drop ((i + m2) * s)) := by
  obtain ⟨it, i1, i2, i3, i4⟩ := id hi
  rcases Nat.eq_zero_or_pos m2 with h0 | h0
  · subst h0
    have hy : ys = [] := List.eq_nil_of_length_eq_zero (by simpa using hr.1)
    subst hy
    have hl : ∀ (x : Addr), (loadCells x 0).run P w = .ok #[] w := fun x => by simpa using run_loadCells_list (P := P) w x [] (by simp)
    have hc : i ≤ c := by have := ho.cap.1; omega
    refine ⟨w, ?_, Mod.refl _ _, rfl, by simpa using ho⟩
    cases A <;> cases A2 <;> simp [Builtin.append_, run_underlying ht, sizeOf, typeInfo, i1, Builtin.lenOf, Builtin.firstCells, hc, storeCells, hl]
  · obtain ⟨hxl, ⟨_, hz⟩ | ⟨g, cap, cur, hv, hg, hh, hnc, hcm, hcs, htk⟩⟩ := id ho
    · omega
    · cases hv
      obtain ⟨b2, o2, rfl, hb2', hc2⟩ := hr.2 (by omega)
      have hsrc : ∀ j u, ys[j]? = some u → w.cell? ((⟨b2, o2, none⟩ : Addr).add j) = some u := fun j u hu => by
        rw [← hc2 j u hu]
        congr 1
        unfold Addr.add
        by_cases h : j = 0 <;> simp [h]
      have hk : Blk w g e cur.toList := by unfold Blk; simpa using hh
      have hcl : cur.toList.length = cur.size := Array.length_toList
      have h8 : (i + m2) * s = i * s + m2 * s := Nat.add_mul _ _ _
      have h9 : (i + m2) * s ≤ m * s := Nat.mul_le_mul_right _ hroom
      have h10 : m * s ≤ c * s := Nat.mul_le_mul_right _ hnc
      have hys := hr.1
      have hfit : 0 + i * s + 0 + ys.length ≤ cur.toList.length := by omega
      obtain ⟨w', g1, g2, g3, g4⟩ := run_storeAll (P := P) (b := g) (o := 0 + i * s) ys cur.toList 0 w hk hfit h1
      rw [Nat.add_zero, Nat.zero_add] at g4
      have hfc := run_firstCells_some (P := P) w it.size m2 ⟨b2, o2, none⟩ m2 c2 ys (by rw [i2]; exact hr.1) hsrc
      have hroom' : i + m2 ≤ c := by omega
      refine ⟨w', ?_, g2, g3, ?_, .inr ⟨g, c, (setAll cur.toList (i * s) ys).toArray, rfl, hg, g4, hnc, hcm, by simp [setAll_length]; exact hcs, ?_⟩⟩
      · rw [i2] at hfc
        rw [Nat.zero_add] at g1
        simp [Builtin.append_, run_underlying ht, sizeOf, typeInfo, i1, i2, Builtin.lenOf, hroom', hfc, Addr.add_lit, g1]
      · simp only [List.length_append, List.length_take, List.length_drop, hxl, hys]
        omega
      · simp only [List.toList_toArray]
        rw [setAll_eq _ _ _ (by omega), ← htk, h8]
        apply List.ext_getElem?
        intro j
        simp only [List.getElem?_take, List.getElem?_append, List.getElem?_drop, List.length_append, List.length_take, List.length_drop, hys]
        grind
theorem TL_append_within (E : Env P) (ho : Own w base e s A m c xs) (hr : Rd w A2 m2 s ys) (h1 : ∀ u ∈ ys, u.oneCell' = true) (hroom : i + m2 ≤ m) (hx : ev st X = some (.slice A i c) := by exact rfl) (hy : ev st Y = some (.slice A2 m2 c2) := by exact rfl) (ht : E.und t = some (.slice e) := by exact rfl) (he : E.inf e = some (s, by_, z) := by exact rfl) (hsz : Nat.blt 0 s = true := by exact rfl) (hd : Nat.blt d n = true := by exact rfl)
    (hf : Fl q (rest.length + 1) := by first | exact trivial | exact rfl) (hq : ∀ w', Mod (blkL A) w w' → Kp q w' := by exact fun _ _ => trivial)
    (hk : ∀ w', Own w' base e s A m c (xs.take (i * s) ++ ys ++ xs.drop ((i + m2) * s)) → Mod (blkL A) w w' → w'.heap.size = w.heap.size → TL q P fn R M n ((d, .slice A (i + m2) c) :: st) ops rest k w') :
    TL q P fn R M n st ops (⟨some d, .call { callee := .builtin .append, args := #[X, Y], argTypes := #[t, t] }, ty, ps, af, none⟩ :: rest) k w := by
  obtain ⟨w', g1, g2, g3, g4⟩ := run_append_within (E.und_ok _ _ ht) (E.inf_ok _ _ _ _ he) (by simpa [Nat.blt_eq] using hsz) ho hr h1 hroom (c2 := c2) ty
  refine TL_new (w' := w') hd (fun ρ h => ?_) hf (hq _ g2) (hk w' g4 g2 g3)
  simp only [execOp, resolve, invoke, builtin, Sem.run_bind, Sem.run_pure, Result.andThen_ok, List.map_toArray, List.map_cons, List.map_nil, h _ _ hx, h _ _ hy, g1]
variable {S S2 : List UInt8} {t2 : TypeId}
theorem TL_sge_t (hx : ev st X = some (.string (ofL S)) := by exact rfl) (hy : ev st Y = some (.string (ofL S2)) := by exact rfl) (h0 : S2 ≤ S := by assumption) (hd : Nat.blt d n = true := by exact rfl)
    (hk : TL q P fn R M n ((d, .bool true) :: st) ops rest k w) : TL q P fn R M n st ops (⟨some d, .binOp .geq t X Y t2, ty, ps, af, none⟩ :: rest) k w :=
  TL_val_w hd (fun w ρ h => by
    have e1 : decide (S < S2) = false := decide_eq_false (List.not_lt.2 h0)
    have e2 : True := trivial
    simp only [execOp, h _ _ hx, h _ _ hy, binOp, Op.stringOp, toList_ofL, bytesLess_iff, Sem.run_bind, Sem.run_pure, Result.andThen_ok, eqGuard, e1]
    simp [e2]) hk
theorem TL_sge_f (hx : ev st X = some (.string (ofL S)) := by exact rfl) (hy : ev st Y = some (.string (ofL S2)) := by exact rfl) (h0 : ¬ S2 ≤ S := by assumption) (hd : Nat.blt d n = true := by exact rfl)
    (hk : TL q P fn R M n ((d, .bool false) :: st) ops rest k w) : TL q P fn R M n st ops (⟨some d, .binOp .geq t X Y t2, ty, ps, af, none⟩ :: rest) k w :=
  TL_val_w hd (fun w ρ h => by
    have e1 : decide (S < S2) = true := decide_eq_true (List.not_le.1 h0)
    have e2 : True := trivial
    simp only [execOp, h _ _ hx, h _ _ hy, binOp, Op.stringOp, toList_ofL, bytesLess_iff, Sem.run_bind, Sem.run_pure, Result.andThen_ok, eqGuard, e1]
    simp [e2]) hk
end
end Go.Proofs.Eng

/- A map by int keys, in the words of the kit's contracts. -/
namespace Go.Proofs.Eng
open Go.RowKit Go.Maps Go.WideElems
set_option linter.unusedSimpArgs false
set_option linter.unusedVariables false
abbrev R0 : Value → Option (DataW Unit × List MemPlace) := fun _ => some (.nil, [])
theorem Mp.owns {α : Type} {P : Program} {k : TypeId} {V : α → Value} {w : World} {b : Nat} {l : List (Int × α)} (hm : Mp w (.int .i64) b (fun z => Value.int .i64 z) V l) (hk : P.underlying k = some (.int .i64))
    (hr : ∀ p ∈ l, -9223372036854775808 ≤ p.1 ∧ p.1 ≤ 9223372036854775807) (hl : l.length ≤ maxLen) :
    ∃ D0 : DataW Unit, w.ownsMap P k R0 b l.length D0 ∧ (intKeys D0).Perm (l.map (·.1)) ∧ Maps.size D0 = l.length := by
  obtain ⟨es, clk, h1, h2, h3⟩ := hm
  have hsz : es.size = l.length := by have := congrArg List.length h3; simpa using this
  have hkey : ∀ z : Int, -9223372036854775808 ≤ z ∧ z ≤ 9223372036854775807 → keyOf P k (.int .i64 z) = some (.int .i64 z) := fun z hz => by
    have hw : (Lit.int .i64 z).wf = true := by
      simp [Lit.wf, IntKind.min, IntKind.max, IntKind.bits, IntKind.signed]
      omega
    simp [keyOf, hk, mapKey, hw]
  have hrd : ∀ x ∈ es.toList, ∃ p ∈ l, rd P k R0 x = some (.int .i64 p.1, .nil) ∧ x.key = .int .i64 p.1 := fun x hx => by
    have h4 : (x.key, x.val) ∈ es.toList.map (fun e => (e.key, e.val)) := List.mem_map.2 ⟨x, hx, rfl⟩
    rw [h3] at h4
    obtain ⟨p, hp, e⟩ := List.mem_map.1 h4
    have e1 : x.key = .int .i64 p.1 := (congrArg Prod.fst e).symm
    exact ⟨p, hp, by simp [rd, e1, hkey p.1 (hr p hp), R0], e1⟩
  have hmap : es.toList.map (rg P k R0) = l.map (fun p => (Lit.int .i64 p.1, DataW.nil)) := by
    have h5 : es.toList.map (rg P k R0) = (es.toList.map (fun e => (e.key, e.val))).map (fun kv => rg P k R0 ⟨kv.1, kv.2, 0⟩) := by
      rw [List.map_map]
      exact List.map_congr_left (fun x _ => rfl)
    rw [h5, h3, List.map_map]
    refine List.map_congr_left (fun p hp => ?_)
    simp [Function.comp, rg, rd, hkey p.1 (hr p hp), R0]
  refine ⟨_, ⟨es, clk, h1, ⟨by omega, h2, fun x hx => ?_⟩, by omega, rfl⟩, ?_, ?_⟩
  · obtain ⟨p, _, e, _⟩ := hrd x hx
    exact ⟨_, e⟩
  · show (List.map (fun p : Lit × DataW Unit => Go.intOf p.1) _).Perm _
    rw [hmap]
    refine ((WideShapes.sorted_perm _).map _).trans ?_
    rw [List.map_map]
    exact List.Perm.of_eq (List.map_congr_left (fun p _ => rfl))
  · rw [hmap]
    show List.length _ = _
    rw [length_sorted]
    simp
end Go.Proofs.Eng

/- A stretch of an own row: what is cut off its front, what is laid behind it. -/
namespace Go.Proofs.Eng
open Go.RowKit
set_option linter.unusedSimpArgs false
set_option linter.unusedVariables false
set_option linter.unusedSectionVars false
def Seg (w : World) (base : Nat) (e : TypeId) (s : Nat) (A : Option Addr) (n c : Nat) (xs : List Value) : Prop :=
  xs.length = n * s ∧ ((A = none ∧ n = 0 ∧ c = 0) ∨ ∃ g o cur, A = some ⟨g, o, none⟩ ∧ base ≤ g ∧ w.heap[g]? = some (.cells cur e (0, 0)) ∧ n ≤ c ∧ c ≤ maxLen ∧ o + c * s ≤ cur.size ∧ (cur.toList.drop o).take (n * s) = xs)
section
variable {w w' : World} {base s n c : Nat} {e : TypeId} {A : Option Addr} {xs : List Value}
theorem Seg.nil (w : World) (base : Nat) (e : TypeId) (s : Nat) : Seg w base e s none 0 0 [] := ⟨by simp, .inl ⟨rfl, rfl, rfl⟩⟩
theorem Own.seg (h : Own w base e s A n c xs) : Seg w base e s A n c xs := by
  obtain ⟨hl, ⟨hv, h0⟩ | ⟨g, cap, cur, hv, hg, hh, hnc, hcm, hcs, htk⟩⟩ := h
  · cases hv
    exact ⟨hl, .inl ⟨rfl, rfl, rfl⟩⟩
  · cases hv
    exact ⟨hl, .inr ⟨g, 0, cur, rfl, hg, hh, hnc, hcm, by omega, by simpa using htk⟩⟩
theorem Seg.len (h : Seg w base e s A n c xs) : xs.length = n * s := h.1
theorem Seg.cap (h : Seg w base e s A n c xs) : n ≤ c ∧ c ≤ maxLen := by
  obtain ⟨_, ⟨_, h0, h1⟩ | ⟨g, o, cur, _, _, _, hnc, hcm, _⟩⟩ := h
  · subst h0 h1; exact ⟨Nat.le_refl _, by decide⟩
  · exact ⟨hnc, hcm⟩
theorem Seg.hi (h : Seg w base e s A n c xs) : Hi A base := fun ad ea => by
  obtain ⟨_, ⟨h0, _⟩ | ⟨g, o, cur, h0, hg, _⟩⟩ := h
  · rw [h0] at ea; cases ea
  · rw [h0] at ea; cases ea; exact hg
theorem Seg.lo (h : Seg w base e s A n c xs) : Lo A w.heap.size := fun ad ea => by
  obtain ⟨_, ⟨h0, _⟩ | ⟨g, o, cur, h0, hg, hh, _⟩⟩ := h
  · rw [h0] at ea; cases ea
  · rw [h0] at ea; cases ea; exact heap_lt hh
theorem Seg.mod {S : List Nat} (h : Seg w base e s A n c xs) (hm : Mod S w w') (hS : Off A S) : Seg w' base e s A n c xs := by
  obtain ⟨hl, h | ⟨g, o, cur, rfl, hg, hh, r⟩⟩ := h
  · exact ⟨hl, .inl h⟩
  · exact ⟨hl, .inr ⟨g, o, cur, rfl, hg, by rw [hm.block g (heap_lt hh) (hS _ rfl)]; exact hh, r⟩⟩
theorem Seg.ext (h : Seg w base e s A n c xs) (hm : Ext w w') : Seg w' base e s A n c xs := h.mod hm (.nil A)
theorem Seg.be (hm : Ext w w') (h : Seg w base e s A n c xs) : Seg w' base e s A n c xs := h.ext hm
theorem Seg.weaken {base' : Nat} (h : Seg w base e s A n c xs) (hb : base' ≤ base) : Seg w base' e s A n c xs := by
  obtain ⟨hl, h | ⟨g, o, cur, h1, hg, r⟩⟩ := h
  · exact ⟨hl, .inl h⟩
  · exact ⟨hl, .inr ⟨g, o, cur, h1, by omega, r⟩⟩
theorem Seg.rd (h : Seg w base e s A n c xs) : Rd w A n s xs := by
  obtain ⟨hl, ⟨_, h0, _⟩ | ⟨g, o, cur, rfl, hg, hh, hnc, hcm, hcs, htk⟩⟩ := h
  · exact ⟨hl, fun hn => by omega⟩
  · refine ⟨hl, fun hn => ⟨g, o, rfl, heap_lt hh, fun j u hu => ?_⟩⟩
    rw [← htk] at hu
    rw [List.getElem?_take] at hu
    split at hu
    · rw [List.getElem?_drop] at hu
      simp only [World.cell?, hh]
      simpa using hu
    · cases hu
theorem Seg.cut {l : Nat} (h : Seg w base e s A n c xs) (hl : l ≤ n) : Seg w base e s (cutA A c l s) (n - l) (c - l) (xs.drop (l * s)) := by
  have hlen : (xs.drop (l * s)).length = (n - l) * s := by rw [List.length_drop, h.1, Nat.sub_mul]
  obtain ⟨hx, ⟨rfl, h0, h1⟩ | ⟨g, o, cur, rfl, hg, hh, hnc, hcm, hcs, htk⟩⟩ := h
  · refine ⟨hlen, .inl ⟨?_, by omega, by omega⟩⟩
    unfold cutA; split <;> rfl
  · refine ⟨hlen, .inr ?_⟩
    by_cases hcl : c = l
    · refine ⟨g, o, cur, by simp [cutA, hcl], hg, hh, by omega, by omega, by simp [hcl]; omega, ?_⟩
      have : n - l = 0 := by omega
      rw [this, Nat.zero_mul, List.take_zero, List.drop_of_length_le]
      rw [hx]
      exact Nat.mul_le_mul_right _ (by omega)
    · refine ⟨g, o + l * s, cur, ?_, hg, hh, by omega, by omega, ?_, ?_⟩
      · simp only [cutA, hcl, if_false, Option.map_some, Addr.add]
        by_cases h0 : l * s = 0 <;> simp [h0]
      · rw [Nat.add_assoc, ← Nat.add_mul, show l + (c - l) = c by omega]
        exact hcs
      · rw [← htk, List.drop_take, List.drop_drop]
        congr 1
        rw [Nat.sub_mul]
end
section
variable {q : Qm} {P : Program} {fn : Func} {R : Ending → World → Prop} {M : Md} {n : Nat} {st : Slots} {k : List Item} {w : World} {ops rest : List Oper}
  {d : Nat} {ty : TypeId} {ps : String} {af : Array Edge} {X Y : Operand} {t e : TypeId} {by_ s base m c m2 c2 : Nat} {z : Value} {A A2 : Option Addr} {xs ys : List Value}
theorem run_append_seg (ht : P.underlying t = some (.slice e)) (hi : ∃ i, P.info? e = some i ∧ i.size = s ∧ i.bytes = by_ ∧ i.zero = some z) (hzs : z.cells.size = s) (hsz : 0 < s)
    (ho : Seg w base e s A m c xs) (hr : Rd w A2 m2 s ys) (h1 : ∀ u ∈ ys, u.oneCell' = true) (hb1 : m + m2 ≤ maxLen) (hb2 : (m + m2) * by_ ≤ 140737488355328) (hb : base ≤ w.heap.size) (tt : TypeId) :
    ∃ A' c' w', (Builtin.append_ #[t, t] tt #[.slice A m c, .slice A2 m2 c2]).run P w = .ok (.slice A' (m + m2) c') w' ∧ Seg w' base e s A' (m + m2) c' (xs ++ ys) ∧ Mod (blkL A) w w' ∧ Near A A' w := by
  obtain ⟨hxl, ⟨rfl, h0, h1'⟩ | ⟨g, o, cur, rfl, hg, hh, hnc, hcm, hcs, htk⟩⟩ := id ho
  · subst h0 h1'
    have hx : xs = [] := List.eq_nil_of_length_eq_zero (by simpa using hxl)
    subst hx
    obtain ⟨A', c', w', g1, g2, g3, g4⟩ := run_append_any (c2 := c2) ht hi hzs hsz (Own.nil w base e s) hr h1 hb1 hb2 hb tt
    exact ⟨A', c', w', g1, g2.seg, g3, g4⟩
  · obtain ⟨i, i1, i2, i3, i4⟩ := id hi
    by_cases hm0 : m2 = 0
    · subst hm0
      have hy : ys = [] := List.eq_nil_of_length_eq_zero (by simpa using hr.1)
      subst hy
      refine ⟨some ⟨g, o, none⟩, c, w, ?_, by simpa using ho, Mod.refl _ _, fun ad e => .inl e⟩
      have hl : ∀ (x : Addr), (loadCells x 0).run P w = .ok #[] w := fun x => by simpa using run_loadCells_list (P := P) w x [] (by simp)
      cases A2 <;> simp [Builtin.append_, run_underlying ht, sizeOf, typeInfo, i1, Builtin.lenOf, Builtin.firstCells, hnc, storeCells, hl]
    · obtain ⟨b2, o2, rfl, hb2', hc2⟩ := hr.2 (by omega)
      have hsrc : ∀ j u, ys[j]? = some u → w.cell? ((⟨b2, o2, none⟩ : Addr).add j) = some u := fun j u hu => by
        rw [← hc2 j u hu]
        congr 1
        unfold Addr.add
        by_cases h : j = 0 <;> simp [h]
      by_cases hroom : m + m2 ≤ c
      · have hk : Blk w g e cur.toList := by unfold Blk; simpa using hh
        have hfit : o + m * s + 0 + ys.length ≤ cur.toList.length := by
          rw [hr.1]
          have h9 : (m + m2) * s ≤ c * s := Nat.mul_le_mul_right _ hroom
          rw [Nat.add_mul] at h9
          have : cur.toList.length = cur.size := Array.length_toList
          omega
        obtain ⟨w', g1, g2, g3, g4⟩ := run_storeAll (P := P) (b := g) (o := o + m * s) ys cur.toList 0 w hk hfit h1
        rw [Nat.add_zero] at g4 hfit
        have hfc := run_firstCells_some (P := P) w i.size m2 ⟨b2, o2, none⟩ m2 c2 ys (by rw [i2]; exact hr.1) hsrc
        refine ⟨some ⟨g, o, none⟩, c, w', ?_, ⟨by rw [List.length_append, hxl, hr.1, Nat.add_mul], .inr ⟨g, o, (setAll cur.toList (o + m * s) ys).toArray, rfl, hg, g4, hroom, hcm, by simp [setAll_length]; exact hcs, ?_⟩⟩, g2, fun ad ea => .inl ea⟩
        · rw [i2] at hfc
          simp [Builtin.append_, run_underlying ht, sizeOf, typeInfo, i1, i2, Builtin.lenOf, hroom, hfc, Addr.add_lit, g1]
        · simp only [List.toList_toArray]
          rw [setAll_eq _ _ _ hfit, ← htk]
          have hl1 : (cur.toList.take (o + m * s)).length = o + m * s := by rw [List.length_take]; omega
          have hys := hr.1
          have hcl : cur.toList.length = cur.size := Array.length_toList
          have h8 : (m + m2) * s = m * s + m2 * s := Nat.add_mul _ _ _
          rw [h8]
          apply List.ext_getElem?
          intro j
          simp only [List.getElem?_take, List.getElem?_append, List.getElem?_drop, List.length_append, List.length_take, List.length_drop, hys]
          grind
      · have holds : ∀ j u, xs[j]? = some u → w.cell? ((⟨g, o, none⟩ : Addr).add j) = some u := fun j u hu => by
          have h9 := ho.rd.cell hu
          rw [← h9]
          congr 1
          unfold Addr.add adr
          by_cases h : j = 0 <;> simp [h]
        obtain ⟨v', w', g1, g2, g3⟩ := run_append_arg_grows (P := P) w t tt e i z s by_ ht i1 i4 i2 i3 hzs hsz ⟨g, o, none⟩ m c xs hxl holds ⟨b2, o2, none⟩ m2 c2 ys hr.1 hsrc (by omega) hb1 hb2
        obtain ⟨A', c', rfl, ho'⟩ := own_form g2
        have hext : Ext w w' := by have := Mod.of_grown g3; simpa using this
        refine ⟨A', c', w', g1, (Own.seg ho').weaken hb, hext.mono (fun x hx => by cases hx), fun ad ea => .inr (ho'.hi ad ea)⟩
theorem TL_append_g (E : Env P) (ho : Seg w base e s A m c xs) (hr : Rd w A2 m2 s ys) (h1 : ∀ u ∈ ys, u.oneCell' = true) (hx : ev st X = some (.slice A m c) := by exact rfl) (hy : ev st Y = some (.slice A2 m2 c2) := by exact rfl) (ht : E.und t = some (.slice e) := by exact rfl) (he : E.inf e = some (s, by_, z) := by exact rfl) (hzs : z.cells.size = s := by exact rfl) (hsz : Nat.blt 0 s = true := by exact rfl) (hd : Nat.blt d n = true := by exact rfl)
    (hb1 : m + m2 ≤ 140737488355328 := by omega) (hb2 : (m + m2) * by_ ≤ 140737488355328 := by omega) (hb : base ≤ w.heap.size := by first | assumption | omega)
    (hf : Fl q (rest.length + 1) := by first | exact trivial | exact rfl) (hq : ∀ w', Mod (blkL A) w w' → Kp q w' := by exact fun _ _ => trivial)
    (hk : ∀ A' c' w', Seg w' base e s A' (m + m2) c' (xs ++ ys) → Mod (blkL A) w w' → Near A A' w → TL q P fn R M n ((d, .slice A' (m + m2) c') :: st) ops rest k w') :
    TL q P fn R M n st ops (⟨some d, .call { callee := .builtin .append, args := #[X, Y], argTypes := #[t, t] }, ty, ps, af, none⟩ :: rest) k w := by
  obtain ⟨A', c', w', hrun, h2, h3, h4⟩ := run_append_seg (E.und_ok _ _ ht) (E.inf_ok _ _ _ _ he) hzs (by simpa [Nat.blt_eq] using hsz) ho hr h1 (by unfold maxLen; omega) hb2 hb (c2 := c2) ty
  refine TL_new (w' := w') hd (fun ρ h => ?_) hf (hq _ h3) (hk A' c' w' h2 h3 h4)
  simp only [execOp, resolve, invoke, builtin, Sem.run_bind, Sem.run_pure, Result.andThen_ok, List.map_toArray, List.map_cons, List.map_nil, h _ _ hx, h _ _ hy, hrun]
end
end Go.Proofs.Eng

/- How a tier lies in memory. -/
namespace Go.Proofs.Ythiacmmkfngpbaa
open Go.RowKit Go.Proofs.Eng Go.Proofs.Foot Go.Proofs.Cold
set_option linter.unusedSimpArgs false
set_option linter.unusedVariables false set_option maxRecDepth 10000
attribute [local irreducible] T TL LV TH TA
/-- Whose a block is: 1 the tier, 2 its map, 3 the row of those held, 4 the row of those wanted, 5 a key's line, 6 one that is held, 7 its keys; 0 nobody's. -/
abbrev Oo := Nat × Tx × Int
def oo (f : Nat → Oo) : Nat → Nat := fun b => (f b).1
abbrev pB (b : Nat) : Value := .pointer (some ⟨b, 0, none⟩)
def pV : Option Nat → Value
  | none => .pointer none
  | some b => pB b
def lnV (l : LnE) : List Value := [.int .i64 (l.st : Int), .int .i64 (l.pins : Int), .int .i64 (l.since : Int), .int .i64 (l.left : Int)]
structure CM where
  p : Nat
  kb : Nat
  lk : List (Tx × Option Nat)
  hs : SL
  hp : List (Nat × SL)
  ws : SL
def tierV (m : CM) (t : CS) : List Value := [.int .i64 (t.room : Int), .int .i64 (t.lines : Int), .int .i64 (t.delay : Int), .map (some m.kb), sL m.hs, sL m.ws, .int .i64 (t.now : Int), .int .i64 (t.num : Int), .int .i64 (t.fet : Int)]
def hp0 : Nat × SL := (0, none, 0, 0)
def hdV (h : HdE) (x : SL) : List Value := [.int .i64 h.id, sL x, .int .i64 (h.st : Int)]
def ptrs (l : List (Nat × SL)) : List Value := l.map fun x => pB x.1
theorem ptrs_len (l : List (Nat × SL)) : (ptrs l).length = l.length := by simp [ptrs]
theorem ptrs_one (l : List (Nat × SL)) : ∀ u ∈ ptrs l, u.oneCell' = true := by
  intro u hu
  obtain ⟨b, _, rfl⟩ := List.mem_map.1 hu
  rfl
theorem ptrs_get (l : List (Nat × SL)) (i : Nat) (h : i < l.length) : (ptrs l)[i]? = some (pB (l.getD i hp0).1) := by
  simp [ptrs, List.getD_eq_getElem?_getD, List.getElem?_eq_getElem h]
structure HoldM (w : World) (f : Nat → Oo) (x : Nat × SL) (h : HdE) : Prop where
  blk : Blk w x.1 60 (hdV h x.2)
  rd : Rd w x.2.1 x.2.2.1 1 (sv h.ks)
  cp : x.2.2.1 ≤ x.2.2.2
  cm : x.2.2.2 ≤ maxLen
  fb : f x.1 = (6, [], h.id)
  fk : ∀ b ∈ blkL x.2.1, f b = (7, [], h.id)
structure TierM (w : World) (base : Nat) (m : CM) (f : Nat → Oo) (t : CS) : Prop where
  blk : Blk w m.p 56 (tierV m t)
  mp : Mp w .string m.kb tK pV m.lk
  kk : m.lk.map (·.1) = t.K.map (·.1)
  kn : (t.K.map (·.1)).Nodup
  kl : ∀ k l, mget t.K k = some l → ∃ b, mget m.lk k = some (some b) ∧ Blk w b 65 (lnV l) ∧ f b = (5, k, 0)
  ho : Own w base 58 1 m.hs.1 m.hs.2.1 m.hs.2.2 (ptrs m.hp)
  hl : m.hp.length = t.H.length
  hm : ∀ i, i < t.H.length → HoldM w f (m.hp.getD i hp0) (t.H.getD i hd0)
  hn : (t.H.map (·.id)).Nodup
  wo : Seg w base 9 1 m.ws.1 m.ws.2.1 m.ws.2.2 (sv t.wt)
  fp : f m.p = (1, [], 0)
  fk : f m.kb = (2, [], 0)
  fh : ∀ b ∈ blkL m.hs.1, f b = (3, [], 0)
  fw : ∀ b ∈ blkL m.ws.1, f b = (4, [], 0)
  old : ∀ b, oo f b ≠ 0 → base ≤ b ∧ b < w.heap.size
section
variable {w w' : World} {base : Nat} {m : CM} {f : Nat → Oo} {t : CS} {S : List Nat}
theorem oo_of {f : Nat → Oo} {b k : Nat} {x : Tx} {z : Int} (h : f b = (k, x, z)) : oo f b = k := by unfold oo; rw [h]
theorem HoldM.mod {x : Nat × SL} {h : HdE} (g : HoldM w f x h) (hm : Eng.Mod S w w') (h6 : x.1 ∉ S) (h7 : ∀ b ∈ S, f b ≠ (7, [], h.id)) : HoldM w' f x h :=
  { g with blk := g.blk.mod hm h6, rd := g.rd.mod hm (off_ofL fun b hb hS => h7 b hS (g.fk b hb)) }
theorem TierM.bw (h : TierM w base m f t) : base ≤ w.heap.size := by
  have := h.old m.p (by rw [oo_of h.fp]; decide)
  omega
theorem TierM.hl' (h : TierM w base m f t) : m.hs.2.1 = t.H.length := by
  have h1 := h.ho.len
  rw [ptrs_len, h.hl] at h1
  omega
theorem TierM.wl (h : TierM w base m f t) : m.ws.2.1 = t.wt.length := by
  have h1 := h.wo.len
  simp at h1
  omega
theorem TierM.no (h : TierM w base m f t) (k : Tx) : mget m.lk k = none ↔ mget t.K k = none := by
  rw [mget_keys, mget_keys, h.kk]
theorem TierM.new0 (h : TierM w base m f t) {b : Nat} (hb : w.heap.size ≤ b) : oo f b = 0 := by
  by_cases q : oo f b = 0
  · exact q
  · have := (h.old b q).2; omega
/-- What is not turned is as it was. -/
theorem TierM.kl_mod (h : TierM w base m f t) (hm : Eng.Mod S w w') (hS : ∀ b ∈ S, oo f b ≠ 5) : ∀ k l, mget t.K k = some l → ∃ b, mget m.lk k = some (some b) ∧ Blk w' b 65 (lnV l) ∧ f b = (5, k, 0) := fun k l q => by
  obtain ⟨b, h1, h2, h3⟩ := h.kl k l q
  exact ⟨b, h1, h2.mod hm (fun hb => hS b hb (oo_of h3)), h3⟩
theorem TierM.hm_mod (h : TierM w base m f t) (hm : Eng.Mod S w w') (hS : ∀ b ∈ S, oo f b ≠ 6 ∧ oo f b ≠ 7) : ∀ i, i < t.H.length → HoldM w' f (m.hp.getD i hp0) (t.H.getD i hd0) := fun i hi => by
  have g := h.hm i hi
  exact g.mod hm (fun hb => (hS _ hb).1 (oo_of g.fb)) (fun b hb e => (hS b hb).2 (oo_of e))
theorem TierM.ho_mod (h : TierM w base m f t) (hm : Eng.Mod S w w') (hS : ∀ b ∈ S, oo f b ≠ 3) : Own w' base 58 1 m.hs.1 m.hs.2.1 m.hs.2.2 (ptrs m.hp) := h.ho.modL hm (fun b hb q => hS b q (oo_of (h.fh b hb)))
theorem TierM.wo_mod (h : TierM w base m f t) (hm : Eng.Mod S w w') (hS : ∀ b ∈ S, oo f b ≠ 4) : Seg w' base 9 1 m.ws.1 m.ws.2.1 m.ws.2.2 (sv t.wt) := h.wo.mod hm (off_ofL fun b hb q => hS b q (oo_of (h.fw b hb)))
theorem TierM.mp_mod (h : TierM w base m f t) (hm : Eng.Mod S w w') (hS : ∀ b ∈ S, oo f b ≠ 2) : Mp w' .string m.kb tK pV m.lk := h.mp.mod hm (fun q => hS _ q (oo_of h.fk))
theorem TierM.mod (h : TierM w base m f t) (hm : Eng.Mod S w w') (hS : ∀ b ∈ S, oo f b = 0) : TierM w' base m f t :=
  { h with
    blk := h.blk.mod hm (fun q => by have := hS _ q; rw [oo_of h.fp] at this; cases this)
    mp := h.mp_mod hm (fun b q => by rw [hS b q]; decide)
    kl := h.kl_mod hm (fun b q => by rw [hS b q]; decide)
    ho := h.ho_mod hm (fun b q => by rw [hS b q]; decide)
    hm := h.hm_mod hm (fun b q => by rw [hS b q]; exact ⟨by decide, by decide⟩)
    wo := h.wo_mod hm (fun b q => by rw [hS b q]; decide)
    old := fun b q => by have := h.old b q; have := hm.size; omega }
theorem TierM.ext (h : TierM w base m f t) (e : Ext w w') : TierM w' base m f t := h.mod e (fun b q => by cases q)
theorem TierM.tn (h : TierM w base m f t) {o o' : Nat → Nat} (tn : Tn o o' w w') (hd : ∀ b, o b = 0 ∨ oo f b = 0) : TierM w' base m f t ∧ ∀ b, o' b = 0 ∨ oo f b = 0 := by
  obtain ⟨⟨S, m1, s1⟩, n1, z1⟩ := tn
  refine ⟨h.mod m1 (fun b hb => (hd b).resolve_left (s1 b hb)), fun b => ?_⟩
  by_cases q : o' b = 0
  · exact .inl q
  · right
    rcases n1 b q with h1 | h1
    · exact (hd b).resolve_left h1
    · exact h.new0 h1
/-- A line is another one. -/
theorem TierM.setLine (h : TierM w base m f t) {k : Tx} {b : Nat} {l : LnE} (hk : mget t.K k ≠ none) (hb : mget m.lk k = some (some b)) (hm : Eng.Mod [b] w w') (hn : Blk w' b 65 (lnV l)) : TierM w' base m f { t with K := mput t.K k l } ∧ Tn (oo f) (oo f) w w' := by
  obtain ⟨l0, hl0⟩ := Option.ne_none_iff_exists'.1 hk
  obtain ⟨b0, h1, _, h3⟩ := h.kl k l0 hl0
  rw [hb] at h1
  cases h1
  have h5 := oo_of h3
  have hS : ∀ z, z ≠ 5 → ∀ x ∈ [b], oo f x ≠ z := fun z hz x hx => by rw [List.mem_singleton.1 hx, h5]; exact fun e => hz e.symm
  have hkk : (mput t.K k l).map (·.1) = t.K.map (·.1) := by rw [keys_put, if_neg hk]
  refine ⟨{ h with
    blk := h.blk.mod hm (fun q => hS 1 (by decide) _ q (oo_of h.fp))
    mp := h.mp_mod hm (hS 2 (by decide))
    kk := by rw [hkk]; exact h.kk
    kn := by rw [hkk]; exact h.kn
    kl := fun j l' hj => ?_
    ho := h.ho_mod hm (hS 3 (by decide))
    hm := h.hm_mod hm (fun x q => ⟨hS 6 (by decide) x q, hS 7 (by decide) x q⟩)
    wo := h.wo_mod hm (hS 4 (by decide))
    old := fun x q => by have := h.old x q; have := hm.size; omega }, ⟨[b], hm, hS 0 (by decide)⟩, fun x q => .inl q, hm.size⟩
  rw [mget_put] at hj
  by_cases e : j = k
  · rw [if_pos e] at hj
    cases hj
    rw [e]
    exact ⟨b, hb, hn, h3⟩
  · rw [if_neg e] at hj
    obtain ⟨c, c1, c2, c3⟩ := h.kl j l' hj
    refine ⟨c, c1, c2.mod hm (fun q => e ?_), c3⟩
    rw [List.mem_singleton.1 q, h3] at c3
    exact (Prod.mk.inj (Prod.mk.inj c3).2).1.symm
/-- A line more. -/
theorem TierM.putLine (h : TierM w base m f t) {k : Tx} {b : Nat} {l : LnE} {w1 w2 : World} (hk : mget t.K k = none) (e1 : Ext w w1) (hb : w.heap.size ≤ b) (hn : Blk w1 b 65 (lnV l)) (m2 : Eng.Mod [m.kb] w1 w2) (hp : Mp w2 .string m.kb tK pV (mput m.lk k (some b))) :
    ∃ f', TierM w2 base { m with lk := mput m.lk k (some b) } f' { t with K := mput t.K k l } ∧ Tn (oo f) (oo f') w w2 := by
  have z1 := e1.size
  have z2 := m2.size
  have hbl := hn.lt
  have h1 := h.ext e1
  have hS : ∀ z, z ≠ 2 → ∀ x ∈ [m.kb], oo f x ≠ z := fun z hz x hx => by rw [List.mem_singleton.1 hx, oo_of h.fk]; exact fun e => hz e.symm
  let f' : Nat → Oo := fun x => if x = b then (5, k, 0) else f x
  have keep : ∀ x, x < w.heap.size → f' x = f x := fun x hx => if_neg (by omega)
  have lt : ∀ x, oo f x ≠ 0 → x < w.heap.size := fun x q => (h.old x q).2
  have hk2 : mget m.lk k = none := (h.no k).2 hk
  refine ⟨f', { h1 with
    blk := h1.blk.mod m2 (fun q => hS 1 (by decide) _ q (oo_of h.fp))
    mp := hp
    kk := by rw [keys_put, keys_put, if_pos hk2, if_pos hk, h.kk]
    kn := mput_nd _ _ h.kn
    kl := fun j l' hj => ?_
    ho := h1.ho_mod m2 (hS 3 (by decide))
    hm := fun i hi => ?_
    wo := h1.wo_mod m2 (hS 4 (by decide))
    fp := by rw [keep _ (lt _ (by rw [oo_of h.fp]; decide))]; exact h.fp
    fk := by rw [keep _ (lt _ (by rw [oo_of h.fk]; decide))]; exact h.fk
    fh := fun x hx => by rw [keep _ (lt _ (by rw [oo_of (h.fh x hx)]; decide))]; exact h.fh x hx
    fw := fun x hx => by rw [keep _ (lt _ (by rw [oo_of (h.fw x hx)]; decide))]; exact h.fw x hx
    old := fun x q => ?_ }, ⟨[m.kb], (e1.mono (by simp)).trans m2, hS 0 (by decide)⟩, fun x q => ?_, by omega⟩
  · rw [mget_put] at hj ⊢
    by_cases e : j = k
    · rw [if_pos e] at hj ⊢
      cases hj
      exact ⟨b, rfl, hn.mod m2 (fun q => by have := lt m.kb (by rw [oo_of h.fk]; decide); rw [List.mem_singleton] at q; omega), by show (if b = b then _ else _) = _; rw [if_pos rfl, e]⟩
    · rw [if_neg e] at hj ⊢
      obtain ⟨c, c1, c2, c3⟩ := h1.kl_mod m2 (hS 5 (by decide)) j l' hj
      exact ⟨c, c1, c2, by rw [keep _ (lt _ (by rw [oo_of c3]; decide))]; exact c3⟩
  · have g := h1.hm_mod m2 (fun x q => ⟨hS 6 (by decide) x q, hS 7 (by decide) x q⟩) i hi
    exact { g with fb := by rw [keep _ (lt _ (by rw [oo_of g.fb]; decide))]; exact g.fb, fk := fun x hx => by rw [keep _ (lt _ (by rw [oo_of (g.fk x hx)]; decide))]; exact g.fk x hx }
  · by_cases e : x = b
    · have := h.bw; omega
    · have := h.old x (by unfold oo at q ⊢; rwa [show f' x = f x from if_neg e] at q); omega
  · by_cases e : x = b
    · exact .inr (by omega)
    · exact .inl (by unfold oo at q ⊢; rwa [show f' x = f x from if_neg e] at q)
/-- A line is gone. -/
theorem TierM.delLine (h : TierM w base m f t) {k : Tx} (hm : Eng.Mod [m.kb] w w') (hp : Mp w' .string m.kb tK pV (mdel m.lk k)) : TierM w' base { m with lk := mdel m.lk k } f { t with K := mdel t.K k } ∧ Tn (oo f) (oo f) w w' := by
  have hS : ∀ z, z ≠ 2 → ∀ x ∈ [m.kb], oo f x ≠ z := fun z hz x hx => by rw [List.mem_singleton.1 hx, oo_of h.fk]; exact fun e => hz e.symm
  have hkn : (m.lk.map (·.1)).Nodup := by rw [h.kk]; exact h.kn
  refine ⟨{ h with
    blk := h.blk.mod hm (fun q => hS 1 (by decide) _ q (oo_of h.fp))
    mp := hp
    kk := by rw [keys_del, keys_del, h.kk]
    kn := mdel_nd _ h.kn
    kl := fun j l' hj => ?_
    ho := h.ho_mod hm (hS 3 (by decide))
    hm := h.hm_mod hm (fun x q => ⟨hS 6 (by decide) x q, hS 7 (by decide) x q⟩)
    wo := h.wo_mod hm (hS 4 (by decide))
    old := fun x q => by have := h.old x q; have := hm.size; omega }, ⟨[m.kb], hm, hS 0 (by decide)⟩, fun x q => .inl q, hm.size⟩
  rw [mget_del _ _ h.kn] at hj
  rw [mget_del _ _ hkn]
  by_cases e : j = k
  · rw [if_pos e] at hj; cases hj
  · rw [if_neg e] at hj ⊢
    exact h.kl_mod hm (hS 5 (by decide)) j l' hj
/-- Only the tier's own numbers turn. -/
theorem TierM.nums (h : TierM w base m f t) {t' : CS} (hm : Eng.Mod [m.p] w w') (hb : Blk w' m.p 56 (tierV m t')) (e1 : t'.K = t.K) (e2 : t'.H = t.H) (e3 : t'.wt = t.wt) : TierM w' base m f t' ∧ Tn (oo f) (oo f) w w' := by
  have hS : ∀ z, z ≠ 1 → ∀ x ∈ [m.p], oo f x ≠ z := fun z hz x hx => by rw [List.mem_singleton.1 hx, oo_of h.fp]; exact fun e => hz e.symm
  exact ⟨{ h with
    blk := hb
    mp := h.mp_mod hm (hS 2 (by decide))
    kk := by rw [e1]; exact h.kk
    kn := by rw [e1]; exact h.kn
    kl := by rw [e1]; exact h.kl_mod hm (hS 5 (by decide))
    ho := h.ho_mod hm (hS 3 (by decide))
    hl := by rw [e2]; exact h.hl
    hm := by rw [e2]; exact h.hm_mod hm (fun x q => ⟨hS 6 (by decide) x q, hS 7 (by decide) x q⟩)
    hn := by rw [e2]; exact h.hn
    wo := by rw [e3]; exact h.wo_mod hm (hS 4 (by decide))
    old := fun x q => by have := h.old x q; have := hm.size; omega }, ⟨[m.p], hm, hS 0 (by decide)⟩, fun x q => .inl q, hm.size⟩
/-- Other keys are wanted. -/
theorem TierM.setW (h : TierM w base m f t) {y : SL} {wt' : List Tx} {w1 w2 : World} (m1 : Eng.Mod (blkL m.ws.1) w w1) (hy : Seg w1 base 9 1 y.1 y.2.1 y.2.2 (sv wt')) (hn : ∀ b ∈ blkL y.1, b ∈ blkL m.ws.1 ∨ w.heap.size ≤ b) (m2 : Eng.Mod [m.p] w1 w2) (hb : Blk w2 m.p 56 (tierV { m with ws := y } { t with wt := wt' })) :
    ∃ f', TierM w2 base { m with ws := y } f' { t with wt := wt' } ∧ Tn (oo f) (oo f') w w2 := by
  have z1 := m1.size
  have z2 := m2.size
  have M : Eng.Mod (m.p :: blkL m.ws.1) w w2 := (m1.mono (S' := m.p :: blkL m.ws.1) (fun b hb => .inl (List.mem_cons_of_mem _ hb))).step m2 (fun b hb => .inl (by rw [List.mem_singleton.1 hb]; exact List.mem_cons_self))
  have hS : ∀ z, z ≠ 1 → z ≠ 4 → ∀ x ∈ m.p :: blkL m.ws.1, oo f x ≠ z := fun z a1 a2 x hx => by
    rcases List.mem_cons.1 hx with rfl | hx
    · rw [oo_of h.fp]; exact fun e => a1 e.symm
    · rw [oo_of (h.fw x hx)]; exact fun e => a2 e.symm
  let f' : Nat → Oo := fun x => if x ∈ blkL y.1 then (4, [], 0) else f x
  have keep : ∀ x z, f x = z → z.1 ≠ 0 → z.1 ≠ 4 → f' x = z := fun x z e a1 a2 => by
    show (if _ then _ else _) = z
    rw [if_neg, e]
    intro q
    rcases hn x q with q | q
    · rw [h.fw x q] at e; rw [← e] at a2; exact a2 rfl
    · have := (h.old x (by unfold oo; rw [e]; exact a1)).2; omega
  have hyb : ∀ b ∈ blkL y.1, base ≤ b ∧ b < w1.heap.size := fun b hb => ⟨Hi.mem hy.hi b hb, Lo.mem hy.lo b hb⟩
  have hpy : ∀ b ∈ blkL y.1, b ∉ [m.p] := fun b hb q => by
    rw [List.mem_singleton] at q
    rcases hn b hb with q2 | q2
    · have := h.fw b q2; rw [q, h.fp] at this; simp at this
    · have := (h.old m.p (by rw [oo_of h.fp]; decide)).2; omega
  refine ⟨f', { h with
    blk := hb
    mp := h.mp_mod M (hS 2 (by decide) (by decide))
    kl := fun j l hj => ?_
    ho := h.ho_mod M (hS 3 (by decide) (by decide))
    hm := fun i hi => ?_
    wo := hy.mod m2 (off_ofL hpy)
    fp := keep _ _ h.fp (by decide) (by decide)
    fk := keep _ _ h.fk (by decide) (by decide)
    fh := fun x hx => keep _ _ (h.fh x hx) (by decide) (by decide)
    fw := fun x hx => if_pos hx
    old := fun x q => ?_ }, ⟨_, M, hS 0 (by decide) (by decide)⟩, fun x q => ?_, by omega⟩
  · obtain ⟨c, c1, c2, c3⟩ := h.kl_mod M (hS 5 (by decide) (by decide)) j l hj
    exact ⟨c, c1, c2, keep _ _ c3 (by simp) (by simp)⟩
  · have g := h.hm_mod M (fun x q => ⟨hS 6 (by decide) (by decide) x q, hS 7 (by decide) (by decide) x q⟩) i hi
    exact { g with fb := keep _ _ g.fb (by simp) (by simp), fk := fun x hx => keep _ _ (g.fk x hx) (by simp) (by simp) }
  · by_cases e : x ∈ blkL y.1
    · have := hyb x e; omega
    · have := h.old x (by unfold oo at q ⊢; rwa [show f' x = f x from if_neg e] at q); omega
  · by_cases e : x ∈ blkL y.1
    · rcases hn x e with q2 | q2
      · left; rw [oo_of (h.fw x q2)]; decide
      · exact .inr q2
    · left; unfold oo at q ⊢; rwa [show f' x = f x from if_neg e] at q
theorem getD_set_eq {α : Type} (l : List α) (i j : Nat) (x d : α) (hi : i < l.length) : (l.set i x).getD j d = if j = i then x else l.getD j d := by
  by_cases e : j = i
  · subst e
    rw [if_pos rfl, List.getD_eq_getElem?_getD, List.getElem?_set_self hi]
    rfl
  · rw [if_neg e, List.getD_eq_getElem?_getD, List.getD_eq_getElem?_getD, List.getElem?_set_ne (fun q => e q.symm)]
theorem id_inj {H : List HdE} (hn : (H.map (·.id)).Nodup) {i j : Nat} (hi : i < H.length) (hj : j < H.length) (he : (H.getD i hd0).id = (H.getD j hd0).id) : i = j := by
  rw [List.getD_eq_getElem?_getD, List.getElem?_eq_getElem hi, List.getD_eq_getElem?_getD, List.getElem?_eq_getElem hj] at he
  simp only [Option.getD_some] at he
  have h1 : (H.map (·.id))[i]'(by simpa using hi) = (H.map (·.id))[j]'(by simpa using hj) := by simpa using he
  have hp := List.pairwise_iff_getElem.1 (List.nodup_iff_pairwise_ne.1 hn)
  rcases Nat.lt_trichotomy i j with q | q | q
  · exact absurd h1 (hp i j _ _ q)
  · exact q
  · exact absurd h1.symm (hp j i _ _ q)
/-- One that is held has another state. -/
theorem TierM.setHold (h : TierM w base m f t) {i : Nat} {s : Nat} (hi : i < t.H.length) (hm : Eng.Mod [(m.hp.getD i hp0).1] w w') (hb : Blk w' (m.hp.getD i hp0).1 60 (hdV { (t.H.getD i hd0) with st := s } (m.hp.getD i hp0).2)) :
    TierM w' base m f { t with H := t.H.set i { (t.H.getD i hd0) with st := s } } ∧ Tn (oo f) (oo f) w w' := by
  have g0 := h.hm i hi
  have hS : ∀ z, z ≠ 6 → ∀ x ∈ [(m.hp.getD i hp0).1], oo f x ≠ z := fun z hz x hx => by rw [List.mem_singleton.1 hx, oo_of g0.fb]; exact fun e => hz e.symm
  have hids : (t.H.set i { (t.H.getD i hd0) with st := s }).map (·.id) = t.H.map (·.id) := by
    rw [List.map_set]
    apply List.ext_getElem (by simp)
    intro j h1 h2
    rw [List.getElem_set]
    split
    · rename_i e
      subst e
      simp [List.getD_eq_getElem?_getD, List.getElem?_eq_getElem hi]
    · rfl
  refine ⟨{ h with
    blk := h.blk.mod hm (fun q => hS 1 (by decide) _ q (oo_of h.fp))
    mp := h.mp_mod hm (hS 2 (by decide))
    kl := h.kl_mod hm (hS 5 (by decide))
    ho := h.ho_mod hm (hS 3 (by decide))
    hl := by simp only [List.length_set]; exact h.hl
    hm := fun j hj => ?_
    hn := by simp only; rw [hids]; exact h.hn
    wo := h.wo_mod hm (hS 4 (by decide))
    old := fun x q => by have := h.old x q; have := hm.size; omega }, ⟨_, hm, hS 0 (by decide)⟩, fun x q => .inl q, hm.size⟩
  simp only [List.length_set] at hj
  simp only
  rw [getD_set_eq _ _ _ _ _ hi]
  by_cases e : j = i
  · subst e
    rw [if_pos rfl]
    exact { blk := hb, rd := g0.rd.mod hm (off_ofL fun b hb q => by have := g0.fk b hb; rw [List.mem_singleton.1 q, g0.fb] at this; simp at this), cp := g0.cp, cm := g0.cm, fb := g0.fb, fk := g0.fk }
  · rw [if_neg e]
    have g := h.hm j hj
    refine g.mod hm (fun q => e (id_inj h.hn hj hi ?_)) (fun b q e2 => by rw [List.mem_singleton.1 q, g0.fb] at e2; simp at e2)
    have := g.fb
    rw [List.mem_singleton.1 q, g0.fb] at this
    simpa using this.symm
end
end Go.Proofs.Ythiacmmkfngpbaa

/- The contracts of the library at this program. Written by the tools of the shelf. -/
namespace Go.Proofs
open Go.Shelf
def Try.lays128_ren : Go.Shelf.Ren := ⟨fun | 128 => 67 | n => n, fun | 51 => 91 | 3 => 3 | 4 => 4 | 46 => 79 | 5 => 5 | 9 => 9 | n => n, fun | n => n⟩
def Try.lays125_ren : Go.Shelf.Ren := ⟨fun | 125 => 54 | 128 => 67 | 129 => 68 | n => n, fun | 46 => 79 | 3 => 3 | 51 => 91 | 53 => 93 | 4 => 4 | 5 => 5 | 9 => 9 | n => n, fun | n => n⟩
def Try.lays137_ren : Go.Shelf.Ren := ⟨fun | 137 => 41 | 217 => 55 | 266 => 69 | n => n, fun | 9 => 9 | 5 => 5 | 3 => 3 | n => n, fun | n => n⟩
theorem Try.lays137 : Go.Proofs.Lays.n137 Try.prog Try.lays137_ren := {
  mixed := by kernel_rfl
  f137 := Try.func41.trans (congrArg some (by kernel_rfl))
  f217 := Try.func55.trans (congrArg some (by kernel_rfl))
  f266 := Try.func69.trans (congrArg some (by kernel_rfl))
  t3 := Try.underlying3
  a3 := Try.isAgg3
  z3 := Try.sizeOf3
  v3 := Try.zeroValue3
  t5 := Try.underlying5
  a5 := Try.isAgg5
  z5 := Try.sizeOf5
  v5 := Try.zeroValue5
  t9 := Try.underlying9
  a9 := Try.isAgg9
  z9 := Try.sizeOf9
  v9 := Try.zeroValue9 }
open Go.RowKit in
theorem Try.strings_IndexByte (s : ByteArray) (c : Int) (w : World) :
    Calls Try.prog 41 #[.string s, .int .u8 c] w fun e w' => e = .returned (.int .i64 (Lib.indexByte s.data.toList c.toNat.toUInt8)) ∧ w' = w := Any.strings_IndexByte Try.lays137 s c w
def Try.lays129_ren : Go.Shelf.Ren := ⟨fun | 129 => 68 | n => n, fun | 53 => 93 | 3 => 3 | 4 => 4 | 46 => 79 | 5 => 5 | 9 => 9 | n => n, fun | n => n⟩
def Try.lays217_ren : Go.Shelf.Ren := ⟨fun | 217 => 55 | 266 => 69 | n => n, fun | 9 => 9 | 5 => 5 | 3 => 3 | n => n, fun | n => n⟩
def Try.lays190_ren : Go.Shelf.Ren := ⟨fun | 190 => 37 | 125 => 54 | 258 => 53 | 128 => 67 | 129 => 68 | 302 => 58 | 303 => 59 | 304 => 60 | 305 => 61 | 306 => 62 | 307 => 63 | 308 => 64 | 309 => 65 | 310 => 66 | 333 => 70 | 329 => 71 | 330 => 72 | 334 => 73 | 335 => 74 | 336 => 75 | 344 => 76 | n => n, fun | 31 => 33 | 9 => 9 | 3 => 3 | 46 => 79 | 0 => 0 | 51 => 91 | 53 => 93 | 4 => 4 | 183 => 83 | 182 => 82 | 131 => 88 | 5 => 5 | 218 => 94 | 222 => 98 | 228 => 100 | 229 => 101 | n => n, fun | n => n⟩
theorem Try.lays190 : Go.Proofs.Lays.n190 Try.prog Try.lays190_ren := {
  mixed := by kernel_rfl
  f125 := Try.func54.trans (congrArg some (by kernel_rfl))
  f128 := Try.func67.trans (congrArg some (by kernel_rfl))
  f129 := Try.func68.trans (congrArg some (by kernel_rfl))
  f190 := Try.func37.trans (congrArg some (by kernel_rfl))
  f258 := Try.func53.trans (congrArg some (by kernel_rfl))
  f302 := Try.func58.trans (congrArg some (by kernel_rfl))
  f303 := Try.func59.trans (congrArg some (by kernel_rfl))
  f304 := Try.func60.trans (congrArg some (by kernel_rfl))
  f305 := Try.func61.trans (congrArg some (by kernel_rfl))
  f306 := Try.func62.trans (congrArg some (by kernel_rfl))
  f307 := Try.func63.trans (congrArg some (by kernel_rfl))
  f308 := Try.func64.trans (congrArg some (by kernel_rfl))
  f309 := Try.func65.trans (congrArg some (by kernel_rfl))
  f310 := Try.func66.trans (congrArg some (by kernel_rfl))
  f329 := Try.func71.trans (congrArg some (by kernel_rfl))
  f330 := Try.func72.trans (congrArg some (by kernel_rfl))
  f333 := Try.func70.trans (congrArg some (by kernel_rfl))
  f334 := Try.func73.trans (congrArg some (by kernel_rfl))
  f335 := Try.func74.trans (congrArg some (by kernel_rfl))
  f336 := Try.func75.trans (congrArg some (by kernel_rfl))
  f344 := Try.func76.trans (congrArg some (by kernel_rfl))
  t0 := Try.underlying0
  a0 := Try.isAgg0
  z0 := Try.sizeOf0
  v0 := Try.zeroValue0
  t3 := Try.underlying3
  a3 := Try.isAgg3
  z3 := Try.sizeOf3
  v3 := Try.zeroValue3
  t4 := Try.underlying4
  a4 := Try.isAgg4
  z4 := Try.sizeOf4
  v4 := Try.zeroValue4
  t5 := Try.underlying5
  a5 := Try.isAgg5
  z5 := Try.sizeOf5
  v5 := Try.zeroValue5
  t9 := Try.underlying9
  a9 := Try.isAgg9
  z9 := Try.sizeOf9
  v9 := Try.zeroValue9
  t31 := Try.underlying33
  a31 := Try.isAgg33
  z31 := Try.sizeOf33
  v31 := Try.zeroValue33
  t46 := Try.underlying79
  a46 := Try.isAgg79
  z46 := Try.sizeOf79
  v46 := Try.zeroValue79
  t51 := Try.underlying91
  a51 := Try.isAgg91
  z51 := Try.sizeOf91
  v51 := Try.zeroValue91
  t53 := Try.underlying93
  a53 := Try.isAgg93
  z53 := Try.sizeOf93
  v53 := Try.zeroValue93
  t131 := Try.underlying88
  a131 := Try.isAgg88
  z131 := Try.sizeOf88
  v131 := Try.zeroValue88
  t182 := Try.underlying82
  a182 := Try.isAgg82
  z182 := Try.sizeOf82
  v182 := Try.zeroValue82
  t183 := Try.underlying83
  a183 := Try.isAgg83
  z183 := Try.sizeOf83
  v183 := Try.zeroValue83
  t218 := Try.underlying94
  a218 := Try.isAgg94
  z218 := Try.sizeOf94
  v218 := Try.zeroValue94
  t222 := Try.underlying98
  a222 := Try.isAgg98
  z222 := Try.sizeOf98
  v222 := Try.zeroValue98
  t228 := Try.underlying100
  a228 := Try.isAgg100
  z228 := Try.sizeOf100
  v228 := Try.zeroValue100
  t229 := Try.underlying101
  a229 := Try.isAgg101
  z229 := Try.sizeOf101
  v229 := Try.zeroValue101 }
open Go.Sort Go.RowKit in
theorem Try.slices_Sort_string (blk off cap : Nat) (ss : List (List UInt8)) (w : World) (hH : Holds encStr w blk off ss.toArray) (hblk : blk < w.heap.size) (hsz : ss.length < 4611686018427387904) :
    Calls Try.prog 37 #[.slice (some ⟨blk, off, none⟩) ss.length cap] w fun e w' =>
      e = .returned (.tuple #[]) ∧ ∃ n os, w' = grow (putRow encStr (Sort.ahead w n) blk off (ss.mergeSort fun x y => decide (x ≤ y)).toArray) os := Any.slices_Sort_string Try.lays190 blk off cap ss w hH hblk hsz
open Go.RowKit Go.Sort in
theorem Try.slices_Sort_string_none (p : Option Addr) (cap : Nat) (w : World) :
    Calls Try.prog 37 #[.slice p 0 cap] w fun e w' => e = .returned (.tuple #[]) ∧ w' = w := Any.slices_Sort_string_none Try.lays190 p cap w
end Go.Proofs

namespace Go.Proofs.Ythiacmmkfngpbaa
open Go.RowKit Go.Proofs.Eng Go.Proofs.Foot
set_option linter.unusedSimpArgs false
set_option linter.unusedVariables false set_option maxRecDepth 10000
attribute [local irreducible] T TL LV TH TA
theorem IndexByte_c (S : ByteArray) (c : Int) (w : World) :
    Ret Try.prog 41 [.string S, .int .u8 c] w (fun v w' => v = .int .i64 (Lib.indexByte S.data.toList c.toNat.toUInt8) ∧ w' = w) := by
  refine Calls.mono (Try.strings_IndexByte S c w) ?_
  rintro e w' ⟨rfl, rfl⟩
  exact ⟨rfl, rfl⟩
theorem Valid_c (l : Tx) (hl : l.length ≤ 9223372036854775807) (w : World) :
    Ret Try.prog 30 [.string (ofL l)] w (fun v w' => v = .bool (validT l) ∧ w' = w) := by
  have hsz := ofL_size l
  refine ret_T (n := 23) Try.func30 rfl rfl ?_
  repeat (first | refine T_seq ?_ | refine T_region ?_ | refine T_block ?_ | refine TL_nil ?_ | refine TL_move (hk := ?_) | refine TL_assign (hk := ?_) | refine TL_len_s TE (hk := ?_))
  refine T_loop (ι := Nat) (fun i => [(6, .int .i64 (i : Int)), (5, .int .i64 ((ofL l).size : Int)), (0, .string (ofL l))]) (fun i w' => w' = w ∧ i ≤ l.length ∧ okUpto l i) (fun i => l.length - i) 0 (.c rfl (.c rfl (.c rfl (.n)))) ⟨rfl, Nat.zero_le _, fun j h => absurd h (by omega)⟩ ?_
  rintro i _ ⟨rfl, hi, hu⟩ ih
  by_cases hlt : i < l.length
  · repeat (first | refine T_seq ?_ | refine T_region ?_ | refine T_cond_true rfl ?_ | refine T_block ?_ | refine T_skip ?_ | refine TL_lt_t (hk := ?_) | refine TL_nil ?_ | refine TL_move (hk := ?_) | refine TL_assign (hk := ?_) | (refine TL_index_s TE (hk := ?_); intro _))
    refine TL_call TE (hc := IndexByte_c _ _ _) (hk := ?_)
    rintro _ _ ⟨rfl, rfl⟩
    have hk := ix_key' (gb_lt l i)
    by_cases hv : okc (gb l i) = true
    · have h0 := hk.2 hv
      have h0' : ¬ Lib.indexByte kbytes ((gb l i : Int).toNat.toUInt8) < 0 := by omega
      repeat (first | refine T_region ?_ | refine T_cond_false rfl ?_ | refine T_inBlock ?_ | refine T_skip ?_ | refine TL_add (hk := ?_) | refine TL_lt_f (hk := ?_) | refine TL_nil ?_ | refine TL_move (hk := ?_))
      exact ih (i + 1) _ _ (by omega) ⟨rfl, by omega, fun j hj => by
        by_cases e : j = i
        · rw [e]; exact hv
        · exact hu j (by omega)⟩ (.c rfl (.c rfl (.c rfl (.n))))
    · have h0 : Lib.indexByte kbytes ((gb l i : Int).toNat.toUInt8) < 0 := by
        have : ¬ 0 ≤ Lib.indexByte kbytes ((gb l i : Int).toNat.toUInt8) := fun h => hv (hk.1 h)
        omega
      repeat (first | refine T_seq ?_ | refine T_region ?_ | refine T_cond_true rfl ?_ | refine TL_lt_t (hk := ?_) | refine TL_nil ?_ | refine TL_assign (hk := ?_))
      refine T_ret1 rfl rfl ⟨?_, rfl⟩
      rw [valid_no hlt (by simpa using hv)]
  · have hin : i = l.length := by omega
    have hx := valid_end (l := l) (by rw [← hin]; exact hu)
    by_cases h1 : 1 ≤ l.length
    · by_cases h2 : l.length ≤ 32
      · repeat (first | refine T_seq ?_ | refine T_region ?_ | refine T_cond_false rfl ?_ | refine T_exit rfl ?_ | refine TL_lt_f (hk := ?_) | refine TL_le_t (hk := ?_) | refine TL_ge_t (hk := ?_) | refine TL_nil ?_ | refine TL_move (hk := ?_) | refine TL_assign (hk := ?_) | refine TL_len_s TE (hk := ?_) | refine TL_yes (hk := ?_) | refine TL_pick_t (hk := ?_))
        refine T_ret1 rfl rfl ⟨?_, rfl⟩
        rw [hx]; simp [h1, h2]
      · repeat (first | refine T_seq ?_ | refine T_region ?_ | refine T_cond_false rfl ?_ | refine T_exit rfl ?_ | refine TL_lt_f (hk := ?_) | refine TL_le_f (hk := ?_) | refine TL_ge_t (hk := ?_) | refine TL_nil ?_ | refine TL_move (hk := ?_) | refine TL_assign (hk := ?_) | refine TL_len_s TE (hk := ?_) | refine TL_yes (hk := ?_) | refine TL_pick_t (hk := ?_))
        refine T_ret1 rfl rfl ⟨?_, rfl⟩
        rw [hx]; simp [h1, h2]
    · repeat (first | refine T_seq ?_ | refine T_region ?_ | refine T_cond_false rfl ?_ | refine T_exit rfl ?_ | refine TL_lt_f (hk := ?_) | refine TL_ge_f (hk := ?_) | refine TL_nil ?_ | refine TL_move (hk := ?_) | refine TL_assign (hk := ?_) | refine TL_len_s TE (hk := ?_) | refine TL_no (hk := ?_) | refine TL_pick_f (hk := ?_))
      refine T_ret1 rfl rfl ⟨?_, rfl⟩
      rw [hx]; simp [h1]
















































































































end Go.Proofs.Ythiacmmkfngpbaa

namespace Go.Proofs.Ythiacmmkfngpbaa
open Go.RowKit Go.Proofs.Eng Go.Proofs.Foot
set_option linter.unusedSimpArgs false
set_option linter.unusedVariables false set_option maxRecDepth 10000
attribute [local irreducible] T TL LV TH TA
theorem Sort_c (A : Option Addr) (n c base : Nat) (l : List Tx) (w : World) (h : Own w base 9 1 A n c (sv l)) (hn : n ≤ 70368744177000) :
    Ret Try.prog 37 [.slice A n c] w (fun v w' => v = .tuple #[] ∧ Mod (blkL A) w w' ∧ Own w' base 9 1 A n c (sv (l.mergeSort le2))) := by
  have hl : l.length = n := by simpa using h.len
  by_cases h0 : n = 0
  · subst h0
    have hl0 : l = [] := List.length_eq_zero_iff.1 hl
    subst hl0
    refine Calls.mono (Try.slices_Sort_string_none A c w) ?_
    rintro e w' ⟨rfl, rfl⟩
    exact ⟨rfl, Mod.refl _ _, by simpa using h⟩
  · rcases h.2 with ⟨_, h2⟩ | ⟨g, cap, cur, hv, hg, hb, h1, h2, h3, h4⟩
    · exact absurd h2 h0
    · cases hv
      subst hl
      refine Calls.mono (Try.slices_Sort_string g 0 c l w (holds_of_block hb (by have h5 := h4; rw [Nat.mul_one] at h5; exact h5)) (Array.getElem?_eq_some_iff.1 hb).1 (by omega)) ?_
      rintro e w' ⟨rfl, m, os, rfl⟩
      refine ⟨rfl, Mod.of_grown (grownBy_sorted _), ?_⟩
      exact ownsRow_sorted (List.length_mergeSort _) hg hb h1 h2 h3




















































end Go.Proofs.Ythiacmmkfngpbaa

namespace Go.Proofs.Ythiacmmkfngpbaa
open Go.RowKit Go.Proofs.Eng Go.Proofs.Foot Go.Proofs.Cold
set_option linter.unusedSimpArgs false
set_option linter.unusedVariables false set_option maxRecDepth 10000
attribute [local irreducible] T TL LV TH TA
set_option maxHeartbeats 1600000
section
variable {w w' : World} {base : Nat} {m : CM} {f : Nat → Oo} {t : CS}
theorem TierM.item (h : TierM w base m f t) {x : Tx × Option Nat} (hx : x ∈ m.lk) : ∃ b l, x.2 = some b ∧ mget t.K x.1 = some l ∧ Blk w b 65 (lnV l) ∧ f b = (5, x.1, 0) := by
  have hkn : (m.lk.map (·.1)).Nodup := by rw [h.kk]; exact h.kn
  have h1 := mget_of hkn hx
  have h2 : mget t.K x.1 ≠ none := fun q => by rw [(h.no x.1).2 q] at h1; cases h1
  obtain ⟨l, hl⟩ := Option.ne_none_iff_exists'.1 h2
  obtain ⟨b, g1, g2, g3⟩ := h.kl _ _ hl
  rw [h1] at g1
  exact ⟨b, l, Option.some.inj g1, hl, g2, g3⟩
def lnOf (t : CS) (k : Tx) : LnE := (mget t.K k).getD ln0
theorem TierM.cnt (h : TierM w base m f t) (p : LnE → Bool) : (m.lk.filter fun x => p (lnOf t x.1)).length = cntE p t.K := by
  have e1 : (m.lk.filter fun x => p (lnOf t x.1)).length = ((m.lk.map (·.1)).filter fun k => p (lnOf t k)).length := by rw [List.filter_map, List.length_map]; rfl
  have e2 : cntE p t.K = ((t.K.map (·.1)).filter fun k => p (lnOf t k)).length := by
    rw [List.filter_map, List.length_map]
    unfold cntE
    congr 1
    apply List.filter_congr
    intro x hx
    show p x.2 = p (lnOf t x.1)
    unfold lnOf
    rw [mget_of h.kn hx]
    rfl
  rw [e1, e2, h.kk]
theorem TierM.klen (h : TierM w base m f t) : m.lk.length = t.K.length := by have := congrArg List.length h.kk; simpa using this
theorem clpinned_c (b : Nat) (l : LnE) (w : World) (h : Blk w b 65 (lnV l)) : Ret Try.prog 56 [pB b] w (fun v w' => v = .bool (pinned l) ∧ Ext w w') := by
  unfold lnV at h
  unfold pinned
  refine ret_T (n := 8) Try.func56 rfl rfl ?_
  by_cases h1 : 0 < l.pins
  · by_cases h2 : l.st = 1
    · simp only [h1, h2, decide_true]
      repeat (first | refine T_seq ?_ | refine T_region ?_ | refine TL_gt_t (hk := ?_) | refine TL_nil ?_ | refine TL_move (hk := ?_) | refine TL_assign (hk := ?_) | refine TL_load TE (hk := ?_) | refine TL_fieldAddr TE (hk := ?_) | refine TL_nilCheck (hk := ?_))
      exact T_ret1 rfl rfl ⟨by simp [h1, h2], Mod.refl _ _⟩
    · by_cases h3 : l.st = 2
      · repeat (first | refine T_seq ?_ | refine T_region ?_ | refine TL_gt_t (hk := ?_) | refine TL_nil ?_ | refine TL_move (hk := ?_) | refine TL_assign (hk := ?_) | refine TL_load TE (hk := ?_) | refine TL_fieldAddr TE (hk := ?_) | refine TL_nilCheck (hk := ?_))
        exact T_ret1 rfl rfl ⟨by simp [h1, h2, h3], Mod.refl _ _⟩
      · repeat (first | refine T_seq ?_ | refine T_region ?_ | refine TL_gt_t (hk := ?_) | refine TL_nil ?_ | refine TL_move (hk := ?_) | refine TL_assign (hk := ?_) | refine TL_load TE (hk := ?_) | refine TL_fieldAddr TE (hk := ?_) | refine TL_nilCheck (hk := ?_))
        exact T_ret1 rfl rfl ⟨by simp [h1, h2, h3], Mod.refl _ _⟩
  · by_cases h2 : l.st = 1
    · repeat (first | refine T_seq ?_ | refine T_region ?_ | refine TL_gt_f (hk := ?_) | refine TL_nil ?_ | refine TL_move (hk := ?_) | refine TL_assign (hk := ?_) | refine TL_load TE (hk := ?_) | refine TL_fieldAddr TE (hk := ?_) | refine TL_nilCheck (hk := ?_))
      exact T_ret1 rfl rfl ⟨by simp [h1, h2], Mod.refl _ _⟩
    · by_cases h3 : l.st = 2
      · repeat (first | refine T_seq ?_ | refine T_region ?_ | refine TL_gt_f (hk := ?_) | refine TL_nil ?_ | refine TL_move (hk := ?_) | refine TL_assign (hk := ?_) | refine TL_load TE (hk := ?_) | refine TL_fieldAddr TE (hk := ?_) | refine TL_nilCheck (hk := ?_))
        exact T_ret1 rfl rfl ⟨by simp [h1, h2, h3], Mod.refl _ _⟩
      · repeat (first | refine T_seq ?_ | refine T_region ?_ | refine TL_gt_f (hk := ?_) | refine TL_nil ?_ | refine TL_move (hk := ?_) | refine TL_assign (hk := ?_) | refine TL_load TE (hk := ?_) | refine TL_fieldAddr TE (hk := ?_) | refine TL_nilCheck (hk := ?_))
        exact T_ret1 rfl rfl ⟨by simp [h1, h2, h3], Mod.refl _ _⟩
theorem clisF_c (b : Nat) (l : LnE) (w : World) (h : Blk w b 65 (lnV l)) : Ret Try.prog 50 [pB b] w (fun v w' => v = .bool (isF l) ∧ Ext w w') := by
  unfold lnV at h
  unfold isF
  refine ret_T (n := 8) Try.func50 rfl rfl ?_
  by_cases h1 : 0 < l.pins
  · by_cases h2 : l.st = 1
    · simp only [h1, h2, decide_true]
      repeat (first | refine T_seq ?_ | refine T_region ?_ | refine TL_eq_f (hk := ?_) | refine TL_nil ?_ | refine TL_move (hk := ?_) | refine TL_assign (hk := ?_) | refine TL_load TE (hk := ?_) | refine TL_fieldAddr TE (hk := ?_) | refine TL_nilCheck (hk := ?_))
      exact T_ret1 rfl rfl ⟨by simp [h1, h2], Mod.refl _ _⟩
    · by_cases h3 : l.st = 2
      · repeat (first | refine T_seq ?_ | refine T_region ?_ | refine TL_eq_t (hk := ?_) | refine TL_nil ?_ | refine TL_move (hk := ?_) | refine TL_assign (hk := ?_) | refine TL_load TE (hk := ?_) | refine TL_fieldAddr TE (hk := ?_) | refine TL_nilCheck (hk := ?_))
        exact T_ret1 rfl rfl ⟨by simp [h1, h2, h3], Mod.refl _ _⟩
      · repeat (first | refine T_seq ?_ | refine T_region ?_ | refine TL_eq_f (hk := ?_) | refine TL_nil ?_ | refine TL_move (hk := ?_) | refine TL_assign (hk := ?_) | refine TL_load TE (hk := ?_) | refine TL_fieldAddr TE (hk := ?_) | refine TL_nilCheck (hk := ?_))
        exact T_ret1 rfl rfl ⟨by simp [h1, h2, h3], Mod.refl _ _⟩
  · by_cases h2 : l.st = 1
    · repeat (first | refine T_seq ?_ | refine T_region ?_ | refine TL_eq_f (hk := ?_) | refine TL_nil ?_ | refine TL_move (hk := ?_) | refine TL_assign (hk := ?_) | refine TL_load TE (hk := ?_) | refine TL_fieldAddr TE (hk := ?_) | refine TL_nilCheck (hk := ?_))
      exact T_ret1 rfl rfl ⟨by simp [h1, h2], Mod.refl _ _⟩
    · by_cases h3 : l.st = 2
      · repeat (first | refine T_seq ?_ | refine T_region ?_ | refine TL_eq_t (hk := ?_) | refine TL_nil ?_ | refine TL_move (hk := ?_) | refine TL_assign (hk := ?_) | refine TL_load TE (hk := ?_) | refine TL_fieldAddr TE (hk := ?_) | refine TL_nilCheck (hk := ?_))
        exact T_ret1 rfl rfl ⟨by simp [h1, h2, h3], Mod.refl _ _⟩
      · repeat (first | refine T_seq ?_ | refine T_region ?_ | refine TL_eq_f (hk := ?_) | refine TL_nil ?_ | refine TL_move (hk := ?_) | refine TL_assign (hk := ?_) | refine TL_load TE (hk := ?_) | refine TL_fieldAddr TE (hk := ?_) | refine TL_nilCheck (hk := ?_))
        exact T_ret1 rfl rfl ⟨by simp [h1, h2, h3], Mod.refl _ _⟩
theorem clisNW_c (b : Nat) (l : LnE) (w : World) (h : Blk w b 65 (lnV l)) : Ret Try.prog 51 [pB b] w (fun v w' => v = .bool (isNW l) ∧ Ext w w') := by
  unfold lnV at h
  unfold isNW
  refine ret_T (n := 8) Try.func51 rfl rfl ?_
  by_cases h1 : 0 < l.pins
  · by_cases h2 : l.st = 1
    · simp only [h1, h2, decide_true]
      repeat (first | refine T_seq ?_ | refine T_region ?_ | refine TL_ne_f (hk := ?_) | refine TL_nil ?_ | refine TL_move (hk := ?_) | refine TL_assign (hk := ?_) | refine TL_load TE (hk := ?_) | refine TL_fieldAddr TE (hk := ?_) | refine TL_nilCheck (hk := ?_))
      exact T_ret1 rfl rfl ⟨by simp [h1, h2], Mod.refl _ _⟩
    · by_cases h3 : l.st = 2
      · repeat (first | refine T_seq ?_ | refine T_region ?_ | refine TL_ne_t (hk := ?_) | refine TL_nil ?_ | refine TL_move (hk := ?_) | refine TL_assign (hk := ?_) | refine TL_load TE (hk := ?_) | refine TL_fieldAddr TE (hk := ?_) | refine TL_nilCheck (hk := ?_))
        exact T_ret1 rfl rfl ⟨by simp [h1, h2, h3], Mod.refl _ _⟩
      · repeat (first | refine T_seq ?_ | refine T_region ?_ | refine TL_ne_t (hk := ?_) | refine TL_nil ?_ | refine TL_move (hk := ?_) | refine TL_assign (hk := ?_) | refine TL_load TE (hk := ?_) | refine TL_fieldAddr TE (hk := ?_) | refine TL_nilCheck (hk := ?_))
        exact T_ret1 rfl rfl ⟨by simp [h1, h2, h3], Mod.refl _ _⟩
  · by_cases h2 : l.st = 1
    · repeat (first | refine T_seq ?_ | refine T_region ?_ | refine TL_ne_f (hk := ?_) | refine TL_nil ?_ | refine TL_move (hk := ?_) | refine TL_assign (hk := ?_) | refine TL_load TE (hk := ?_) | refine TL_fieldAddr TE (hk := ?_) | refine TL_nilCheck (hk := ?_))
      exact T_ret1 rfl rfl ⟨by simp [h1, h2], Mod.refl _ _⟩
    · by_cases h3 : l.st = 2
      · repeat (first | refine T_seq ?_ | refine T_region ?_ | refine TL_ne_t (hk := ?_) | refine TL_nil ?_ | refine TL_move (hk := ?_) | refine TL_assign (hk := ?_) | refine TL_load TE (hk := ?_) | refine TL_fieldAddr TE (hk := ?_) | refine TL_nilCheck (hk := ?_))
        exact T_ret1 rfl rfl ⟨by simp [h1, h2, h3], Mod.refl _ _⟩
      · repeat (first | refine T_seq ?_ | refine T_region ?_ | refine TL_ne_t (hk := ?_) | refine TL_nil ?_ | refine TL_move (hk := ?_) | refine TL_assign (hk := ?_) | refine TL_load TE (hk := ?_) | refine TL_fieldAddr TE (hk := ?_) | refine TL_nilCheck (hk := ?_))
        exact T_ret1 rfl rfl ⟨by simp [h1, h2, h3], Mod.refl _ _⟩
theorem count_c (g : Nat) (p : LnE → Bool) (w : World) (h : TierM w base m f t) (hK : t.K.length ≤ 1000000) (hE : TE.fn g = true) (hg : ∀ b l w', Blk w' b 65 (lnV l) → Ret Try.prog g [pB b] w' (fun v w'' => v = .bool (p l) ∧ Ext w' w'')) :
    Ret Try.prog 49 [pB m.p, .func (.func g) #[] #[]] w (fun v w' => v = .int .i64 (cntE p t.K : Int) ∧ Ext w w') := by
  have hb := h.blk
  unfold tierV at hb
  have mp := h.mp
  have hcnt := h.cnt p
  have hkl := h.klen
  refine ret_T (n := 23) Try.func49 rfl rfl ?_
  repeat (first | refine T_seq ?_ | refine T_region ?_ | refine TL_nil ?_ | refine TL_move (hk := ?_) | refine TL_assign (hk := ?_) | refine TL_load TE (hk := ?_) | refine TL_fieldAddr TE (hk := ?_) | refine TL_nilCheck (hk := ?_))
  refine TL_range TE (.string) (hk := ?_); intro r w1 e1 hr1 hr2 it
  repeat (first | refine T_block ?_ | refine TL_nil ?_)
  refine T_loop (ι := Nat × List (Tx × Option Nat)) (fun i => [(12, .pointer (some ⟨r, 0, none⟩)), (5, .int .i64 (i.1 : Int)), (1, .func (.func g) #[] #[])])
    (fun i w' => Ext w w' ∧ It w' r m.kb tK pV m.lk i.2 ∧ i.1 + (i.2.filter fun x => p (lnOf t x.1)).length = cntE p t.K ∧ i.1 + i.2.length ≤ t.K.length ∧ ∀ x ∈ i.2, x ∈ m.lk) (fun i => i.2.length) (0, m.lk) (.c rfl (.c rfl (.c rfl (.n)))) ⟨e1, it, by simpa using hcnt, by simp only; omega, fun x hx => hx⟩ ?_
  clear it hcnt hb mp
  rintro ⟨n, left⟩ w2 ⟨e2, it, hn, hln, hsub⟩ ih
  simp only at it hn hln hsub ih ⊢
  have lr := it.lt
  repeat (first | refine T_seq ?_ | refine T_region ?_)
  refine TL_next (h0 := ?_) (h1 := ?_)
  · rintro rfl
    repeat (first | refine T_seq ?_ | refine T_region ?_ | refine T_cond_false rfl ?_ | refine T_exit rfl ?_ | refine TL_nil ?_ | refine TL_move (hk := ?_) | refine TL_assign (hk := ?_) | refine TL_extract (hk := ?_))
    simp only [List.filter_nil, List.length_nil] at hn
    exact T_ret1 rfl rfl ⟨by rw [← hn]; rfl, e2⟩
  · rintro l1 x l2 w3 rfl m3 s3 it3 cur
    obtain ⟨b, l, hx2, hl, hblk, hf⟩ := (h.ext e2).item (hsub x (by simp))
    have hr0 : oo f r = 0 := h.new0 hr1
    have hbr : b ∉ [r] := fun q => by rw [List.mem_singleton] at q; rw [q] at hf; rw [oo_of hf] at hr0; cases hr0
    have e3 : Ext w w3 := Mod.step e2 m3 (by simp; omega)
    have hb3 := hblk.mod m3 hbr
    have hlx : lnOf t x.1 = l := by unfold lnOf; rw [hl]; rfl
    have hpx : pV x.2 = pB b := by rw [hx2]; rfl
    have hcount : ((l1 ++ x :: l2).filter fun x => p (lnOf t x.1)).length = ((l1 ++ l2).filter fun x => p (lnOf t x.1)).length + b2n (p l) := by
      rw [List.filter_append, List.filter_append, List.filter_cons, hlx]
      unfold b2n
      split <;> simp; omega
    simp only [List.length_append, List.length_cons] at hln
    repeat (first | refine T_seq ?_ | refine T_region ?_ | refine T_cond_true rfl ?_ | refine T_block ?_ | refine T_skip ?_ | refine TL_nil ?_ | refine TL_move (hk := ?_) | refine TL_assign (hk := ?_) | refine TL_extract (hk := ?_) | refine TL_entry (hk := ?_))
    rw [hpx]
    refine TL_callc TE (fst := []) (cap := []) rfl rfl hE rfl (R' := RR (fun v w'' => v = .bool (p l) ∧ Ext w3 w'')) (by have := hg b l w3 hb3; unfold Ret at this; simpa using this) ?_ (fun _ _ h => h.elim) (fun _ h => h)
    rintro _ w4 ⟨rfl, e4⟩
    have it4 := it3.be e4
    have hsub' : ∀ y ∈ l1 ++ l2, y ∈ m.lk := fun y hy => hsub y (by rcases List.mem_append.1 hy with q | q <;> simp [q])
    cases hp : p l with
    | true =>
      rw [hp] at hcount
      have hc : (n : Int) + 1 = ((n + 1 : Nat) : Int) := by omega
      repeat (first | refine T_region ?_ | refine T_cond_true rfl ?_ | refine T_inBlock ?_ | refine TL_add (hk := ?_) | refine TL_nil ?_ | refine TL_move (hk := ?_) | refine TL_assign (hk := ?_))
      rw [hc]
      exact ih (n + 1, l1 ++ l2) w4 _ (by simp) ⟨e3.ext e4, it4, by simp only [b2n, if_true] at hcount ⊢; omega, by simp only [List.length_append]; omega, hsub'⟩ (.c rfl (.c rfl (.c rfl (.n))))
    | false =>
      rw [hp] at hcount
      repeat (first | refine T_cond_false rfl ?_ | refine T_inBlock ?_ | refine T_skip ?_ | refine TL_nil ?_)
      exact ih (n, l1 ++ l2) w4 _ (by simp) ⟨e3.ext e4, it4, by simp only [b2n, Bool.false_eq_true, if_false] at hcount ⊢; omega, by simp only [List.length_append]; omega, hsub'⟩ (.c rfl (.c rfl (.c rfl (.n))))
end
end Go.Proofs.Ythiacmmkfngpbaa

namespace Go.Proofs.Ythiacmmkfngpbaa
open Go.RowKit Go.Proofs.Eng Go.Proofs.Foot Go.Proofs.Cold
set_option linter.unusedSimpArgs false
set_option linter.unusedVariables false set_option maxRecDepth 10000
attribute [local irreducible] T TL LV TH TA
set_option maxHeartbeats 3200000
section
variable {w w' : World} {base : Nat} {m : CM} {f : Nat → Oo} {t : CS}
theorem TierM.kmap (h : TierM w base m f t) : m.lk.map (fun x => (x.1, lnOf t x.1)) = t.K := by
  have e1 : m.lk.map (fun x => (x.1, lnOf t x.1)) = (m.lk.map (·.1)).map fun k => (k, lnOf t k) := by rw [List.map_map]; rfl
  rw [e1, h.kk, List.map_map]
  conv => rhs; rw [← List.map_id t.K]
  apply List.map_congr_left
  intro x hx
  simp only [Function.comp_def, lnOf, mget_of h.kn hx, Option.getD_some, id]
theorem ofL_ne {x : Tx} (h : x ≠ []) : ¬ ofL x = (⟨#[]⟩ : ByteArray) := fun e => h (by have := congrArg (fun z : ByteArray => z.data.toList) e; simpa [ofL] using this)
theorem idlest_c (w : World) (h : TierM w base m f t) (hne : ∀ x ∈ t.K, x.1 ≠ []) :
    Ret Try.prog 52 [pB m.p] w (fun v w' => v = .string (ofL (idl t.K)) ∧ Ext w w') := by
  have hb := h.blk
  unfold tierV at hb
  have mp := h.mp
  have hkm := h.kmap
  have huni := fun b q => IdlI.uniq (b := b) h.kn q (idl_is h.kn hne)
  refine ret_T (n := 69) Try.func52 rfl rfl ?_
  repeat (first | refine T_seq ?_ | refine T_region ?_ | refine TL_nil ?_ | refine TL_move (hk := ?_) | refine TL_assign (hk := ?_) | refine TL_load TE (hk := ?_) | refine TL_fieldAddr TE (hk := ?_) | refine TL_nilCheck (hk := ?_))
  refine TL_range TE (.string) (hk := ?_); intro r w1 e1 hr1 hr2 it
  repeat (first | refine T_block ?_ | refine TL_nil ?_)
  refine T_loop (ι := Tx × List (Tx × Option Nat)) (fun i => [(10, .pointer (some ⟨r, 0, none⟩)), (3, .string (ofL i.1)), (0, pB m.p)])
    (fun i w' => Ext w w' ∧ It w' r m.kb tK pV m.lk i.2 ∧ IdlI t.K (i.2.map fun x => (x.1, lnOf t x.1)) i.1 ∧ ∀ x ∈ i.2, x ∈ m.lk) (fun i => i.2.length) ([], m.lk) (.c rfl (.c rfl (.c rfl (.n)))) ⟨e1, it, by rw [hkm]; exact IdlI.start _, fun x hx => hx⟩ ?_
  clear it mp
  rintro ⟨best, left⟩ w2 ⟨e2, it, hI, hsub⟩ ih
  simp only at it hI hsub ih ⊢
  have lr := it.lt
  repeat (first | refine T_seq ?_ | refine T_region ?_)
  refine TL_next (h0 := ?_) (h1 := ?_)
  · rintro rfl
    repeat (first | refine T_seq ?_ | refine T_region ?_ | refine T_cond_false rfl ?_ | refine T_exit rfl ?_ | refine TL_nil ?_ | refine TL_move (hk := ?_) | refine TL_assign (hk := ?_) | refine TL_extract (hk := ?_))
    exact T_ret1 rfl rfl ⟨by rw [huni best hI], e2⟩
  · rintro l1 x l2 w3 rfl m3 s3 it3 cur
    obtain ⟨b, l, hx2, hl, hblk, hf⟩ := (h.ext e2).item (hsub x (by simp))
    have hr0 : oo f r = 0 := h.new0 hr1
    have nin : ∀ {y z}, f y = z → z.1 ≠ 0 → y ∉ [r] := fun {y z} e hz q => by rw [List.mem_singleton] at q; rw [q] at e; rw [oo, e] at hr0; exact hz hr0
    have e3 : Ext w w3 := Mod.step e2 m3 (by simp; omega)
    have hb3 := hblk.mod m3 (nin hf (by simp))
    unfold lnV at hb3
    have hbp := hb.be e3
    have hmp := h.mp.be e3
    have hlx : lnOf t x.1 = l := by unfold lnOf; rw [hl]; rfl
    have hpx : pV x.2 = pB b := by rw [hx2]; rfl
    have hxK : (x.1, lnOf t x.1) ∈ t.K := by rw [hlx]; exact mget_in hl
    have hstep := IdlI.step (l1 := l1.map fun x => (x.1, lnOf t x.1)) (l2 := l2.map fun x => (x.1, lnOf t x.1)) (p := (x.1, lnOf t x.1)) (b := best) h.kn hxK (hne _ hxK) (by simpa using hI)
    rw [← List.map_append] at hstep
    have hsub' : ∀ y ∈ l1 ++ l2, y ∈ m.lk := fun y hy => hsub y (by rcases List.mem_append.1 hy with q | q <;> simp [q])
    have hsK : best ≠ [] → ∃ bb lb, mget m.lk best = some (some bb) ∧ Blk w3 bb 65 (lnV lb) ∧ sinceK t.K best = lb.since := fun hbn => by
      rcases hI with ⟨q, _⟩ | ⟨lb, q1, _⟩
      · exact absurd q hbn
      · obtain ⟨bb, g1, g2, g3⟩ := (h.ext e3).kl _ _ q1
        exact ⟨bb, lb, g1, g2, by unfold sinceK; rw [q1]; rfl⟩
    clear hblk it hI
    simp only [hlx] at hstep
    unfold idlStep at hstep
    simp only at hstep
    repeat (first | refine T_seq ?_ | refine T_region ?_ | refine T_cond_true rfl ?_ | refine T_block ?_ | refine T_skip ?_ | refine TL_nil ?_ | refine TL_move (hk := ?_) | refine TL_assign (hk := ?_) | refine TL_extract (hk := ?_) | refine TL_entry (hk := ?_))
    rw [hpx]
    by_cases hs : l.st = 3
    · by_cases hp : 0 < l.pins
      · rw [if_neg (fun q => by have := q.1; unfold idleE at this; simp at this; omega)] at hstep
        repeat (first | refine T_cond_true rfl ?_ | refine T_exit rfl ?_ | refine TL_gt_t (hk := ?_) | refine TL_ne_f (hk := ?_) | refine TL_nil ?_ | refine TL_move (hk := ?_) | refine TL_load TE (hk := ?_) | refine TL_fieldAddr TE (hk := ?_) | refine TL_yes (hk := ?_) | refine TL_pick_f (hk := ?_) | refine TL_nilCheck (hk := ?_))
        exact ih (best, l1 ++ l2) w3 _ (by simp) ⟨e3, it3, hstep, hsub'⟩ (.c rfl (.c rfl (.c rfl (.n))))
      · have hid : idleE l = true := by unfold idleE; simp [hs]; omega
        by_cases hbe : best = []
        · subst hbe
          rw [if_pos ⟨hid, .inl rfl⟩] at hstep
          have hse : ofL ([] : Tx) = (⟨#[]⟩ : ByteArray) := rfl
          repeat (first | refine T_seq ?_ | refine T_region_q TE.mixed (by kernel_rfl) ?_ | refine T_cond_false rfl ?_ | refine T_skip ?_ | refine TL_gt_f (hk := ?_) | refine TL_ne_f (hk := ?_) | refine TL_seq_t (hk := ?_) | refine TL_nil ?_ | refine TL_move (hk := ?_) | refine TL_load TE (hk := ?_) | refine TL_fieldAddr TE (hk := ?_) | refine TL_yes (hk := ?_) | refine TL_no (hk := ?_) | refine TL_pick_t (hk := ?_) | refine TL_pick_f (hk := ?_) | refine TL_nilCheck (hk := ?_))
          refine TL_nil_q ?_; intro w4 e4
          repeat (first | refine T_region ?_ | refine T_cond_true rfl ?_ | refine T_inBlock ?_ | refine TL_nil ?_ | refine TL_move (hk := ?_) | refine TL_assign (hk := ?_))
          exact ih (x.1, l1 ++ l2) w4 _ (by simp) ⟨e3.ext e4, it3.be e4, hstep, hsub'⟩ (.c rfl (.c rfl (.c rfl (.n))))
        · have hse := ofL_ne hbe
          obtain ⟨bb, lb, hlk, hbb, hsb⟩ := hsK hbe
          rw [hsb] at hstep
          unfold lnV at hbb
          by_cases h1 : l.since < lb.since
          · rw [if_pos ⟨hid, .inr (.inl h1)⟩] at hstep
            repeat (first | refine T_seq ?_ | refine T_region_q TE.mixed (by kernel_rfl) ?_ | refine T_cond_false rfl ?_ | refine T_skip ?_ | refine TL_gt_f (hk := ?_) | refine TL_ne_f (hk := ?_) | refine TL_seq_f (hk := ?_) | refine TL_nil ?_ | refine TL_move (hk := ?_) | refine TL_load TE (hk := ?_) | refine TL_fieldAddr TE (hk := ?_) | refine TL_yes (hk := ?_) | refine TL_pick_f (hk := ?_) | refine TL_nilCheck (hk := ?_))
            refine TL_lookup TE ((none : Option Nat)) (hk := ?_)
            rw [hlk]
            repeat (first | refine TL_lt_t (hk := ?_) | refine TL_move (hk := ?_) | refine TL_load TE (hk := ?_) | refine TL_fieldAddr TE (hk := ?_) | refine TL_yes (hk := ?_) | refine TL_no (hk := ?_) | refine TL_pick_t (hk := ?_) | refine TL_pick_f (hk := ?_) | refine TL_nilCheck (hk := ?_))
            refine TL_nil_q ?_; intro w4 e4
            repeat (first | refine T_region ?_ | refine T_cond_true rfl ?_ | refine T_inBlock ?_ | refine TL_nil ?_ | refine TL_move (hk := ?_) | refine TL_assign (hk := ?_))
            exact ih (x.1, l1 ++ l2) w4 _ (by simp) ⟨e3.ext e4, it3.be e4, hstep, hsub'⟩ (.c rfl (.c rfl (.c rfl (.n))))
          · by_cases h2 : l.since = lb.since
            · have h2' : (l.since : Int) = (lb.since : Int) := by omega
              by_cases h3 : x.1 < best
              · rw [if_pos ⟨hid, .inr (.inr ⟨h2, h3⟩)⟩] at hstep
                repeat (first | refine T_seq ?_ | refine T_region_q TE.mixed (by kernel_rfl) ?_ | refine T_cond_false rfl ?_ | refine T_skip ?_ | refine TL_gt_f (hk := ?_) | refine TL_ne_f (hk := ?_) | refine TL_seq_f (hk := ?_) | refine TL_nil ?_ | refine TL_move (hk := ?_) | refine TL_load TE (hk := ?_) | refine TL_fieldAddr TE (hk := ?_) | refine TL_yes (hk := ?_) | refine TL_pick_f (hk := ?_) | refine TL_nilCheck (hk := ?_))
                refine TL_lookup TE ((none : Option Nat)) (hk := ?_)
                rw [hlk]
                repeat (first | refine TL_lt_f (hk := ?_) | refine TL_move (hk := ?_) | refine TL_load TE (hk := ?_) | refine TL_fieldAddr TE (hk := ?_) | refine TL_yes (hk := ?_) | refine TL_pick_f (hk := ?_) | refine TL_nilCheck (hk := ?_))
                refine TL_lookup TE ((none : Option Nat)) (hk := ?_)
                rw [hlk]
                repeat (first | refine TL_eq_t (hk := ?_) | refine TL_slt_t (hk := ?_) | refine TL_move (hk := ?_) | refine TL_load TE (hk := ?_) | refine TL_fieldAddr TE (hk := ?_) | refine TL_yes (hk := ?_) | refine TL_pick_t (hk := ?_) | refine TL_pick_f (hk := ?_) | refine TL_nilCheck (hk := ?_))
                refine TL_nil_q ?_; intro w4 e4
                repeat (first | refine T_region ?_ | refine T_cond_true rfl ?_ | refine T_inBlock ?_ | refine TL_nil ?_ | refine TL_move (hk := ?_) | refine TL_assign (hk := ?_))
                exact ih (x.1, l1 ++ l2) w4 _ (by simp) ⟨e3.ext e4, it3.be e4, hstep, hsub'⟩ (.c rfl (.c rfl (.c rfl (.n))))
              · rw [if_neg (fun q => by rcases q.2 with q | q | q; exact hbe q; exact h1 q; exact h3 q.2)] at hstep
                repeat (first | refine T_seq ?_ | refine T_region_q TE.mixed (by kernel_rfl) ?_ | refine T_cond_false rfl ?_ | refine T_skip ?_ | refine TL_gt_f (hk := ?_) | refine TL_ne_f (hk := ?_) | refine TL_seq_f (hk := ?_) | refine TL_nil ?_ | refine TL_move (hk := ?_) | refine TL_load TE (hk := ?_) | refine TL_fieldAddr TE (hk := ?_) | refine TL_yes (hk := ?_) | refine TL_pick_f (hk := ?_) | refine TL_nilCheck (hk := ?_))
                refine TL_lookup TE ((none : Option Nat)) (hk := ?_)
                rw [hlk]
                repeat (first | refine TL_lt_f (hk := ?_) | refine TL_move (hk := ?_) | refine TL_load TE (hk := ?_) | refine TL_fieldAddr TE (hk := ?_) | refine TL_yes (hk := ?_) | refine TL_pick_f (hk := ?_) | refine TL_nilCheck (hk := ?_))
                refine TL_lookup TE ((none : Option Nat)) (hk := ?_)
                rw [hlk]
                repeat (first | refine TL_eq_t (hk := ?_) | refine TL_slt_f (hk := ?_) | refine TL_move (hk := ?_) | refine TL_load TE (hk := ?_) | refine TL_fieldAddr TE (hk := ?_) | refine TL_yes (hk := ?_) | refine TL_pick_t (hk := ?_) | refine TL_pick_f (hk := ?_) | refine TL_nilCheck (hk := ?_))
                refine TL_nil_q ?_; intro w4 e4
                repeat (first | refine T_cond_false rfl ?_ | refine T_inBlock ?_ | refine T_skip ?_)
                exact ih (best, l1 ++ l2) w4 _ (by simp) ⟨e3.ext e4, it3.be e4, hstep, hsub'⟩ (.c rfl (.c rfl (.c rfl (.n))))
            · rw [if_neg (fun q => by rcases q.2 with q | q | q; exact hbe q; exact h1 q; exact h2 q.1)] at hstep
              have h2' : ¬ (l.since : Int) = (lb.since : Int) := by omega
              repeat (first | refine T_seq ?_ | refine T_region_q TE.mixed (by kernel_rfl) ?_ | refine T_cond_false rfl ?_ | refine T_skip ?_ | refine TL_gt_f (hk := ?_) | refine TL_ne_f (hk := ?_) | refine TL_seq_f (hk := ?_) | refine TL_nil ?_ | refine TL_move (hk := ?_) | refine TL_load TE (hk := ?_) | refine TL_fieldAddr TE (hk := ?_) | refine TL_yes (hk := ?_) | refine TL_pick_f (hk := ?_) | refine TL_nilCheck (hk := ?_))
              refine TL_lookup TE ((none : Option Nat)) (hk := ?_)
              rw [hlk]
              repeat (first | refine TL_lt_f (hk := ?_) | refine TL_move (hk := ?_) | refine TL_load TE (hk := ?_) | refine TL_fieldAddr TE (hk := ?_) | refine TL_yes (hk := ?_) | refine TL_pick_f (hk := ?_) | refine TL_nilCheck (hk := ?_))
              refine TL_lookup TE ((none : Option Nat)) (hk := ?_)
              rw [hlk]
              repeat (first | refine TL_eq_f (hk := ?_) | refine TL_move (hk := ?_) | refine TL_load TE (hk := ?_) | refine TL_fieldAddr TE (hk := ?_) | refine TL_yes (hk := ?_) | refine TL_no (hk := ?_) | refine TL_pick_f (hk := ?_) | refine TL_nilCheck (hk := ?_))
              refine TL_nil_q ?_; intro w4 e4
              repeat (first | refine T_cond_false rfl ?_ | refine T_inBlock ?_ | refine T_skip ?_)
              exact ih (best, l1 ++ l2) w4 _ (by simp) ⟨e3.ext e4, it3.be e4, hstep, hsub'⟩ (.c rfl (.c rfl (.c rfl (.n))))
    · rw [if_neg (fun q => by have := q.1; unfold idleE at this; simp at this; omega)] at hstep
      repeat (first | refine T_cond_true rfl ?_ | refine T_exit rfl ?_ | refine TL_ne_t (hk := ?_) | refine TL_nil ?_ | refine TL_move (hk := ?_) | refine TL_load TE (hk := ?_) | refine TL_fieldAddr TE (hk := ?_) | refine TL_no (hk := ?_) | refine TL_pick_t (hk := ?_) | refine TL_nilCheck (hk := ?_))
      exact ih (best, l1 ++ l2) w3 _ (by simp) ⟨e3, it3, hstep, hsub'⟩ (.c rfl (.c rfl (.c rfl (.n))))
theorem TierM.withP (h : TierM w base m f t) (s : Nat) : (m.lk.filter fun x => decide ((lnOf t x.1).st = s)).map (·.1) = withE t s := by
  have e1 : (m.lk.filter fun x => decide ((lnOf t x.1).st = s)).map (·.1) = (m.lk.map (·.1)).filter fun k => decide ((lnOf t k).st = s) := by rw [List.filter_map]; rfl
  rw [e1, h.kk, List.filter_map]
  unfold withE
  congr 1
  apply List.filter_congr
  intro x hx
  simp only [Function.comp_def, lnOf, mget_of h.kn hx, Option.getD_some]
def sortT (l : List Tx) : List Tx := l.mergeSort le2
abbrev TxRow (w : World) (base : Nat) (x : SL) (l : List Tx) : Prop := Own w base 9 1 x.1 x.2.1 x.2.2 (sv l)
theorem with_c (s : Nat) (w : World) (h : TierM w base m f t) (hK : t.K.length ≤ 1000000) :
    Ret Try.prog 38 [pB m.p, .int .i64 (s : Int)] w (fun v w' => ∃ x, v = sL x ∧ Ext w w' ∧ TxRow w' w.heap.size x (sortT (withE t s))) := by
  have hb := h.blk
  unfold tierV at hb
  have mp := h.mp
  have hwp := h.withP s
  have hkl := h.klen
  have lb := h.mp.lt
  refine ret_T (n := 33) Try.func38 rfl rfl ?_
  repeat (first | refine T_seq ?_ | refine T_region ?_ | refine T_cond_false rfl ?_ | refine T_skip ?_ | refine TL_pnil_f TE (hk := ?_) | refine TL_nil ?_ | refine TL_move (hk := ?_) | refine TL_assign (hk := ?_) | refine TL_load TE (hk := ?_) | refine TL_fieldAddr TE (hk := ?_) | refine TL_nilCheck (hk := ?_))
  refine TL_range TE (.string) (hk := ?_); intro r w1 e1 hr1 hr2 it
  have z1 := e1.size
  repeat (first | refine T_block ?_ | refine TL_nil ?_)
  refine T_loop (ι := SL × List Tx × List (Tx × Option Nat)) (fun i => [(14, .pointer (some ⟨r, 0, none⟩)), (5, sL i.1), (1, .int .i64 (s : Int))])
    (fun i w' => Ext w w' ∧ It w' r m.kb tK pV m.lk i.2.2 ∧ TxRow w' w.heap.size i.1 i.2.1 ∧ r ∉ blkL i.1.1 ∧ (i.2.1 ++ (i.2.2.filter fun x => decide ((lnOf t x.1).st = s)).map (·.1)).Perm (withE t s) ∧ i.2.1.length + i.2.2.length ≤ t.K.length ∧ ∀ x ∈ i.2.2, x ∈ m.lk) (fun i => i.2.2.length) ((none, 0, 0), [], m.lk) (.c rfl (.c rfl (.c rfl (.n)))) ⟨e1, it, Own.nil _ _ _ _, by simp [blkL], by rw [List.nil_append, hwp], by simp only [List.length_nil]; omega, fun x hx => hx⟩ ?_
  clear it hb mp
  rintro ⟨y, acc, left⟩ w2 ⟨e2, it, ry, hry, hpm, hln, hsub⟩ ih
  simp only at it ry hry hpm hln hsub ih ⊢
  have lr := it.lt
  have hyl : acc.length = y.2.1 := by have := ry.len; simpa using this
  repeat (first | refine T_seq ?_ | refine T_region ?_)
  refine TL_next (h0 := ?_) (h1 := ?_)
  · rintro rfl
    simp only [List.filter_nil, List.map_nil, List.append_nil] at hpm
    repeat (first | refine T_seq ?_ | refine T_region ?_ | refine T_cond_false rfl ?_ | refine T_exit rfl ?_ | refine TL_nil ?_ | refine TL_move (hk := ?_) | refine TL_extract (hk := ?_))
    refine TL_call TE (hc := Sort_c y.1 y.2.1 y.2.2 _ acc w2 ry (by omega)) (hk := ?_)
    rintro _ w3 ⟨rfl, m3, o3⟩
    repeat (first | refine T_seq ?_ | refine T_region ?_ | refine TL_nil ?_ | refine TL_move (hk := ?_) | refine TL_assign (hk := ?_))
    refine T_ret1 rfl rfl ⟨y, rfl, e2.own m3 ry.hi, ?_⟩
    have : acc.mergeSort le2 = sortT (withE t s) := mergeSort_of_perm hpm
    rw [← this]
    exact o3
  · rintro l1 x l2 w3 rfl m3 s3 it3 cur
    obtain ⟨b, l, hx2, hl, hblk, hf⟩ := (h.ext e2).item (hsub x (by simp))
    have hr0 : oo f r = 0 := h.new0 hr1
    have hbr : b ∉ [r] := fun q => by rw [List.mem_singleton] at q; rw [q] at hf; rw [oo_of hf] at hr0; cases hr0
    have e3 : Ext w w3 := Mod.step e2 m3 (by simp; omega)
    have hb3 := hblk.mod m3 hbr
    unfold lnV at hb3
    have ry3 := ry.modL m3 (fun b hb q => by rw [List.mem_singleton] at q; exact hry (q ▸ hb))
    have hlx : lnOf t x.1 = l := by unfold lnOf; rw [hl]; rfl
    have hpx : pV x.2 = pB b := by rw [hx2]; rfl
    have hsub' : ∀ y ∈ l1 ++ l2, y ∈ m.lk := fun y hy => hsub y (by rcases List.mem_append.1 hy with q | q <;> simp [q])
    simp only [List.length_append, List.length_cons] at hln
    rw [List.filter_append, List.filter_cons, hlx] at hpm
    clear hblk it
    repeat (first | refine T_seq ?_ | refine T_region ?_ | refine T_cond_true rfl ?_ | refine T_block ?_ | refine T_skip ?_ | refine TL_nil ?_ | refine TL_move (hk := ?_) | refine TL_assign (hk := ?_) | refine TL_extract (hk := ?_) | refine TL_entry (hk := ?_))
    rw [hpx]
    by_cases hs : l.st = s
    · have hs' : (l.st : Int) = (s : Int) := by omega
      have hz3 := e3.size
      repeat (first | refine T_region ?_ | refine T_cond_true rfl ?_ | refine TL_eq_t (hk := ?_) | refine TL_nil ?_ | refine TL_move (hk := ?_) | refine TL_load TE (hk := ?_) | refine TL_fieldAddr TE (hk := ?_) | refine TL_nilCheck (hk := ?_))
      refine TL_buildSlice TE (hk := ?_); intro b5 w5 e5 h51 h52 k5
      replace k5 : Blk w5 b5 9 (sv [x.1]) := k5
      have r5 : Rd w5 (some ⟨b5, 0, none⟩) 1 1 (sv [x.1]) := Rd.blk k5 rfl
      have ry5 := Own.be e5 ry3
      have z5 := e5.size
      --
      refine TL_append TE (ho := ry5) (hr := r5) (h1 := sv_one _) (hk := ?_); intro A6 c6 w6 o6 m6 n6
      rw [← sv_append] at o6
      have lr3 := it3.lt
      rw [if_pos (by simpa using hs)] at hpm
      repeat (first | refine T_inBlock ?_ | refine TL_nil ?_ | refine TL_assign (hk := ?_))
      refine ih ((A6, y.2.1 + 1, c6), acc ++ [x.1], l1 ++ l2) w6 _ (by simp) ⟨(e3.ext e5).own m6 ry.hi, (it3.be e5).mod m6 hry (fun q => by have := (ry.bl _ q).1; omega), o6, fun q => ?_, ?_, by simp only [List.length_append, List.length_cons, List.length_nil]; omega, hsub'⟩ (.c rfl (.c rfl (.c rfl (.n))))
      · rcases n6.mem r q with q | q
        · exact hry q
        · omega
      · refine List.Perm.trans ?_ hpm
        simp only [List.map_append, List.map_cons, List.append_assoc, List.cons_append, List.nil_append, List.filter_append]
        exact List.Perm.append_left acc List.perm_middle.symm
    · have hs' : ¬ (l.st : Int) = (s : Int) := by omega
      rw [if_neg (by simpa using hs)] at hpm
      repeat (first | refine T_cond_false rfl ?_ | refine T_inBlock ?_ | refine T_skip ?_ | refine TL_eq_f (hk := ?_) | refine TL_nil ?_ | refine TL_move (hk := ?_) | refine TL_load TE (hk := ?_) | refine TL_fieldAddr TE (hk := ?_) | refine TL_nilCheck (hk := ?_))
      refine ih (y, acc, l1 ++ l2) w3 _ (by simp) ⟨e3, it3, ry3, hry, ?_, by simp only [List.length_append]; omega, hsub'⟩ (.c rfl (.c rfl (.c rfl (.n))))
      rw [List.filter_append]
      exact hpm
end
end Go.Proofs.Ythiacmmkfngpbaa

namespace Go.Proofs.Ythiacmmkfngpbaa
open Go.RowKit Go.Proofs.Eng Go.Proofs.Foot Go.Proofs.Cold
set_option linter.unusedSimpArgs false
set_option linter.unusedVariables false set_option maxRecDepth 10000
attribute [local irreducible] T TL LV TH TA
set_option maxHeartbeats 3200000
section
variable {w w' : World} {base : Nat} {m : CM} {f : Nat → Oo} {t : CS} {pc : Tx → Nat}
theorem blkL_cut {A : Option Addr} {c l s : Nat} : ∀ b ∈ blkL (cutA A c l s), b ∈ blkL A := fun b hb => by
  unfold cutA at hb
  split at hb
  · exact hb
  · cases A with
    | none => exact hb
    | some a =>
      simp only [Option.map_some, blkL, List.mem_singleton] at hb ⊢
      rw [hb]
      unfold Addr.add
      split <;> rfl
theorem takeL_z (t : CS) (n : Nat) : takeL (n + 1) t = (match t.wt with
    | [] => t
    | k :: r => if cntE isF t.K < t.lines then
        (if t.room ≤ cntE isNW t.K then (if idl t.K = [] then t else takeL n (fetchE { t with K := mdel t.K (idl t.K) } k r)) else takeL n (fetchE t k r))
      else t) := rfl
theorem takeL_c {t : CS} {n : Nat} {k : Tx} {r : List Tx} (h : t.wt = k :: r) : takeL (n + 1) t = if cntE isF t.K < t.lines then (if t.room ≤ cntE isNW t.K then (if idl t.K = [] then t else takeL n (fetchE { t with K := mdel t.K (idl t.K) } k r)) else takeL n (fetchE t k r)) else t := by rw [takeL_z, h]
theorem take_c (w : World) (h : TierM w base m f t) (hk : KOk t.room t.lines t.delay t.K t.wt pc) (hd : 1 ≤ t.delay ∧ t.delay ≤ 1000) (hr : t.room ≤ 4096) (hl : t.lines ≤ 64) (hK : t.K.length ≤ 1000000) (hF : t.fet + t.wt.length ≤ 4611686018427387904) :
    Ret Try.prog 36 [pB m.p] w (fun v w' => ∃ m' f', m'.p = m.p ∧ TierM w' base m' f' (takeE t) ∧ Tn (oo f) (oo f') w w') := by
  refine ret_T (n := 71) Try.func36 rfl rfl ?_
  repeat (refine T_block ?_)
  refine T_loop (ι := CS) (fun _ => [(0, pB m.p)]) (fun t1 w' => ∃ m' f', m'.p = m.p ∧ TierM w' base m' f' t1 ∧ Tn (oo f) (oo f') w w' ∧ KOk t1.room t1.lines t1.delay t1.K t1.wt pc ∧ t1.room = t.room ∧ t1.lines = t.lines ∧ t1.delay = t.delay ∧ t1.K.length ≤ t.K.length ∧ t1.fet + t1.wt.length ≤ t.fet + t.wt.length ∧ takeE t1 = takeE t) (fun t1 => t1.wt.length) t (.c rfl (.n)) ⟨m, f, rfl, h, Tn.refl _ _, hk, rfl, rfl, rfl, Nat.le_refl _, Nat.le_refl _, rfl⟩ ?_
  clear h hk
  rintro t1 w1 ⟨m1, f1, hp1, h1, t1n, k1, er, el, ed, hK1, hF1, hT⟩ ih
  have hb := h1.blk
  unfold tierV at hb
  rw [hp1] at hb
  have hwl := h1.wl
  have cF := fun w' (e : Ext w1 w') => count_c 50 isF w' (h1.ext e) (by omega) rfl (fun b l w' hb => clisF_c b l w' hb)
  have cN := fun w' (e : Ext w1 w') => count_c 51 isNW w' (h1.ext e) (by omega) rfl (fun b l w' hb => clisNW_c b l w' hb)
  rw [hp1] at cF cN
  cases hw : t1.wt with
  | nil =>
    rw [hw, List.length_nil] at hwl
    have hfin : takeE t = t1 := by rw [← hT]; unfold takeE; rw [hw]; rfl
    clear ih
    repeat (first | refine T_seq ?_ | refine T_region_q TE.mixed (by kernel_rfl) ?_ | refine TL_gt_f (hk := ?_) | refine TL_move (hk := ?_) | refine TL_load TE (hk := ?_) | refine TL_fieldAddr TE (hk := ?_) | refine TL_len TE (hk := ?_) | refine TL_no (hk := ?_) | refine TL_pick_f (hk := ?_) | refine TL_nilCheck (hk := ?_))
    refine TL_nil_q ?_; intro w2 e2
    repeat (first | refine T_cond_false rfl ?_ | refine T_exit rfl ?_)
    exact T_end0 rfl ⟨m1, f1, hp1, by rw [hfin]; exact h1.ext e2, t1n.trans (Tn.ext e2)⟩
  | cons k r =>
    rw [hw, List.length_cons] at hwl hF1
    by_cases g1 : cntE isF t1.K < t1.lines
    · have g1' : (cntE isF t1.K : Int) < (t1.lines : Int) := by omega
      repeat (first | refine T_seq ?_ | refine T_region_q TE.mixed (by kernel_rfl) ?_ | refine TL_gt_t (hk := ?_) | refine TL_move (hk := ?_) | refine TL_load TE (hk := ?_) | refine TL_fieldAddr TE (hk := ?_) | refine TL_len TE (hk := ?_) | refine TL_yes (hk := ?_) | refine TL_nilCheck (hk := ?_))
      refine TL_call_q TE rfl rfl rfl (cF) ?_
      repeat (first | refine TL_lt_t (hk := ?_) | refine TL_move (hk := ?_) | refine TL_load TE (hk := ?_) | refine TL_fieldAddr TE (hk := ?_) | refine TL_yes (hk := ?_) | refine TL_pick_t (hk := ?_) | refine TL_nilCheck (hk := ?_))
      refine TL_nil_q ?_; intro w2 e2
      have h2 := h1.ext e2
      have t2n := t1n.trans (Tn.ext e2)
      repeat (first | refine T_cond_true rfl ?_ | refine T_block ?_ | refine T_skip ?_)
      refine T_seq ?_
      refine T_join (ι := Unit) (fun _ => [(0, pB m.p)]) (fun _ w' => ∃ t2 m' f', m'.p = m.p ∧ TierM w' base m' f' t2 ∧ Tn (oo f) (oo f') w w' ∧ KOk t2.room t2.lines t2.delay t2.K t2.wt pc ∧ t2.room = t.room ∧ t2.lines = t.lines ∧ t2.delay = t.delay ∧ t2.K.length ≤ t.K.length ∧ t2.fet = t1.fet ∧ t2.wt = k :: r ∧ cntE isF t2.K < t2.lines ∧ cntE isNW t2.K < t2.room ∧ takeL r.length (fetchE t2 k r) = takeE t) (fun kk join => ?_) ?_
      · clear ih
        replace cN := fun w' (e : Ext w2 w') => cN w' (e2.ext e)
        replace hb := hb.be e2
        have hun : takeE t = takeL (r.length + 1) t1 := by rw [← hT]; unfold takeE; rw [hw, List.length_cons]
        by_cases g2 : t1.room ≤ cntE isNW t1.K
        · have g2' : (cntE isNW t1.K : Int) ≥ (t1.room : Int) := by omega
          have hI := idlest_c w2 h2 k1.ne'
          rw [hp1] at hI
          repeat (first | refine T_seq ?_ | refine T_region_q TE.mixed (by kernel_rfl) ?_ | refine TL_move (hk := ?_))
          refine TL_call_q TE rfl rfl rfl (cN) ?_
          repeat (first | refine TL_ge_t (hk := ?_) | refine TL_move (hk := ?_) | refine TL_load TE (hk := ?_) | refine TL_fieldAddr TE (hk := ?_) | refine TL_nilCheck (hk := ?_))
          refine TL_nil_q ?_; intro w3 e3
          have h3 := h2.ext e3
          have hI := idlest_c w3 h3 k1.ne'
          rw [hp1] at hI
          repeat (first | refine T_seq ?_ | refine T_region ?_ | refine T_cond_true rfl ?_ | refine TL_move (hk := ?_))
          refine TL_call TE (hc := hI) (hk := ?_)
          rintro _ w4 ⟨rfl, e4⟩
          have h4 := h3.ext e4
          have t4n := t2n.trans (Tn.ext (e3.ext e4))
          by_cases g3 : idl t1.K = []
          · have hse : ofL (idl t1.K) = (⟨#[]⟩ : ByteArray) := by rw [g3]; rfl
            have hfin : takeE t = t1 := by rw [hun, takeL_c hw, if_pos g1, if_pos g2, if_pos g3]
            repeat (first | refine T_seq ?_ | refine T_region ?_ | refine T_cond_true rfl ?_ | refine TL_seq_t (hk := ?_) | refine TL_nil ?_ | refine TL_move (hk := ?_) | refine TL_assign (hk := ?_))
            exact T_ret0 rfl ⟨m1, f1, hp1, by rw [hfin]; exact h4, t4n⟩
          · have hse := ofL_ne g3
            have hb4 := h4.blk
            unfold tierV at hb4
            rw [hp1] at hb4
            have mp4 := h4.mp
            repeat (first | refine T_seq ?_ | refine T_region ?_ | refine T_cond_false rfl ?_ | refine T_skip ?_ | refine TL_seq_f (hk := ?_) | refine TL_nil ?_ | refine TL_move (hk := ?_) | refine TL_assign (hk := ?_) | refine TL_load TE (hk := ?_) | refine TL_fieldAddr TE (hk := ?_) | refine TL_nilCheck (hk := ?_))
            refine TL_delete TE (hk := ?_); intro w5 m5 z5 mp5
            obtain ⟨h5, t5⟩ := h4.delLine m5 mp5
            rcases idl_is k1.nd k1.ne' with ⟨q, _⟩ | ⟨l, hq, hi, _, _⟩
            · exact absurd q g3
            obtain ⟨a1, a2, a3, _⟩ := k1.evict hq hi
            have hnw := k1.nw
            have hfin : takeE t = takeL r.length (fetchE { t1 with K := mdel t1.K (idl t1.K) } k r) := by rw [hun]; rw [takeL_c hw, if_pos g1, if_pos g2, if_neg g3]
            have hld := len_del (l := t1.K) (idl t1.K)
            repeat (refine TL_nil ?_)
            exact T.sub (join () _ ⟨{ t1 with K := mdel t1.K (idl t1.K) }, { m1 with lk := mdel m1.lk (idl t1.K) }, f1, hp1, h5, t4n.trans t5, a1, er, el, ed, Nat.le_trans hld hK1, rfl, hw, by simp only; omega, by simp only; omega, hfin.symm⟩) (.c rfl (.n))
        · have g2' : ¬ (cntE isNW t1.K : Int) ≥ (t1.room : Int) := by omega
          have hfin : takeE t = takeL r.length (fetchE t1 k r) := by rw [hun]; rw [takeL_c hw, if_pos g1, if_neg g2]
          repeat (first | refine T_seq ?_ | refine T_region_q TE.mixed (by kernel_rfl) ?_ | refine TL_move (hk := ?_))
          refine TL_call_q TE rfl rfl rfl (cN) ?_
          repeat (first | refine TL_ge_f (hk := ?_) | refine TL_move (hk := ?_) | refine TL_load TE (hk := ?_) | refine TL_fieldAddr TE (hk := ?_) | refine TL_nilCheck (hk := ?_))
          refine TL_nil_q ?_; intro w3 e3
          repeat (first | refine T_cond_false rfl ?_ | refine T_skip ?_)
          exact T.sub (join () _ ⟨t1, m1, f1, hp1, h2.ext e3, t2n.trans (Tn.ext e3), k1, er, el, ed, hK1, rfl, hw, g1, by omega, hfin.symm⟩) (.c rfl (.n))
      clear h1 h2 k1 hb cF cN t1n t2n g1 g1' hT
      rintro _ w5 ⟨t2, m2, f2, hp2, h2, t2n, k2, er2, el2, ed2, hK2, hF2, hw2, g1, g2, hT⟩
      have hb := h2.blk
      unfold tierV at hb
      rw [hp2] at hb
      have mp2 := h2.mp
      have hwo := h2.wo
      rw [hw2] at hwo
      have hwr := hwo.rd
      have hwl2 := h2.wl
      rw [hw2, List.length_cons] at hwl2
      have hwc := hwo.cap
      unfold maxLen at hwc
      obtain ⟨l, hl, hls⟩ := (k2.wk k).1 (by rw [hw2]; exact List.mem_cons_self)
      obtain ⟨b, hlk, hblk, hfb⟩ := h2.kl _ _ hl
      have hv : (sv (k :: r))[0]? = some (.string (ofL k)) := by simp [sv]
      have hwn : m2.ws.1 ≠ none := by obtain ⟨_, _, hq, _⟩ := hwr.2 (by omega); rw [hq]; simp
      have hcut := hwo.cut (l := 1) (by omega)
      rw [show (sv (k :: r)).drop (1 * 1) = sv r by simp [sv]] at hcut
      repeat (first | refine T_seq ?_ | refine T_region_q TE.mixed (by kernel_rfl) ?_ | refine TL_move (hk := ?_) | refine TL_load TE (hk := ?_) | refine TL_load_rd TE (hk := ?_) | refine TL_fieldAddr TE (hk := ?_) | refine TL_indexAddr1n TE (hk := ?_) | refine TL_nilCheck (hk := ?_))
      refine TL_lookup TE ((none : Option Nat)) (hk := ?_)
      rw [hlk]
      repeat (refine TL_assign (hk := ?_))
      refine TL_nil_q ?_; intro w6 e6
      have h6 := h2.ext e6
      have hb6 := hb.be e6
      have hwr6 := hwr.be e6
      clear hb hwr
      repeat (first | refine T_seq ?_ | refine T_region ?_ | refine TL_move (hk := ?_) | refine TL_load TE (hk := ?_) | refine TL_fieldAddr TE (hk := ?_) | refine TL_nilCheck (hk := ?_) | refine TL_slice_lo TE (hk := ?_))
      refine TL_store TE (hk := ?_); intro w7 m7 z7 k7
      rw [← hp2] at m7 k7
      obtain ⟨f7, h7, t7⟩ := h6.setW (y := (cutA m2.ws.1 m2.ws.2.2 1 1, m2.ws.2.1 - 1, m2.ws.2.2 - 1)) (wt' := r) (Mod.refl _ _) (hcut.ext e6) (fun b q => .inl (blkL_cut b q)) m7 k7
      obtain ⟨b7, hlk7, hblk7, hfb7⟩ := h7.kl _ _ hl
      have hbb : b7 = b := by rw [hlk] at hlk7; exact (Option.some.inj (Option.some.inj hlk7)).symm
      subst hbb
      unfold lnV at hblk7
      have hb7 := h7.blk
      unfold tierV at hb7
      simp only at hb7
      rw [hp2] at hb7
      have hpb : m.p ∉ [b7] := fun q => by rw [List.mem_singleton, ← hp2] at q; rw [← q] at hfb7; have := h7.fp; simp only at this; rw [this] at hfb7; simp at hfb7
      repeat (first | refine T_seq ?_ | refine T_region ?_ | refine TL_nil ?_ | refine TL_move (hk := ?_) | refine TL_load TE (hk := ?_) | refine TL_fieldAddr TE (hk := ?_) | refine TL_nilCheck (hk := ?_))
      refine TL_store TE (hk := ?_); intro w8 m8 z8 k8
      have hb8 := hb7.mod m8 hpb
      repeat (first | refine TL_fieldAddr TE (hk := ?_) | refine TL_nilCheck (hk := ?_))
      refine TL_store TE (hk := ?_); intro w9 m9 z9 k9
      have M9 := m8.trans m9
      replace k9 : Blk w9 b7 65 (lnV { l with st := 2, left := t2.delay }) := k9
      obtain ⟨h9, t9⟩ := h7.setLine (k := k) (l := { l with st := 2, left := t2.delay }) (by rw [hl]; simp) hlk7 M9 k9
      have hb9 := h9.blk
      unfold tierV at hb9
      simp only at hb9
      rw [hp2] at hb9
      have hfc : (t2.fet : Int) + 1 = ((t2.fet + 1 : Nat) : Int) := by omega
      repeat (first | refine T_region ?_ | refine TL_add (hk := ?_) | refine TL_nil ?_ | refine TL_move (hk := ?_) | refine TL_load TE (hk := ?_) | refine TL_fieldAddr TE (hk := ?_) | refine TL_nilCheck (hk := ?_))
      rw [hfc]
      --
      refine TL_store TE (hk := ?_); intro w10 m10 z10 k10
      rw [← hp2] at m10 k10
      have hfe : fetchE t2 k r = { t2 with K := mput t2.K k { l with st := 2, left := t2.delay }, wt := r, fet := t2.fet + 1 } := by unfold fetchE; rw [hl]; rfl
      obtain ⟨h10, t10⟩ := h9.nums (t' := fetchE t2 k r) m10 (by rw [hfe]; exact k10) (by rw [hfe]) (by rw [hfe]) (by rw [hfe])
      have hTk := fetch_take hw2 k2 (by omega) g1 g2
      have hkl := hTk.kl
      have hk10 := hTk.k
      repeat (first | refine T_inBlock ?_ | refine TL_nil ?_)
      exact ih (fetchE t2 k r) w10 _ (by rw [hw, hfe]; simp) ⟨{ m2 with ws := (cutA m2.ws.1 m2.ws.2.2 1 1, m2.ws.2.1 - 1, m2.ws.2.2 - 1) }, f7, hp2, h10, (((t2n.trans (Tn.ext e6)).trans t7).trans t9).trans t10, by rw [hTk.er, hTk.el, hTk.ed]; exact hk10, hTk.er.trans er2, hTk.el.trans el2, hTk.ed.trans ed2, Nat.le_trans hkl hK2, by rw [hfe]; simp only; omega, by rw [← hT]; unfold takeE; rw [hfe]⟩ (.c rfl (.n))
    · have g1' : ¬ (cntE isF t1.K : Int) < (t1.lines : Int) := by omega
      have hfin : takeE t = t1 := by rw [← hT]; unfold takeE; rw [hw, List.length_cons]; unfold takeL; rw [hw]; simp only; rw [if_neg g1]
      clear ih
      repeat (first | refine T_seq ?_ | refine T_region_q TE.mixed (by kernel_rfl) ?_ | refine TL_gt_t (hk := ?_) | refine TL_move (hk := ?_) | refine TL_load TE (hk := ?_) | refine TL_fieldAddr TE (hk := ?_) | refine TL_len TE (hk := ?_) | refine TL_yes (hk := ?_) | refine TL_nilCheck (hk := ?_))
      refine TL_call_q TE rfl rfl rfl (cF) ?_
      repeat (first | refine TL_lt_f (hk := ?_) | refine TL_move (hk := ?_) | refine TL_load TE (hk := ?_) | refine TL_fieldAddr TE (hk := ?_) | refine TL_yes (hk := ?_) | refine TL_pick_t (hk := ?_) | refine TL_nilCheck (hk := ?_))
      refine TL_nil_q ?_; intro w2 e2
      repeat (first | refine T_cond_false rfl ?_ | refine T_exit rfl ?_)
      exact T_end0 rfl ⟨m1, f1, hp1, by rw [hfin]; exact h1.ext e2, t1n.trans (Tn.ext e2)⟩
end
end Go.Proofs.Ythiacmmkfngpbaa

/- A store into a stretch of an own row, and its end cleared. -/
namespace Go.Proofs.Eng
open Go.RowKit
set_option linter.unusedSimpArgs false
set_option linter.unusedVariables false
set_option linter.unusedSectionVars false
section
variable {q : Qm} {P : Program} {fn : Func} {R : Ending → World → Prop} {M : Md} {n : Nat} {st : Slots} {k : List Item} {w : World} {ops rest : List Oper}
  {d : Nat} {v : Value} {ty : TypeId} {ps : String} {af : Array Edge} {X V : Operand} {t e : TypeId} {by_ m c base : Nat} {z : Value}
theorem TL_store_seg {A : Option Addr} {j : Nat} {xs : List Value} (E : Env P) (hx : ev st X = some (.pointer (some (adr A j))) := by exact rfl) (hv : ev st V = some v := by exact rfl) (h1 : v.oneCell' = true := by exact rfl) (hi : E.inf t = some (1, by_, z) := by exact rfl)
    (ho : Seg w base e 1 A m c xs) (hj : j < xs.length := by first | assumption | omega | (simp; omega))
    (hf : Fl q (rest.length + 1) := by first | exact trivial | exact rfl) (hq : ∀ w', Mod (blkL A) w w' → w'.heap.size = w.heap.size → Kp q w' := by exact fun _ _ _ => trivial)
    (hk : ∀ w', Mod (blkL A) w w' → w'.heap.size = w.heap.size → Seg w' base e 1 A m c (xs.set j v) → TL q P fn R M n st ops rest k w') :
    TL q P fn R M n st ops (⟨none, .store t X V, ty, ps, af, none⟩ :: rest) k w := by
  obtain ⟨hl, ⟨_, h0, _⟩ | ⟨g, o, cur, hs, hg, hh, hnc, hcm, hcs, htk⟩⟩ := id ho
  · subst h0
    rw [hl] at hj
    simp at hj
  · cases hs
    have hb : Blk w g e cur.toList := by unfold Blk; simpa using hh
    have hj' : o + j < cur.toList.length := by rw [hl] at hj; simp at hj ⊢; omega
    have hx' : ev st X = some (.pointer (some ⟨g, o + j, none⟩)) := hx
    refine TL_store E hx' hv h1 hi hb hj' hf (fun w' m' s' => hq w' (by simpa [blkL] using m') s') (fun w' m' s' b' => hk w' (by simpa [blkL] using m') s' ?_)
    refine ⟨by simpa using hl, .inr ⟨g, o, (cur.toList.set (o + j) v).toArray, rfl, hg, b', hnc, hcm, by simpa using hcs, ?_⟩⟩
    rw [← htk]
    simp only [List.toList_toArray]
    rw [List.drop_set, if_neg (by omega), Nat.add_sub_cancel_left, List.take_set]
theorem run_clear_seg {m c l dn dc : Nat} {xs : List Value} {A : Option Addr} (E : Env P) (ht : E.und t = some (.slice e)) (he : E.inf e = some (1, by_, z)) (hzs : z.cells.size = 1) (h1 : ∀ u ∈ z.cells.toList, u.oneCell' = true)
    (ho : Seg w base e 1 A m c xs) (hl : l + dn = m) :
    ∃ w', (Builtin.clear_ #[t] ty #[.slice (cutA A c l 1) dn dc]).run P w = .ok (.tuple #[]) w' ∧ Mod (blkL A) w w' ∧ w'.heap.size = w.heap.size ∧ Seg w' base e 1 A l c (xs.take l) := by
  rcases Nat.eq_zero_or_pos dn with h0 | h0
  · subst h0
    obtain rfl : l = m := by omega
    refine ⟨w, ?_, Mod.refl _ _, rfl, by rw [List.take_of_length_le (by have := ho.len; omega)]; exact ho⟩
    cases cutA A c l 1 <;> simp [Builtin.clear_, run_underlying (E.und_ok _ _ ht)]
  · obtain ⟨hxl, ⟨_, hz, _⟩ | ⟨g, o, cur, hv, hg, hh, hnc, hcm, hcs, htk⟩⟩ := id ho
    · omega
    · cases hv
      have hcl : ¬ c = l := by omega
      have hca : cutA (some ⟨g, o, none⟩) c l 1 = some ⟨g, o + l, none⟩ := by
        simp only [cutA, hcl, if_false, Option.map_some, Addr.add]
        by_cases h : l * 1 = 0
        · have : l = 0 := by omega
          simp [this]
        · have : ¬ l = 0 := by omega
          simp [this]
      have hb : Blk w g e cur.toList := by unfold Blk; simpa using hh
      have hzl : (Builtin.zeroCells z.cells dn).toList.length = dn := by simp [Builtin.zeroCells, hzs]
      have hz1 : ∀ u ∈ (Builtin.zeroCells z.cells dn).toList, u.oneCell' = true := fun u hu => by
        unfold Builtin.zeroCells at hu
        simp only [Array.toList_map, List.mem_map] at hu
        obtain ⟨i, _, rfl⟩ := hu
        have hlt : i % z.cells.size < z.cells.size := Nat.mod_lt _ (by omega)
        rw [getElem!_pos z.cells _ hlt]
        exact h1 _ (by simp)
      have hcl2 : cur.toList.length = cur.size := Array.length_toList
      have hle : o + l + dn ≤ cur.toList.length := by omega
      obtain ⟨w', g1, g2, g3, g4⟩ := run_storeAll (P := P) (b := g) (o := o + l) (Builtin.zeroCells z.cells dn).toList cur.toList 0 w hb (by omega) hz1
      rw [Nat.add_zero] at g4
      obtain ⟨dm, hdm⟩ : ∃ dm, dn = dm + 1 := ⟨dn - 1, by omega⟩
      refine ⟨w', ?_, g2, g3, ?_⟩
      · rw [hca]
        subst hdm
        simp only [Builtin.clear_]
        simp [run_underlying (E.und_ok _ _ ht), run_zero' (E.inf_ok _ _ _ _ he), g1]
      · refine ⟨?_, .inr ⟨g, o, _, rfl, hg, g4, by omega, hcm, ?_, ?_⟩⟩
        · rw [List.length_take, hxl]
          omega
        · simp [setAll_length]; simpa using hcs
        · simp only [List.toList_toArray]
          rw [setAll_eq _ _ _ (by omega), ← htk, List.take_take]
          have e1 : min l (m * 1) = l := by omega
          rw [e1, Nat.mul_one, List.append_assoc, List.drop_append_of_le_length (by rw [List.length_take]; omega), List.take_append_of_le_length (by rw [List.length_drop, List.length_take]; omega), List.drop_take, List.take_take]
          congr 1
          omega
theorem TL_clear_seg {m c l dn dc : Nat} {xs : List Value} {A : Option Addr} (E : Env P) (ho : Seg w base e 1 A m c xs) (hx : ev st X = some (.slice (cutA A c l 1) dn dc) := by exact rfl) (hl : l + dn = m := by omega) (ht : E.und t = some (.slice e) := by exact rfl) (he : E.inf e = some (1, by_, z) := by exact rfl) (hzs : z.cells.size = 1 := by exact rfl) (h1 : z.cells.toList.all (fun u => u.oneCell') = true := by exact rfl)
    (hf : Fl q (rest.length + 1) := by first | exact trivial | exact rfl) (hq : ∀ w', Mod (blkL A) w w' → w'.heap.size = w.heap.size → Kp q w' := by exact fun _ _ _ => trivial)
    (hk : ∀ w', Mod (blkL A) w w' → w'.heap.size = w.heap.size → Seg w' base e 1 A l c (xs.take l) → TL q P fn R M n st ops rest k w') :
    TL q P fn R M n st ops (⟨none, .call { callee := .builtin .clear, args := #[X], argTypes := #[t] }, ty, ps, af, none⟩ :: rest) k w := by
  obtain ⟨w', g1, g2, g3, g4⟩ := run_clear_seg (ty := ty) (dc := dc) E ht he hzs (fun u hu => List.all_eq_true.1 h1 u hu) ho hl
  exact TL_do_v (w' := w') (v := .tuple #[]) (fun ρ h => by simp [execOp, resolve, invoke, builtin, h _ _ hx, g1]) hf (hq _ g2 g3) (hk _ g2 g3 g4)
end
end Go.Proofs.Eng

namespace Go.Proofs.Ythiacmmkfngpbaa
open Go.RowKit Go.Proofs.Eng Go.Proofs.Foot Go.Proofs.Cold
set_option linter.unusedSimpArgs false
set_option linter.unusedVariables false set_option maxRecDepth 10000
attribute [local irreducible] T TL LV TH TA
set_option maxHeartbeats 1600000
def idxI (pr : Nat → Bool) (n : Nat) : Int := match (List.range n).find? pr with
  | some i => (i : Int)
  | none => -1
theorem idxI_at {pr : Nat → Bool} {n i : Nat} (hi : i < n) (h : pr i = true) (hu : ∀ j, j < i → pr j = false) : idxI pr n = (i : Int) := by
  have : (List.range n).find? pr = some i := by
    rw [List.find?_range_eq_some]
    exact ⟨h, by simpa using hi, fun j hj => by simp [hu j hj]⟩
  unfold idxI
  rw [this]
theorem idxI_no {pr : Nat → Bool} {n : Nat} (hu : ∀ j, j < n → pr j = false) : idxI pr n = -1 := by
  have : (List.range n).find? pr = none := by
    rw [List.find?_eq_none]
    intro j hj
    simp [hu j (by simpa using hj)]
  unfold idxI
  rw [this]
theorem idxI_find {α : Type} (p : α → Bool) (d : α) (l : List α) : idxI (fun i => p (l.getD i d)) l.length = match l.findIdx? p with
    | some i => (i : Int)
    | none => -1 := by
  cases h : l.findIdx? p with
  | none =>
    refine idxI_no fun j hj => ?_
    rw [List.findIdx?_eq_none_iff] at h
    rw [List.getD_eq_getElem?_getD, List.getElem?_eq_getElem hj]
    exact h _ (List.getElem_mem _)
  | some i =>
    obtain ⟨hi, h1, h2⟩ := List.findIdx?_eq_some_iff_getElem.1 h
    refine idxI_at hi ?_ fun j hj => ?_
    · rw [List.getD_eq_getElem?_getD, List.getElem?_eq_getElem hi]; exact h1
    · rw [List.getD_eq_getElem?_getD, List.getElem?_eq_getElem (by omega)]
      have := h2 j hj
      simpa using this
theorem idxI_any {pr : Nat → Bool} {n : Nat} : 0 ≤ idxI pr n ↔ (List.range n).any pr = true := by
  unfold idxI
  cases h : (List.range n).find? pr with
  | none =>
    rw [List.find?_eq_none] at h
    refine ⟨fun q => absurd q (by simp), fun q => ?_⟩
    obtain ⟨x, h1, h2⟩ := List.any_eq_true.1 q
    exact absurd h2 (h x h1)
  | some i => exact ⟨fun _ => List.any_eq_true.2 ⟨i, List.mem_of_find?_eq_some h, List.find?_some h⟩, fun _ => by simp⟩
theorem range_any {α : Type} (p : α → Bool) (d : α) (l : List α) : (List.range l.length).any (fun i => p (l.getD i d)) = l.any p := by
  rw [Bool.eq_iff_iff, List.any_eq_true, List.any_eq_true]
  constructor
  · rintro ⟨i, hi, h⟩
    have hi' : i < l.length := by simpa using hi
    rw [List.getD_eq_getElem?_getD, List.getElem?_eq_getElem hi'] at h
    exact ⟨_, List.getElem_mem hi', h⟩
  · rintro ⟨x, hx, h⟩
    obtain ⟨i, hi, rfl⟩ := List.mem_iff_getElem.1 hx
    exact ⟨i, by simpa using hi, by rw [List.getD_eq_getElem?_getD, List.getElem?_eq_getElem hi]; exact h⟩
theorem IndexS_c (A : Option Addr) (n c : Nat) (xs : List Value) (g : Nat) (cap : List Value) (pr : Nat → Bool) (w : World) (h : Rd w A n 1 xs) (hn : n ≤ 9223372036854775807) (hE : TE.fn g = true)
    (hp : ∀ i v, xs[i]? = some v → ∀ w', Ext w w' → Ret Try.prog g (v :: cap) w' (fun u w'' => u = .bool (pr i) ∧ Ext w' w'')) :
    Ret Try.prog 57 [.slice A n c, .func (.func g) #[] cap.toArray] w (fun v w' => v = .int .i64 (idxI pr n) ∧ Ext w w') := by
  have hl := h.1
  refine ret_T (n := 19) Try.func57 rfl rfl ?_
  repeat (first | refine T_seq ?_ | refine T_region ?_ | refine T_block ?_ | refine TL_nil ?_ | refine TL_move (hk := ?_) | refine TL_assign (hk := ?_) | refine TL_len TE (hk := ?_))
  refine T_loop (ι := Nat) (fun i => [(8, .int .i64 (i : Int)), (7, .int .i64 (n : Int)), (0, .slice A n c), (1, .func (.func g) #[] cap.toArray)]) (fun i w' => Ext w w' ∧ i ≤ n ∧ ∀ j, j < i → pr j = false) (fun i => n - i) 0 (.c rfl (.c rfl (.c rfl (.c rfl (.n))))) ⟨Mod.refl _ _, Nat.zero_le _, fun j h => absurd h (by omega)⟩ ?_
  rintro i w1 ⟨e1, hi, hu⟩ ih
  have h1 := h.be e1
  by_cases hlt : i < n
  · obtain ⟨v, hv⟩ : ∃ v, xs[i]? = some v := ⟨_, List.getElem?_eq_getElem (by omega)⟩
    repeat (first | refine T_seq ?_ | refine T_region ?_ | refine T_cond_true rfl ?_ | refine T_block ?_ | refine T_skip ?_ | refine TL_lt_t (hk := ?_) | refine TL_nil ?_ | refine TL_move (hk := ?_) | refine TL_assign (hk := ?_) | refine TL_load_rd TE (hk := ?_) | refine TL_indexAddr1n TE (hk := ?_))
    refine TL_callc TE (fst := []) (cap := cap) rfl rfl hE rfl (R' := RR (fun u w'' => u = .bool (pr i) ∧ Ext w1 w'')) (by have := hp i v hv w1 e1; unfold Ret at this; simpa using this) ?_ (fun _ _ h => h.elim) (fun _ h => h)
    rintro _ w2 ⟨rfl, e2⟩
    by_cases hb : pr i = true
    · rw [hb]
      repeat (first | refine T_seq ?_ | refine T_region ?_ | refine T_cond_true rfl ?_ | refine TL_nil ?_ | refine TL_move (hk := ?_) | refine TL_assign (hk := ?_))
      exact T_ret1 rfl rfl ⟨by rw [idxI_at hlt hb hu], e1.ext e2⟩
    · have hb' : pr i = false := by simpa using hb
      rw [hb']
      repeat (first | refine T_region ?_ | refine T_cond_false rfl ?_ | refine T_inBlock ?_ | refine T_skip ?_ | refine TL_add (hk := ?_) | refine TL_nil ?_ | refine TL_move (hk := ?_))
      exact ih (i + 1) _ _ (by omega) ⟨e1.ext e2, by omega, fun j hj => by
        by_cases q : j = i
        · rw [q, hb']
        · exact hu j (by omega)⟩ (.c rfl (.c rfl (.c rfl (.c rfl (.n)))))
  · clear ih
    have : i = n := by omega
    subst this
    repeat (first | refine T_seq ?_ | refine T_region ?_ | refine T_cond_false rfl ?_ | refine T_exit rfl ?_ | refine TL_lt_f (hk := ?_) | refine TL_nil ?_ | refine TL_assign (hk := ?_))
    exact T_ret1 rfl rfl ⟨by rw [idxI_no hu], e1⟩
theorem IndexH_c (A : Option Addr) (n c : Nat) (xs : List Value) (g : Nat) (cap : List Value) (pr : Nat → Bool) (w : World) (h : Rd w A n 1 xs) (hn : n ≤ 9223372036854775807) (hE : TE.fn g = true)
    (hp : ∀ i v, xs[i]? = some v → ∀ w', Ext w w' → Ret Try.prog g (v :: cap) w' (fun u w'' => u = .bool (pr i) ∧ Ext w' w'')) :
    Ret Try.prog 39 [.slice A n c, .func (.func g) #[] cap.toArray] w (fun v w' => v = .int .i64 (idxI pr n) ∧ Ext w w') := by
  have hl := h.1
  refine ret_T (n := 19) Try.func39 rfl rfl ?_
  repeat (first | refine T_seq ?_ | refine T_region ?_ | refine T_block ?_ | refine TL_nil ?_ | refine TL_move (hk := ?_) | refine TL_assign (hk := ?_) | refine TL_len TE (hk := ?_))
  refine T_loop (ι := Nat) (fun i => [(8, .int .i64 (i : Int)), (7, .int .i64 (n : Int)), (0, .slice A n c), (1, .func (.func g) #[] cap.toArray)]) (fun i w' => Ext w w' ∧ i ≤ n ∧ ∀ j, j < i → pr j = false) (fun i => n - i) 0 (.c rfl (.c rfl (.c rfl (.c rfl (.n))))) ⟨Mod.refl _ _, Nat.zero_le _, fun j h => absurd h (by omega)⟩ ?_
  rintro i w1 ⟨e1, hi, hu⟩ ih
  have h1 := h.be e1
  by_cases hlt : i < n
  · obtain ⟨v, hv⟩ : ∃ v, xs[i]? = some v := ⟨_, List.getElem?_eq_getElem (by omega)⟩
    repeat (first | refine T_seq ?_ | refine T_region ?_ | refine T_cond_true rfl ?_ | refine T_block ?_ | refine T_skip ?_ | refine TL_lt_t (hk := ?_) | refine TL_nil ?_ | refine TL_move (hk := ?_) | refine TL_assign (hk := ?_) | refine TL_load_rd TE (hk := ?_) | refine TL_indexAddr1n TE (hk := ?_))
    refine TL_callc TE (fst := []) (cap := cap) rfl rfl hE rfl (R' := RR (fun u w'' => u = .bool (pr i) ∧ Ext w1 w'')) (by have := hp i v hv w1 e1; unfold Ret at this; simpa using this) ?_ (fun _ _ h => h.elim) (fun _ h => h)
    rintro _ w2 ⟨rfl, e2⟩
    by_cases hb : pr i = true
    · rw [hb]
      repeat (first | refine T_seq ?_ | refine T_region ?_ | refine T_cond_true rfl ?_ | refine TL_nil ?_ | refine TL_move (hk := ?_) | refine TL_assign (hk := ?_))
      exact T_ret1 rfl rfl ⟨by rw [idxI_at hlt hb hu], e1.ext e2⟩
    · have hb' : pr i = false := by simpa using hb
      rw [hb']
      repeat (first | refine T_region ?_ | refine T_cond_false rfl ?_ | refine T_inBlock ?_ | refine T_skip ?_ | refine TL_add (hk := ?_) | refine TL_nil ?_ | refine TL_move (hk := ?_))
      exact ih (i + 1) _ _ (by omega) ⟨e1.ext e2, by omega, fun j hj => by
        by_cases q : j = i
        · rw [q, hb']
        · exact hu j (by omega)⟩ (.c rfl (.c rfl (.c rfl (.c rfl (.n)))))
  · clear ih
    have : i = n := by omega
    subst this
    repeat (first | refine T_seq ?_ | refine T_region ?_ | refine T_cond_false rfl ?_ | refine T_exit rfl ?_ | refine TL_lt_f (hk := ?_) | refine TL_nil ?_ | refine TL_assign (hk := ?_))
    exact T_ret1 rfl rfl ⟨by rw [idxI_no hu], e1⟩
theorem ContainsS_c (A : Option Addr) (n c : Nat) (xs : List Value) (g : Nat) (cap : List Value) (pr : Nat → Bool) (w : World) (h : Rd w A n 1 xs) (hn : n ≤ 9223372036854775807) (hE : TE.fn g = true)
    (hp : ∀ i v, xs[i]? = some v → ∀ w', Ext w w' → Ret Try.prog g (v :: cap) w' (fun u w'' => u = .bool (pr i) ∧ Ext w' w'')) :
    Ret Try.prog 47 [.slice A n c, .func (.func g) #[] cap.toArray] w (fun v w' => v = .bool ((List.range n).any pr) ∧ Ext w w') := by
  refine ret_T (n := 9) Try.func47 rfl rfl ?_
  repeat (first | refine T_seq ?_ | refine T_region ?_ | refine TL_nil ?_ | refine TL_move (hk := ?_) | refine TL_assign (hk := ?_))
  refine TL_call TE (hc := IndexS_c A n c xs g cap pr _ h hn hE hp) (hk := ?_)
  rintro _ w1 ⟨rfl, e1⟩
  have hb : -1 ≤ idxI pr n ∧ idxI pr n ≤ 9223372036854775807 := by
    unfold idxI
    cases hf : (List.range n).find? pr with
    | none => simp
    | some i =>
      have := List.mem_of_find?_eq_some hf
      rw [List.mem_range] at this
      simp only
      omega
  obtain ⟨z, hz⟩ : ∃ z, idxI pr n = z := ⟨_, rfl⟩
  have ha := idxI_any (pr := pr) (n := n)
  rw [hz] at hb ha ⊢
  by_cases h0 : 0 ≤ z
  · rw [ha.1 h0]
    repeat (first | refine TL_ge_t (hk := ?_) | refine TL_nil ?_ | refine TL_assign (hk := ?_))
    exact T_ret1 rfl rfl ⟨rfl, e1⟩
  · have : (List.range n).any pr = false := by
      cases hq : (List.range n).any pr with
      | false => rfl
      | true => exact absurd (ha.2 hq) h0
    rw [this]
    repeat (first | refine TL_ge_f (hk := ?_) | refine TL_nil ?_ | refine TL_assign (hk := ?_))
    exact T_ret1 rfl rfl ⟨rfl, e1⟩
end Go.Proofs.Ythiacmmkfngpbaa

namespace Go.Proofs.Ythiacmmkfngpbaa
open Go.RowKit Go.Proofs.Eng Go.Proofs.Foot Go.Proofs.Cold
set_option linter.unusedSimpArgs false
set_option linter.unusedVariables false set_option maxRecDepth 10000
attribute [local irreducible] T TL LV TH TA
set_option maxHeartbeats 1600000
section
variable {w w' : World} {base : Nat} {m : CM} {f : Nat → Oo} {t : CS}
theorem settle1_c (b1 : Nat) (k : Tx) (l : LnE) (w : World) (h : TierM w base m f t) (hl : mget t.K k = some l) (h1 : Blk w b1 27 [pB m.p]) :
    Ret Try.prog 48 [.string (ofL k), pB b1] w (fun v w' => v = .bool (!decide (l.st = 3)) ∧ Ext w w') := by
  have hb := h.blk
  unfold tierV at hb
  have mp := h.mp
  obtain ⟨b, hlk, hblk, hf⟩ := h.kl _ _ hl
  unfold lnV at hblk
  refine ret_T (n := 14) Try.func48 rfl rfl ?_
  repeat (first | refine T_seq ?_ | refine T_region ?_ | refine TL_nil ?_ | refine TL_move (hk := ?_) | refine TL_assign (hk := ?_) | refine TL_load TE (hk := ?_) | refine TL_fieldAddr TE (hk := ?_) | refine TL_nilCheck (hk := ?_))
  refine TL_lookup TE ((none : Option Nat)) (hk := ?_)
  rw [hlk]
  by_cases q : l.st = 3
  · rw [decide_eq_true q]
    repeat (first | refine TL_ne_f (hk := ?_) | refine TL_nil ?_ | refine TL_assign (hk := ?_) | refine TL_load TE (hk := ?_) | refine TL_fieldAddr TE (hk := ?_) | refine TL_nilCheck (hk := ?_))
    exact T_ret1 rfl rfl ⟨rfl, Mod.refl _ _⟩
  · rw [decide_eq_false q]
    repeat (first | refine TL_ne_t (hk := ?_) | refine TL_nil ?_ | refine TL_assign (hk := ?_) | refine TL_load TE (hk := ?_) | refine TL_fieldAddr TE (hk := ?_) | refine TL_nilCheck (hk := ?_))
    exact T_ret1 rfl rfl ⟨rfl, Mod.refl _ _⟩
theorem set_self {α : Type} (l : List α) (i : Nat) (d : α) (hi : i < l.length) : l.set i (l.getD i d) = l := by
  apply List.ext_getElem (by simp)
  intro j h1 h2
  rw [List.getElem_set]
  split
  · rename_i e; subst e; simp [List.getD_eq_getElem?_getD, List.getElem?_eq_getElem hi]
  · rfl
theorem settle_c (i : Nat) (w : World) (h : TierM w base m f t) (hi : i < t.H.length) (hks : (t.H.getD i hd0).st = 2 → ∀ k ∈ (t.H.getD i hd0).ks, mget t.K k ≠ none) :
    Ret Try.prog 35 [pB m.p, pB (m.hp.getD i hp0).1] w (fun v w' => TierM w' base m f { t with H := t.H.set i (settleE t.K (t.H.getD i hd0)) } ∧ Tn (oo f) (oo f) w w') := by
  have g := h.hm i hi
  have gb := g.blk
  have gcp := g.cp
  obtain ⟨hd, hhd⟩ : ∃ hd, t.H.getD i hd0 = hd := ⟨_, rfl⟩
  obtain ⟨x, hx⟩ : ∃ x, m.hp.getD i hp0 = x := ⟨_, rfl⟩
  have hset := set_self t.H i hd0 hi
  rw [hhd, hx] at gb
  rw [hhd] at hks hset
  unfold hdV at gb
  have grd := g.rd
  rw [hhd, hx] at grd
  have hkl : hd.ks.length = x.2.2.1 := by have := grd.1; rw [sv_length] at this; omega
  rw [hhd, hx]
  refine ret_T (n := 21) Try.func35 rfl rfl ?_
  repeat (first | refine T_seq ?_ | refine T_region ?_)
  refine TL_box (hk := ?_); intro b1 w1 e1 h1 h1' k1
  have h2 := h.ext e1
  have gb1 := gb.be e1
  by_cases q : hd.st = 2
  · have hn : x.2.2.1 ≤ 9223372036854775807 := by have a := g.cp; have b := g.cm; rw [hx] at a b; unfold maxLen at b; omega
    repeat (first | refine T_seq ?_ | refine T_region ?_ | refine TL_eq_t (hk := ?_) | refine TL_nil ?_ | refine TL_move (hk := ?_) | refine TL_load TE (hk := ?_) | refine TL_fieldAddr TE (hk := ?_) | refine TL_yes (hk := ?_) | refine TL_nilCheck (hk := ?_) | refine TL_makeFunc (hk := ?_))
    have cS := ContainsS_c x.2.1 x.2.2.1 x.2.2.2 (sv hd.ks) 48 [pB b1] (fun j => !warmK t.K (hd.ks.getD j [])) w1 (grd.be e1) hn rfl (by
      intro j v hv w' e'
      have hj : j < hd.ks.length := by have := List.getElem?_eq_some_iff.1 hv; obtain ⟨h, _⟩ := this; simpa using h
      rw [sv_get _ _ hj] at hv
      cases hv
      have hm : hd.ks.getD j [] ∈ hd.ks := by rw [List.getD_eq_getElem?_getD, List.getElem?_eq_getElem hj]; exact List.getElem_mem _
      obtain ⟨l, hl⟩ := Option.ne_none_iff_exists'.1 (hks q _ hm)
      have := settle1_c b1 _ l w' (h2.ext e') hl (k1.be e')
      unfold warmK
      rw [hl]
      exact this)
    refine TL_call TE (hc := cS) (hk := ?_)
    rintro _ w2 ⟨rfl, e2⟩
    have hw : (List.range x.2.2.1).any (fun j => !warmK t.K (hd.ks.getD j [])) = !warmE t.K hd.ks := by
      rw [← hkl, range_any (fun k => !warmK t.K k) [] hd.ks]
      unfold warmE
      rw [List.all_eq_not_any_not, Bool.not_not]
    rw [hw]
    have h3 := h2.ext e2
    have gb2 := gb1.be e2
    by_cases qw : warmE t.K hd.ks = true
    · have hse : settleE t.K hd = { hd with st := 3 } := by unfold settleE; rw [if_pos ⟨q, qw⟩]
      rw [qw, hse]
      repeat (first | refine T_region ?_ | refine T_cond_true rfl ?_ | refine TL_nil ?_ | refine TL_move (hk := ?_) | refine TL_fieldAddr TE (hk := ?_) | refine TL_yes (hk := ?_) | refine TL_pick_t (hk := ?_) | refine TL_nilCheck (hk := ?_) | refine TL_not (hk := ?_))
      refine TL_store TE (hk := ?_); intro w3 m3 z3 k3
      repeat (refine TL_nil ?_)
      have := h3.setHold (i := i) (s := 3) hi (by rw [hx]; exact m3) (by rw [hx, hhd]; exact k3)
      rw [hhd] at this
      exact T_end0 rfl ⟨this.1, (Tn.ext (e1.ext e2)).trans this.2⟩
    · have qw' : warmE t.K hd.ks = false := by simpa using qw
      have hse : settleE t.K hd = hd := by unfold settleE; rw [if_neg (fun a => qw a.2)]
      rw [qw', hse, hset]
      repeat (first | refine T_cond_false rfl ?_ | refine T_skip ?_ | refine TL_nil ?_ | refine TL_yes (hk := ?_) | refine TL_pick_t (hk := ?_) | refine TL_not (hk := ?_))
      exact T_end0 rfl ⟨h3, Tn.ext (e1.ext e2)⟩
  · have hse : settleE t.K hd = hd := by unfold settleE; rw [if_neg (fun a => q a.1)]
    rw [hse, hset]
    repeat (first | refine T_seq ?_ | refine T_region ?_ | refine T_cond_false rfl ?_ | refine T_skip ?_ | refine TL_eq_f (hk := ?_) | refine TL_nil ?_ | refine TL_move (hk := ?_) | refine TL_load TE (hk := ?_) | refine TL_fieldAddr TE (hk := ?_) | refine TL_no (hk := ?_) | refine TL_pick_f (hk := ?_) | refine TL_nilCheck (hk := ?_))
    exact T_end0 rfl ⟨h2, Tn.ext e1⟩
theorem find1_c (b1 : Nat) (hd : HdE) (x : Nat × SL) (z : Int) (w : World) (gb : Blk w x.1 60 (hdV hd x.2)) (h1 : Blk w b1 2 [.int .i64 z]) :
    Ret Try.prog 40 [pB x.1, pB b1] w (fun v w' => v = .bool (decide (hd.id = z)) ∧ Ext w w') := by
  unfold hdV at gb
  refine ret_T (n := 10) Try.func40 rfl rfl ?_
  by_cases q : hd.id = z
  · rw [decide_eq_true q]
    repeat (first | refine T_seq ?_ | refine T_region ?_ | refine TL_nil ?_ | refine TL_assign (hk := ?_))
    refine T_region_anyz TE.mixed [] (some 6) ?_; intro w1 e1 y1
    have gb1 := gb.be e1
    have h11 := h1.be e1
    have nx : x.1 ∉ ([] : List Nat) := by simp
    have nb : b1 ∉ ([] : List Nat) := by simp
    (refine TA_take 0 rfl (by kernel_rfl) (by kernel_rfl) (by kernel_rfl) ?_; (repeat (first | refine TL_eq_t (hk := ?_) | refine TL_move (hk := ?_) | refine TLP_load TE (hk := ?_) | refine TL_fieldAddr TE (hk := ?_) | refine TL_nilCheck (hk := ?_))); refine TL_nil_p ?_); (refine TA_take 1 rfl (by kernel_rfl) (by kernel_rfl) (by kernel_rfl) ?_; (repeat (first | refine TL_eq_t (hk := ?_) | refine TL_move (hk := ?_) | refine TLP_load TE (hk := ?_) | refine TL_fieldAddr TE (hk := ?_) | refine TL_nilCheck (hk := ?_))); refine TL_nil_p ?_); (refine TA_take 2 rfl (by kernel_rfl) (by kernel_rfl) (by kernel_rfl) ?_; (repeat (first | refine TL_eq_t (hk := ?_) | refine TL_move (hk := ?_) | refine TLP_load TE (hk := ?_) | refine TL_fieldAddr TE (hk := ?_) | refine TL_nilCheck (hk := ?_))); refine TL_nil_p ?_); (refine TA_take 3 rfl (by kernel_rfl) (by kernel_rfl) (by kernel_rfl) ?_; (repeat (first | refine TL_eq_t (hk := ?_) | refine TL_move (hk := ?_) | refine TLP_load TE (hk := ?_) | refine TL_fieldAddr TE (hk := ?_) | refine TL_nilCheck (hk := ?_))); refine TL_nil_p ?_); (refine TA_take 4 rfl (by kernel_rfl) (by kernel_rfl) (by kernel_rfl) ?_; (repeat (first | refine TL_eq_t (hk := ?_) | refine TL_move (hk := ?_) | refine TLP_load TE (hk := ?_) | refine TL_fieldAddr TE (hk := ?_) | refine TL_nilCheck (hk := ?_))); refine TL_nil_p ?_); (refine TA_take 5 rfl (by kernel_rfl) (by kernel_rfl) (by kernel_rfl) ?_; (repeat (first | refine TL_eq_t (hk := ?_) | refine TL_move (hk := ?_) | refine TLP_load TE (hk := ?_) | refine TL_fieldAddr TE (hk := ?_) | refine TL_nilCheck (hk := ?_))); refine TL_nil_p ?_)
    refine TA_one 6 rfl (by kernel_rfl) (by kernel_rfl) ?_
    (refine TL_assign (hk := ?_))
    refine TL_nil_z (by kernel_rfl) ?_
    --
    exact T_ret1 rfl rfl ⟨rfl, e1⟩
  · rw [decide_eq_false q]
    repeat (first | refine T_seq ?_ | refine T_region ?_ | refine TL_nil ?_ | refine TL_assign (hk := ?_))
    refine T_region_anyz TE.mixed [] (some 6) ?_; intro w1 e1 y1
    have gb1 := gb.be e1
    have h11 := h1.be e1
    have nx : x.1 ∉ ([] : List Nat) := by simp
    have nb : b1 ∉ ([] : List Nat) := by simp
    (refine TA_take 0 rfl (by kernel_rfl) (by kernel_rfl) (by kernel_rfl) ?_; (repeat (first | refine TL_eq_f (hk := ?_) | refine TL_move (hk := ?_) | refine TLP_load TE (hk := ?_) | refine TL_fieldAddr TE (hk := ?_) | refine TL_nilCheck (hk := ?_))); refine TL_nil_p ?_); (refine TA_take 1 rfl (by kernel_rfl) (by kernel_rfl) (by kernel_rfl) ?_; (repeat (first | refine TL_eq_f (hk := ?_) | refine TL_move (hk := ?_) | refine TLP_load TE (hk := ?_) | refine TL_fieldAddr TE (hk := ?_) | refine TL_nilCheck (hk := ?_))); refine TL_nil_p ?_); (refine TA_take 2 rfl (by kernel_rfl) (by kernel_rfl) (by kernel_rfl) ?_; (repeat (first | refine TL_eq_f (hk := ?_) | refine TL_move (hk := ?_) | refine TLP_load TE (hk := ?_) | refine TL_fieldAddr TE (hk := ?_) | refine TL_nilCheck (hk := ?_))); refine TL_nil_p ?_); (refine TA_take 3 rfl (by kernel_rfl) (by kernel_rfl) (by kernel_rfl) ?_; (repeat (first | refine TL_eq_f (hk := ?_) | refine TL_move (hk := ?_) | refine TLP_load TE (hk := ?_) | refine TL_fieldAddr TE (hk := ?_) | refine TL_nilCheck (hk := ?_))); refine TL_nil_p ?_); (refine TA_take 4 rfl (by kernel_rfl) (by kernel_rfl) (by kernel_rfl) ?_; (repeat (first | refine TL_eq_f (hk := ?_) | refine TL_move (hk := ?_) | refine TLP_load TE (hk := ?_) | refine TL_fieldAddr TE (hk := ?_) | refine TL_nilCheck (hk := ?_))); refine TL_nil_p ?_); (refine TA_take 5 rfl (by kernel_rfl) (by kernel_rfl) (by kernel_rfl) ?_; (repeat (first | refine TL_eq_f (hk := ?_) | refine TL_move (hk := ?_) | refine TLP_load TE (hk := ?_) | refine TL_fieldAddr TE (hk := ?_) | refine TL_nilCheck (hk := ?_))); refine TL_nil_p ?_)
    refine TA_one 6 rfl (by kernel_rfl) (by kernel_rfl) ?_
    (refine TL_assign (hk := ?_))
    refine TL_nil_z (by kernel_rfl) ?_
    --
    exact T_ret1 rfl rfl ⟨rfl, e1⟩
theorem let1_c (hd : HdE) (x : Nat × SL) (w : World) (gb : Blk w x.1 60 (hdV hd x.2)) :
    Ret Try.prog 42 [pB x.1] w (fun v w' => v = .bool (decide (hd.st = 1)) ∧ Ext w w') := by
  unfold hdV at gb
  refine ret_T (n := 8) Try.func42 rfl rfl ?_
  by_cases q : hd.st = 1
  · rw [decide_eq_true q]
    repeat (first | refine T_seq ?_ | refine T_region ?_ | refine TL_eq_t (hk := ?_) | refine TL_nil ?_ | refine TL_move (hk := ?_) | refine TL_assign (hk := ?_) | refine TL_load TE (hk := ?_) | refine TL_fieldAddr TE (hk := ?_) | refine TL_nilCheck (hk := ?_))
    exact T_ret1 rfl rfl ⟨rfl, Mod.refl _ _⟩
  · rw [decide_eq_false q]
    repeat (first | refine T_seq ?_ | refine T_region ?_ | refine TL_eq_f (hk := ?_) | refine TL_nil ?_ | refine TL_move (hk := ?_) | refine TL_assign (hk := ?_) | refine TL_load TE (hk := ?_) | refine TL_fieldAddr TE (hk := ?_) | refine TL_nilCheck (hk := ?_))
    exact T_ret1 rfl rfl ⟨rfl, Mod.refl _ _⟩
def fI : Option Nat → Int
  | some i => (i : Int)
  | none => -1
theorem find_c (z : Int) (w : World) (h : TierM w base m f t) :
    Ret Try.prog 29 [pB m.p, .int .i64 z] w (fun v w' => v = .int .i64 (fI (findE t z)) ∧ Ext w w') := by
  have hb := h.blk
  unfold tierV at hb
  have hrd := h.ho.rd
  have hhl := h.hl'
  have hhp := h.hl
  have hn : m.hs.2.1 ≤ 9223372036854775807 := by have a := h.ho.cap; unfold maxLen at a; omega
  refine ret_T (n := 11) Try.func29 rfl rfl ?_
  repeat (first | refine T_seq ?_ | refine T_region ?_)
  refine TL_box (hk := ?_); intro b1 w1 e1 h1 h1' k1
  have h2 := h.ext e1
  have hb1 := hb.be e1
  repeat (first | refine T_seq ?_ | refine T_region ?_ | refine TL_nil ?_ | refine TL_move (hk := ?_) | refine TL_assign (hk := ?_) | refine TL_load TE (hk := ?_) | refine TL_fieldAddr TE (hk := ?_) | refine TL_nilCheck (hk := ?_) | refine TL_makeFunc (hk := ?_))
  have cH := IndexH_c m.hs.1 m.hs.2.1 m.hs.2.2 (ptrs m.hp) 40 [pB b1] (fun j => decide ((t.H.getD j hd0).id = z)) w1 (hrd.be e1) hn rfl (by
      intro j v hv w' e'
      have hj : j < m.hp.length := by have := List.getElem?_eq_some_iff.1 hv; obtain ⟨h, _⟩ := this; simpa [ptrs] using h
      rw [ptrs_get _ _ hj] at hv
      cases hv
      exact find1_c b1 _ _ z w' ((h2.ext e').hm j (by omega)).blk (k1.be e'))
  refine TL_call TE (hc := cH) (hk := ?_)
  rintro _ w2 ⟨rfl, e2⟩
  have hw : idxI (fun j => decide ((t.H.getD j hd0).id = z)) m.hs.2.1 = fI (findE t z) := by
    rw [hhl, idxI_find (fun h : HdE => decide (h.id = z)) hd0 t.H]
    unfold findE fI
    rfl
  rw [hw]
  repeat (first | refine TL_nil ?_ | refine TL_assign (hk := ?_))
  exact T_ret1 rfl rfl ⟨rfl, e1.ext e2⟩
end
end Go.Proofs.Ythiacmmkfngpbaa

namespace Go.Proofs.Ythiacmmkfngpbaa
open Go.RowKit Go.Proofs.Eng Go.Proofs.Foot Go.Proofs.Cold
set_option linter.unusedSimpArgs false
set_option linter.unusedVariables false set_option maxRecDepth 10000
attribute [local irreducible] T TL LV TH TA
set_option maxHeartbeats 1600000
section
variable {w w' : World} {base : Nat} {m : CM} {f : Nat → Oo} {t : CS}
theorem filt_succ {α : Type} (p : α → Bool) (d : α) (l : List α) (j : Nat) (h : j < l.length) : ((l.take (j + 1)).filter p).length = ((l.take j).filter p).length + b2n (p (l.getD j d)) := by
  rw [List.take_succ_eq_append_getElem h, List.filter_append, List.length_append, List.getD_eq_getElem?_getD, List.getElem?_eq_getElem h]
  unfold b2n
  cases hp : p l[j] <;> simp [hp]
theorem fits_c (i : Nat) (w : World) (h : TierM w base m f t) (hi : i < t.H.length) (hK : t.K.length ≤ 1000000) (hks : (t.H.getD i hd0).ks.length ≤ 1000000) :
    Ret Try.prog 43 [pB m.p, pB (m.hp.getD i hp0).1] w (fun v w' => v = .bool (fitsE t (t.H.getD i hd0).ks) ∧ Ext w w') := by
  have g := h.hm i hi
  have gb := g.blk
  have grd := g.rd
  obtain ⟨hd, hhd⟩ : ∃ hd, t.H.getD i hd0 = hd := ⟨_, rfl⟩
  obtain ⟨x, hx⟩ : ∃ x, m.hp.getD i hp0 = x := ⟨_, rfl⟩
  rw [hhd, hx] at gb grd
  rw [hhd] at hks
  unfold hdV at gb
  have hkl : hd.ks.length = x.2.2.1 := by have := grd.1; rw [sv_length] at this; omega
  rw [hhd, hx]
  have cP := count_c 56 pinned w h hK rfl (fun b l w' hb => clpinned_c b l w' hb)
  have hcl : cntE pinned t.K ≤ t.K.length := List.length_filter_le _ _
  refine ret_T (n := 44) Try.func43 rfl rfl ?_
  repeat (first | refine T_seq ?_ | refine T_region ?_ | refine TL_nil ?_ | refine TL_move (hk := ?_) | refine TL_assign (hk := ?_))
  refine TL_call TE (hc := cP) (hk := ?_)
  rintro _ w1 ⟨rfl, e1⟩
  have gb1 := gb.be e1
  repeat (first | refine T_seq ?_ | refine T_region ?_ | refine T_block ?_ | refine TL_nil ?_ | refine TL_move (hk := ?_) | refine TL_assign (hk := ?_) | refine TL_load TE (hk := ?_) | refine TL_fieldAddr TE (hk := ?_) | refine TL_len TE (hk := ?_) | refine TL_nilCheck (hk := ?_))
  refine T_loop (ι := Nat) (fun j => [(16, .int .i64 (j : Int)), (15, .int .i64 (x.2.2.1 : Int)), (14, sL x.2), (5, .int .i64 ((cntE pinned t.K + ((hd.ks.take j).filter (freeK t.K)).length : Nat) : Int)), (0, pB m.p)])
    (fun j w' => Ext w w' ∧ j ≤ hd.ks.length) (fun j => hd.ks.length - j) 0 (by simp only [List.take_zero, List.filter_nil, List.length_nil, Nat.add_zero]; exact (.c rfl (.c rfl (.c rfl (.c rfl (.c rfl (.n))))))) ⟨e1, Nat.zero_le _⟩ ?_
  rintro j w2 ⟨e2, hj⟩ ih
  have h2 := h.ext e2
  have hb := h2.blk
  unfold tierV at hb
  have mp := h2.mp
  have grd2 := grd.be e2
  have hfl : ((hd.ks.take j).filter (freeK t.K)).length ≤ j := Nat.le_trans (List.length_filter_le _ _) (by rw [List.length_take]; exact Nat.min_le_left _ _)
  by_cases hlt : j < hd.ks.length
  · have hv := sv_get hd.ks j hlt
    have hs := filt_succ (freeK t.K) [] hd.ks j hlt
    obtain ⟨k, hk⟩ : ∃ k, hd.ks.getD j [] = k := ⟨_, rfl⟩
    rw [hk] at hv hs
    repeat (first | refine T_seq ?_ | refine T_region ?_ | refine T_cond_true rfl ?_ | refine T_block ?_ | refine T_skip ?_ | refine TL_lt_t (hk := ?_) | refine TL_nil ?_ | refine TL_move (hk := ?_) | refine TL_assign (hk := ?_) | refine TL_load TE (hk := ?_) | refine TL_load_rd TE (hk := ?_) | refine TL_fieldAddr TE (hk := ?_) | refine TL_indexAddr1n TE (hk := ?_) | refine TL_nilCheck (hk := ?_))
    refine TL_lookup TE ((none : Option Nat)) (hk := ?_)
    cases hl : mget t.K k with
    | none =>
      have hlk := (h.no k).2 hl
      have hfr : freeK t.K k = true := by unfold freeK; rw [hl]
      rw [hfr] at hs
      rw [hlk]
      have hc : ((cntE pinned t.K + ((hd.ks.take j).filter (freeK t.K)).length : Nat) : Int) + 1 = ((cntE pinned t.K + ((hd.ks.take (j + 1)).filter (freeK t.K)).length : Nat) : Int) := by rw [hs]; simp only [b2n, if_true]; omega
      repeat (first | refine T_seq ?_ | refine T_region ?_ | refine T_cond_true rfl ?_ | refine T_inBlock ?_ | refine TL_add (hk := ?_) | refine TL_pnil_t TE (hk := ?_) | refine TL_nil ?_ | refine TL_move (hk := ?_) | refine TL_assign (hk := ?_) | refine TL_no (hk := ?_) | refine TL_pick_t (hk := ?_))
      rw [hc]
      --
      exact ih (j + 1) w2 _ (by omega) ⟨e2, by omega⟩ (.c rfl (.c rfl (.c rfl (.c rfl (.c rfl (.n))))))
    | some l =>
      obtain ⟨b, hlk, hblk, hf⟩ := h2.kl _ _ hl
      unfold lnV at hblk
      have hfr : freeK t.K k = decide (l.pins = 0) := by unfold freeK; rw [hl]
      rw [hfr] at hs
      rw [hlk]
      by_cases hp : l.pins = 0
      · rw [decide_eq_true hp] at hs
        have hc : ((cntE pinned t.K + ((hd.ks.take j).filter (freeK t.K)).length : Nat) : Int) + 1 = ((cntE pinned t.K + ((hd.ks.take (j + 1)).filter (freeK t.K)).length : Nat) : Int) := by rw [hs]; simp only [b2n, if_true]; omega
        repeat (first | refine T_seq ?_ | refine T_region ?_ | refine T_cond_true rfl ?_ | refine T_inBlock ?_ | refine TL_add (hk := ?_) | refine TL_eq_t (hk := ?_) | refine TL_pnil_f TE (hk := ?_) | refine TL_nil ?_ | refine TL_move (hk := ?_) | refine TL_assign (hk := ?_) | refine TL_load TE (hk := ?_) | refine TL_fieldAddr TE (hk := ?_) | refine TL_yes (hk := ?_) | refine TL_pick_f (hk := ?_) | refine TL_nilCheck (hk := ?_))
        rw [hc]
        --
        exact ih (j + 1) w2 _ (by omega) ⟨e2, by omega⟩ (.c rfl (.c rfl (.c rfl (.c rfl (.c rfl (.n))))))
      · rw [decide_eq_false hp] at hs
        have hc : cntE pinned t.K + ((hd.ks.take (j + 1)).filter (freeK t.K)).length = cntE pinned t.K + ((hd.ks.take j).filter (freeK t.K)).length := by rw [hs]; simp [b2n]
        have := ih (j + 1) w2
        rw [hc] at this
        repeat (first | refine T_seq ?_ | refine T_region ?_ | refine T_cond_false rfl ?_ | refine T_inBlock ?_ | refine T_skip ?_ | refine TL_add (hk := ?_) | refine TL_eq_f (hk := ?_) | refine TL_pnil_f TE (hk := ?_) | refine TL_nil ?_ | refine TL_move (hk := ?_) | refine TL_assign (hk := ?_) | refine TL_load TE (hk := ?_) | refine TL_fieldAddr TE (hk := ?_) | refine TL_yes (hk := ?_) | refine TL_pick_f (hk := ?_) | refine TL_nilCheck (hk := ?_))
        exact this _ (by omega) ⟨e2, by omega⟩ (.c rfl (.c rfl (.c rfl (.c rfl (.c rfl (.n))))))
  · clear ih
    have hj2 : j = hd.ks.length := by omega
    subst hj2
    rw [List.take_length] at hfl ⊢
    unfold fitsE
    by_cases hle : cntE pinned t.K + (hd.ks.filter (freeK t.K)).length ≤ t.room
    · rw [decide_eq_true hle]
      repeat (first | refine T_seq ?_ | refine T_region ?_ | refine T_cond_false rfl ?_ | refine T_exit rfl ?_ | refine TL_lt_f (hk := ?_) | refine TL_le_t (hk := ?_) | refine TL_nil ?_ | refine TL_move (hk := ?_) | refine TL_assign (hk := ?_) | refine TL_load TE (hk := ?_) | refine TL_fieldAddr TE (hk := ?_) | refine TL_nilCheck (hk := ?_))
      exact T_ret1 rfl rfl ⟨rfl, e2⟩
    · rw [decide_eq_false hle]
      repeat (first | refine T_seq ?_ | refine T_region ?_ | refine T_cond_false rfl ?_ | refine T_exit rfl ?_ | refine TL_lt_f (hk := ?_) | refine TL_le_f (hk := ?_) | refine TL_nil ?_ | refine TL_move (hk := ?_) | refine TL_assign (hk := ?_) | refine TL_load TE (hk := ?_) | refine TL_fieldAddr TE (hk := ?_) | refine TL_nilCheck (hk := ?_))
      exact T_ret1 rfl rfl ⟨rfl, e2⟩
end
end Go.Proofs.Ythiacmmkfngpbaa

namespace Go.Proofs.Ythiacmmkfngpbaa
open Go.RowKit Go.Proofs.Eng Go.Proofs.Foot Go.Proofs.Cold
set_option linter.unusedSimpArgs false
set_option linter.unusedVariables false set_option maxRecDepth 10000
attribute [local irreducible] T TL LV TH TA
set_option maxHeartbeats 3200000
section
variable {w w' : World} {base : Nat} {m : CM} {f : Nat → Oo} {t : CS}
theorem nearB {A A' : Option Addr} {w : World} (h : Near A A' w) : ∀ b ∈ blkL A', b ∈ blkL A ∨ w.heap.size ≤ b := fun b hb => by
  cases A' with
  | none => simp [blkL] at hb
  | some ad =>
    simp [blkL] at hb
    rcases h ad rfl with q | q
    · rw [q]; left; simp [blkL, hb]
    · right; omega
theorem mput_mput : ∀ (l : List (Tx × LnE)) (k : Tx) (a b : LnE), mput (mput l k a) k b = mput l k b
  | [], k, a, b => by simp [mput]
  | x :: l, k, a, b => by
    by_cases e : x.1 = k
    · simp [mput, e]
    · simp [mput, e, mput_mput l k a b]
theorem pinE_get {K : List (Tx × LnE)} {wt : List Tx} {k y : Tx} {l : LnE} {N : Nat} (h : ∀ y l, mget K y = some l → l.pins ≤ N) (q : mget (pinE (K, wt) k).1 y = some l) : l.pins ≤ N + 1 := by
  unfold pinE at q
  simp only at q
  cases hk : mget K k with
  | none =>
    rw [hk] at q
    simp only at q
    rw [mget_put] at q
    split at q
    · cases q; simp
    · exact Nat.le_succ_of_le (h _ _ q)
  | some l0 =>
    rw [hk] at q
    simp only at q
    rw [mget_put] at q
    split at q
    · cases q; have := h _ _ hk; simp only; omega
    · exact Nat.le_succ_of_le (h _ _ q)
theorem pinE_has {K : List (Tx × LnE)} {wt : List Tx} {k y : Tx} (h : y = k ∨ mget K y ≠ none) : mget (pinE (K, wt) k).1 y ≠ none := by
  unfold pinE
  simp only
  cases hk : mget K k with
  | none =>
    simp only
    rw [mget_put]
    split
    · simp
    · rename_i e; exact h.resolve_left e
  | some l0 =>
    simp only
    rw [mget_put]
    split
    · simp
    · rename_i e; exact h.resolve_left e
theorem in_c (i : Nat) (w : World) (h : TierM w base m f t) (hi : i < t.H.length) (hks : (t.H.getD i hd0).ks.length ≤ 1000000) (hpin : ∀ k l, mget t.K k = some l → l.pins ≤ 1000000) (hwt : t.wt.length ≤ 1000000) :
    Ret Try.prog 44 [pB m.p, pB (m.hp.getD i hp0).1] w (fun v w' => ∃ m' f', m'.p = m.p ∧ TierM w' base m' f' (enterE t i) ∧ Tn (oo f) (oo f') w w') := by
  have g := h.hm i hi
  have gb := g.blk
  obtain ⟨hd, hhd⟩ : ∃ hd, t.H.getD i hd0 = hd := ⟨_, rfl⟩
  obtain ⟨x, hx⟩ : ∃ x, m.hp.getD i hp0 = x := ⟨_, rfl⟩
  have hkl : hd.ks.length = x.2.2.1 := by have := g.rd.1; rw [sv_length, hhd, hx] at this; omega
  have hfin : enterE t i = { t with K := (hd.ks.foldl pinE (t.K, t.wt)).1, wt := (hd.ks.foldl pinE (t.K, t.wt)).2, H := t.H.set i (settleE (hd.ks.foldl pinE (t.K, t.wt)).1 { hd with st := 2 }) } := by unfold enterE; rw [hhd]
  rw [hhd, hx] at gb
  rw [hhd] at hks
  unfold hdV at gb
  rw [hx, hfin]
  clear hfin
  obtain ⟨H2, hH2⟩ : ∃ H2, t.H.set i { hd with st := 2 } = H2 := ⟨_, rfl⟩
  have hg2 : H2.getD i hd0 = { hd with st := 2 } := by rw [← hH2, getD_set_eq _ _ _ _ _ hi, if_pos rfl]
  have hl2 : H2.length = t.H.length := by rw [← hH2, List.length_set]
  refine ret_T (n := 58) Try.func44 rfl rfl ?_
  repeat (first | refine T_seq ?_ | refine T_region ?_ | refine TL_move (hk := ?_) | refine TL_fieldAddr TE (hk := ?_) | refine TL_nilCheck (hk := ?_))
  refine TL_store TE (hk := ?_); intro w1 m1 z1 k1
  have h1 := h.setHold (i := i) (s := 2) hi (by rw [hx]; exact m1) (by rw [hx, hhd]; exact k1)
  rw [hhd, hH2] at h1
  obtain ⟨h1, t1n⟩ := h1
  clear gb m1 z1
  repeat (first | refine T_seq ?_ | refine T_region ?_ | refine T_block ?_ | refine TL_nil ?_ | refine TL_move (hk := ?_) | refine TL_load TE (hk := ?_) | refine TL_fieldAddr TE (hk := ?_) | refine TL_len TE (hk := ?_) | refine TL_nilCheck (hk := ?_))
  refine T_loop (ι := Nat) (fun j => [(14, .int .i64 (j : Int)), (13, .int .i64 (x.2.2.1 : Int)), (12, sL x.2), (1, pB x.1), (0, pB m.p)])
    (fun j w' => j ≤ hd.ks.length ∧ ∃ m1 f1, m1.p = m.p ∧ m1.hp = m.hp ∧ TierM w' base m1 f1 { t with K := ((hd.ks.take j).foldl pinE (t.K, t.wt)).1, wt := ((hd.ks.take j).foldl pinE (t.K, t.wt)).2, H := H2 } ∧ Tn (oo f) (oo f1) w w' ∧ (∀ k l, mget ((hd.ks.take j).foldl pinE (t.K, t.wt)).1 k = some l → l.pins ≤ 1000000 + j) ∧ (∀ k ∈ hd.ks.take j, mget ((hd.ks.take j).foldl pinE (t.K, t.wt)).1 k ≠ none) ∧ ((hd.ks.take j).foldl pinE (t.K, t.wt)).2.length ≤ 1000000 + j)
    (fun j => hd.ks.length - j) 0 (.c rfl (.c rfl (.c rfl (.c rfl (.c rfl (.n)))))) ⟨Nat.zero_le _, m, f, rfl, rfl, h1, t1n, hpin, fun k q => (by cases q), hwt⟩ ?_
  clear h1 t1n hpin hwt k1 h g
  rintro j w2 ⟨hj, m2, f2, hp2, hh2, h2, t2n, hpin, hhas, hwl⟩ ih
  have hqs : j < hd.ks.length → (hd.ks.take (j + 1)).foldl pinE (t.K, t.wt) = pinE ((hd.ks.take j).foldl pinE (t.K, t.wt)) (hd.ks.getD j []) := fun hj => by
    rw [List.take_succ_eq_append_getElem hj, List.foldl_append, List.getD_eq_getElem?_getD, List.getElem?_eq_getElem hj]
    rfl
  have hmem : j < hd.ks.length → ∀ y ∈ hd.ks.take (j + 1), y = hd.ks.getD j [] ∨ y ∈ hd.ks.take j := fun hj y hy => by
    rw [List.take_succ_eq_append_getElem hj, List.mem_append] at hy
    rcases hy with q | q
    · exact .inr q
    · left; rw [List.mem_singleton.1 q, List.getD_eq_getElem?_getD, List.getElem?_eq_getElem hj]; rfl
  have hgr := (h2.hm i (by show i < H2.length; omega)).rd
  simp only at hgr
  rw [hg2, hh2, hx] at hgr
  simp only at hgr
  by_cases hlt : j < hd.ks.length
  · obtain ⟨q, hq⟩ : ∃ q, (hd.ks.take j).foldl pinE (t.K, t.wt) = q := ⟨_, rfl⟩
    obtain ⟨K, wt⟩ := q
    have hqs := hqs hlt
    have hmem := hmem hlt
    have hv := sv_get hd.ks j hlt
    obtain ⟨k, hk⟩ : ∃ k, hd.ks.getD j [] = k := ⟨_, rfl⟩
    rw [hk] at hv hqs hmem
    rw [hq] at h2 hpin hhas hwl hqs
    simp only at h2 hpin hhas hwl
    have hb := h2.blk
    unfold tierV at hb
    simp only at hb
    rw [hp2] at hb
    have mp := h2.mp
    have hbw := h2.bw
    repeat (first | refine T_seq ?_ | refine T_region ?_ | refine T_cond_true rfl ?_ | refine T_block ?_ | refine T_skip ?_ | refine TL_lt_t (hk := ?_) | refine TL_nil ?_ | refine TL_move (hk := ?_) | refine TL_assign (hk := ?_) | refine TL_load TE (hk := ?_) | refine TL_load_rd TE (hk := ?_) | refine TL_fieldAddr TE (hk := ?_) | refine TL_indexAddr1n TE (hk := ?_) | refine TL_nilCheck (hk := ?_))
    refine TL_lookup TE ((none : Option Nat)) (hk := ?_)
    cases hl : mget K k with
    | none =>
      have hlk := (h2.no k).2 hl
      have hwo := h2.wo
      simp only at hwo
      have hwl2 := h2.wl
      simp only at hwl2
      rw [hlk]
      repeat (first | refine T_seq ?_ | refine T_region ?_ | refine T_cond_true rfl ?_ | refine TL_pnil_t TE (hk := ?_) | refine TL_nil ?_ | refine TL_move (hk := ?_) | refine TL_load TE (hk := ?_) | refine TL_fieldAddr TE (hk := ?_) | refine TL_nilCheck (hk := ?_) | refine TL_build TE (hk := ?_))
      refine TL_box (hk := ?_); intro b3 w3 e3 h3 h3' k3
      obtain ⟨l7, hl7e⟩ : ∃ l7 : LnE, l7 = ⟨1, 0, 0, 0⟩ := ⟨_, rfl⟩
      replace k3 : Blk w3 b3 65 (lnV l7) := by rw [hl7e]; exact k3
      have mp3 := mp.be e3
      --
      refine TL_mapUpdate TE (some b3 : Option Nat) (hm := mp3) (hK := keys_tx) (hk := ?_); intro w4 m4 z4 mp4
      obtain ⟨f4, h4, t4⟩ := h2.putLine (k := k) (b := b3) (l := l7) hl e3 h3 k3 m4 mp4
      clear h2 hb mp mp3 hgr
      have hb4 := h4.blk
      unfold tierV at hb4
      simp only at hb4
      rw [hp2] at hb4
      have hwo4 := h4.wo
      simp only at hwo4
      have hbw4 := h4.bw
      repeat (first | refine T_region ?_ | refine TL_nil ?_ | refine TL_move (hk := ?_) | refine TL_load TE (hk := ?_) | refine TL_fieldAddr TE (hk := ?_) | refine TL_nilCheck (hk := ?_))
      refine TL_buildSlice TE (hk := ?_); intro b5 w5 e5 h5 h5' k5
      replace k5 : Blk w5 b5 9 (sv [k]) := k5
      have r5 : Rd w5 (some ⟨b5, 0, none⟩) 1 1 (sv [k]) := Rd.blk k5 rfl
      have z5 := e5.size
      have h5t := h4.ext e5
      --
      refine TL_append_g TE (hwo4.be e5) r5 (sv_one _) (hk := ?_); intro A6 c6 w6 o6 m6 n6
      rw [← sv_append] at o6
      have hpw : m.p ∉ blkL m2.ws.1 := fun q => by
        have a1 := h5t.fw _ q
        have a2 := h5t.fp
        simp only at a2
        rw [hp2, a1] at a2
        simp at a2
      have hb6 := (hb4.be e5).mod m6 hpw
      repeat (first | refine TL_fieldAddr TE (hk := ?_) | refine TL_nilCheck (hk := ?_))
      refine TL_store TE (hk := ?_); intro w7 m7 z7 k7
      rw [← hp2] at m7 k7
      obtain ⟨f7, h7, t7⟩ := h5t.setW (y := (A6, m2.ws.2.1 + 1, c6)) (wt' := wt ++ [k]) m6 o6 (nearB n6) m7 k7
      have hl7 : mget (mput K k l7) k = some l7 := by rw [mget_put, if_pos rfl]
      have hpe : pinE (K, wt) k = (mput (mput K k l7) k { l7 with pins := l7.pins + 1 }, wt ++ [k]) := by rw [mput_mput, hl7e]; unfold pinE; simp only; rw [hl]
      have hlp : l7.pins = 0 := by rw [hl7e]
      have hc7 : (l7.pins : Int) + 1 = ((l7.pins + 1 : Nat) : Int) := by omega
      clear hb4 hwo hwo4 hb6 r5 k5 o6 mp4 k3

      obtain ⟨b8, hlk8, hblk8, hfb8⟩ := h7.kl _ _ hl7
      unfold lnV at hblk8
      have hb8 := h7.blk
      unfold tierV at hb8
      (try simp only at hb8)
      rw [hp2] at hb8
      have mp8 := h7.mp
      repeat (first | refine T_region ?_ | refine TL_nil ?_ | refine TL_move (hk := ?_) | refine TL_load TE (hk := ?_) | refine TL_fieldAddr TE (hk := ?_) | refine TL_nilCheck (hk := ?_))
      refine TL_lookup TE ((none : Option Nat)) (hk := ?_)
      rw [hlk8]
      repeat (first | refine TL_add (hk := ?_) | refine TL_load TE (hk := ?_) | refine TL_fieldAddr TE (hk := ?_) | refine TL_nilCheck (hk := ?_))
      rw [hc7]
      --
      refine TL_store TE (hk := ?_); intro w9 m9 z9 k9
      replace k9 : Blk w9 b8 65 (lnV ({ l7 with pins := l7.pins + 1 } : LnE)) := k9
      obtain ⟨h9, t9⟩ := h7.setLine (k := k) (l := ({ l7 with pins := l7.pins + 1 } : LnE)) (by rw [hl7]; simp) hlk8 m9 k9
      repeat (first | refine T_region ?_ | refine T_inBlock ?_ | refine TL_add (hk := ?_) | refine TL_nil ?_ | refine TL_move (hk := ?_))
      exact ih (j + 1) w9 _ (by omega) ⟨by omega, { m2 with lk := mput m2.lk k (some b3), ws := (A6, m2.ws.2.1 + 1, c6) }, _, hp2, hh2, by rw [hqs, hpe]; exact h9, (((t2n.trans t4).trans (Tn.ext e5)).trans t7).trans t9, fun y l q => (by rw [hqs] at q; have := pinE_get hpin q; omega), fun y hy => (by rw [hqs]; exact pinE_has ((hmem y hy).imp_right (hhas y))), by rw [hqs, hpe]; (simp only [List.length_append, List.length_singleton]; omega)⟩ (.c rfl (.c rfl (.c rfl (.c rfl (.c rfl (.n))))))

    | some l =>
      have hpl := hpin _ _ hl
      have hpe : pinE (K, wt) k = (mput K k { l with pins := l.pins + 1 }, wt) := by unfold pinE; simp only; rw [hl]
      have hcl : (l.pins : Int) + 1 = ((l.pins + 1 : Nat) : Int) := by omega
      obtain ⟨b0, hlk0, _, _⟩ := h2.kl _ _ hl
      rw [hlk0]
      clear hgr

      obtain ⟨b8, hlk8, hblk8, hfb8⟩ := h2.kl _ _ hl
      unfold lnV at hblk8
      have hb8 := h2.blk
      unfold tierV at hb8
      (try simp only at hb8)
      rw [hp2] at hb8
      have mp8 := h2.mp
      repeat (first | refine T_region ?_ | refine T_cond_false rfl ?_ | refine T_skip ?_ | refine TL_pnil_f TE (hk := ?_) | refine TL_nil ?_ | refine TL_move (hk := ?_) | refine TL_load TE (hk := ?_) | refine TL_fieldAddr TE (hk := ?_) | refine TL_nilCheck (hk := ?_))
      refine TL_lookup TE ((none : Option Nat)) (hk := ?_)
      rw [hlk8]
      repeat (first | refine TL_add (hk := ?_) | refine TL_load TE (hk := ?_) | refine TL_fieldAddr TE (hk := ?_) | refine TL_nilCheck (hk := ?_))
      rw [hcl]
      --
      refine TL_store TE (hk := ?_); intro w9 m9 z9 k9
      replace k9 : Blk w9 b8 65 (lnV ({ l with pins := l.pins + 1 } : LnE)) := k9
      obtain ⟨h9, t9⟩ := h2.setLine (k := k) (l := ({ l with pins := l.pins + 1 } : LnE)) (by rw [hl]; simp) hlk8 m9 k9
      repeat (first | refine T_region ?_ | refine T_inBlock ?_ | refine TL_add (hk := ?_) | refine TL_nil ?_ | refine TL_move (hk := ?_))
      exact ih (j + 1) w9 _ (by omega) ⟨by omega, m2, _, hp2, hh2, by rw [hqs, hpe]; exact h9, (t2n).trans t9, fun y l q => (by rw [hqs] at q; have := pinE_get hpin q; omega), fun y hy => (by rw [hqs]; exact pinE_has ((hmem y hy).imp_right (hhas y))), by rw [hqs, hpe]; (simp only; omega)⟩ (.c rfl (.c rfl (.c rfl (.c rfl (.c rfl (.n))))))

  · clear ih
    have hj2 : j = hd.ks.length := by omega
    subst hj2
    rw [List.take_length] at h2 hhas hpin hwl
    have cS := settle_c i w2 h2 (by show i < H2.length; omega) (by simp only; rw [hg2]; exact fun _ => hhas)
    simp only at cS
    rw [hp2, hh2, hx, hg2, ← hH2, List.set_set] at cS
    repeat (first | refine T_seq ?_ | refine T_region ?_ | refine T_cond_false rfl ?_ | refine T_exit rfl ?_ | refine TL_lt_f (hk := ?_) | refine TL_nil ?_ | refine TL_move (hk := ?_))
    refine TL_call TE (hc := cS) (hk := ?_)
    rintro _ w3 ⟨h3, t3⟩
    repeat (refine TL_nil ?_)
    exact T_end0 rfl ⟨m2, f2, hp2, h3, t2n.trans t3⟩
end
end Go.Proofs.Ythiacmmkfngpbaa

namespace Go.Proofs.Ythiacmmkfngpbaa
open Go.RowKit Go.Proofs.Eng Go.Proofs.Foot Go.Proofs.Cold
set_option linter.unusedSimpArgs false
set_option linter.unusedVariables false set_option maxRecDepth 10000
attribute [local irreducible] T TL LV TH TA
set_option maxHeartbeats 3200000
section
variable {w w' : World} {base : Nat} {m : CM} {f : Nat → Oo} {t : CS}
theorem sub_len {α : Type} [DecidableEq α] : ∀ (a b : List α), a.Nodup → (∀ x ∈ a, x ∈ b) → a.length ≤ b.length
  | [], b, _, _ => by simp
  | x :: a, b, hn, hs => by
    rw [List.nodup_cons] at hn
    have hx := hs x (by simp)
    have := sub_len a (b.erase x) hn.2 (fun y hy => (List.mem_erase_of_ne (fun e => hn.1 (by rw [← e]; exact hy))).2 (hs y (by simp [hy])))
    rw [List.length_erase_of_mem hx] at this
    have := List.length_pos_of_mem hx
    rw [List.length_cons]
    omega
theorem kok_wlen {room lines delay : Nat} {K : List (Tx × LnE)} {wt : List Tx} {pc : Tx → Nat} (h : KOk room lines delay K wt pc) : wt.length ≤ room := by
  refine Nat.le_trans ?_ h.pr
  unfold cntE
  have hlm : (K.filter fun x => pinned x.2).length = ((K.filter fun x => pinned x.2).map (·.1)).length := by simp
  rw [hlm]
  refine sub_len _ _ h.wn fun k hk => ?_
  obtain ⟨l, h1, h2⟩ := (h.wk k).1 hk
  have := h.wp k l h1 h2
  exact List.mem_map.2 ⟨(k, l), List.mem_filter.2 ⟨mget_in h1, by unfold pinned; simp; omega⟩, rfl⟩
theorem kok_klen {room lines delay : Nat} {K : List (Tx × LnE)} {wt : List Tx} {pc : Tx → Nat} (h : KOk room lines delay K wt pc) : K.length ≤ 2 * room := by
  have h1 := h.pr
  have h2 := h.nw
  have h3 : ∀ L : List (Tx × LnE), (∀ x ∈ L, x ∈ K) → L.length ≤ cntE isNW L + cntE pinned L := fun L => by
    induction L with
    | nil => intro _; simp
    | cons x L ih =>
      intro hs
      have := ih (fun y hy => hs y (by simp [hy]))
      have hx : mget K x.1 = some x.2 := mget_of h.nd (hs x (by simp))
      have hq : isNW x.2 = true ∨ pinned x.2 = true := by
        by_cases q : x.2.st = 1
        · right; have := h.wp _ _ hx q; unfold pinned; simp; omega
        · left; unfold isNW; simp [q]
      unfold cntE at *
      by_cases q1 : isNW x.2 = true <;> by_cases q2 : pinned x.2 = true <;> simp [q1, q2, List.filter_cons] at hq ⊢ <;> omega
  have := h3 K (fun x hx => hx)
  omega
theorem ci_pins (h : CI0 t) {k : Tx} {l : LnE} (hl : mget t.K k = some l) : l.pins ≤ t.H.length := by
  have := h.k.pn k
  rw [hl] at this
  simp only [Option.getD_some] at this
  rw [this]
  exact List.length_filter_le _ _
theorem wait_pos {i : Nat} (h : waitI t = some i) : 1 ≤ waitN t := by
  obtain ⟨h1, h2, _⟩ := waitI_some h
  unfold waitN
  exact List.length_pos_of_mem (List.mem_filter.2 ⟨getD_mem (d := hd0) h1, by simp only [decide_eq_true_eq]; exact h2⟩)
theorem letL_stop {n : Nat} (h : waitI t = none) : letL n t = t := by
  cases n with
  | zero => rfl
  | succ n => unfold letL; rw [h]
theorem letL_full {n i : Nat} (h : waitI t = some i) (hf : ¬ fitsE t (t.H.getD i hd0).ks = true) : letL n t = t := by
  cases n with
  | zero => rfl
  | succ n => unfold letL; rw [h]; simp only; rw [if_neg hf]
theorem letL_go {n i : Nat} (h : waitI t = some i) (hf : fitsE t (t.H.getD i hd0).ks = true) : letL (n + 1) t = letL n (enterE t i) := by
  conv => lhs; unfold letL
  rw [h]
  simp only
  rw [if_pos hf]
theorem let_c (w : World) (h : TierM w base m f t) (hc : CI0 t) (hH : t.H.length ≤ 1000000) (hF : t.fet ≤ 2305843009213693952) :
    Ret Try.prog 32 [pB m.p] w (fun v w' => ∃ m' f', m'.p = m.p ∧ TierM w' base m' f' (letE t) ∧ Tn (oo f) (oo f') w w') := by
  have hwn : waitN t ≤ t.H.length := List.length_filter_le _ _
  refine ret_T (n := 33) Try.func32 rfl rfl ?_
  repeat (first | refine T_seq ?_ | refine T_block ?_)
  refine T_loop (ι := Nat × CS) (fun _ => [(0, pB m.p)]) (fun n w' => ∃ m1 f1, m1.p = m.p ∧ TierM w' base m1 f1 n.2 ∧ Tn (oo f) (oo f1) w w' ∧ CI0 n.2 ∧ waitN n.2 ≤ n.1 ∧ letL n.1 n.2 = letL t.H.length t ∧ n.2.H.length = t.H.length ∧ n.2.fet = t.fet) (fun n => n.1) (t.H.length, t) (.c rfl (.n)) ⟨m, f, rfl, h, Tn.refl _ _, hc, hwn, rfl, rfl, rfl⟩ ?_
  clear h hc hwn
  rintro ⟨n, t1⟩ w1 ⟨m1, f1, hp1, h1, t1n, hc, hwn, hL, hl, hf⟩ ih
  simp only at h1 hc hwn hL hl hf ih ⊢
  have hb := h1.blk
  unfold tierV at hb
  rw [hp1] at hb
  have hrd := h1.ho.rd
  have hhl := h1.hl'
  have hhp := h1.hl
  have cH := IndexH_c m1.hs.1 m1.hs.2.1 m1.hs.2.2 (ptrs m1.hp) 42 [] (fun j => decide ((t1.H.getD j hd0).st = 1)) w1 hrd (by omega) rfl (by
      intro j v hv w' e'
      have hj : j < m1.hp.length := by have := List.getElem?_eq_some_iff.1 hv; obtain ⟨h, _⟩ := this; simpa [ptrs] using h
      rw [ptrs_get _ _ hj] at hv
      cases hv
      exact let1_c _ _ w' ((h1.ext e').hm j (by omega)).blk)
  have hw : idxI (fun j => decide ((t1.H.getD j hd0).st = 1)) m1.hs.2.1 = fI (waitI t1) := by
    rw [hhl, idxI_find (fun h : HdE => decide (h.st = 1)) hd0 t1.H]
    unfold waitI fI
    rfl
  rw [hw] at cH
  have hk := hc.k
  have cT := fun (w' : World) (h' : TierM w' base m1 f1 t1) => take_c w' h' hk hc.dl hc.rm.2 hc.ls.2 (by have := kok_klen hk; have := hc.rm; omega) (by have := kok_wlen hk; have := hc.rm; omega)
  rw [hp1] at cT
  repeat (first | refine T_seq ?_ | refine T_region ?_ | refine T_block ?_ | refine TL_move (hk := ?_) | refine TL_load TE (hk := ?_) | refine TL_fieldAddr TE (hk := ?_) | refine TL_nilCheck (hk := ?_))
  refine TL_call TE (hc := cH) (hk := ?_)
  rintro _ w2 ⟨rfl, e2⟩
  have h2 := h1.ext e2
  have hb2 := hb.be e2
  have t2n := t1n.trans (Tn.ext e2)
  cases hwi : waitI t1 with
  | none =>
    have hfin : letE t = takeE t1 := by unfold letE; rw [← hL, letL_stop hwi]
    unfold fI
    simp only
    clear ih
    repeat (first | refine T_seq ?_ | refine T_region ?_ | refine T_cond_true rfl ?_ | refine T_exit rfl ?_ | refine TL_lt_t (hk := ?_) | refine TL_nil ?_ | refine TL_move (hk := ?_) | refine TL_assign (hk := ?_) | refine TL_no (hk := ?_) | refine TL_pick_t (hk := ?_))
    refine TL_call TE (hc := cT _ h2) (hk := ?_)
    rintro _ w3 ⟨m3, f3, hp3, h3, t3⟩
    repeat (refine TL_nil ?_)
    exact T_end0 rfl ⟨m3, f3, hp3, by rw [hfin]; exact h3, t2n.trans t3⟩
  | some i =>
    obtain ⟨hi, hst, _⟩ := waitI_some hwi
    obtain ⟨s1, s2, s3, s4⟩ := hc.hs _ (getD_mem (d := hd0) hi)
    have hkr := hc.rm
    have cF := fits_c i w2 h2 hi (by have := kok_klen hk; omega) (by omega)
    rw [hp1] at cF
    have hrd2 := hrd.be e2
    have hv := ptrs_get m1.hp i (by omega)
    unfold fI
    simp only
    repeat (first | refine T_seq ?_ | refine T_region ?_ | refine TL_lt_f (hk := ?_) | refine TL_nil ?_ | refine TL_move (hk := ?_) | refine TL_assign (hk := ?_) | refine TL_load TE (hk := ?_) | refine TL_load_rd TE (hk := ?_) | refine TL_fieldAddr TE (hk := ?_) | refine TL_indexAddr1n TE (hk := ?_) | refine TL_yes (hk := ?_) | refine TL_nilCheck (hk := ?_))
    refine TL_call TE (hc := cF) (hk := ?_)
    rintro _ w3 ⟨rfl, e3⟩
    have h3 := h2.ext e3
    have hb3 := hb2.be e3
    have hrd3 := hrd2.be e3
    have t3n := t2n.trans (Tn.ext e3)
    by_cases hfit : fitsE t1 (t1.H.getD i hd0).ks = true
    · rw [hfit]
      have hw1 := wait_pos hwi
      obtain ⟨n', rfl⟩ : ∃ n', n = n' + 1 := ⟨n - 1, by omega⟩
      obtain ⟨c1, _, c2, _, _, _, _, _, _, c3, c4⟩ := enter_good hc hwi hfit
      have cI := in_c i w3 h3 hi (by omega) (fun k l q => by have := ci_pins hc q; omega) (by have := kok_wlen hk; omega)
      rw [hp1] at cI
      repeat (first | refine T_region ?_ | refine T_cond_false rfl ?_ | refine T_skip ?_ | refine TL_nil ?_ | refine TL_move (hk := ?_) | refine TL_load TE (hk := ?_) | refine TL_load_rd TE (hk := ?_) | refine TL_fieldAddr TE (hk := ?_) | refine TL_indexAddr1n TE (hk := ?_) | refine TL_yes (hk := ?_) | refine TL_pick_f (hk := ?_) | refine TL_nilCheck (hk := ?_) | refine TL_not (hk := ?_))
      refine TL_call TE (hc := cI) (hk := ?_)
      rintro _ w4 ⟨m4, f4, hp4, h4, t4⟩
      repeat (first | refine T_inBlock ?_ | refine TL_nil ?_)
      exact ih (n', enterE t1 i) w4 _ (by simp) ⟨m4, f4, hp4, h4, t3n.trans t4, c1, by simp only; omega, by simp only; rw [← letL_go hwi hfit]; exact hL, by simp only; omega, by simp only; omega⟩ (.c rfl (.n))
    · have hfin : letE t = takeE t1 := by unfold letE; rw [← hL, letL_full hwi hfit]
      have hff : fitsE t1 (t1.H.getD i hd0).ks = false := by simpa using hfit
      rw [hff]
      clear ih
      repeat (first | refine T_region ?_ | refine T_cond_true rfl ?_ | refine T_exit rfl ?_ | refine TL_nil ?_ | refine TL_move (hk := ?_) | refine TL_yes (hk := ?_) | refine TL_pick_f (hk := ?_) | refine TL_not (hk := ?_))
      refine TL_call TE (hc := cT _ h3) (hk := ?_)
      rintro _ w4 ⟨m4, f4, hp4, h4, t4⟩
      repeat (refine TL_nil ?_)
      exact T_end0 rfl ⟨m4, f4, hp4, by rw [hfin]; exact h4, t3n.trans t4⟩
end
end Go.Proofs.Ythiacmmkfngpbaa

namespace Go.Proofs.Ythiacmmkfngpbaa
open Go.RowKit Go.Proofs.Eng Go.Proofs.Foot Go.Proofs.Cold
set_option linter.unusedSimpArgs false
set_option linter.unusedVariables false set_option maxRecDepth 10000
attribute [local irreducible] T TL LV TH TA
set_option maxHeartbeats 3200000
section
variable {w w' : World} {base : Nat} {m : CM} {f : Nat → Oo} {t : CS}
theorem SClone_c (A : Option Addr) (n c : Nat) (l : List Tx) (w : World) (h : Rd w A n 1 (sv l)) (hn : n ≤ 100000000) :
    Ret Try.prog 31 [.slice A n c] w (fun v w' => ∃ x, v = sL x ∧ Ext w w' ∧ TxRow w' w.heap.size x l) := by
  cases A with
  | none =>
    obtain ⟨rfl, hl⟩ := Rd.none h
    have hl0 : l = [] := by
      have := sv_length l
      rw [hl] at this
      exact List.length_eq_zero_iff.1 (by simp at this; omega)
    subst hl0
    refine ret_T (n := 8) Try.func31 rfl rfl ?_
    repeat (first | refine T_seq ?_ | refine T_region ?_ | refine T_cond_true rfl ?_ | refine TL_nil_t TE (hk := ?_) | refine TL_nil ?_ | refine TL_move (hk := ?_) | refine TL_assign (hk := ?_))
    exact T_ret1 rfl rfl ⟨(none, 0, 0), rfl, Mod.refl _ _, Own.nil _ _ _ _⟩
  | some ad =>
    have hone := sv_one l
    refine ret_T (n := 8) Try.func31 rfl rfl ?_
    repeat (first | refine T_seq ?_ | refine T_region ?_ | refine T_cond_false rfl ?_ | refine T_skip ?_ | refine TL_nil_f TE (hk := ?_) | refine TL_nil ?_ | refine TL_move (hk := ?_) | refine TL_assign (hk := ?_))
    refine TL_buildSlice0 TE (hk := ?_); intro b1 w1 e1 h1 h1' k1
    have o1 : Own w1 w.heap.size 9 1 (some ⟨b1, 0, none⟩) 0 0 [] := Own.of_blk k1 h1 rfl (by decide)
    have h2 := h.be e1
    repeat (refine TL_move (hk := ?_))
    refine TL_append TE (hk := ?_); intro A2 c2 w2 o2 m2 n2
    rw [List.nil_append] at o2
    repeat (first | refine TL_nil ?_ | refine TL_assign (hk := ?_))
    exact T_ret1 rfl rfl ⟨(A2, 0 + n, c2), rfl, Mod.own e1 m2 o1.hi, o2⟩
theorem Warm_c (w : World) (h : TierM w base m f t) (hK : t.K.length ≤ 1000000) :
    Ret Try.prog 24 [pB m.p] w (fun v w' => ∃ x, v = sL x ∧ Ext w w' ∧ TxRow w' w.heap.size x (sortT (withE t 3))) := by
  refine ret_T (n := 5) Try.func24 rfl rfl ?_
  repeat (first | refine T_seq ?_ | refine T_region ?_ | refine TL_nil ?_ | refine TL_move (hk := ?_) | refine TL_assign (hk := ?_))
  refine TL_call TE (hc := with_c 3 w h hK) (hk := ?_)
  rintro _ w1 ⟨x, rfl, e1, o1⟩
  repeat (first | refine TL_nil ?_ | refine TL_assign (hk := ?_))
  exact T_ret1 rfl rfl ⟨x, rfl, e1, o1⟩
theorem Fetching_c (w : World) (h : TierM w base m f t) (hK : t.K.length ≤ 1000000) :
    Ret Try.prog 19 [pB m.p] w (fun v w' => ∃ x, v = sL x ∧ Ext w w' ∧ TxRow w' w.heap.size x (sortT (withE t 2))) := by
  refine ret_T (n := 5) Try.func19 rfl rfl ?_
  repeat (first | refine T_seq ?_ | refine T_region ?_ | refine TL_nil ?_ | refine TL_move (hk := ?_) | refine TL_assign (hk := ?_))
  refine TL_call TE (hc := with_c 2 w h hK) (hk := ?_)
  rintro _ w1 ⟨x, rfl, e1, o1⟩
  repeat (first | refine TL_nil ?_ | refine TL_assign (hk := ?_))
  exact T_ret1 rfl rfl ⟨x, rfl, e1, o1⟩
theorem Wanted_c (w : World) (h : TierM w base m f t) (hw : t.wt.length ≤ 1000000) :
    Ret Try.prog 18 [pB m.p] w (fun v w' => ∃ x, v = sL x ∧ Ext w w' ∧ TxRow w' w.heap.size x t.wt) := by
  have hb := h.blk
  unfold tierV at hb
  have hwl := h.wl
  refine ret_T (n := 10) Try.func18 rfl rfl ?_
  repeat (first | refine T_seq ?_ | refine T_region ?_ | refine T_cond_false rfl ?_ | refine T_skip ?_ | refine TL_pnil_f TE (hk := ?_) | refine TL_nil ?_ | refine TL_move (hk := ?_) | refine TL_assign (hk := ?_) | refine TL_load TE (hk := ?_) | refine TL_fieldAddr TE (hk := ?_) | refine TL_nilCheck (hk := ?_))
  refine TL_call TE (hc := SClone_c m.ws.1 m.ws.2.1 m.ws.2.2 t.wt w h.wo.rd (by omega)) (hk := ?_)
  rintro _ w1 ⟨x, rfl, e1, o1⟩
  repeat (first | refine TL_nil ?_ | refine TL_assign (hk := ?_))
  exact T_ret1 rfl rfl ⟨x, rfl, e1, o1⟩
theorem Now_c (w : World) (h : TierM w base m f t) : Ret Try.prog 27 [pB m.p] w (fun v w' => v = .int .i64 (t.now : Int) ∧ Ext w w') := by
  have hb := h.blk
  unfold tierV at hb
  refine ret_T (n := 9) Try.func27 rfl rfl ?_
  repeat (first | refine T_seq ?_ | refine T_region ?_ | refine T_cond_false rfl ?_ | refine T_skip ?_ | refine TL_pnil_f TE (hk := ?_) | refine TL_nil ?_ | refine TL_move (hk := ?_) | refine TL_assign (hk := ?_) | refine TL_load TE (hk := ?_) | refine TL_fieldAddr TE (hk := ?_) | refine TL_nilCheck (hk := ?_))
  exact T_ret1 rfl rfl ⟨rfl, Mod.refl _ _⟩
theorem Fetches_c (w : World) (h : TierM w base m f t) : Ret Try.prog 28 [pB m.p] w (fun v w' => v = .int .i64 (t.fet : Int) ∧ Ext w w') := by
  have hb := h.blk
  unfold tierV at hb
  refine ret_T (n := 9) Try.func28 rfl rfl ?_
  repeat (first | refine T_seq ?_ | refine T_region ?_ | refine T_cond_false rfl ?_ | refine T_skip ?_ | refine TL_pnil_f TE (hk := ?_) | refine TL_nil ?_ | refine TL_move (hk := ?_) | refine TL_assign (hk := ?_) | refine TL_load TE (hk := ?_) | refine TL_fieldAddr TE (hk := ?_) | refine TL_nilCheck (hk := ?_))
  exact T_ret1 rfl rfl ⟨rfl, Mod.refl _ _⟩
theorem Pins_c (k : Tx) (w : World) (h : TierM w base m f t) : Ret Try.prog 26 [pB m.p, .string (ofL k)] w (fun v w' => v = .int .i64 (pinsE t k : Int) ∧ Ext w w') := by
  have hb := h.blk
  unfold tierV at hb
  have mp := h.mp
  refine ret_T (n := 25) Try.func26 rfl rfl ?_
  repeat (first | refine T_seq ?_ | refine T_region ?_ | refine TL_pnil_f TE (hk := ?_) | refine TL_nil ?_ | refine TL_move (hk := ?_) | refine TL_assign (hk := ?_) | refine TL_load TE (hk := ?_) | refine TL_fieldAddr TE (hk := ?_) | refine TL_yes (hk := ?_) | refine TL_nilCheck (hk := ?_))
  refine TL_lookup TE ((none : Option Nat)) (hk := ?_)
  unfold pinsE
  cases hl : mget t.K k with
  | none =>
    have hlk := (h.no k).2 hl
    rw [hlk]
    repeat (first | refine T_seq ?_ | refine T_region ?_ | refine T_cond_true rfl ?_ | refine TL_pnil_t TE (hk := ?_) | refine TL_nil ?_ | refine TL_assign (hk := ?_) | refine TL_yes (hk := ?_) | refine TL_pick_f (hk := ?_))
    exact T_ret1 rfl rfl ⟨rfl, Mod.refl _ _⟩
  | some l =>
    obtain ⟨b, hlk, hblk, hf⟩ := h.kl _ _ hl
    unfold lnV at hblk
    have hlk' := hlk
    rw [hlk]
    repeat (first | refine T_seq ?_ | refine T_region ?_ | refine T_cond_false rfl ?_ | refine T_skip ?_ | refine TL_pnil_f TE (hk := ?_) | refine TL_nil ?_ | refine TL_move (hk := ?_) | refine TL_load TE (hk := ?_) | refine TL_fieldAddr TE (hk := ?_) | refine TL_yes (hk := ?_) | refine TL_pick_f (hk := ?_) | refine TL_nilCheck (hk := ?_))
    refine TL_lookup TE ((none : Option Nat)) (hk := ?_)
    rw [hlk']
    repeat (first | refine TL_nil ?_ | refine TL_assign (hk := ?_) | refine TL_load TE (hk := ?_) | refine TL_fieldAddr TE (hk := ?_) | refine TL_nilCheck (hk := ?_))
    exact T_ret1 rfl rfl ⟨rfl, Mod.refl _ _⟩
theorem State_c (z : Int) (w : World) (h : TierM w base m f t) : Ret Try.prog 17 [pB m.p, .int .i64 z] w (fun v w' => v = .int .i64 (stateE t z : Int) ∧ Ext w w') := by
  have hb := h.blk
  unfold tierV at hb
  have hrd := h.ho.rd
  have hhl := h.hl'
  have hhp := h.hl
  have hcp := h.ho.cap
  unfold maxLen at hcp
  refine ret_T (n := 23) Try.func17 rfl rfl ?_
  repeat (first | refine T_seq ?_ | refine T_region ?_ | refine T_cond_false rfl ?_ | refine T_skip ?_ | refine TL_pnil_f TE (hk := ?_) | refine TL_nil ?_ | refine TL_move (hk := ?_) | refine TL_assign (hk := ?_))
  refine TL_call TE (hc := find_c z w h) (hk := ?_)
  rintro _ w1 ⟨rfl, e1⟩
  have h1 := h.ext e1
  have hb1 := hb.be e1
  have hrd1 := hrd.be e1
  unfold stateE
  cases hf : findE t z with
  | none =>
    unfold fI
    simp only
    repeat (first | refine T_seq ?_ | refine T_region ?_ | refine T_cond_false rfl ?_ | refine T_skip ?_ | refine TL_ge_f (hk := ?_) | refine TL_nil ?_ | refine TL_move (hk := ?_) | refine TL_assign (hk := ?_))
    exact T_ret1 rfl rfl ⟨rfl, e1⟩
  | some i =>
    obtain ⟨hi, _⟩ := find_some hf
    have gb := (h1.hm i hi).blk
    unfold hdV at gb
    have hv := ptrs_get m.hp i (by omega)
    unfold fI
    simp only
    repeat (first | refine T_seq ?_ | refine T_region ?_ | refine T_cond_true rfl ?_ | refine TL_ge_t (hk := ?_) | refine TL_nil ?_ | refine TL_move (hk := ?_) | refine TL_assign (hk := ?_) | refine TL_load TE (hk := ?_) | refine TL_load_rd TE (hk := ?_) | refine TL_fieldAddr TE (hk := ?_) | refine TL_indexAddr1n TE (hk := ?_) | refine TL_nilCheck (hk := ?_))
    exact T_ret1 rfl rfl ⟨rfl, e1⟩
def zv (l : List Int) : List Value := l.map fun z => .int .i64 z
theorem zv_append (a b : List Int) : zv (a ++ b) = zv a ++ zv b := by simp [zv]
theorem zv_one (l : List Int) : ∀ u ∈ zv l, u.oneCell' = true := by
  intro u hu
  obtain ⟨z, _, rfl⟩ := List.mem_map.1 hu
  rfl
def rdyL (l : List HdE) : List Int := (l.filter fun h => decide (h.st = 3)).map (·.id)
theorem rdy_succ (l : List HdE) (j : Nat) (h : j < l.length) : rdyL (l.take (j + 1)) = rdyL (l.take j) ++ (if (l.getD j hd0).st = 3 then [(l.getD j hd0).id] else []) := by
  unfold rdyL
  rw [List.take_succ_eq_append_getElem h, List.filter_append, List.map_append, List.getD_eq_getElem?_getD, List.getElem?_eq_getElem h]
  by_cases q : l[j].st = 3 <;> simp [q]
theorem Ready_c (w : World) (h : TierM w base m f t) (hH : t.H.length ≤ 1000000) : Ret Try.prog 20 [pB m.p] w (fun v w' => ∃ x : SL, v = sL x ∧ Ext w w' ∧ Own w' w.heap.size 2 1 x.1 x.2.1 x.2.2 (zv (readyC t))) := by
  have hb := h.blk
  unfold tierV at hb
  have hrd := h.ho.rd
  have hhl := h.hl'
  have hhp := h.hl
  refine ret_T (n := 31) Try.func20 rfl rfl ?_
  repeat (first | refine T_seq ?_ | refine T_region ?_ | refine T_cond_false rfl ?_ | refine T_block ?_ | refine T_skip ?_ | refine TL_pnil_f TE (hk := ?_) | refine TL_nil ?_ | refine TL_move (hk := ?_) | refine TL_assign (hk := ?_) | refine TL_load TE (hk := ?_) | refine TL_fieldAddr TE (hk := ?_) | refine TL_len TE (hk := ?_) | refine TL_nilCheck (hk := ?_))
  refine T_loop (ι := Nat × SL) (fun j => [(13, .int .i64 (j.1 : Int)), (12, .int .i64 (m.hs.2.1 : Int)), (11, sL m.hs), (3, sL j.2)])
    (fun j w' => j.1 ≤ t.H.length ∧ Ext w w' ∧ Own w' w.heap.size 2 1 j.2.1 j.2.2.1 j.2.2.2 (zv (rdyL (t.H.take j.1)))) (fun j => t.H.length - j.1) (0, (none, 0, 0)) (.c rfl (.c rfl (.c rfl (.c rfl (.n))))) ⟨Nat.zero_le _, Mod.refl _ _, Own.nil _ _ _ _⟩ ?_
  rintro ⟨j, y⟩ w1 ⟨hj, e1, o1⟩ ih
  simp only at hj e1 o1 ih ⊢
  have h1 := h.ext e1
  have hrd1 := hrd.be e1
  by_cases hlt : j < t.H.length
  · have gb := (h1.hm j hlt).blk
    unfold hdV at gb
    have hv := ptrs_get m.hp j (by omega)
    have hs := rdy_succ t.H j hlt
    obtain ⟨hd, hhd⟩ : ∃ hd, t.H.getD j hd0 = hd := ⟨_, rfl⟩
    rw [hhd] at gb hs
    have hrl : (rdyL (t.H.take j)).length ≤ j := by unfold rdyL; rw [List.length_map]; exact Nat.le_trans (List.length_filter_le _ _) (by rw [List.length_take]; exact Nat.min_le_left _ _)
    have hol := o1.len
    have hzl : (zv (rdyL (t.H.take j))).length = (rdyL (t.H.take j)).length := by simp [zv]
    by_cases hs3 : hd.st = 3
    · rw [if_pos hs3] at hs
      have hbw : w.heap.size ≤ w1.heap.size := e1.size
      repeat (first | refine T_seq ?_ | refine T_region ?_ | refine T_cond_true rfl ?_ | refine T_block ?_ | refine T_skip ?_ | refine TL_lt_t (hk := ?_) | refine TL_eq_t (hk := ?_) | refine TL_nil ?_ | refine TL_move (hk := ?_) | refine TL_assign (hk := ?_) | refine TL_load TE (hk := ?_) | refine TL_load_rd TE (hk := ?_) | refine TL_fieldAddr TE (hk := ?_) | refine TL_indexAddr1n TE (hk := ?_) | refine TL_nilCheck (hk := ?_))
      refine TL_buildSlice TE (hk := ?_); intro b5 w5 e5 h51 h52 k5
      replace k5 : Blk w5 b5 2 (zv [hd.id]) := k5
      have r5 : Rd w5 (some ⟨b5, 0, none⟩) 1 1 (zv [hd.id]) := Rd.blk k5 rfl
      have o5 := Own.be e5 o1
      have z5 := e5.size
      --
      refine TL_append TE (ho := o5) (hr := r5) (h1 := zv_one _) (hk := ?_); intro A6 c6 w6 o6 m6 n6
      rw [← zv_append, ← hs] at o6
      repeat (first | refine T_region ?_ | refine T_inBlock ?_ | refine TL_add (hk := ?_) | refine TL_nil ?_ | refine TL_move (hk := ?_) | refine TL_assign (hk := ?_))
      exact ih (j + 1, A6, y.2.1 + 1, c6) w6 _ (by simp only; omega) ⟨by simp only; omega, (e1.ext e5).own m6 o1.hi, o6⟩ (.c rfl (.c rfl (.c rfl (.c rfl (.n)))))
    · rw [if_neg hs3, List.append_nil] at hs
      repeat (first | refine T_seq ?_ | refine T_region ?_ | refine T_cond_true rfl ?_ | refine T_cond_false rfl ?_ | refine T_block ?_ | refine T_inBlock ?_ | refine T_skip ?_ | refine TL_add (hk := ?_) | refine TL_lt_t (hk := ?_) | refine TL_eq_f (hk := ?_) | refine TL_nil ?_ | refine TL_move (hk := ?_) | refine TL_assign (hk := ?_) | refine TL_load TE (hk := ?_) | refine TL_load_rd TE (hk := ?_) | refine TL_fieldAddr TE (hk := ?_) | refine TL_indexAddr1n TE (hk := ?_) | refine TL_nilCheck (hk := ?_))
      exact ih (j + 1, y) w1 _ (by simp only; omega) ⟨by simp only; omega, e1, by simp only; rw [hs]; exact o1⟩ (.c rfl (.c rfl (.c rfl (.c rfl (.n)))))
  · clear ih
    have hj2 : j = t.H.length := by omega
    subst hj2
    rw [List.take_length] at o1
    repeat (first | refine T_seq ?_ | refine T_region ?_ | refine T_cond_false rfl ?_ | refine T_exit rfl ?_ | refine TL_lt_f (hk := ?_) | refine TL_nil ?_ | refine TL_move (hk := ?_) | refine TL_assign (hk := ?_))
    exact T_ret1 rfl rfl ⟨y, rfl, e1, o1⟩
end
end Go.Proofs.Ythiacmmkfngpbaa

namespace Go.Proofs.Ythiacmmkfngpbaa
open Go.RowKit Go.Proofs.Eng Go.Proofs.Foot Go.Proofs.Cold
set_option linter.unusedSimpArgs false
set_option linter.unusedVariables false set_option maxRecDepth 10000
attribute [local irreducible] T TL LV TH TA
set_option maxHeartbeats 6400000
section
variable {w w' : World} {base : Nat} {m : CM} {f : Nat → Oo} {t : CS}
theorem tn_fresh {o o' : Nat → Nat} {w w1 w2 : World} {D : List Nat} (h : Tn o o' w w1) (m : Eng.Mod D w1 w2) (hD : ∀ b ∈ D, w.heap.size ≤ b) : Tn o o' w w2 := by
  obtain ⟨⟨S, h1, h2⟩, h3, h4⟩ := h
  exact ⟨⟨S, h1.step m (fun b hb => .inr (hD b hb)), h2⟩, h3, Nat.le_trans h4 m.size⟩
/-- Keys that are still to be looked at are as they were. -/
def tkK (N : Nat) (K : List (Tx × LnE)) (left : List Tx) : List (Tx × LnE) := K.map fun x => (x.1, if x.1 ∈ left then x.2 else tickLn N x.2)
theorem tkK_all (N : Nat) (K : List (Tx × LnE)) : tkK N K (K.map (·.1)) = K := by
  unfold tkK
  conv => rhs; rw [← List.map_id K]
  apply List.map_congr_left
  intro x hx
  rw [if_pos (List.mem_map.2 ⟨x, hx, rfl⟩)]
  rfl
theorem tkK_nil (N : Nat) (K : List (Tx × LnE)) : tkK N K [] = tickK N K := by
  unfold tkK tickK
  simp
theorem mget_mapv (g : Tx × LnE → LnE) : ∀ {K : List (Tx × LnE)} {k : Tx} {l : LnE}, mget K k = some l → mget (K.map fun x => (x.1, g x)) k = some (g (k, l))
  | [], k, l, h => by simp [mget] at h
  | x :: K, k, l, h => by
    unfold mget at h
    rw [List.map_cons]
    unfold mget
    by_cases e : x.1 = k
    · rw [if_pos e] at h ⊢
      cases h
      subst e
      rfl
    · rw [if_neg e] at h ⊢
      exact mget_mapv g h
theorem mput_mapv (g g' : Tx × LnE → LnE) {k : Tx} {v : LnE} : ∀ {K : List (Tx × LnE)}, (K.map (·.1)).Nodup → mget K k ≠ none → (∀ x ∈ K, g' x = if x.1 = k then v else g x) → mput (K.map fun x => (x.1, g x)) k v = K.map fun x => (x.1, g' x)
  | [], _, h, _ => absurd rfl h
  | x :: K, hn, h, hg => by
    rw [List.map_cons, List.nodup_cons] at hn
    rw [List.map_cons, List.map_cons]
    unfold mput
    unfold mget at h
    have hx := hg x (by simp)
    by_cases e : x.1 = k
    · rw [if_pos e] at hx ⊢
      rw [hx, e]
      congr 1
      apply List.map_congr_left
      intro y hy
      have := hg y (by simp [hy])
      rw [if_neg (fun q => hn.1 (by rw [e, ← q]; exact List.mem_map.2 ⟨y, hy, rfl⟩))] at this
      rw [this]
    · rw [if_neg e] at hx h ⊢
      rw [hx, mput_mapv g g' hn.2 h (fun y hy => hg y (by simp [hy]))]
theorem tkK_step {N : Nat} {K : List (Tx × LnE)} {l1 l2 : List Tx} {k : Tx} {l : LnE} (hn : (K.map (·.1)).Nodup) (hd : (l1 ++ k :: l2).Nodup) (hl : mget K k = some l) :
    mget (tkK N K (l1 ++ k :: l2)) k = some l ∧ mput (tkK N K (l1 ++ k :: l2)) k (tickLn N l) = tkK N K (l1 ++ l2) ∧ (tickLn N l = l → tkK N K (l1 ++ k :: l2) = tkK N K (l1 ++ l2)) := by
  have hk : k ∉ l1 ++ l2 := by
    rw [List.nodup_append, List.nodup_cons] at hd
    simp only [List.mem_append, not_or]
    exact ⟨fun q => hd.2.2 _ q _ (by simp) rfl, hd.2.1.1⟩
  have hg : ∀ x ∈ K, (if x.1 ∈ l1 ++ l2 then x.2 else tickLn N x.2) = if x.1 = k then tickLn N l else (if x.1 ∈ l1 ++ k :: l2 then x.2 else tickLn N x.2) := fun x hx => by
    by_cases e : x.1 = k
    · have := mget_of hn hx
      rw [e, hl] at this
      rw [if_pos e, if_neg (by rw [e]; exact hk), Option.some.inj this]
    · rw [if_neg e]
      have : (x.1 ∈ l1 ++ k :: l2) ↔ (x.1 ∈ l1 ++ l2) := by simp [e]
      simp only [this]
  refine ⟨?_, mput_mapv (fun x => if x.1 ∈ l1 ++ k :: l2 then x.2 else tickLn N x.2) (fun x => if x.1 ∈ l1 ++ l2 then x.2 else tickLn N x.2) hn (by rw [hl]; simp) hg, fun ht => ?_⟩
  · have := mget_mapv (fun x => if x.1 ∈ l1 ++ k :: l2 then x.2 else tickLn N x.2) hl
    unfold tkK
    rw [this]
    simp
  · unfold tkK
    apply List.map_congr_left
    intro x hx
    have := hg x hx
    rw [ht] at this
    rw [this]
    by_cases e : x.1 = k
    · have q := mget_of hn hx
      rw [e, hl] at q
      rw [if_pos e, if_pos (by rw [e]; simp), Option.some.inj q]
    · rw [if_neg e]
def doneL (l : LnE) : Bool := decide (l.st = 2) && decide (l.left = 1)
theorem TierM.doneP (h : TierM w base m f t) : (m.lk.filter fun x => doneL (lnOf t x.1)).map (·.1) = doneK t.K := by
  have e1 : (m.lk.filter fun x => doneL (lnOf t x.1)).map (·.1) = (m.lk.map (·.1)).filter fun k => doneL (lnOf t k) := by rw [List.filter_map]; rfl
  rw [e1, h.kk, List.filter_map]
  unfold doneK
  congr 1
  apply List.filter_congr
  intro x hx
  simp only [Function.comp_def, lnOf, mget_of h.kn hx, Option.getD_some, doneL]
theorem settle_all_c (i : Nat) (K : List (Tx × LnE)) (H : List HdE) (hi : i < H.length) : ((H.take i).map (settleE K) ++ H.drop i).set i (settleE K (H.getD i hd0)) = (H.take (i + 1)).map (settleE K) ++ H.drop (i + 1) ∧ ((H.take i).map (settleE K) ++ H.drop i).getD i hd0 = H.getD i hd0 := by
  have hl : ((H.take i).map (settleE K)).length = i := by simp; omega
  constructor
  · rw [List.set_append_right _ _ (by omega), hl, Nat.sub_self, List.drop_eq_getElem_cons hi, List.set_cons_zero, List.take_succ_eq_append_getElem hi, List.map_append, List.append_assoc, List.getD_eq_getElem?_getD, List.getElem?_eq_getElem hi]
    rfl
  · rw [List.getD_eq_getElem?_getD, List.getD_eq_getElem?_getD, List.getElem?_append_right (by omega), hl, Nat.sub_self, List.getElem?_drop, Nat.add_zero]
end
end Go.Proofs.Ythiacmmkfngpbaa
