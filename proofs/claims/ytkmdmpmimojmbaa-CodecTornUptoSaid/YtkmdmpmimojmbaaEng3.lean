import Derived.Test.YtkmdmpmimojmbaaEng2
import Derived.Maps.AppendAt
import Derived.Lib.AppendStr
namespace Go.Proofs.Eng
open Go.RowKit
set_option linter.unusedSimpArgs false
set_option linter.unusedVariables false

/-! ## Memory: blocks, readable rows, owned rows -/
/-- Block b is just these cells. -/
def Blk (w : World) (b : Nat) (t : TypeId) (cs : List Value) : Prop := w.heap[b]? = some (.cells cs.toArray t (0, 0))
/-- A slice's memory reads as these cells: n elements of s cells. -/
def Rd (w : World) (A : Option Addr) (n s : Nat) (xs : List Value) : Prop :=
  xs.length = n * s ∧ (0 < n → ∃ b off, A = some ⟨b, off, none⟩ ∧ b < w.heap.size ∧ ∀ j u, xs[j]? = some u → w.cell? ⟨b, off + j, none⟩ = some u)
/-- A slice that is nil, or owns its whole row from its head on, in a block from base on. -/
def Own (w : World) (base : Nat) (e : TypeId) (s : Nat) (A : Option Addr) (n c : Nat) (xs : List Value) : Prop := w.ownsRow base e s (.slice A n c) n xs
def Off (A : Option Addr) (S : List Nat) : Prop := ∀ ad, A = some ad → ad.block ∉ S
def Lo (A : Option Addr) (B : Nat) : Prop := ∀ ad, A = some ad → ad.block < B
def Hi (A : Option Addr) (B : Nat) : Prop := ∀ ad, A = some ad → B ≤ ad.block
def blkL : Option Addr → List Nat
  | some ad => [ad.block]
  | none => []
theorem Off.nil (A : Option Addr) : Off A [] := fun _ _ h => by cases h
theorem Off.lo {A : Option Addr} {B b : Nat} (h : Lo A B) (hb : B ≤ b) : Off A [b] := fun ad e hm => by have := h ad e; simp at hm; omega
theorem Off.hi {A : Option Addr} {B b : Nat} (h : Hi A B) (hb : b < B) : Off A [b] := fun ad e hm => by have := h ad e; simp at hm; omega
theorem Off.lohi {A C : Option Addr} {B : Nat} (h : Lo A B) (hc : Hi C B) : Off A (blkL C) := fun ad e hm => by
  cases C with
  | none => simp [blkL] at hm
  | some cd => have := h ad e; have := hc cd rfl; simp [blkL] at hm; omega
theorem Off.hilo {A C : Option Addr} {B : Nat} (h : Hi A B) (hc : Lo C B) : Off A (blkL C) := fun ad e hm => by
  cases C with
  | none => simp [blkL] at hm
  | some cd => have := h ad e; have := hc cd rfl; simp [blkL] at hm; omega
theorem Lo.mono {A : Option Addr} {B B' : Nat} (h : Lo A B) (hb : B ≤ B') : Lo A B' := fun ad e => Nat.lt_of_lt_of_le (h ad e) hb
theorem Hi.mono {A : Option Addr} {B B' : Nat} (h : Hi A B) (hb : B' ≤ B) : Hi A B' := fun ad e => Nat.le_trans hb (h ad e)

theorem heap_lt {w : World} {b : Nat} {o : Obj} (h : w.heap[b]? = some o) : b < w.heap.size := by
  rcases Nat.lt_or_ge b w.heap.size with hl | hl
  · exact hl
  · rw [Array.getElem?_eq_none hl] at h; cases h
section
variable {w w' : World} {b : Nat} {t : TypeId} {cs : List Value}
theorem Blk.lt (h : Blk w b t cs) : b < w.heap.size := heap_lt h
theorem Blk.mod {S : List Nat} (h : Blk w b t cs) (hm : Mod S w w') (hb : b ∉ S) : Blk w' b t cs := (hm.block b h.lt hb).trans h
theorem Blk.ext (h : Blk w b t cs) (hm : Ext w w') : Blk w' b t cs := h.mod hm (by simp)
theorem Blk.cell (h : Blk w b t cs) (o : Nat) : w.cell? ⟨b, o, none⟩ = cs[o]? := by unfold Blk at h; simp [World.cell?, h]
theorem Blk.thawed (h : Blk w b t cs) (o : Nat) : w.frozen? ⟨b, o, none⟩ = false := by unfold Blk at h; simp [World.frozen?, h]
theorem Blk.new (w : World) (t : TypeId) (cs : Array Value) : Blk (w.alloc (.cells cs t)) w.heap.size t cs.toList := by
  unfold Blk; rw [Array.toArray_toList]; exact heap_alloc_new w _
theorem Blk.set (h : Blk w b t cs) (o : Nat) (u : Value) : Blk (w.setCell ⟨b, o, none⟩ u) b t (cs.set o u) := by
  unfold Blk at h ⊢
  simp [World.setCell, Array.getElem?_modify, h]
theorem Blk.ne {b' : Nat} {t' : TypeId} {cs' : List Value} (h : Blk w b t cs) (h' : Blk w b' t' cs') (hne : t ≠ t') : b ≠ b' := by
  rintro rfl
  unfold Blk at h h'
  rw [h] at h'
  injection h' with h'
  injection h' with _ ht
  exact hne ht
variable {A : Option Addr} {n s c base : Nat} {e : TypeId} {xs : List Value}
theorem Rd.lo (h : Rd w A n s xs) (hn : 0 < n) : Lo A w.heap.size := fun ad e => by
  obtain ⟨b, off, rfl, hb, _⟩ := h.2 hn
  cases e
  exact hb
theorem Rd.mod {S : List Nat} (h : Rd w A n s xs) (hm : Mod S w w') (hS : Off A S) : Rd w' A n s xs :=
  ⟨h.1, fun hn => by
    obtain ⟨b, off, rfl, hb, hc⟩ := h.2 hn
    refine ⟨b, off, rfl, Nat.lt_of_lt_of_le hb hm.size, fun j u hu => ?_⟩
    rw [World.cell?_of_block (w := w) (hm.block b hb (hS _ rfl))]
    exact hc j u hu⟩
theorem Rd.ext (h : Rd w A n s xs) (hm : Ext w w') : Rd w' A n s xs := h.mod hm (.nil A)
theorem Rd.nil (w : World) (A : Option Addr) (s : Nat) : Rd w A 0 s [] := ⟨by simp, fun h => absurd h (by omega)⟩
theorem Own.rd (h : Own w base e s A n c xs) : Rd w A n s xs := by
  refine ⟨h.1, fun hn => ?_⟩
  rcases h.2 with ⟨_, h0⟩ | ⟨g, cap, cur, hv, _, hh, _⟩
  · omega
  · cases hv
    refine ⟨g, 0, rfl, heap_lt hh, fun j u hu => ?_⟩
    have := h.cells (g := g) rfl j u hu
    simpa [Addr.add] using (by by_cases hj : j = 0 <;> simp_all [Addr.add] : w.cell? ⟨g, 0 + j, none⟩ = some u)
theorem Own.hi (h : Own w base e s A n c xs) : Hi A base := fun ad ea => by
  rcases h.2 with ⟨hv, _⟩ | ⟨g, cap, cur, hv, hg, _⟩
  · cases hv; cases ea
  · cases hv; cases ea; exact hg
theorem Own.lo (h : Own w base e s A n c xs) : Lo A w.heap.size := fun ad ea => by
  rcases h.2 with ⟨hv, _⟩ | ⟨g, cap, cur, hv, _, hh, _⟩
  · cases hv; cases ea
  · cases hv; cases ea; exact heap_lt hh
theorem Own.mod {S : List Nat} (h : Own w base e s A n c xs) (hm : Mod S w w') (hS : Off A S) : Own w' base e s A n c xs := by
  refine ⟨h.1, ?_⟩
  rcases h.2 with h2 | ⟨g, cap, cur, hv, hg, hh, r⟩
  · exact .inl h2
  · refine .inr ⟨g, cap, cur, hv, hg, ?_, r⟩
    cases hv
    rw [hm.block g (heap_lt hh) (hS _ rfl)]
    exact hh
theorem Own.ext (h : Own w base e s A n c xs) (hm : Ext w w') : Own w' base e s A n c xs := h.mod hm (.nil A)
theorem Own.cap (h : Own w base e s A n c xs) : n ≤ c ∧ c ≤ maxLen := by
  rcases h.2 with ⟨hv, h0⟩ | ⟨g, cap, cur, hv, _, _, h1, h2, _⟩
  · cases hv; exact ⟨by omega, by decide⟩
  · cases hv; exact ⟨h1, h2⟩
theorem Own.len (h : Own w base e s A n c xs) : xs.length = n * s := h.1
theorem Own.weaken {base' : Nat} (h : Own w base e s A n c xs) (hb : base' ≤ base) : Own w base' e s A n c xs := by
  refine ⟨h.1, ?_⟩
  rcases h.2 with h2 | ⟨g, cap, cur, hv, hg, r⟩
  · exact .inl h2
  · exact .inr ⟨g, cap, cur, hv, by omega, r⟩
theorem Own.nil (w : World) (base : Nat) (e : TypeId) (s : Nat) : Own w base e s none 0 0 [] := World.ownsRow_nil w base e s
/-- A new row whose cells are all its elements. -/
theorem Own.of_blk (h : Blk w b e cs) (hb : base ≤ b) (hl : cs.length = n * s) (hm : n ≤ maxLen) : Own w base e s (some ⟨b, 0, none⟩) n n cs := by
  refine ⟨hl, .inr ⟨b, n, cs.toArray, rfl, hb, h, Nat.le_refl _, hm, by simpa using hl, ?_⟩⟩
  simp [← hl]
end

theorem Rd.blk {w : World} {b : Nat} {t : TypeId} {cs : List Value} {n s : Nat} (h : Blk w b t cs) (hl : cs.length = n * s) : Rd w (some ⟨b, 0, none⟩) n s cs :=
  ⟨hl, fun _ => ⟨b, 0, rfl, h.lt, fun j u hu => by rw [Nat.zero_add, h.cell, hu]⟩⟩
theorem Rd.none {w : World} {n s : Nat} {xs : List Value} (h : Rd w none n s xs) : n = 0 ∧ xs = [] := by
  have hn : n = 0 := by
    rcases Nat.eq_zero_or_pos n with h0 | h0
    · exact h0
    · obtain ⟨b, off, hc, _⟩ := h.2 h0; cases hc
  subst hn
  exact ⟨rfl, List.eq_nil_of_length_eq_zero (by simpa using h.1)⟩

theorem Mod.own {w w1 w2 : World} {A : Option Addr} (h : Ext w w1) (m : Mod (blkL A) w1 w2) (hi : Hi A w.heap.size) : Ext w w2 := Mod.step h m (fun y hy => .inr (by
  cases A with
  | none => simp [blkL] at hy
  | some ad => simp [blkL] at hy; rw [hy]; exact hi ad rfl))
/-! The same laws, the step ahead: for a search backwards along the worlds. -/
section
variable {w w' : World} {b : Nat} {t e : TypeId} {cs xs : List Value} {A : Option Addr} {n s c base : Nat} {S : List Nat}
theorem Blk.be (hm : Ext w w') (h : Blk w b t cs) : Blk w' b t cs := h.ext hm
theorem Rd.be (hm : Ext w w') (h : Rd w A n s xs) : Rd w' A n s xs := h.ext hm
theorem Own.be (hm : Ext w w') (h : Own w base e s A n c xs) : Own w' base e s A n c xs := h.ext hm
theorem Blk.bm (hm : Mod S w w') (hS : b ∉ S) (h : Blk w b t cs) : Blk w' b t cs := h.mod hm hS
theorem Rd.bm (hm : Mod S w w') (hS : Off A S) (h : Rd w A n s xs) : Rd w' A n s xs := h.mod hm hS
theorem Own.bm (hm : Mod S w w') (hS : Off A S) (h : Own w base e s A n c xs) : Own w' base e s A n c xs := h.mod hm hS
end

/-! ## Bytes -/
def bv (l : List UInt8) : List Value := l.map fun b => .int .u8 (b.toNat : Int)
def ofL (l : List UInt8) : ByteArray := ⟨l.toArray⟩
@[simp] theorem bv_length (l : List UInt8) : (bv l).length = l.length := by simp [bv]
@[simp] theorem bv_append (l m : List UInt8) : bv (l ++ m) = bv l ++ bv m := by simp [bv]
theorem bv_nil : bv [] = [] := rfl
theorem bv_eq_nil {l : List UInt8} (h : bv l = []) : l = [] := by cases l <;> simp_all [bv]
theorem bv_one (l : List UInt8) : ∀ u ∈ bv l, u.oneCell' = true := by
  intro u hu
  obtain ⟨b, _, rfl⟩ := List.mem_map.1 hu
  rfl
theorem bv_get (l : List UInt8) (j : Nat) (hj : j < l.length) : (bv l)[j]? = some (.int .u8 (((l.getD j 0).toNat : Nat) : Int)) := by
  simp [bv, List.getD_eq_getElem?_getD, hj]
def gb (l : List UInt8) (j : Nat) : Nat := (l.getD j 0).toNat
theorem gb_lt (l : List UInt8) (j : Nat) : gb l j < 256 := UInt8.toNat_lt _
theorem ofL_toList (l : List UInt8) : (ofL l).data.toList = l := rfl
theorem ofL_size (l : List UInt8) : (ofL l).size = l.length := rfl
theorem str_inj {a b : ByteArray} (h : a.data.toList = b.data.toList) : a = b := by
  cases a; cases b
  simp only [ByteArray.mk.injEq]
  exact Array.ext' h
theorem str_beq (a b : ByteArray) : (a.toList == b.toList) = decide (a = b) := by
  rw [ByteArray.toList_eq, ByteArray.toList_eq]
  by_cases h : a = b
  · subst h; simp
  · have : ¬ a.data.toList = b.data.toList := fun e => h (str_inj e)
    simp only [h, decide_false, beq_eq_false_iff_ne]
    exact this

/-- Where an element lies. -/
def adr (A : Option Addr) (j : Nat) : Addr := match A with | some ad => ⟨ad.block, ad.off + j, none⟩ | none => ⟨0, 0, none⟩
theorem Rd.cell {w : World} {A : Option Addr} {n s : Nat} {xs : List Value} (h : Rd w A n s xs) {j : Nat} {u : Value} (hu : xs[j]? = some u) : w.cell? (adr A j) = some u := by
  have hl : j < xs.length := by
    rcases Nat.lt_or_ge j xs.length with hl | hl
    · exact hl
    · rw [List.getElem?_eq_none hl] at hu; cases hu
  have hn : 0 < n := by
    rcases Nat.eq_zero_or_pos n with h0 | h0
    · subst h0; rw [h.1] at hl; simp at hl
    · exact h0
  obtain ⟨b, off, rfl, _, hc⟩ := h.2 hn
  exact hc j u hu
def cutA (A : Option Addr) (c l s : Nat) : Option Addr := if c = l then A else A.map (·.add (l * s))
theorem Rd.cut {w : World} {A : Option Addr} {n s c l h : Nat} {xs : List Value} (hr : Rd w A n s xs) (h1 : l ≤ h) (h2 : h ≤ n) (h3 : n ≤ c) :
    Rd w (cutA A c l s) (h - l) s ((xs.drop (l * s)).take ((h - l) * s)) := by
  refine ⟨?_, fun hn => ?_⟩
  · rw [List.length_take, List.length_drop, hr.1, ← Nat.sub_mul]
    exact Nat.min_eq_left (Nat.mul_le_mul_right _ (by omega))
  · obtain ⟨b, off, rfl, hb, hc⟩ := hr.2 (by omega)
    have hcl : ¬ c = l := by omega
    refine ⟨b, off + l * s, ?_, hb, fun j u hu => ?_⟩
    · simp only [cutA, hcl, if_false, Option.map_some, Addr.add]
      by_cases h0 : l * s = 0 <;> simp [h0]
    · rw [Nat.add_assoc]
      refine hc _ u ?_
      rw [List.getElem?_take] at hu
      split at hu
      · rw [← hu, List.getElem?_drop]
      · cases hu
theorem Rd.take {w : World} {A : Option Addr} {n s h : Nat} {xs : List Value} (hr : Rd w A n s xs) (h2 : h ≤ n) : Rd w A h s (xs.take (h * s)) := by
  refine ⟨?_, fun hn => ?_⟩
  · rw [List.length_take, hr.1]
    exact Nat.min_eq_left (Nat.mul_le_mul_right _ (by omega))
  · obtain ⟨b, off, rfl, hb, hc⟩ := hr.2 (by omega)
    refine ⟨b, off, rfl, hb, fun j u hu => hc j u ?_⟩
    rw [List.getElem?_take] at hu
    split at hu
    · exact hu
    · cases hu
theorem Lo.cut {A : Option Addr} {B c l s : Nat} (h : Lo A B) : Lo (cutA A c l s) B := fun ad e => by
  unfold cutA at e
  split at e
  · exact h ad e
  · cases A with
    | none => cases e
    | some a0 => simp only [Option.map_some, Option.some.injEq] at e; subst e; have := h a0 rfl; unfold Addr.add; split <;> simpa using this
theorem Hi.cut {A : Option Addr} {B c l s : Nat} (h : Hi A B) : Hi (cutA A c l s) B := fun ad e => by
  unfold cutA at e
  split at e
  · exact h ad e
  · cases A with
    | none => cases e
    | some a0 => simp only [Option.map_some, Option.some.injEq] at e; subst e; have := h a0 rfl; unfold Addr.add; split <;> simpa using this
theorem Off.cut {A : Option Addr} {S : List Nat} {c l s : Nat} (h : Off A S) : Off (cutA A c l s) S := fun ad e => by
  unfold cutA at e
  split at e
  · exact h ad e
  · cases A with
    | none => cases e
    | some a0 => simp only [Option.map_some, Option.some.injEq] at e; subst e; have := h a0 rfl; unfold Addr.add; split <;> simpa using this

/-! ## Operations that make or change memory -/
section
variable {q : Qm} {P : Program} {fn : Func} {R : Ending → World → Prop} {M : Md} {n : Nat} {st : Slots} {k : List Item} {w : World} {ops rest : List Oper}
  {d : Nat} {v : Value} {ty : TypeId} {ps : String} {af : Array Edge}

/-- An operation that yields a value and another world. -/
theorem drop_todo {α : Type} {plan done todo : List α} {m : Nat} (h : plan = done ++ todo) (hm : todo.length = m) : plan.drop (plan.length - m) = todo := by
  subst h hm
  rw [List.length_append, Nat.add_sub_cancel, List.drop_left]
theorem held_do {w0 w' : World} {D : List Nat} {plan : List (Nat × Bool)} {o : Oper} {u : Option Tmp → Act → Act} (h0 : o.guard = none)
    (hr : ∀ a, OK M n st a → (∃ v, (execOp a.eval o).run P w = .ok (.value v) w' ∧ u o.dst a = a.put o.dst v) ∨ ((execOp a.eval o).run P w = .ok .skip w' ∧ u o.dst a = a.put o.dst undef))
    (hf : Fl (.held w0 D plan) (rest.length + 1)) (hq : Mod D w0 w')
    (hk : ∀ (done todo : List (Nat × Bool)) (b : Array Bool), plan = done ++ todo → legal ops.toArray todo b = true → Region.noSelect ops.toArray = true → Mod D w0 w' → ∀ a, OK M n st a → agrees ops (u o.dst a) rest todo →
      wpAnyH P .any ops.toArray (TQ M.dfd P fn R k) (fun w' => Mod D w0 w') rest.length b (u o.dst a) w') :
    TL (.held w0 D plan) P fn R M n st ops (o :: rest) k w := by
  intro done todo b hp hl hn hD a ha hag
  cases todo with
  | nil => exact hag.elim
  | cons p todo =>
    obtain ⟨⟨g, hg, hgo⟩, ht⟩ := hag
    have hlen : (p :: todo).length = rest.length + 1 := by have := congrArg List.length ht; simp at this; simp [this]
    have hf : (plan.drop (plan.length - (rest.length + 1))).head?.map (·.2) = some false := hf
    rw [drop_todo hp hlen] at hf
    have hs : p.2 = false := by simpa using hf
    simp only [legal, Bool.and_eq_true, hs, cond_false, beq_iff_eq] at hl
    obtain ⟨hl1, hl2⟩ := hl
    have hnext := hk (done ++ [p]) todo _ (by rw [hp]; simp) hl2 hn hq a ha (agrees_of ht)
    have hgo' : ops.toArray[p.1]? = some { o with guard := g } := by simpa using hg
    have hyes : Region.wanted { o with guard := g } (yielded ops.toArray a.tmps) = true := by
      rcases hgo with rfl | ⟨_, h⟩
      · rw [h0]; rfl
      · exact h
    have hex : ∀ ρ, execOp ρ { o with guard := g } = execOp ρ o := fun ρ => rfl
    refine wpAnyH_all hl1 (by simp) (fun j hj => ?_)
    simp only [List.mem_singleton] at hj
    subst hj
    unfold wpOp
    rw [hgo']
    simp only
    rw [if_pos hyes]
    refine .inl ?_
    unfold Oper.wp
    rw [hex]
    rcases hr a ha with ⟨v, hv, hu⟩ | ⟨hv, hu⟩
    · rw [hv]
      simp only [Oper.upon]
      rw [← hu]
      exact ⟨hq, hnext⟩
    · rw [hv]
      simp only [Oper.upon]
      rw [← hu]
      exact ⟨hq, hnext⟩
theorem held_call {w0 : World} {D : List Nat} {plan : List (Nat × Bool)} {o : Oper} {g : FuncId} {args : Array Value} {Ψ : Value → World → Prop} (h0 : o.guard = none)
    (hr : ∀ a, OK M n st a → (execOp a.eval o).run P w = .ok (.enter g args) w) (hc : Calls P g args w (fun e w' => match e with | .returned v => Ψ v w' | _ => False))
    (hf : Fl (.held w0 D plan) (rest.length + 1)) (hq : ∀ v w', Ψ v w' → Mod D w0 w')
    (hk : ∀ v w', Ψ v w' → ∀ (done todo : List (Nat × Bool)) (b : Array Bool), plan = done ++ todo → legal ops.toArray todo b = true → Region.noSelect ops.toArray = true → Mod D w0 w' → ∀ a, OK M n st a → agrees ops (a.put o.dst v) rest todo →
      wpAnyH P .any ops.toArray (TQ M.dfd P fn R k) (fun w' => Mod D w0 w') rest.length b (a.put o.dst v) w') :
    TL (.held w0 D plan) P fn R M n st ops (o :: rest) k w := by
  intro done todo b hp hl hn hD a ha hag
  cases todo with
  | nil => exact hag.elim
  | cons p todo =>
    obtain ⟨⟨g, hg, hgo⟩, ht⟩ := hag
    have hlen : (p :: todo).length = rest.length + 1 := by have := congrArg List.length ht; simp at this; simp [this]
    have hf : (plan.drop (plan.length - (rest.length + 1))).head?.map (·.2) = some false := hf
    rw [drop_todo hp hlen] at hf
    have hs : p.2 = false := by simpa using hf
    simp only [legal, Bool.and_eq_true, hs, cond_false, beq_iff_eq] at hl
    obtain ⟨hl1, hl2⟩ := hl
    have hgo' : ops.toArray[p.1]? = some { o with guard := g } := by simpa using hg
    have hyes : Region.wanted { o with guard := g } (yielded ops.toArray a.tmps) = true := by
      rcases hgo with rfl | ⟨_, h⟩
      · rw [h0]; rfl
      · exact h
    have hex : ∀ ρ, execOp ρ { o with guard := g } = execOp ρ o := fun ρ => rfl
    refine wpAnyH_all hl1 (by simp) (fun j hj => ?_)
    simp only [List.mem_singleton] at hj
    subst hj
    unfold wpOp
    rw [hgo']
    simp only
    rw [if_pos hyes]
    refine .inl ?_
    unfold Oper.wp
    rw [hex, hr a ha, Oper.upon_enter]
    refine hc.mono (fun e w2 he => ?_)
    cases e with
    | returned v => exact ⟨hq v w2 he, hk v w2 he (done ++ [p]) todo _ (by rw [hp]; simp) hl2 hn (hq v w2 he) a ha (agrees_of ht)⟩
    | panicked ch => exact he.elim
    | outgrown => exact he.elim
theorem TL_new {op : Op} {w' : World} (hd : Nat.blt d n = true) (h : ∀ ρ : Operand → Value, (∀ x u, ev st x = some u → ρ x = u) → (execOp ρ ⟨some d, op, ty, ps, af, none⟩).run P w = .ok (.value v) w')
    (hf : Fl q (rest.length + 1)) (hq : Kp q w') (hk : TL q P fn R M n ((d, v) :: st) ops rest k w') : TL q P fn R M n st ops (⟨some d, op, ty, ps, af, none⟩ :: rest) k w := by
  cases q with
  | seq =>
    intro a ha
    have hk' := hk (a.put (some d) v) (ha.put hd v)
    refine wpList_plain rfl (fun K hK => ?_)
    unfold Oper.wp
    rw [h a.eval (fun x u hx => ha.ev hx)]
    exact hK _ _ hk'
  | quiet => exact hf.elim
  | held w0 D plan =>
    exact held_do (u := fun d a => a.put d v) rfl (fun a ha => .inl ⟨v, h a.eval (fun x u hx => ha.ev hx), rfl⟩) hf hq (fun done todo b hp hl hn hD a ha hag => hk done todo b hp hl hn hD _ (ha.put hd v) hag)
theorem TL_do {op : Op} {w' : World} (h : ∀ ρ : Operand → Value, (∀ x u, ev st x = some u → ρ x = u) → (execOp ρ ⟨none, op, ty, ps, af, none⟩).run P w = .ok .skip w')
    (hf : Fl q (rest.length + 1)) (hq : Kp q w') (hk : TL q P fn R M n st ops rest k w') : TL q P fn R M n st ops (⟨none, op, ty, ps, af, none⟩ :: rest) k w := by
  cases q with
  | seq =>
    intro a ha
    have hk' := hk a ha
    refine wpList_plain rfl (fun K hK => ?_)
    unfold Oper.wp
    rw [h a.eval (fun x u hx => ha.ev hx)]
    exact hK _ _ hk'
  | quiet => exact hf.elim
  | held w0 D plan =>
    exact held_do (u := fun _ a => a) rfl (fun a ha => .inr ⟨h a.eval (fun x u hx => ha.ev hx), rfl⟩) hf hq (fun done todo b hp hl hn hD a ha hag => hk done todo b hp hl hn hD _ ha hag)
theorem TL_do_v {op : Op} {w' : World} (h : ∀ ρ : Operand → Value, (∀ x u, ev st x = some u → ρ x = u) → (execOp ρ ⟨none, op, ty, ps, af, none⟩).run P w = .ok (.value v) w')
    (hf : Fl q (rest.length + 1)) (hq : Kp q w') (hk : TL q P fn R M n st ops rest k w') : TL q P fn R M n st ops (⟨none, op, ty, ps, af, none⟩ :: rest) k w := by
  cases q with
  | seq =>
    intro a ha
    have hk' := hk a ha
    refine wpList_plain rfl (fun K hK => ?_)
    unfold Oper.wp
    rw [h a.eval (fun x u hx => ha.ev hx)]
    exact hK _ _ hk'
  | quiet => exact hf.elim
  | held w0 D plan =>
    exact held_do (u := fun _ a => a) rfl (fun a ha => .inl ⟨v, h a.eval (fun x u hx => ha.ev hx), rfl⟩) hf hq (fun done todo b hp hl hn hD a ha hag => hk done todo b hp hl hn hD _ ha hag)

variable {E : Env P} {X Y V : Operand} {t t2 e : TypeId} {s by_ : Nat} {z : Value} {dsc : TypeDesc}
def nonAgg : TypeDesc → Bool
  | .struct _ | .array _ _ => false
  | _ => true
theorem run_isAgg_no (h : P.underlying t = some dsc) (hn : nonAgg dsc = true) (w : World) : (isAgg t).run P w = .ok false w := by
  cases dsc <;> simp_all [isAgg, run_underlying h, nonAgg]
theorem run_sizeOf' (hi : ∃ i, P.info? t = some i ∧ i.size = s ∧ i.bytes = by_ ∧ i.zero = some z) (w : World) : (sizeOf t).run P w = .ok s w := by
  obtain ⟨i, h1, h2, _⟩ := hi
  simp [sizeOf, typeInfo, h1, h2]
theorem run_zero' (hi : ∃ i, P.info? t = some i ∧ i.size = s ∧ i.bytes = by_ ∧ i.zero = some z) (w : World) : (zeroValue t).run P w = .ok z w := by
  obtain ⟨i, h1, h2, h3, h4⟩ := hi
  simp [zeroValue, typeInfo, h1, h4]

theorem TL_alloc (E : Env P) (hi : E.inf t = some (s, by_, z) := by exact rfl) (hd : Nat.blt d n = true := by exact rfl)
    (hf : Fl q (rest.length + 1) := by first | exact trivial | exact rfl) (hq : ∀ w', Ext w w' → Kp q w' := by exact fun _ _ => trivial)
    (hk : ∀ b w', Ext w w' → w.heap.size ≤ b → b < w'.heap.size → Blk w' b t z.cells.toList → TL q P fn R M n ((d, .pointer (some ⟨b, 0, none⟩)) :: st) ops rest k w') :
    TL q P fn R M n st ops (⟨some d, .alloc t, ty, ps, af, none⟩ :: rest) k w :=
  TL_new (w' := w.alloc (.cells z.cells t)) hd (fun ρ h => by simp [execOp, Instr.alloc, run_zero' (E.inf_ok _ _ _ _ hi), newVar, newRow]) hf (hq _ (Ext.alloc _ _))
    (hk w.heap.size _ (Ext.alloc _ _) (Nat.le_refl _) (by simp) (Blk.new _ _ _))
theorem TL_box (hx : ev st X = some v := by exact rfl) (hd : Nat.blt d n = true := by exact rfl)
    (hf : Fl q (rest.length + 1) := by first | exact trivial | exact rfl) (hq : ∀ w', Ext w w' → Kp q w' := by exact fun _ _ => trivial)
    (hk : ∀ b w', Ext w w' → w.heap.size ≤ b → b < w'.heap.size → Blk w' b t v.cells.toList → TL q P fn R M n ((d, .pointer (some ⟨b, 0, none⟩)) :: st) ops rest k w') :
    TL q P fn R M n st ops (⟨some d, .box t X, ty, ps, af, none⟩ :: rest) k w :=
  TL_new (w' := w.alloc (.cells v.cells t)) hd (fun ρ h => by simp [execOp, Instr.box, h _ _ hx, newVar, newRow]) hf (hq _ (Ext.alloc _ _))
    (hk w.heap.size _ (Ext.alloc _ _) (Nat.le_refl _) (by simp) (Blk.new _ _ _))
theorem TL_load {b o : Nat} {bt : TypeId} {cs : List Value} (E : Env P) (hx : ev st X = some (.pointer (some ⟨b, o, none⟩)) := by exact rfl) (ht : E.und t = some dsc := by exact rfl) (hn : nonAgg dsc = true := by exact rfl) (hpl : q.plain = true := by exact rfl) (hd : Nat.blt d n = true := by exact rfl) (hb : Blk w b bt cs := by focus ((repeat (first | assumption | (apply Own.rd; assumption) | (apply Rd.blk; assumption; exact rfl) | (apply Blk.be; assumption) | (apply Rd.be; assumption) | (apply Own.be; assumption) | (apply Blk.bm; assumption; focus (first | assumption | (simp only [List.mem_cons, List.not_mem_nil, or_false]; omega))) | (apply Rd.bm; assumption; focus assumption) | (apply Own.bm; assumption; focus assumption))); done)) (hv : cs[o]? = some v := by exact rfl)
    (hk : TL q P fn R M n ((d, v) :: st) ops rest k w) : TL q P fn R M n st ops (⟨some d, .load t X, ty, ps, af, none⟩ :: rest) k w :=
  TL_val hd (fun w' hw ρ h => by
    have hc : w'.cell? ⟨b, o, none⟩ = some v := by rw [(hb.ext (hw.ext hpl)).cell, hv]
    simp [execOp, Instr.loadAt, h _ _ hx, Instr.sureAddr, loadVar, run_isAgg_no (E.und_ok _ _ ht) hn, hc]) hk
theorem TL_load_rd {A : Option Addr} {j m : Nat} {xs : List Value} (E : Env P) (hx : ev st X = some (.pointer (some (adr A j))) := by exact rfl) (ht : E.und t = some dsc := by exact rfl) (hn : nonAgg dsc = true := by exact rfl) (hpl : q.plain = true := by exact rfl) (hd : Nat.blt d n = true := by exact rfl) (hr : Rd w A m s xs := by focus ((repeat (first | assumption | (apply Own.rd; assumption) | (apply Rd.blk; assumption; exact rfl) | (apply Blk.be; assumption) | (apply Rd.be; assumption) | (apply Own.be; assumption) | (apply Blk.bm; assumption; focus (first | assumption | (simp only [List.mem_cons, List.not_mem_nil, or_false]; omega))) | (apply Rd.bm; assumption; focus assumption) | (apply Own.bm; assumption; focus assumption))); done)) (hv : xs[j]? = some v := by first | assumption | exact rfl)
    (hk : TL q P fn R M n ((d, v) :: st) ops rest k w) : TL q P fn R M n st ops (⟨some d, .load t X, ty, ps, af, none⟩ :: rest) k w :=
  TL_val hd (fun w' hw ρ h => by
    have hc : w'.cell? (adr A j) = some v := (hr.ext (hw.ext hpl)).cell hv
    simp [execOp, Instr.loadAt, h _ _ hx, Instr.sureAddr, loadVar, run_isAgg_no (E.und_ok _ _ ht) hn, hc]) hk
theorem TL_load_b {A : Option Addr} {j m : Nat} {l : List UInt8} (E : Env P) (hx : ev st X = some (.pointer (some (adr A j))) := by exact rfl) (ht : E.und t = some (.int .u8) := by exact rfl) (hn : nonAgg (.int .u8) = true := by exact rfl) (hpl : q.plain = true := by exact rfl) (hd : Nat.blt d n = true := by exact rfl) (hr : Rd w A m 1 (bv l) := by focus ((repeat (first | assumption | (apply Own.rd; assumption) | (apply Rd.blk; assumption; exact rfl) | (apply Blk.be; assumption) | (apply Rd.be; assumption) | (apply Own.be; assumption) | (apply Blk.bm; assumption; focus (first | assumption | (simp only [List.mem_cons, List.not_mem_nil, or_false]; omega))) | (apply Rd.bm; assumption; focus assumption) | (apply Own.bm; assumption; focus assumption))); done)) (hj : j < m := by first | assumption | omega)
    (hk : gb l j < 256 → TL q P fn R M n ((d, .int .u8 (gb l j : Nat)) :: st) ops rest k w) : TL q P fn R M n st ops (⟨some d, .load t X, ty, ps, af, none⟩ :: rest) k w :=
  TL_load_rd E hx ht hn hpl hd hr (bv_get l j (by have := hr.1; simp at this; omega)) (hk (gb_lt l j))
theorem TL_store {b o : Nat} {bt : TypeId} {cs : List Value} (E : Env P) (hx : ev st X = some (.pointer (some ⟨b, o, none⟩)) := by exact rfl) (hv : ev st V = some v := by exact rfl) (h1 : v.oneCell' = true := by exact rfl) (hi : E.inf t = some (1, by_, z) := by exact rfl) (hb : Blk w b bt cs := by focus ((repeat (first | assumption | (apply Own.rd; assumption) | (apply Rd.blk; assumption; exact rfl) | (apply Blk.be; assumption) | (apply Rd.be; assumption) | (apply Own.be; assumption) | (apply Blk.bm; assumption; focus (first | assumption | (simp only [List.mem_cons, List.not_mem_nil, or_false]; omega))) | (apply Rd.bm; assumption; focus assumption) | (apply Own.bm; assumption; focus assumption))); done)) (ho : o < cs.length := by first | decide | (simp; done) | (simp; omega))
    (hf : Fl q (rest.length + 1) := by first | exact trivial | exact rfl) (hq : ∀ w', Mod [b] w w' → w'.heap.size = w.heap.size → Kp q w' := by exact fun _ _ _ => trivial)
    (hk : ∀ w', Mod [b] w w' → w'.heap.size = w.heap.size → Blk w' b bt (cs.set o v) → TL q P fn R M n st ops rest k w') :
    TL q P fn R M n st ops (⟨none, .store t X V, ty, ps, af, none⟩ :: rest) k w :=
  TL_do (w' := w.setCell ⟨b, o, none⟩ v) (fun ρ h => by
    have hc : w.cell? ⟨b, o, none⟩ = some (cs[o]) := by rw [hb.cell]; exact List.getElem?_eq_getElem ho
    have hz : v.cells = #[v] := by cases v <;> simp_all [Value.cells, Value.oneCell']
    have he : (⟨b, o, none⟩ : Addr).add 0 = ⟨b, o, none⟩ := by simp [Addr.add]
    simp [execOp, Instr.storeAt, h _ _ hx, h _ _ hv, Instr.sureAddr, storeVar, hz, run_sizeOf' (E.inf_ok _ _ _ _ hi), storeCells, he, run_store _ _ _ _ _ h1, hc, hb.thawed]) hf (hq _ (Mod.setCell w ⟨b, o, none⟩ v) (by simp [World.setCell]))
    (hk _ (Mod.setCell w ⟨b, o, none⟩ v) (by simp [World.setCell]) (hb.set _ _))
theorem fld_at {E : Env P} {fl : List (Nat × TypeId)} {i off : Nat} {ft : TypeId} (ht : E.fld t = some fl) (hf : fl[i]? = some (off, ft)) : ∃ fs f, P.underlying t = some (.struct fs) ∧ fs[i]? = some f ∧ f.offset = off ∧ f.type = ft := by
  obtain ⟨fs, h1, h2⟩ := E.fld_ok _ _ ht
  subst h2
  simp only [List.getElem?_map, Option.map_eq_some_iff] at hf
  obtain ⟨f, h3, h4⟩ := hf
  cases h4
  exact ⟨fs, f, h1, by simpa using h3, rfl, rfl⟩
theorem TL_fieldAddr {b o i off : Nat} {fl : List (Nat × TypeId)} {ft : TypeId} {s1 b1 : Nat} {z1 : Value} (E : Env P) (hx : ev st X = some (.pointer (some ⟨b, o, none⟩)) := by exact rfl) (ht : E.fld t = some fl := by exact rfl) (hf : fl[i]? = some (off, ft) := by exact rfl) (hz : E.inf ft = some (s1, b1, z1) := by exact rfl) (h1 : Nat.beq s1 0 = false := by exact rfl) (hd : Nat.blt d n = true := by exact rfl)
    (hk : TL q P fn R M n ((d, .pointer (some ⟨b, o + off, none⟩)) :: st) ops rest k w) : TL q P fn R M n st ops (⟨some d, .fieldAddr t X i, ty, ps, af, none⟩ :: rest) k w :=
  TL_val_w hd (fun w ρ h => by
    obtain ⟨fs, f, hu, hf', ho, rfl⟩ := fld_at ht hf
    have h1' : s1 ≠ 0 := fun e => by subst e; simp at h1
    have he : (⟨b, o, none⟩ : Addr).add f.offset = ⟨b, o + off, none⟩ := by rw [ho]; unfold Addr.add; split <;> simp_all
    simp [execOp, h _ _ hx, Instr.fieldAt, run_underlying hu, hf', Instr.sureAddr, fieldPlace, run_sizeOf' (E.inf_ok _ _ _ _ hz), h1', he]) hk
theorem TL_fieldAddr_e {A : Option Addr} {j i off : Nat} {fl : List (Nat × TypeId)} {ft : TypeId} {s1 b1 : Nat} {z1 : Value} (E : Env P) (hx : ev st X = some (.pointer (some (adr A j))) := by exact rfl) (ht : E.fld t = some fl := by exact rfl) (hf : fl[i]? = some (off, ft) := by exact rfl) (hz : E.inf ft = some (s1, b1, z1) := by exact rfl) (h1 : Nat.beq s1 0 = false := by exact rfl) (hd : Nat.blt d n = true := by exact rfl) (hA : A ≠ none)
    (hk : TL q P fn R M n ((d, .pointer (some (adr A (j + off)))) :: st) ops rest k w) : TL q P fn R M n st ops (⟨some d, .fieldAddr t X i, ty, ps, af, none⟩ :: rest) k w :=
  TL_val_w hd (fun w ρ h => by
    obtain ⟨fs, f, hu, hf', ho, rfl⟩ := fld_at ht hf
    have h1' : s1 ≠ 0 := fun e => by subst e; simp at h1
    have he : (adr A j).add f.offset = adr A (j + off) := by
      rw [ho]
      cases A with
      | none => exact absurd rfl hA
      | some ad => unfold Addr.add adr; split <;> simp_all [Nat.add_assoc]
    simp [execOp, h _ _ hx, Instr.fieldAt, run_underlying hu, hf', Instr.sureAddr, fieldPlace, run_sizeOf' (E.inf_ok _ _ _ _ hz), h1', he]) hk

/-! ### Slices -/
variable {A : Option Addr} {m c : Nat} {xs : List Value} {I : Operand} {L : IntKind} {i : Int}
theorem TL_indexAddr (E : Env P) (hx : ev st X = some (.slice A m c) := by exact rfl) (hi : ev st I = some (.int L i) := by exact rfl) (ht : E.und t = some (.slice e) := by exact rfl) (he : E.inf e = some (s, by_, z) := by exact rfl) (hd : Nat.blt d n = true := by exact rfl) (h0 : 0 ≤ i := by first | assumption | omega) (h1 : i < (m : Int) := by first | assumption | omega) (hr : Rd w A m s xs := by focus ((repeat (first | assumption | (apply Own.rd; assumption) | (apply Rd.blk; assumption; exact rfl) | (apply Blk.be; assumption) | (apply Rd.be; assumption) | (apply Own.be; assumption) | (apply Blk.bm; assumption; focus (first | assumption | (simp only [List.mem_cons, List.not_mem_nil, or_false]; omega))) | (apply Rd.bm; assumption; focus assumption) | (apply Own.bm; assumption; focus assumption))); done))
    (hk : TL q P fn R M n ((d, .pointer (some (adr A (i.toNat * s)))) :: st) ops rest k w) : TL q P fn R M n st ops (⟨some d, .indexAddr t X I, ty, ps, af, none⟩ :: rest) k w :=
  TL_val_w hd (fun w ρ h => by
    obtain ⟨b, off, rfl, _, _⟩ := hr.2 (by omega)
    have hadd : (⟨b, off, none⟩ : Addr).add (i.toNat * s) = adr (some ⟨b, off, none⟩) (i.toNat * s) := by
      unfold Addr.add adr; split <;> simp_all
    simp [execOp, h _ _ hx, h _ _ hi, Instr.indexAt, asIntOf, run_underlying (E.und_ok _ _ ht), h0, h1, run_sizeOf' (E.inf_ok _ _ _ _ he), hadd]) hk
theorem TL_indexAddr1 (E : Env P) (hx : ev st X = some (.slice A m c) := by exact rfl) (hi : ev st I = some (.int L i) := by exact rfl) (ht : E.und t = some (.slice e) := by exact rfl) (he : E.inf e = some (1, by_, z) := by exact rfl) (hd : Nat.blt d n = true := by exact rfl) (h0 : 0 ≤ i := by first | assumption | omega) (h1 : i < (m : Int) := by first | assumption | omega) (hr : Rd w A m 1 xs := by focus ((repeat (first | assumption | (apply Own.rd; assumption) | (apply Rd.blk; assumption; exact rfl) | (apply Blk.be; assumption) | (apply Rd.be; assumption) | (apply Own.be; assumption) | (apply Blk.bm; assumption; focus (first | assumption | (simp only [List.mem_cons, List.not_mem_nil, or_false]; omega))) | (apply Rd.bm; assumption; focus assumption) | (apply Own.bm; assumption; focus assumption))); done))
    (hk : TL q P fn R M n ((d, .pointer (some (adr A i.toNat))) :: st) ops rest k w) : TL q P fn R M n st ops (⟨some d, .indexAddr t X I, ty, ps, af, none⟩ :: rest) k w :=
  TL_indexAddr E hx hi ht he hd h0 h1 hr (by rw [Nat.mul_one]; exact hk)
theorem TL_indexAddr1n {j : Nat} (E : Env P) (hx : ev st X = some (.slice A m c) := by exact rfl) (hi : ev st I = some (.int L i) := by exact rfl) (hj : i = (j : Int) := by first | with_reducible exact litZ _ | with_reducible exact rfl | with_reducible exact litS _ _) (ht : E.und t = some (.slice e) := by exact rfl) (he : E.inf e = some (1, by_, z) := by exact rfl) (hd : Nat.blt d n = true := by exact rfl) (h1 : i < (m : Int) := by first | assumption | omega) (hr : Rd w A m 1 xs := by focus ((repeat (first | assumption | (apply Own.rd; assumption) | (apply Rd.blk; assumption; exact rfl) | (apply Blk.be; assumption) | (apply Rd.be; assumption) | (apply Own.be; assumption) | (apply Blk.bm; assumption; focus (first | assumption | (simp only [List.mem_cons, List.not_mem_nil, or_false]; omega))) | (apply Rd.bm; assumption; focus assumption) | (apply Own.bm; assumption; focus assumption))); done))
    (hk : TL q P fn R M n ((d, .pointer (some (adr A j))) :: st) ops rest k w) : TL q P fn R M n st ops (⟨some d, .indexAddr t X I, ty, ps, af, none⟩ :: rest) k w := by
  subst hj
  exact TL_indexAddr1 E hx hi ht he hd (Int.natCast_nonneg j) h1 hr hk
theorem TL_indexAddrn {j : Nat} (E : Env P) (hx : ev st X = some (.slice A m c) := by exact rfl) (hi : ev st I = some (.int L i) := by exact rfl) (hj : i = (j : Int) := by first | with_reducible exact litZ _ | with_reducible exact rfl | with_reducible exact litS _ _) (ht : E.und t = some (.slice e) := by exact rfl) (he : E.inf e = some (s, by_, z) := by exact rfl) (hd : Nat.blt d n = true := by exact rfl) (h1 : i < (m : Int) := by first | assumption | omega) (hr : Rd w A m s xs := by focus ((repeat (first | assumption | (apply Own.rd; assumption) | (apply Rd.blk; assumption; exact rfl) | (apply Blk.be; assumption) | (apply Rd.be; assumption) | (apply Own.be; assumption) | (apply Blk.bm; assumption; focus (first | assumption | (simp only [List.mem_cons, List.not_mem_nil, or_false]; omega))) | (apply Rd.bm; assumption; focus assumption) | (apply Own.bm; assumption; focus assumption))); done))
    (hk : TL q P fn R M n ((d, .pointer (some (adr A (j * s)))) :: st) ops rest k w) : TL q P fn R M n st ops (⟨some d, .indexAddr t X I, ty, ps, af, none⟩ :: rest) k w := by
  subst hj
  exact TL_indexAddr E hx hi ht he hd (Int.natCast_nonneg j) h1 hr hk
theorem TL_len (E : Env P) (hx : ev st X = some (.slice A m c) := by exact rfl) (ht : E.und t = some (.slice e) := by exact rfl) (hd : Nat.blt d n = true := by exact rfl)
    (hk : TL q P fn R M n ((d, .int .i64 (m : Int)) :: st) ops rest k w) : TL q P fn R M n st ops (⟨some d, .call { callee := .builtin .len, args := #[X], argTypes := #[t] }, ty, ps, af, none⟩ :: rest) k w :=
  TL_val_w hd (fun w ρ h => by simp [execOp, resolve, invoke, builtin, Builtin.len_, run_underlying (E.und_ok _ _ ht), h _ _ hx, goInt]) hk
theorem TL_cap (E : Env P) (hx : ev st X = some (.slice A m c) := by exact rfl) (ht : E.und t = some (.slice e) := by exact rfl) (hd : Nat.blt d n = true := by exact rfl)
    (hk : TL q P fn R M n ((d, .int .i64 (c : Int)) :: st) ops rest k w) : TL q P fn R M n st ops (⟨some d, .call { callee := .builtin .cap, args := #[X], argTypes := #[t] }, ty, ps, af, none⟩ :: rest) k w :=
  TL_val_w hd (fun w ρ h => by simp [execOp, resolve, invoke, builtin, Builtin.cap_, run_underlying (E.und_ok _ _ ht), h _ _ hx, goInt]) hk
theorem TL_len_s {S : ByteArray} (E : Env P) (hx : ev st X = some (.string S) := by exact rfl) (ht : E.und t = some .string := by exact rfl) (hd : Nat.blt d n = true := by exact rfl)
    (hk : TL q P fn R M n ((d, .int .i64 (S.size : Int)) :: st) ops rest k w) : TL q P fn R M n st ops (⟨some d, .call { callee := .builtin .len, args := #[X], argTypes := #[t] }, ty, ps, af, none⟩ :: rest) k w :=
  TL_val_w hd (fun w ρ h => by simp [execOp, resolve, invoke, builtin, Builtin.len_, run_underlying (E.und_ok _ _ ht), h _ _ hx, goInt]) hk
theorem TL_slice_hi {j : Int} (E : Env P) (hx : ev st X = some (.slice A m c) := by exact rfl) (hy : ev st Y = some (.int L j) := by exact rfl) (ht : E.und t = some (.slice e) := by exact rfl) (he : E.inf e = some (s, by_, z) := by exact rfl) (hd : Nat.blt d n = true := by exact rfl) (h0 : 0 ≤ j := by first | assumption | omega) (h1 : j ≤ (c : Int) := by first | assumption | omega)
    (hk : TL q P fn R M n ((d, .slice A j.toNat c) :: st) ops rest k w) : TL q P fn R M n st ops (⟨some d, .slice t X none (some Y) none, ty, ps, af, none⟩ :: rest) k w :=
  TL_val_w hd (fun w ρ h => by
    have hA : A.map (·.add 0) = A := by cases A <;> simp [Addr.add]
    simp [execOp, Instr.sliceAt, Instr.slice, Instr.sliceBounds, Instr.sliceBound, asIntOf, run_underlying (E.und_ok _ _ ht), h _ _ hx, h _ _ hy, h0, h1, run_sizeOf' (E.inf_ok _ _ _ _ he), hA]) hk
theorem TL_slice_lo {j : Int} (E : Env P) (hx : ev st X = some (.slice A m c) := by exact rfl) (hy : ev st Y = some (.int L j) := by exact rfl) (ht : E.und t = some (.slice e) := by exact rfl) (he : E.inf e = some (s, by_, z) := by exact rfl) (hd : Nat.blt d n = true := by exact rfl) (h0 : 0 ≤ j := by first | assumption | omega) (h1 : j ≤ (m : Int) := by first | assumption | omega)
    (hk : TL q P fn R M n ((d, .slice (cutA A c j.toNat s) (m - j.toNat) (c - j.toNat)) :: st) ops rest k w) : TL q P fn R M n st ops (⟨some d, .slice t X (some Y) none none, ty, ps, af, none⟩ :: rest) k w :=
  TL_val_w hd (fun w ρ h => by
    simp [execOp, Instr.sliceAt, Instr.slice, Instr.sliceBounds, Instr.sliceBound, asIntOf, run_underlying (E.und_ok _ _ ht), h _ _ hx, h _ _ hy, h0, h1, run_sizeOf' (E.inf_ok _ _ _ _ he), cutA]) hk
theorem TL_slice_lh {j j2 : Int} {L2 : IntKind} (E : Env P) (hx : ev st X = some (.slice A m c) := by exact rfl) (hy : ev st Y = some (.int L j) := by exact rfl) (hV : ev st V = some (.int L2 j2) := by exact rfl) (ht : E.und t = some (.slice e) := by exact rfl) (he : E.inf e = some (s, by_, z) := by exact rfl) (hd : Nat.blt d n = true := by exact rfl) (h0 : 0 ≤ j := by first | assumption | omega) (h1 : j ≤ j2 := by first | assumption | omega) (h2 : j2 ≤ (c : Int) := by first | assumption | omega)
    (hk : TL q P fn R M n ((d, .slice (cutA A c j.toNat s) (j2.toNat - j.toNat) (c - j.toNat)) :: st) ops rest k w) : TL q P fn R M n st ops (⟨some d, .slice t X (some Y) (some V) none, ty, ps, af, none⟩ :: rest) k w :=
  TL_val_w hd (fun w ρ h => by
    have h3 : 0 ≤ j2 := by omega
    have h4 : j ≤ (j2.toNat : Int) := by omega
    have h5 : j ≤ max j2 0 := by omega
    simp [execOp, Instr.sliceAt, Instr.slice, Instr.sliceBounds, Instr.sliceBound, asIntOf, run_underlying (E.und_ok _ _ ht), h _ _ hx, h _ _ hy, h _ _ hV, h0, h1, h2, h3, h4, h5, run_sizeOf' (E.inf_ok _ _ _ _ he), cutA]) hk
theorem TL_nil_t (E : Env P) (hx : ev st X = some (.slice none m c) := by exact rfl) (hy : ev st Y = some (.slice none 0 0) := by exact rfl) (ht : E.und t = some (.slice e) := by exact rfl) (hd : Nat.blt d n = true := by exact rfl)
    (hk : TL q P fn R M n ((d, .bool true) :: st) ops rest k w) : TL q P fn R M n st ops (⟨some d, .binOp .eql t X Y t2, ty, ps, af, none⟩ :: rest) k w :=
  TL_val_w hd (fun w ρ h => by
    have e0 : ∀ dp : Nat, (Op.equalIn (dp + 1) t (.slice none m c) (.slice none 0 0)).run P w = .ok true w := fun dp => by
      simp [Op.equalIn, run_underlying (E.und_ok _ _ ht)]
    have e1 : (Op.equal t (.slice none m c) (.slice none 0 0)).run P w = .ok true w := e0 9999
    show (do let v ← (do eqGuard .eql t X Y (ρ X) (ρ Y); binOp .eql t (ρ X) (ρ Y)); pure (Next.value v) : Sem Next).run P w = _
    rw [h _ _ hx, h _ _ hy]
    simp [eqGuard, binOp, e1]) hk
theorem TL_nil_f {ad : Addr} (E : Env P) (hx : ev st X = some (.slice (some ad) m c) := by exact rfl) (hy : ev st Y = some (.slice none 0 0) := by exact rfl) (ht : E.und t = some (.slice e) := by exact rfl) (hd : Nat.blt d n = true := by exact rfl)
    (hk : TL q P fn R M n ((d, .bool false) :: st) ops rest k w) : TL q P fn R M n st ops (⟨some d, .binOp .eql t X Y t2, ty, ps, af, none⟩ :: rest) k w :=
  TL_val_w hd (fun w ρ h => by
    have e0 : ∀ dp : Nat, (Op.equalIn (dp + 1) t (.slice (some ad) m c) (.slice none 0 0)).run P w = .ok false w := fun dp => by
      simp [Op.equalIn, run_underlying (E.und_ok _ _ ht)]
    have e1 : (Op.equal t (.slice (some ad) m c) (.slice none 0 0)).run P w = .ok false w := e0 9999
    show (do let v ← (do eqGuard .eql t X Y (ρ X) (ρ Y); binOp .eql t (ρ X) (ρ Y)); pure (Next.value v) : Sem Next).run P w = _
    rw [h _ _ hx, h _ _ hy]
    simp [eqGuard, binOp, e1]) hk
theorem TL_pnil_t (E : Env P) (hx : ev st X = some (.pointer none) := by exact rfl) (hy : ev st Y = some (.pointer none) := by exact rfl) (ht : E.und t = some (.pointer e) := by exact rfl) (hd : Nat.blt d n = true := by exact rfl)
    (hk : TL q P fn R M n ((d, .bool true) :: st) ops rest k w) : TL q P fn R M n st ops (⟨some d, .binOp .eql t X Y t2, ty, ps, af, none⟩ :: rest) k w :=
  TL_val_w hd (fun w ρ h => by
    have e0 : ∀ dp : Nat, (Op.equalIn (dp + 1) t (.pointer none) (.pointer none)).run P w = .ok true w := fun dp => by
      simp [Op.equalIn, run_underlying (E.und_ok _ _ ht)]
    have e1 : (Op.equal t (.pointer none) (.pointer none)).run P w = .ok true w := e0 9999
    show (do let v ← (do eqGuard .eql t X Y (ρ X) (ρ Y); binOp .eql t (ρ X) (ρ Y)); pure (Next.value v) : Sem Next).run P w = _
    rw [h _ _ hx, h _ _ hy]
    simp [eqGuard, binOp, e1]) hk
theorem TL_pnil_f {ad : Addr} (E : Env P) (hx : ev st X = some (.pointer (some ad)) := by exact rfl) (hy : ev st Y = some (.pointer none) := by exact rfl) (ht : E.und t = some (.pointer e) := by exact rfl) (hd : Nat.blt d n = true := by exact rfl)
    (hk : TL q P fn R M n ((d, .bool false) :: st) ops rest k w) : TL q P fn R M n st ops (⟨some d, .binOp .eql t X Y t2, ty, ps, af, none⟩ :: rest) k w :=
  TL_val_w hd (fun w ρ h => by
    have e0 : ∀ dp : Nat, (Op.equalIn (dp + 1) t (.pointer (some ad)) (.pointer none)).run P w = .ok false w := fun dp => by
      simp [Op.equalIn, run_underlying (E.und_ok _ _ ht)]
    have e1 : (Op.equal t (.pointer (some ad)) (.pointer none)).run P w = .ok false w := e0 9999
    show (do let v ← (do eqGuard .eql t X Y (ρ X) (ρ Y); binOp .eql t (ρ X) (ρ Y)); pure (Next.value v) : Sem Next).run P w = _
    rw [h _ _ hx, h _ _ hy]
    simp [eqGuard, binOp, e1]) hk
theorem TL_pnn_f (E : Env P) (hx : ev st X = some (.pointer none) := by exact rfl) (hy : ev st Y = some (.pointer none) := by exact rfl) (ht : E.und t = some (.pointer e) := by exact rfl) (hd : Nat.blt d n = true := by exact rfl)
    (hk : TL q P fn R M n ((d, .bool false) :: st) ops rest k w) : TL q P fn R M n st ops (⟨some d, .binOp .neq t X Y t2, ty, ps, af, none⟩ :: rest) k w :=
  TL_val_w hd (fun w ρ h => by
    have e0 : ∀ dp : Nat, (Op.equalIn (dp + 1) t (.pointer none) (.pointer none)).run P w = .ok true w := fun dp => by
      simp [Op.equalIn, run_underlying (E.und_ok _ _ ht)]
    have e1 : (Op.equal t (.pointer none) (.pointer none)).run P w = .ok true w := e0 9999
    show (do let v ← (do eqGuard .neq t X Y (ρ X) (ρ Y); binOp .neq t (ρ X) (ρ Y)); pure (Next.value v) : Sem Next).run P w = _
    rw [h _ _ hx, h _ _ hy]
    simp [eqGuard, binOp, e1]) hk
theorem TL_pnn_t {ad : Addr} (E : Env P) (hx : ev st X = some (.pointer (some ad)) := by exact rfl) (hy : ev st Y = some (.pointer none) := by exact rfl) (ht : E.und t = some (.pointer e) := by exact rfl) (hd : Nat.blt d n = true := by exact rfl)
    (hk : TL q P fn R M n ((d, .bool true) :: st) ops rest k w) : TL q P fn R M n st ops (⟨some d, .binOp .neq t X Y t2, ty, ps, af, none⟩ :: rest) k w :=
  TL_val_w hd (fun w ρ h => by
    have e0 : ∀ dp : Nat, (Op.equalIn (dp + 1) t (.pointer (some ad)) (.pointer none)).run P w = .ok false w := fun dp => by
      simp [Op.equalIn, run_underlying (E.und_ok _ _ ht)]
    have e1 : (Op.equal t (.pointer (some ad)) (.pointer none)).run P w = .ok false w := e0 9999
    show (do let v ← (do eqGuard .neq t X Y (ρ X) (ρ Y); binOp .neq t (ρ X) (ρ Y)); pure (Next.value v) : Sem Next).run P w = _
    rw [h _ _ hx, h _ _ hy]
    simp [eqGuard, binOp, e1]) hk

/-! ### Strings -/
variable {S S2 : ByteArray}
theorem TL_seq_t (hx : ev st X = some (.string S) := by exact rfl) (hy : ev st Y = some (.string S2) := by exact rfl) (h0 : S = S2 := by first | assumption | exact rfl) (hd : Nat.blt d n = true := by exact rfl)
    (hk : TL q P fn R M n ((d, .bool true) :: st) ops rest k w) : TL q P fn R M n st ops (⟨some d, .binOp .eql t X Y t2, ty, ps, af, none⟩ :: rest) k w :=
  TL_val_w hd (fun w ρ h => by simp [execOp, h _ _ hx, h _ _ hy, eqGuard, binOp, Op.stringOp, h0]) hk
theorem TL_seq_f (hx : ev st X = some (.string S) := by exact rfl) (hy : ev st Y = some (.string S2) := by exact rfl) (h0 : ¬ S = S2 := by assumption) (hd : Nat.blt d n = true := by exact rfl)
    (hk : TL q P fn R M n ((d, .bool false) :: st) ops rest k w) : TL q P fn R M n st ops (⟨some d, .binOp .eql t X Y t2, ty, ps, af, none⟩ :: rest) k w :=
  TL_val_w hd (fun w ρ h => by
    have := str_beq S S2
    simp only [h0, decide_false] at this
    simp only [execOp, h _ _ hx, h _ _ hy, eqGuard, binOp, Op.stringOp, this, Sem.run_bind, Sem.run_pure, Result.andThen_ok, Bool.not_true, Bool.false_eq_true, if_false]) hk
theorem TL_sne_f (hx : ev st X = some (.string S) := by exact rfl) (hy : ev st Y = some (.string S2) := by exact rfl) (h0 : S = S2 := by first | assumption | exact rfl) (hd : Nat.blt d n = true := by exact rfl)
    (hk : TL q P fn R M n ((d, .bool false) :: st) ops rest k w) : TL q P fn R M n st ops (⟨some d, .binOp .neq t X Y t2, ty, ps, af, none⟩ :: rest) k w :=
  TL_val_w hd (fun w ρ h => by simp [execOp, h _ _ hx, h _ _ hy, eqGuard, binOp, Op.stringOp, h0]) hk
theorem TL_sne_t (hx : ev st X = some (.string S) := by exact rfl) (hy : ev st Y = some (.string S2) := by exact rfl) (h0 : ¬ S = S2 := by assumption) (hd : Nat.blt d n = true := by exact rfl)
    (hk : TL q P fn R M n ((d, .bool true) :: st) ops rest k w) : TL q P fn R M n st ops (⟨some d, .binOp .neq t X Y t2, ty, ps, af, none⟩ :: rest) k w :=
  TL_val_w hd (fun w ρ h => by
    have := str_beq S S2
    simp only [h0, decide_false] at this
    simp only [execOp, h _ _ hx, h _ _ hy, eqGuard, binOp, Op.stringOp, this, Sem.run_bind, Sem.run_pure, Result.andThen_ok, Bool.not_true, Bool.false_eq_true, if_false, Bool.not_false]) hk
theorem loadCellsFrom_eq {a : Addr} {w : World} : ∀ (vs : List Value) (i : Nat) (acc : Array Value), (∀ j u, vs[j]? = some u → w.cell? (a.add (i + j)) = some u) → (loadCellsFrom a i vs.length acc).run P w = .ok (acc ++ vs.toArray) w
  | [], i, acc, h => by simp [loadCellsFrom]
  | v :: vs, i, acc, h => by
    have h0 := h 0 v rfl
    have := loadCellsFrom_eq vs (i + 1) (acc.push v) (fun j u hu => by have := h (j + 1) u (by simpa using hu); rwa [show i + 1 + j = i + (j + 1) from by omega])
    simp only [Nat.add_zero] at h0
    simp only [List.length_cons, loadCellsFrom, Sem.run_bind, run_load, h0, Result.andThen_ok, this]
    simp
theorem bytes_fold {w : World} : ∀ (l : List UInt8) (acc : ByteArray), (forIn (m := Sem) (bv l) acc (fun c r => match c with | .int .u8 n => pure (ForInStep.yield (r.push (UInt8.ofNat n.toNat))) | _ => stuck "bytesToString: byte expected")).run P w = .ok ⟨acc.data ++ l.toArray⟩ w
  | [], acc => by simp [bv]
  | b :: l, acc => by
    have := bytes_fold l (acc.push b) (w := w)
    simp only [bv, List.map_cons, List.forIn_cons] at this ⊢
    simp only [Sem.run_bind, Sem.run_pure, Result.andThen_ok, Int.toNat_natCast, UInt8.ofNat_toNat, this]
    congr 1
    simp [ByteArray.push]
theorem TL_conv_bs {l : List UInt8} (E : Env P) (hx : ev st X = some (.slice A m c) := by exact rfl) (h1 : E.und t = some (.slice e) := by exact rfl) (h2 : E.und t2 = some .string := by exact rfl) (h3 : E.und e = some (.int .u8) := by exact rfl) (hpl : q.plain = true := by exact rfl) (hd : Nat.blt d n = true := by exact rfl) (hr : Rd w A m 1 (bv l) := by focus ((repeat (first | assumption | (apply Own.rd; assumption) | (apply Rd.blk; assumption; exact rfl) | (apply Blk.be; assumption) | (apply Rd.be; assumption) | (apply Own.be; assumption) | (apply Blk.bm; assumption; focus (first | assumption | (simp only [List.mem_cons, List.not_mem_nil, or_false]; omega))) | (apply Rd.bm; assumption; focus assumption) | (apply Own.bm; assumption; focus assumption))); done))
    (hk : TL q P fn R M n ((d, .string (ofL l)) :: st) ops rest k w) : TL q P fn R M n st ops (⟨some d, .convert t t2 X, ty, ps, af, none⟩ :: rest) k w :=
  TL_val hd (fun w' hw ρ h => by
    have hr' := hr.ext (hw.ext hpl)
    have hl : l.length = m := by have := hr.1; simpa using this
    cases A with
    | none =>
      have hm : m = 0 := by
        rcases Nat.eq_zero_or_pos m with h0 | h0
        · exact h0
        · obtain ⟨b, off, hc, _⟩ := hr.2 h0; cases hc
      subst hm
      have : l = [] := List.eq_nil_of_length_eq_zero hl
      subst this
      simp [execOp, h _ _ hx, convert, run_underlying (E.und_ok _ _ h1), run_underlying (E.und_ok _ _ h2), run_underlying (E.und_ok _ _ h3), Conv.bytesToString, ofL]
      rfl
    | some a0 =>
      have hcells : (loadCells a0 m).run P w' = .ok (bv l).toArray w' := by
        have := loadCellsFrom_eq (P := P) (w := w') (a := a0) (bv l) 0 #[] (fun j u hu => by
          have h9 := hr'.cell hu
          have hlt : j < (bv l).length := by
            rcases Nat.lt_or_ge j (bv l).length with hl | hl
            · exact hl
            · rw [List.getElem?_eq_none hl] at hu; cases hu
          obtain ⟨b, off, hab, _, _⟩ := hr'.2 (by simp at hlt; omega)
          cases hab
          rw [← h9]
          congr 1
          unfold Addr.add adr
          split <;> simp_all)
        simp only [bv_length, hl] at this
        simpa [loadCells] using this
      have hf := bytes_fold (P := P) (w := w') l ByteArray.empty
      simp only [execOp, h _ _ hx, convert, Sem.run_bind, run_underlying (E.und_ok _ _ h1), run_underlying (E.und_ok _ _ h2), run_underlying (E.und_ok _ _ h3), Result.andThen_ok, Conv.bytesToString, hcells]
      rw [List.forIn_toArray]
      erw [hf]
      simp [ofL]) hk
end
end Go.Proofs.Eng
