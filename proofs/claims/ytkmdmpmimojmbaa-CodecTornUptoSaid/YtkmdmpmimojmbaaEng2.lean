import Derived.Test.YtkmdmpmimojmbaaEng1
namespace Go.Proofs.Eng
open Go.RowKit
set_option linter.unusedSimpArgs false
set_option linter.unusedVariables false

/-! ## The program's types -/
structure Env (P : Program) where
  und : Nat → Option TypeDesc
  und_ok : ∀ t d, und t = some d → P.underlying t = some d
  inf : Nat → Option (Nat × Nat × Value)
  inf_ok : ∀ t s b z, inf t = some (s, b, z) → ∃ i, P.info? t = some i ∧ i.size = s ∧ i.bytes = b ∧ i.zero = some z
  fld : Nat → Option (List (Nat × TypeId))
  fld_ok : ∀ t l, fld t = some l → ∃ fs, P.underlying t = some (.struct fs) ∧ fs.toList.map (fun f => (f.offset, f.type)) = l
  fn : Nat → Bool
  fn_ok : ∀ g, fn g = true → ∀ args w, (callFunc g args).run P w = .ok (.enter g args) w
  mixed : P.follows .mixedOrders = true
  ifc : Nat → Bool
  ifc_ok : ∀ t, ifc t = true → ∃ ms, P.underlying t = some (.interface ms)
def look2 {α : Type} : List (Nat × α) → Nat → Option α
  | [], _ => none
  | p :: t, i => bif Nat.beq p.1 i then some p.2 else look2 t i
theorem look2_ok {α : Type} {Q : Nat → α → Prop} : ∀ (l : List (Nat × α)), (∀ p ∈ l, Q p.1 p.2) → ∀ t d, look2 l t = some d → Q t d
  | [], _, t, d, h => by simp [look2] at h
  | p :: l, hl, t, d, h => by
    simp only [look2] at h
    by_cases hi : p.1 = t
    · subst hi
      simp at h
      subst h
      exact hl p (by simp)
    · rw [beq_ne hi] at h
      exact look2_ok l (fun q hq => hl q (by simp [hq])) t d (by simpa using h)

theorem fld_of {P : Program} {t : TypeId} {l : List (Nat × TypeId)} (h : (P.underlying t).bind (fun d => match d with | .struct fs => some (fs.toList.map (fun f => (f.offset, f.type))) | _ => none) = some l) :
    ∃ fs, P.underlying t = some (.struct fs) ∧ fs.toList.map (fun f => (f.offset, f.type)) = l := by
  cases hu : P.underlying t with
  | none => simp [hu] at h
  | some d => cases d <;> simp [hu] at h <;> exact ⟨_, rfl, h⟩
theorem ifc_of {P : Program} {t : TypeId} (h : (match P.underlying t with | some (.interface _) => true | _ => false) = true) : ∃ ms, P.underlying t = some (.interface ms) := by
  cases hu : P.underlying t with
  | none => simp [hu] at h
  | some d => cases d <;> simp [hu] at h; exact ⟨_, rfl⟩
theorem inf_of {P : Program} {t s b : Nat} {z : Value} (h : (P.info? t).map (fun i => (i.size, i.bytes, i.zero)) = some (s, b, some z)) : ∃ i, P.info? t = some i ∧ i.size = s ∧ i.bytes = b ∧ i.zero = some z := by
  cases hu : P.info? t with
  | none => simp [hu] at h
  | some d => simp [hu] at h; exact ⟨d, rfl, h.1, h.2.1, h.2.2⟩

/-! ## One operation that yields a value and leaves the world -/
def RunV (P : Program) (w : World) (st : Slots) (o : Oper) (v : Value) : Prop :=
  ∀ ρ : Operand → Value, (∀ x u, ev st x = some u → ρ x = u) → (execOp ρ o).run P w = .ok (.value v) w

section
variable {q : Qm} {P : Program} {fn : Func} {R : Ending → World → Prop} {M : Md} {n : Nat} {st : Slots} {k : List Item} {w : World} {ops rest : List Oper}
  {d : Nat} {v : Value} {ty : TypeId} {ps : String} {af : Array Edge}

theorem held_val {w0 : World} {D : List Nat} {plan : List (Nat × Bool)} {o : Oper} {d : Option Tmp} (hdst : o.dst = d)
    (hr : ∀ a, OK M n st a → ∀ w', Mod D w0 w' → o.guard = none → (execOp a.eval o).run P w' = .ok (.value v) w')
    (hno : ∀ a, OK M n st a → o.guard ≠ none → v = undef ∧ Region.wanted o (yielded ops.toArray a.tmps) = false)
    (hk : ∀ (done todo : List (Nat × Bool)) (b : Array Bool), plan = done ++ todo → legal ops.toArray todo b = true → Region.noSelect ops.toArray = true → Mod D w0 w → ∀ a, OK M n st a → agrees ops (a.put d v) rest todo →
      wpAnyH P .any ops.toArray (TQ M.dfd P fn R k) (fun w' => Mod D w0 w') rest.length b (a.put d v) w) :
    TL (.held w0 D plan) P fn R M n st ops (o :: rest) k w := by
  intro done todo b hp hl hn hD a ha hag
  subst hdst
  cases todo with
  | nil => exact hag.elim
  | cons p todo =>
    obtain ⟨⟨g, hg, hgo⟩, ht⟩ := hag
    have hl0 := hl
    simp only [legal, Bool.and_eq_true] at hl
    obtain ⟨hl1, hl2⟩ := hl
    have hnext := hk (done ++ [p]) todo _ (by rw [hp]; simp) hl2 hn hD a ha (agrees_of ht)
    have hgo' : ops.toArray[p.1]? = some { o with guard := g } := by simpa using hg
    have hyes : o.guard = none → Region.wanted { o with guard := g } (yielded ops.toArray a.tmps) = true := fun h0 => by
      rcases hgo with rfl | ⟨_, h⟩
      · rw [h0]; rfl
      · exact h
    have hno' : o.guard ≠ none → v = undef ∧ Region.wanted { o with guard := g } (yielded ops.toArray a.tmps) = false := fun h0 => by
      rcases hgo with rfl | ⟨h, _⟩
      · exact hno a ha h0
      · exact absurd h h0
    have hex : ∀ ρ, execOp ρ { o with guard := g } = execOp ρ o := fun ρ => rfl
    by_cases h0 : o.guard = none
    · have hr' := hr a ha
      cases hs : p.2 with
      | true =>
        rw [hs] at hl1
        simp only [cond_true, Bool.and_eq_true] at hl1
        exact wpAnyH_take hgo' hn hl1.1 hl1.2 (fun c a w h => h) (.inl ⟨hyes h0, fun w' hw' => by rw [hex]; exact hr' w' hw' h0⟩) hD hnext
      | false =>
        rw [hs] at hl1
        simp only [cond_false, beq_iff_eq] at hl1
        refine wpAnyH_all hl1 (by simp) (fun j hj => ?_)
        simp only [List.mem_singleton] at hj
        subst hj
        unfold wpOp
        rw [hgo']
        simp only
        rw [if_pos (hyes h0)]
        refine .inl ?_
        unfold Oper.wp
        rw [hex, hr' w hD h0]
        exact ⟨hD, hnext⟩
    · obtain ⟨rfl, hw⟩ := hno' h0
      cases hs : p.2 with
      | true =>
        rw [hs] at hl1
        simp only [cond_true, Bool.and_eq_true] at hl1
        exact wpAnyH_take hgo' hn hl1.1 hl1.2 (fun c a w h => h) (.inr ⟨hw, rfl⟩) hD hnext
      | false =>
        rw [hs] at hl1
        simp only [cond_false, beq_iff_eq] at hl1
        refine wpAnyH_all hl1 (by simp) (fun j hj => ?_)
        simp only [List.mem_singleton] at hj
        subst hj
        unfold wpOp
        rw [hgo']
        simp only
        rw [if_neg (by simp [hw])]
        exact ⟨hD, hnext⟩
theorem TL_val {op : Op} (hd : Nat.blt d n = true) (h : ∀ w', Cq q w w' → RunV P w' st ⟨some d, op, ty, ps, af, none⟩ v) (hk : TL q P fn R M n ((d, v) :: st) ops rest k w) :
    TL q P fn R M n st ops (⟨some d, op, ty, ps, af, none⟩ :: rest) k w := by
  cases q with
  | seq =>
    intro a ha
    have hk' := hk (a.put (some d) v) (ha.put hd v)
    refine wpList_plain rfl (fun K hK => ?_)
    unfold Oper.wp
    rw [h w rfl a.eval (fun x u hx => ha.ev hx)]
    exact hK _ _ hk'
  | quiet =>
    intro a ha
    have hr : ∀ w', Ext w w' → (execOp a.eval ⟨some d, op, ty, ps, af, none⟩).run P w' = .ok (.value v) w' := fun w' hw => h w' hw a.eval (fun x u hx => ha.ev hx)
    have hk' := hk (a.put (some d) v) (ha.put hd v)
    refine wpQuiet_step (fun K hK => ?_)
    rw [if_pos (by simp [Region.wanted])]
    refine ⟨v, fun w' hw' => ?_, hK _ hk'⟩
    unfold Oper.quietAt
    rw [hr w' hw']
    exact ⟨rfl, rfl⟩
  | held w0 D plan =>
    exact held_val (d := some d) rfl (fun a ha w' hw' _ => h w' hw' a.eval (fun x u hx => ha.ev hx)) (fun a ha h0 => absurd rfl h0)
      (fun done todo b hp hl hn hD a ha hag => hk done todo b hp hl hn hD _ (ha.put hd v) hag)
theorem TL_val_w {op : Op} (hd : Nat.blt d n = true) (h : ∀ w, RunV P w st ⟨some d, op, ty, ps, af, none⟩ v) (hk : TL q P fn R M n ((d, v) :: st) ops rest k w) :
    TL q P fn R M n st ops (⟨some d, op, ty, ps, af, none⟩ :: rest) k w := TL_val hd (fun w' _ => h w') hk

def boolOf : Value → Option Bool
  | .bool c => some c
  | _ => none
theorem yielded_of {a : Act} {j dj : Nat} {u : Value} (hj : (ops[j]?).bind (·.dst) = some dj) (hg : a.tmps.getD dj undef = u) : yielded ops.toArray a.tmps j = boolOf u := by
  have h1 : (ops.toArray[j]?).bind (·.dst) = some dj := by simpa using hj
  unfold yielded
  rw [h1]
  simp only [Option.bind_some]
  rw [Array.getD_eq_getD_getElem?] at hg
  cases hx : a.tmps[dj]? with
  | none => rw [hx] at hg; subst hg; simp [undef, boolOf]
  | some x => rw [hx] at hg; simp at hg; subst hg; cases x <;> rfl
/-- An operation whose guard says yes. -/
theorem TL_yes {dst : Option Tmp} {op : Op} {j : Nat} {b : Bool} {dj : Nat} (hj : (ops[j]?).bind (·.dst) = some dj := by exact rfl) (hl : look st dj = some (.bool b) := by exact rfl)
    (hk : TL q P fn R M n st ops (⟨dst, op, ty, ps, af, none⟩ :: rest) k w) : TL q P fn R M n st ops (⟨dst, op, ty, ps, af, some (j, b)⟩ :: rest) k w := by
  have hy : ∀ a, OK M n st a → yielded ops.toArray a.tmps j = some b := fun a ha => by rw [yielded_of hj (ha.get _ _ hl)]; rfl
  cases q with
  | seq =>
    intro a ha
    have := hk a ha
    simp only [wpList] at this ⊢
    simp only [Region.wanted, hy a ha, beq_self_eq_true, if_true] at this ⊢
    exact this
  | quiet =>
    intro a ha
    have := hk a ha
    simp only [wpQuiet] at this ⊢
    simp only [Region.wanted, hy a ha, beq_self_eq_true, if_true] at this ⊢
    exact this
  | held w0 D plan =>
    intro done todo c hp hl hn hD a ha hag
    refine hk done todo c hp hl hn hD a ha ?_
    cases todo with
    | nil => exact hag.elim
    | cons p todo =>
      obtain ⟨⟨g, hg, hgo⟩, ht⟩ := hag
      refine ⟨⟨g, hg, .inr ⟨rfl, ?_⟩⟩, ht⟩
      rcases hgo with rfl | ⟨h, _⟩
      · simp [Region.wanted, hy a ha]
      · cases h
theorem TL_no {op : Op} {j : Nat} {b : Bool} {dj : Nat} {u : Value} (hj : (ops[j]?).bind (·.dst) = some dj := by exact rfl) (hl : look st dj = some u := by exact rfl) (hu : (match u with | .bool c => c == b | _ => false) = false := by exact rfl) (hd : Nat.blt d n = true := by exact rfl)
    (hk : TL q P fn R M n ((d, undef) :: st) ops rest k w) : TL q P fn R M n st ops (⟨some d, op, ty, ps, af, some (j, b)⟩ :: rest) k w := by
  have hy : ∀ a, OK M n st a → (yielded ops.toArray a.tmps j == some b) = false := fun a ha => by
    rw [yielded_of hj (ha.get _ _ hl)]
    cases u <;> simp_all [boolOf]
  cases q with
  | seq =>
    intro a ha
    have := hk _ (ha.put hd undef)
    simp only [wpList]
    simp only [Region.wanted, hy a ha]
    simpa using this
  | quiet =>
    intro a ha
    have := hk _ (ha.put hd undef)
    simp only [wpQuiet]
    simp only [Region.wanted, hy a ha]
    simpa using this
  | held w0 D plan =>
    exact held_val (d := some d) rfl (fun a ha w' hw' h0 => by cases h0) (fun a ha _ => ⟨rfl, by simp [Region.wanted, hy a ha]⟩)
      (fun done todo b hp hl hn hD a ha hag => hk done todo b hp hl hn hD _ (ha.put hd undef) hag)
theorem TL_no0 {op : Op} {j : Nat} {b : Bool} {dj : Nat} {u : Value} (hj : (ops[j]?).bind (·.dst) = some dj := by exact rfl) (hl : look st dj = some u := by exact rfl) (hu : (match u with | .bool c => c == b | _ => false) = false := by exact rfl)
    (hk : TL q P fn R M n st ops rest k w) : TL q P fn R M n st ops (⟨none, op, ty, ps, af, some (j, b)⟩ :: rest) k w := by
  have hy : ∀ a, OK M n st a → (yielded ops.toArray a.tmps j == some b) = false := fun a ha => by
    rw [yielded_of hj (ha.get _ _ hl)]
    cases u <;> simp_all [boolOf]
  cases q with
  | seq =>
    intro a ha
    have := hk _ ha
    simp only [wpList]
    simp only [Region.wanted, hy a ha]
    simp only [Bool.false_eq_true, if_false]
    exact this
  | quiet =>
    intro a ha
    have := hk _ ha
    simp only [wpQuiet]
    simp only [Region.wanted, hy a ha]
    simp only [Bool.false_eq_true, if_false]
    exact this
  | held w0 D plan =>
    exact held_val (d := none) (v := undef) rfl (fun a ha w' hw' h0 => by cases h0) (fun a ha _ => ⟨rfl, by simp [Region.wanted, hy a ha]⟩)
      (fun done todo b hp hl hn hD a ha hag => hk done todo b hp hl hn hD _ ha hag)

/-! ### move, assign, pick, extract, nilCheck -/
theorem TL_move {x : Operand} (hx : ev st x = some v := by exact rfl) (hd : Nat.blt d n = true := by exact rfl) (hk : TL q P fn R M n ((d, v) :: st) ops rest k w) : TL q P fn R M n st ops (⟨some d, .move x, ty, ps, af, none⟩ :: rest) k w :=
  TL_val_w hd (fun w ρ h => by simp [execOp, h _ _ hx]) hk
theorem TL_assign {x : Operand} (hx : ev st x = some v := by exact rfl) (hd : Nat.blt d n = true := by exact rfl) (hk : TL q P fn R M n ((d, v) :: st) ops rest k w) : TL q P fn R M n st ops (⟨some d, .assign x, ty, ps, af, none⟩ :: rest) k w :=
  TL_val_w hd (fun w ρ h => by simp [execOp, h _ _ hx]) hk
theorem TL_pick_t {c x y : Operand} (hc : ev st c = some (.bool true) := by exact rfl) (hx : ev st x = some v := by exact rfl) (hd : Nat.blt d n = true := by exact rfl) (hk : TL q P fn R M n ((d, v) :: st) ops rest k w) : TL q P fn R M n st ops (⟨some d, .pick c x y, ty, ps, af, none⟩ :: rest) k w :=
  TL_val_w hd (fun w ρ h => by simp [execOp, h _ _ hx, h _ _ hc, asBool]) hk
theorem TL_pick_f {c x y : Operand} (hc : ev st c = some (.bool false) := by exact rfl) (hx : ev st y = some v := by exact rfl) (hd : Nat.blt d n = true := by exact rfl) (hk : TL q P fn R M n ((d, v) :: st) ops rest k w) : TL q P fn R M n st ops (⟨some d, .pick c x y, ty, ps, af, none⟩ :: rest) k w :=
  TL_val_w hd (fun w ρ h => by simp [execOp, h _ _ hx, h _ _ hc, asBool]) hk
theorem TL_extract {x : Operand} {i : Nat} {vs : List Value} (hx : ev st x = some (.tuple vs.toArray) := by exact rfl) (hv : vs[i]? = some v := by exact rfl) (hd : Nat.blt d n = true := by exact rfl) (hk : TL q P fn R M n ((d, v) :: st) ops rest k w) : TL q P fn R M n st ops (⟨some d, .extract x i, ty, ps, af, none⟩ :: rest) k w :=
  TL_val_w hd (fun w ρ h => by simp [execOp, h _ _ hx, Instr.extract, hv]) hk
theorem TL_nilCheck {x : Operand} {p : Addr} (hx : ev st x = some (.pointer (some p)) := by exact rfl) (hd : Nat.blt d n = true := by exact rfl) (hk : TL q P fn R M n ((d, .pointer (some p)) :: st) ops rest k w) : TL q P fn R M n st ops (⟨some d, .nilCheck x, ty, ps, af, none⟩ :: rest) k w :=
  TL_val_w hd (fun w ρ h => by simp [execOp, h _ _ hx]) hk
theorem TL_nilCheck_f {x : Operand} {f : FuncId} {u c : Array Value} (hx : ev st x = some (.func (.func f) u c) := by exact rfl) (hd : Nat.blt d n = true := by exact rfl) (hk : TL q P fn R M n ((d, .func (.func f) u c) :: st) ops rest k w) : TL q P fn R M n st ops (⟨some d, .nilCheck x, ty, ps, af, none⟩ :: rest) k w :=
  TL_val_w hd (fun w ρ h => by simp [execOp, h _ _ hx]) hk
theorem TL_makeFunc {f : Fn} {u c : Array Operand} {us cs : List Value} (hu : evs st u.toList = some us := by exact rfl) (hc : evs st c.toList = some cs := by exact rfl) (hd : Nat.blt d n = true := by exact rfl) (hk : TL q P fn R M n ((d, .func f us.toArray cs.toArray) :: st) ops rest k w) : TL q P fn R M n st ops (⟨some d, .makeFunc f u c, ty, ps, af, none⟩ :: rest) k w :=
  TL_val_w hd (fun w ρ h => by
    have aux : ∀ (xs : List Operand) (vs : List Value), evs st xs = some vs → xs.map ρ = vs := by
      intro xs
      induction xs with
      | nil => intro vs he; cases Option.some.inj he; rfl
      | cons x t ih =>
        intro vs he
        simp only [evs] at he
        cases h1 : ev st x with
        | none => simp [h1] at he
        | some v =>
          cases h2 : evs st t with
          | none => simp [h1, h2] at he
          | some us => simp only [h1, h2, Option.some.injEq] at he; subst he; simp [h _ _ h1, ih us h2]
    have e1 := aux _ _ hu
    have e2 := aux _ _ hc
    have e3 : u.map ρ = us.toArray := by rw [← e1, ← Array.toList_map, Array.toArray_toList]
    have e4 : c.map ρ = cs.toArray := by rw [← e2, ← Array.toList_map, Array.toArray_toList]
    simp [execOp, Instr.makeFunc, e3, e4]) hk
theorem TL_makeIface {x : Operand} {t : TypeId} {dsc : TypeDesc} (E : Env P) (hx : ev st x = some v := by exact rfl) (ht : E.und t = some dsc := by exact rfl) (hn : (match dsc with | .interface _ => false | _ => true) = true := by exact rfl) (hd : Nat.blt d n = true := by exact rfl) (hk : TL q P fn R M n ((d, .iface t v) :: st) ops rest k w) : TL q P fn R M n st ops (⟨some d, .makeInterface t x, ty, ps, af, none⟩ :: rest) k w :=
  TL_val_w hd (fun w ρ h => by
    have := E.und_ok _ _ ht
    cases dsc <;> simp_all [execOp, h _ _ hx, Instr.makeInterface, run_underlying this]) hk

/-! ### Integers -/
theorem litZ (n : Nat) : (OfNat.ofNat n : Int) = ((OfNat.ofNat n : Nat) : Int) := rfl
theorem litS (k n : Nat) : ((k : Int) + OfNat.ofNat n : Int) = ((k + OfNat.ofNat n : Nat) : Int) := rfl
def Fits : IntKind → Int → Prop
  | .i8, z => -128 ≤ z ∧ z ≤ 127
  | .i16, z => -32768 ≤ z ∧ z ≤ 32767
  | .i32, z => -2147483648 ≤ z ∧ z ≤ 2147483647
  | .i64, z => -9223372036854775808 ≤ z ∧ z ≤ 9223372036854775807
  | .u8, z => 0 ≤ z ∧ z ≤ 255
  | .u16, z => 0 ≤ z ∧ z ≤ 65535
  | .u32, z => 0 ≤ z ∧ z ≤ 4294967295
  | .u64, z => 0 ≤ z ∧ z ≤ 18446744073709551615
theorem Fits.wrap {k : IntKind} {z : Int} (h : Fits k z) : k.wrap z = z := by
  cases k <;> unfold Fits at h <;> unfold IntKind.wrap <;> dsimp only [IntKind.bits, IntKind.signed] at h ⊢ <;> (first | (simp; omega; done) | (simp only [Bool.true_and]; split <;> (rename_i g; simp at g; omega)))
theorem fits_wrap (k : IntKind) (z : Int) : Fits k (k.wrap z) := by
  cases k <;> unfold Fits <;> unfold IntKind.wrap <;> dsimp only [IntKind.bits, IntKind.signed] <;> (first | (simp; omega; done) | (simp only [Bool.true_and]; split <;> (rename_i g; simp at g; omega)))
def ubits : IntKind → Option Nat
  | .u8 => some 8 | .u16 => some 16 | .u32 => some 32 | .u64 => some 64 | _ => none
theorem wrap_nat {k : IntKind} {b : Nat} (hb : ubits k = some b) (m : Nat) : k.wrap (m : Int) = ((m % 2 ^ b : Nat) : Int) := by
  cases k <;> simp [ubits] at hb <;> subst hb <;> unfold IntKind.wrap <;> dsimp only [IntKind.bits, IntKind.signed] <;> simp
theorem bits_of_ubits {k : IntKind} {b : Nat} (hb : ubits k = some b) : k.bits = b := by
  cases k <;> simp [ubits] at hb <;> subst hb <;> rfl

variable {K : IntKind} {X Y : Operand} {t t2 : TypeId} {x y : Int} {a b : Nat}
theorem TL_add (hx : ev st X = some (.int K x) := by exact rfl) (hy : ev st Y = some (.int K y) := by exact rfl) (hf : Fits K (x + y) := by show _ ∧ _; omega) (hd : Nat.blt d n = true := by exact rfl) (hk : TL q P fn R M n ((d, .int K (x + y)) :: st) ops rest k w) : TL q P fn R M n st ops (⟨some d, .binOp .add t X Y t2, ty, ps, af, none⟩ :: rest) k w :=
  TL_val_w hd (fun w ρ h => by simp [execOp, h _ _ hx, h _ _ hy, eqGuard, binOp, Op.intArith, hf.wrap]) hk
theorem TL_sub (hx : ev st X = some (.int K x) := by exact rfl) (hy : ev st Y = some (.int K y) := by exact rfl) (hf : Fits K (x - y) := by show _ ∧ _; omega) (hd : Nat.blt d n = true := by exact rfl) (hk : TL q P fn R M n ((d, .int K (x - y)) :: st) ops rest k w) : TL q P fn R M n st ops (⟨some d, .binOp .sub t X Y t2, ty, ps, af, none⟩ :: rest) k w :=
  TL_val_w hd (fun w ρ h => by simp [execOp, h _ _ hx, h _ _ hy, eqGuard, binOp, Op.intArith, hf.wrap]) hk
theorem TL_mul (hx : ev st X = some (.int K x) := by exact rfl) (hy : ev st Y = some (.int K y) := by exact rfl) (hf : Fits K (x * y) := by show _ ∧ _; omega) (hd : Nat.blt d n = true := by exact rfl) (hk : TL q P fn R M n ((d, .int K (x * y)) :: st) ops rest k w) : TL q P fn R M n st ops (⟨some d, .binOp .mul t X Y t2, ty, ps, af, none⟩ :: rest) k w :=
  TL_val_w hd (fun w ρ h => by simp [execOp, h _ _ hx, h _ _ hy, eqGuard, binOp, Op.intArith, hf.wrap]) hk
theorem TL_add_wrap (hx : ev st X = some (.int K x) := by exact rfl) (hy : ev st Y = some (.int K y) := by exact rfl) (hd : Nat.blt d n = true := by exact rfl) (hk : TL q P fn R M n ((d, .int K (K.wrap (x + y))) :: st) ops rest k w) : TL q P fn R M n st ops (⟨some d, .binOp .add t X Y t2, ty, ps, af, none⟩ :: rest) k w :=
  TL_val_w hd (fun w ρ h => by simp [execOp, h _ _ hx, h _ _ hy, eqGuard, binOp, Op.intArith]) hk
theorem TL_sub_wrap (hx : ev st X = some (.int K x) := by exact rfl) (hy : ev st Y = some (.int K y) := by exact rfl) (hd : Nat.blt d n = true := by exact rfl) (hk : TL q P fn R M n ((d, .int K (K.wrap (x - y))) :: st) ops rest k w) : TL q P fn R M n st ops (⟨some d, .binOp .sub t X Y t2, ty, ps, af, none⟩ :: rest) k w :=
  TL_val_w hd (fun w ρ h => by simp [execOp, h _ _ hx, h _ _ hy, eqGuard, binOp, Op.intArith]) hk
theorem TL_mul_wrap (hx : ev st X = some (.int K x) := by exact rfl) (hy : ev st Y = some (.int K y) := by exact rfl) (hd : Nat.blt d n = true := by exact rfl) (hk : TL q P fn R M n ((d, .int K (K.wrap (x * y))) :: st) ops rest k w) : TL q P fn R M n st ops (⟨some d, .binOp .mul t X Y t2, ty, ps, af, none⟩ :: rest) k w :=
  TL_val_w hd (fun w ρ h => by simp [execOp, h _ _ hx, h _ _ hy, eqGuard, binOp, Op.intArith]) hk
/-- x not below 0, y above 0: Go's quotient is the plain one. -/
theorem TL_quo (hx : ev st X = some (.int K x) := by exact rfl) (hy : ev st Y = some (.int K y) := by exact rfl) (h0 : 0 ≤ x := by first | assumption | omega) (h1 : 0 < y := by first | assumption | omega) (hf : Fits K (x / y) := by show _ ∧ _; omega) (hd : Nat.blt d n = true := by exact rfl) (hk : TL q P fn R M n ((d, .int K (x / y)) :: st) ops rest k w) : TL q P fn R M n st ops (⟨some d, .binOp .quo t X Y t2, ty, ps, af, none⟩ :: rest) k w :=
  TL_val_w hd (fun w ρ h => by
    have : ¬ y = 0 := by omega
    simp [execOp, h _ _ hx, h _ _ hy, eqGuard, binOp, Op.intDiv, this, Int.tdiv_eq_ediv_of_nonneg h0, hf.wrap]) hk
theorem TL_rem (hx : ev st X = some (.int K x) := by exact rfl) (hy : ev st Y = some (.int K y) := by exact rfl) (h0 : 0 ≤ x := by first | assumption | omega) (h1 : 0 < y := by first | assumption | omega) (hd : Nat.blt d n = true := by exact rfl) (hk : TL q P fn R M n ((d, .int K (x % y)) :: st) ops rest k w) : TL q P fn R M n st ops (⟨some d, .binOp .rem t X Y t2, ty, ps, af, none⟩ :: rest) k w :=
  TL_val_w hd (fun w ρ h => by
    have : ¬ y = 0 := by omega
    simp [execOp, h _ _ hx, h _ _ hy, eqGuard, binOp, Op.intDiv, this, Int.tmod_eq_emod_of_nonneg h0]) hk

theorem bits_nat {c : Nat} (m : Nat) (hm : m < 2 ^ c) : (BitVec.ofInt c (m : Int)).toNat = m := by
  rw [BitVec.ofInt_natCast, BitVec.toNat_ofNat]; exact Nat.mod_eq_of_lt hm
theorem TL_and {c : Nat} (hx : ev st X = some (.int K x) := by exact rfl) (hy : ev st Y = some (.int K y) := by exact rfl) (hxa : x = (a : Int) := by first | with_reducible exact litZ _ | with_reducible exact rfl | with_reducible exact litS _ _ | exact rfl) (hyb : y = (b : Int) := by first | with_reducible exact litZ _ | with_reducible exact rfl | with_reducible exact litS _ _ | exact rfl) (hb : ubits K = some c := by exact rfl) (h1 : a < 2 ^ c := by first | omega | decide | assumption) (h2 : b < 2 ^ c := by first | omega | decide | assumption) (hd : Nat.blt d n = true := by exact rfl) (hk : a &&& b < 2 ^ c → TL q P fn R M n ((d, .int K ((a &&& b : Nat) : Int)) :: st) ops rest k w) : TL q P fn R M n st ops (⟨some d, .binOp .and t X Y t2, ty, ps, af, none⟩ :: rest) k w :=
  TL_val_w hd (fun w ρ h => by
    subst hxa hyb
    have hy : ev st Y = some (.int K (b : Int)) := hy
    have hx : ev st X = some (.int K (a : Int)) := hx
    have e := bits_of_ubits hb
    subst e
    simp only [execOp, h _ _ hx, h _ _ hy, eqGuard, binOp, Op.intBits, Sem.run_bind, Sem.run_pure, Result.andThen_ok, ne_eq, not_true_eq_false, if_false, Bool.not_false, if_true, BitVec.toNat_and, bits_nat a h1, bits_nat b h2, wrap_nat hb]
    rw [Nat.mod_eq_of_lt (Nat.and_lt_two_pow _ h2)]) (hk (Nat.and_lt_two_pow _ h2))
theorem TL_or {c : Nat} (hx : ev st X = some (.int K x) := by exact rfl) (hy : ev st Y = some (.int K y) := by exact rfl) (hxa : x = (a : Int) := by first | with_reducible exact litZ _ | with_reducible exact rfl | with_reducible exact litS _ _ | exact rfl) (hyb : y = (b : Int) := by first | with_reducible exact litZ _ | with_reducible exact rfl | with_reducible exact litS _ _ | exact rfl) (hb : ubits K = some c := by exact rfl) (h1 : a < 2 ^ c := by first | omega | decide | assumption) (h2 : b < 2 ^ c := by first | omega | decide | assumption) (hd : Nat.blt d n = true := by exact rfl) (hk : a ||| b < 2 ^ c → TL q P fn R M n ((d, .int K ((a ||| b : Nat) : Int)) :: st) ops rest k w) : TL q P fn R M n st ops (⟨some d, .binOp .or t X Y t2, ty, ps, af, none⟩ :: rest) k w :=
  TL_val_w hd (fun w ρ h => by
    subst hxa hyb
    have hy : ev st Y = some (.int K (b : Int)) := hy
    have hx : ev st X = some (.int K (a : Int)) := hx
    have e := bits_of_ubits hb
    subst e
    simp only [execOp, h _ _ hx, h _ _ hy, eqGuard, binOp, Op.intBits, Sem.run_bind, Sem.run_pure, Result.andThen_ok, ne_eq, not_true_eq_false, if_false, Bool.not_false, if_true, BitVec.toNat_or, bits_nat a h1, bits_nat b h2, wrap_nat hb]
    rw [Nat.mod_eq_of_lt (Nat.or_lt_two_pow h1 h2)]) (hk (Nat.or_lt_two_pow h1 h2))
theorem TL_xor {c : Nat} (hx : ev st X = some (.int K x) := by exact rfl) (hy : ev st Y = some (.int K y) := by exact rfl) (hxa : x = (a : Int) := by first | with_reducible exact litZ _ | with_reducible exact rfl | with_reducible exact litS _ _ | exact rfl) (hyb : y = (b : Int) := by first | with_reducible exact litZ _ | with_reducible exact rfl | with_reducible exact litS _ _ | exact rfl) (hb : ubits K = some c := by exact rfl) (h1 : a < 2 ^ c := by first | omega | decide | assumption) (h2 : b < 2 ^ c := by first | omega | decide | assumption) (hd : Nat.blt d n = true := by exact rfl) (hk : a ^^^ b < 2 ^ c → TL q P fn R M n ((d, .int K ((a ^^^ b : Nat) : Int)) :: st) ops rest k w) : TL q P fn R M n st ops (⟨some d, .binOp .xor t X Y t2, ty, ps, af, none⟩ :: rest) k w :=
  TL_val_w hd (fun w ρ h => by
    subst hxa hyb
    have hy : ev st Y = some (.int K (b : Int)) := hy
    have hx : ev st X = some (.int K (a : Int)) := hx
    have e := bits_of_ubits hb
    subst e
    simp only [execOp, h _ _ hx, h _ _ hy, eqGuard, binOp, Op.intBits, Sem.run_bind, Sem.run_pure, Result.andThen_ok, ne_eq, not_true_eq_false, if_false, Bool.not_false, if_true, BitVec.toNat_xor, bits_nat a h1, bits_nat b h2, wrap_nat hb]
    rw [Nat.mod_eq_of_lt (Nat.xor_lt_two_pow h1 h2)]) (hk (Nat.xor_lt_two_pow h1 h2))
theorem wrap_i64_nat (m : Nat) (h : m < 2 ^ 64) : IntKind.i64.wrap (m : Int) = if m < 2 ^ 63 then (m : Int) else (m : Int) - 2 ^ 64 := by
  unfold IntKind.wrap
  dsimp only [IntKind.bits, IntKind.signed]
  simp only [Bool.true_and]
  split <;> (rename_i g; simp at g; split <;> omega)
theorem xor64_0 {x : Int} (hf : -9223372036854775808 ≤ x ∧ x ≤ 9223372036854775807) : IntKind.i64.wrap ((BitVec.ofInt 64 x ^^^ BitVec.ofInt 64 0).toNat : Int) = x := by
  have : BitVec.ofInt 64 0 = 0#64 := by decide
  rw [this, BitVec.xor_zero, wrap_i64_nat _ (BitVec.isLt _), BitVec.toNat_ofInt]
  split <;> omega
theorem xor64_m {x : Int} (hf : -9223372036854775808 ≤ x ∧ x ≤ 9223372036854775807) : IntKind.i64.wrap ((BitVec.ofInt 64 x ^^^ BitVec.ofInt 64 (-1)).toNat : Int) = -x - 1 := by
  have : BitVec.ofInt 64 (-1) = BitVec.allOnes 64 := by decide
  rw [this, BitVec.xor_allOnes, wrap_i64_nat _ (BitVec.isLt _), BitVec.toNat_not, BitVec.toNat_ofInt]
  split <;> omega
theorem TL_xor0 (hx : ev st X = some (.int K x) := by exact rfl) (hy : ev st Y = some (.int K y) := by exact rfl) (hK : K = .i64 := by exact rfl) (h0 : y = 0 := by exact rfl) (hf : Fits .i64 x := by show _ ∧ _; omega) (hd : Nat.blt d n = true := by exact rfl) (hk : TL q P fn R M n ((d, .int K x) :: st) ops rest k w) : TL q P fn R M n st ops (⟨some d, .binOp .xor t X Y t2, ty, ps, af, none⟩ :: rest) k w :=
  TL_val_w hd (fun w ρ h => by
    subst hK h0
    have e : IntKind.i64.wrap ((BitVec.ofInt IntKind.i64.bits x ^^^ BitVec.ofInt IntKind.i64.bits 0).toNat : Int) = x := xor64_0 hf
    simp only [execOp, h _ _ hx, h _ _ hy, eqGuard, binOp, Op.intBits, Sem.run_bind, Sem.run_pure, Result.andThen_ok, ne_eq, not_true_eq_false, if_false, Bool.not_false, if_true, e]) hk
theorem TL_xorm (hx : ev st X = some (.int K x) := by exact rfl) (hy : ev st Y = some (.int K y) := by exact rfl) (hK : K = .i64 := by exact rfl) (h0 : y = -1 := by exact rfl) (hf : Fits .i64 x := by show _ ∧ _; omega) (hd : Nat.blt d n = true := by exact rfl) (hk : TL q P fn R M n ((d, .int K (-x - 1)) :: st) ops rest k w) : TL q P fn R M n st ops (⟨some d, .binOp .xor t X Y t2, ty, ps, af, none⟩ :: rest) k w :=
  TL_val_w hd (fun w ρ h => by
    subst hK h0
    have e : IntKind.i64.wrap ((BitVec.ofInt IntKind.i64.bits x ^^^ BitVec.ofInt IntKind.i64.bits (-1)).toNat : Int) = -x - 1 := xor64_m hf
    simp only [execOp, h _ _ hx, h _ _ hy, eqGuard, binOp, Op.intBits, Sem.run_bind, Sem.run_pure, Result.andThen_ok, ne_eq, not_true_eq_false, if_false, Bool.not_false, if_true, e]) hk
theorem TL_shr (hx : ev st X = some (.int K x) := by exact rfl) {L : IntKind} {c m : Nat} (hy : ev st Y = some (.int L y) := by exact rfl) (hxa : x = (a : Int) := by first | with_reducible exact litZ _ | with_reducible exact rfl | with_reducible exact litS _ _ | exact rfl) (hyb : y = (c : Int) := by first | with_reducible exact litZ _ | with_reducible exact rfl | with_reducible exact litS _ _ | exact rfl) (hb : K.bits = m := by exact rfl) (hc : Nat.ble c m = true := by exact rfl) (hd : Nat.blt d n = true := by exact rfl) (hk : TL q P fn R M n ((d, .int K ((a / 2 ^ c : Nat) : Int)) :: st) ops rest k w) : TL q P fn R M n st ops (⟨some d, .binOp .shr t X Y t2, ty, ps, af, none⟩ :: rest) k w :=
  TL_val_w hd (fun w ρ h => by
    subst hxa hyb
    have hy : ev st Y = some (.int L (c : Int)) := hy
    have hx : ev st X = some (.int K (a : Int)) := hx
    have hc' : c ≤ m := Nat.le_of_ble_eq_true hc
    have h0 : ¬ ((c : Int) < 0) := by omega
    have h1 : min ((c : Int).toNat) K.bits = c := by rw [hb]; simp; omega
    simp only [execOp, h _ _ hx, h _ _ hy, eqGuard, binOp, Op.shift, h0, if_false, h1, Sem.run_bind, Sem.run_pure, Result.andThen_ok, Bool.not_false, if_true]
    have : Int.fdiv (a : Int) (2 ^ c) = ((a / 2 ^ c : Nat) : Int) := by
      rw [Int.fdiv_eq_ediv_of_nonneg _ (by exact Int.le_of_lt (Int.pow_pos (by decide)))]; simp
    simp [this]) hk
theorem TL_shr_z {z : Int} (hx : ev st X = some (.int K x) := by exact rfl) {L : IntKind} {c m : Nat} (hy : ev st Y = some (.int L y) := by exact rfl) (hyb : y = (c : Int) := by first | with_reducible exact litZ _ | with_reducible exact rfl | with_reducible exact litS _ _ | exact rfl) (hb : K.bits = m := by exact rfl) (hc : Nat.ble c m = true := by exact rfl) (hd : Nat.blt d n = true := by exact rfl) (hz : Int.fdiv x (2 ^ c) = z := by exact rfl) (hk : TL q P fn R M n ((d, .int K z) :: st) ops rest k w) : TL q P fn R M n st ops (⟨some d, .binOp .shr t X Y t2, ty, ps, af, none⟩ :: rest) k w :=
  TL_val_w hd (fun w ρ h => by
    subst hyb hz
    have hc' : c ≤ m := Nat.le_of_ble_eq_true hc
    have h0 : ¬ ((c : Int) < 0) := by omega
    have h1 : min ((c : Int).toNat) K.bits = c := by rw [hb]; simp; omega
    simp only [execOp, h _ _ hx, h _ _ hy, eqGuard, binOp, Op.shift, h0, if_false, h1, Sem.run_bind, Sem.run_pure, Result.andThen_ok, Bool.not_false, if_true]) hk
theorem TL_shl (hx : ev st X = some (.int K x) := by exact rfl) {L : IntKind} {c m : Nat} (hy : ev st Y = some (.int L y) := by exact rfl) (hxa : x = (a : Int) := by first | with_reducible exact litZ _ | with_reducible exact rfl | with_reducible exact litS _ _ | exact rfl) (hyb : y = (c : Int) := by first | with_reducible exact litZ _ | with_reducible exact rfl | with_reducible exact litS _ _ | exact rfl) (hb : ubits K = some m := by exact rfl) (hc : c ≤ m := by first | omega | decide | assumption) (hd : Nat.blt d n = true := by exact rfl) (hk : TL q P fn R M n ((d, .int K ((a * 2 ^ c % 2 ^ m : Nat) : Int)) :: st) ops rest k w) : TL q P fn R M n st ops (⟨some d, .binOp .shl t X Y t2, ty, ps, af, none⟩ :: rest) k w :=
  TL_val_w hd (fun w ρ h => by
    subst hxa hyb
    have hy : ev st Y = some (.int L (c : Int)) := hy
    have hx : ev st X = some (.int K (a : Int)) := hx
    have e := bits_of_ubits hb
    have h0 : ¬ ((c : Int) < 0) := by omega
    have h1 : min ((c : Int).toNat) K.bits = c := by rw [e]; simp; omega
    simp only [execOp, h _ _ hx, h _ _ hy, eqGuard, binOp, Op.shift, h0, if_false, h1, Sem.run_bind, Sem.run_pure, Result.andThen_ok, Bool.not_false, if_true]
    have : ((a : Int) * 2 ^ c) = ((a * 2 ^ c : Nat) : Int) := by simp
    rw [this, wrap_nat hb]) hk
theorem TL_conv (E : Env P) {L : IntKind} {dsc : TypeDesc} (hx : ev st X = some (.int K x) := by exact rfl) (h1 : E.und t = some dsc := by exact rfl) (h2 : E.und t2 = some (.int L) := by exact rfl) (hf : Fits L x := by show _ ∧ _; omega) (hd : Nat.blt d n = true := by exact rfl) (hk : TL q P fn R M n ((d, .int L x) :: st) ops rest k w) : TL q P fn R M n st ops (⟨some d, .convert t t2 X, ty, ps, af, none⟩ :: rest) k w :=
  TL_val_w hd (fun w ρ h => by simp [execOp, h _ _ hx, convert, run_underlying (E.und_ok _ _ h1), run_underlying (E.und_ok _ _ h2), Conv.intToInt, hf.wrap]) hk
theorem TL_conv_nat (E : Env P) {L : IntKind} {dsc : TypeDesc} {m : Nat} (hx : ev st X = some (.int K x) := by exact rfl) (hxa : x = (a : Int) := by first | with_reducible exact litZ _ | with_reducible exact rfl | with_reducible exact litS _ _ | exact rfl) (h1 : E.und t = some dsc := by exact rfl) (h2 : E.und t2 = some (.int L) := by exact rfl) (hb : ubits L = some m := by exact rfl) (hd : Nat.blt d n = true := by exact rfl) (hk : TL q P fn R M n ((d, .int L ((a % 2 ^ m : Nat) : Int)) :: st) ops rest k w) : TL q P fn R M n st ops (⟨some d, .convert t t2 X, ty, ps, af, none⟩ :: rest) k w :=
  TL_val_w hd (fun w ρ h => by
    subst hxa
    have hx : ev st X = some (.int K (a : Int)) := hx
    simp only [execOp, h _ _ hx, convert, run_underlying (E.und_ok _ _ h1), run_underlying (E.und_ok _ _ h2), Conv.intToInt, wrap_nat hb, Sem.run_bind, Sem.run_pure, Result.andThen_ok]) hk
theorem TL_conv_wrap (E : Env P) {L : IntKind} {dsc : TypeDesc} (hx : ev st X = some (.int K x) := by exact rfl) (h1 : E.und t = some dsc := by exact rfl) (h2 : E.und t2 = some (.int L) := by exact rfl) (hd : Nat.blt d n = true := by exact rfl) (hk : TL q P fn R M n ((d, .int L (L.wrap x)) :: st) ops rest k w) : TL q P fn R M n st ops (⟨some d, .convert t t2 X, ty, ps, af, none⟩ :: rest) k w :=
  TL_val_w hd (fun w ρ h => by simp [execOp, h _ _ hx, convert, run_underlying (E.und_ok _ _ h1), run_underlying (E.und_ok _ _ h2), Conv.intToInt]) hk
theorem TL_compl {c : Nat} (hx : ev st X = some (.int K x) := by exact rfl) (hxa : x = (a : Int) := by first | with_reducible exact litZ _ | with_reducible exact rfl | with_reducible exact litS _ _ | exact rfl) (hb : ubits K = some c := by exact rfl) (h1 : a < 2 ^ c := by first | omega | decide | assumption) (hd : Nat.blt d n = true := by exact rfl) (hk : (2 ^ c - 1) ^^^ a < 2 ^ c → TL q P fn R M n ((d, .int K (((2 ^ c - 1) ^^^ a : Nat) : Int)) :: st) ops rest k w) : TL q P fn R M n st ops (⟨some d, .unOp .xor t X, ty, ps, af, none⟩ :: rest) k w :=
  TL_val_w hd (fun w ρ h => by
    subst hxa
    have hx : ev st X = some (.int K (a : Int)) := hx
    have e := bits_of_ubits hb
    have hs : K.signed = false := by cases K <;> simp [ubits] at hb <;> rfl
    have hp : 0 < 2 ^ c := Nat.two_pow_pos c
    have hm : K.max = ((2 ^ c - 1 : Nat) : Int) := by
      unfold IntKind.max
      rw [hs, e]
      simp only [Bool.false_eq_true, if_false]
      rw [Int.ofNat_sub hp]
      simp
    subst e
    have h2 : 2 ^ K.bits - 1 < 2 ^ K.bits := by omega
    have h3 := bits_nat (c := K.bits) _ h2
    simp only [execOp, h _ _ hx, Op.unary, Op.intBits, hs, hm, Bool.false_eq_true, if_false, Sem.run_bind, Sem.run_pure, Result.andThen_ok, BitVec.toNat_xor, bits_nat a h1, h3, wrap_nat hb]
    rw [Nat.mod_eq_of_lt (Nat.xor_lt_two_pow h2 h1)]) (hk (Nat.xor_lt_two_pow (by have := Nat.two_pow_pos c; omega) h1))
theorem TL_not {b : Bool} (hx : ev st X = some (.bool b) := by exact rfl) (hd : Nat.blt d n = true := by exact rfl) (hk : TL q P fn R M n ((d, .bool (!b)) :: st) ops rest k w) : TL q P fn R M n st ops (⟨some d, .unOp .not t X, ty, ps, af, none⟩ :: rest) k w :=
  TL_val_w hd (fun w ρ h => by simp [execOp, h _ _ hx, Op.unary]) hk
theorem TL_neg (hx : ev st X = some (.int K x) := by exact rfl) (hf : Fits K (-x) := by show _ ∧ _; omega) (hd : Nat.blt d n = true := by exact rfl) (hk : TL q P fn R M n ((d, .int K (-x)) :: st) ops rest k w) : TL q P fn R M n st ops (⟨some d, .unOp .neg t X, ty, ps, af, none⟩ :: rest) k w :=
  TL_val_w hd (fun w ρ h => by simp [execOp, h _ _ hx, Op.unary, Op.intArith, hf.wrap]) hk
theorem TL_neg_wrap (hx : ev st X = some (.int K x) := by exact rfl) (hd : Nat.blt d n = true := by exact rfl) (hk : TL q P fn R M n ((d, .int K (K.wrap (-x))) :: st) ops rest k w) : TL q P fn R M n st ops (⟨some d, .unOp .neg t X, ty, ps, af, none⟩ :: rest) k w :=
  TL_val_w hd (fun w ρ h => by simp [execOp, h _ _ hx, Op.unary, Op.intArith]) hk
theorem TL_lt_t (hx : ev st X = some (.int K x) := by exact rfl) (hy : ev st Y = some (.int K y) := by exact rfl) (h : x < y := by first | assumption | omega) (hd : Nat.blt d n = true := by exact rfl) (hk : TL q P fn R M n ((d, .bool true) :: st) ops rest k w) : TL q P fn R M n st ops (⟨some d, .binOp .lss t X Y t2, ty, ps, af, none⟩ :: rest) k w :=
  TL_val_w hd (fun w ρ hh => by simp [execOp, hh _ _ hx, hh _ _ hy, eqGuard, binOp, Op.intCmp, h]) hk
theorem TL_lt_f (hx : ev st X = some (.int K x) := by exact rfl) (hy : ev st Y = some (.int K y) := by exact rfl) (h : ¬ x < y := by first | assumption | omega) (hd : Nat.blt d n = true := by exact rfl) (hk : TL q P fn R M n ((d, .bool false) :: st) ops rest k w) : TL q P fn R M n st ops (⟨some d, .binOp .lss t X Y t2, ty, ps, af, none⟩ :: rest) k w :=
  TL_val_w hd (fun w ρ hh => by simp [execOp, hh _ _ hx, hh _ _ hy, eqGuard, binOp, Op.intCmp, h]; try omega) hk
theorem TL_lt_s (hx : ev st X = some (.int K x)) (hy : ev st Y = some (.int K y)) (hd : Nat.blt d n = true) (h1 : x < y → TL q P fn R M n ((d, .bool true) :: st) ops rest k w) (h2 : ¬ x < y → TL q P fn R M n ((d, .bool false) :: st) ops rest k w) : TL q P fn R M n st ops (⟨some d, .binOp .lss t X Y t2, ty, ps, af, none⟩ :: rest) k w := by
  by_cases h : x < y
  · exact TL_lt_t hx hy h hd (h1 h)
  · exact TL_lt_f hx hy h hd (h2 h)
theorem TL_le_t (hx : ev st X = some (.int K x) := by exact rfl) (hy : ev st Y = some (.int K y) := by exact rfl) (h : x ≤ y := by first | assumption | omega) (hd : Nat.blt d n = true := by exact rfl) (hk : TL q P fn R M n ((d, .bool true) :: st) ops rest k w) : TL q P fn R M n st ops (⟨some d, .binOp .leq t X Y t2, ty, ps, af, none⟩ :: rest) k w :=
  TL_val_w hd (fun w ρ hh => by simp [execOp, hh _ _ hx, hh _ _ hy, eqGuard, binOp, Op.intCmp, h]) hk
theorem TL_le_f (hx : ev st X = some (.int K x) := by exact rfl) (hy : ev st Y = some (.int K y) := by exact rfl) (h : ¬ x ≤ y := by first | assumption | omega) (hd : Nat.blt d n = true := by exact rfl) (hk : TL q P fn R M n ((d, .bool false) :: st) ops rest k w) : TL q P fn R M n st ops (⟨some d, .binOp .leq t X Y t2, ty, ps, af, none⟩ :: rest) k w :=
  TL_val_w hd (fun w ρ hh => by simp [execOp, hh _ _ hx, hh _ _ hy, eqGuard, binOp, Op.intCmp, h]; try omega) hk
theorem TL_le_s (hx : ev st X = some (.int K x)) (hy : ev st Y = some (.int K y)) (hd : Nat.blt d n = true) (h1 : x ≤ y → TL q P fn R M n ((d, .bool true) :: st) ops rest k w) (h2 : ¬ x ≤ y → TL q P fn R M n ((d, .bool false) :: st) ops rest k w) : TL q P fn R M n st ops (⟨some d, .binOp .leq t X Y t2, ty, ps, af, none⟩ :: rest) k w := by
  by_cases h : x ≤ y
  · exact TL_le_t hx hy h hd (h1 h)
  · exact TL_le_f hx hy h hd (h2 h)
theorem TL_gt_t (hx : ev st X = some (.int K x) := by exact rfl) (hy : ev st Y = some (.int K y) := by exact rfl) (h : y < x := by first | assumption | omega) (hd : Nat.blt d n = true := by exact rfl) (hk : TL q P fn R M n ((d, .bool true) :: st) ops rest k w) : TL q P fn R M n st ops (⟨some d, .binOp .gtr t X Y t2, ty, ps, af, none⟩ :: rest) k w :=
  TL_val_w hd (fun w ρ hh => by simp [execOp, hh _ _ hx, hh _ _ hy, eqGuard, binOp, Op.intCmp, h]) hk
theorem TL_gt_f (hx : ev st X = some (.int K x) := by exact rfl) (hy : ev st Y = some (.int K y) := by exact rfl) (h : ¬ y < x := by first | assumption | omega) (hd : Nat.blt d n = true := by exact rfl) (hk : TL q P fn R M n ((d, .bool false) :: st) ops rest k w) : TL q P fn R M n st ops (⟨some d, .binOp .gtr t X Y t2, ty, ps, af, none⟩ :: rest) k w :=
  TL_val_w hd (fun w ρ hh => by simp [execOp, hh _ _ hx, hh _ _ hy, eqGuard, binOp, Op.intCmp, h]; try omega) hk
theorem TL_gt_s (hx : ev st X = some (.int K x)) (hy : ev st Y = some (.int K y)) (hd : Nat.blt d n = true) (h1 : y < x → TL q P fn R M n ((d, .bool true) :: st) ops rest k w) (h2 : ¬ y < x → TL q P fn R M n ((d, .bool false) :: st) ops rest k w) : TL q P fn R M n st ops (⟨some d, .binOp .gtr t X Y t2, ty, ps, af, none⟩ :: rest) k w := by
  by_cases h : y < x
  · exact TL_gt_t hx hy h hd (h1 h)
  · exact TL_gt_f hx hy h hd (h2 h)
theorem TL_ge_t (hx : ev st X = some (.int K x) := by exact rfl) (hy : ev st Y = some (.int K y) := by exact rfl) (h : y ≤ x := by first | assumption | omega) (hd : Nat.blt d n = true := by exact rfl) (hk : TL q P fn R M n ((d, .bool true) :: st) ops rest k w) : TL q P fn R M n st ops (⟨some d, .binOp .geq t X Y t2, ty, ps, af, none⟩ :: rest) k w :=
  TL_val_w hd (fun w ρ hh => by simp [execOp, hh _ _ hx, hh _ _ hy, eqGuard, binOp, Op.intCmp, h]) hk
theorem TL_ge_f (hx : ev st X = some (.int K x) := by exact rfl) (hy : ev st Y = some (.int K y) := by exact rfl) (h : ¬ y ≤ x := by first | assumption | omega) (hd : Nat.blt d n = true := by exact rfl) (hk : TL q P fn R M n ((d, .bool false) :: st) ops rest k w) : TL q P fn R M n st ops (⟨some d, .binOp .geq t X Y t2, ty, ps, af, none⟩ :: rest) k w :=
  TL_val_w hd (fun w ρ hh => by simp [execOp, hh _ _ hx, hh _ _ hy, eqGuard, binOp, Op.intCmp, h]; try omega) hk
theorem TL_ge_s (hx : ev st X = some (.int K x)) (hy : ev st Y = some (.int K y)) (hd : Nat.blt d n = true) (h1 : y ≤ x → TL q P fn R M n ((d, .bool true) :: st) ops rest k w) (h2 : ¬ y ≤ x → TL q P fn R M n ((d, .bool false) :: st) ops rest k w) : TL q P fn R M n st ops (⟨some d, .binOp .geq t X Y t2, ty, ps, af, none⟩ :: rest) k w := by
  by_cases h : y ≤ x
  · exact TL_ge_t hx hy h hd (h1 h)
  · exact TL_ge_f hx hy h hd (h2 h)
theorem TL_eq_t (hx : ev st X = some (.int K x) := by exact rfl) (hy : ev st Y = some (.int K y) := by exact rfl) (h : x = y := by first | assumption | omega) (hd : Nat.blt d n = true := by exact rfl) (hk : TL q P fn R M n ((d, .bool true) :: st) ops rest k w) : TL q P fn R M n st ops (⟨some d, .binOp .eql t X Y t2, ty, ps, af, none⟩ :: rest) k w :=
  TL_val_w hd (fun w ρ hh => by simp [execOp, hh _ _ hx, hh _ _ hy, eqGuard, binOp, Op.intCmp, h]) hk
theorem TL_eq_f (hx : ev st X = some (.int K x) := by exact rfl) (hy : ev st Y = some (.int K y) := by exact rfl) (h : ¬ x = y := by first | assumption | omega) (hd : Nat.blt d n = true := by exact rfl) (hk : TL q P fn R M n ((d, .bool false) :: st) ops rest k w) : TL q P fn R M n st ops (⟨some d, .binOp .eql t X Y t2, ty, ps, af, none⟩ :: rest) k w :=
  TL_val_w hd (fun w ρ hh => by simp [execOp, hh _ _ hx, hh _ _ hy, eqGuard, binOp, Op.intCmp, h]; try omega) hk
theorem TL_eq_s (hx : ev st X = some (.int K x)) (hy : ev st Y = some (.int K y)) (hd : Nat.blt d n = true) (h1 : x = y → TL q P fn R M n ((d, .bool true) :: st) ops rest k w) (h2 : ¬ x = y → TL q P fn R M n ((d, .bool false) :: st) ops rest k w) : TL q P fn R M n st ops (⟨some d, .binOp .eql t X Y t2, ty, ps, af, none⟩ :: rest) k w := by
  by_cases h : x = y
  · exact TL_eq_t hx hy h hd (h1 h)
  · exact TL_eq_f hx hy h hd (h2 h)
theorem TL_ne_t (hx : ev st X = some (.int K x) := by exact rfl) (hy : ev st Y = some (.int K y) := by exact rfl) (h : ¬ x = y := by first | assumption | omega) (hd : Nat.blt d n = true := by exact rfl) (hk : TL q P fn R M n ((d, .bool true) :: st) ops rest k w) : TL q P fn R M n st ops (⟨some d, .binOp .neq t X Y t2, ty, ps, af, none⟩ :: rest) k w :=
  TL_val_w hd (fun w ρ hh => by simp [execOp, hh _ _ hx, hh _ _ hy, eqGuard, binOp, Op.intCmp, h]) hk
theorem TL_ne_f (hx : ev st X = some (.int K x) := by exact rfl) (hy : ev st Y = some (.int K y) := by exact rfl) (h : x = y := by first | assumption | omega) (hd : Nat.blt d n = true := by exact rfl) (hk : TL q P fn R M n ((d, .bool false) :: st) ops rest k w) : TL q P fn R M n st ops (⟨some d, .binOp .neq t X Y t2, ty, ps, af, none⟩ :: rest) k w :=
  TL_val_w hd (fun w ρ hh => by simp [execOp, hh _ _ hx, hh _ _ hy, eqGuard, binOp, Op.intCmp, h]; try omega) hk
theorem TL_ne_s (hx : ev st X = some (.int K x)) (hy : ev st Y = some (.int K y)) (hd : Nat.blt d n = true) (h1 : ¬ x = y → TL q P fn R M n ((d, .bool true) :: st) ops rest k w) (h2 : x = y → TL q P fn R M n ((d, .bool false) :: st) ops rest k w) : TL q P fn R M n st ops (⟨some d, .binOp .neq t X Y t2, ty, ps, af, none⟩ :: rest) k w := by
  by_cases h : x = y
  · exact TL_ne_f hx hy h hd (h2 h)
  · exact TL_ne_t hx hy h hd (h1 h)
end
end Go.Proofs.Eng
