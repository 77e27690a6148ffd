import Derived.Test.YtkmdmpmimojmbaaEng3
namespace Go.Proofs.Eng
open Go.RowKit
set_option linter.unusedSimpArgs false
set_option linter.unusedVariables false

/-! ## Calls -/
def RR (Φ : Value → World → Prop) : Ending → World → Prop
  | .returned v, w => Φ v w
  | _, _ => False
def Ret (P : Program) (g : FuncId) (args : List Value) (w : World) (Φ : Value → World → Prop) : Prop := Calls P g args.toArray w (RR Φ)
theorem Ret.mono {P : Program} {g : FuncId} {args : List Value} {w : World} {Φ Ψ : Value → World → Prop} (h : Ret P g args w Φ) (hi : ∀ v w', Φ v w' → Ψ v w') : Ret P g args w Ψ :=
  Calls.mono h fun e w' he => by cases e <;> first | exact hi _ _ he | exact he.elim
theorem ret_T {P : Program} {f : FuncId} {fn : Func} {c : Code} {args : List Value} {w : World} {Φ : Value → World → Prop} {n : Nat}
    (hf : P.funcs[f]? = some fn) (hb : fn.body = some c) (hn : args.length + (fn.ntmps - args.length) = n)
    (h : T P fn (RR Φ) M0 n (params 0 args) [.code c] w) : Ret P f args w Φ := calls_T hf hb hn h

theorem run_enter {P : Program} {g : Nat} {fn : Func} (hf : P.funcs[g]? = some fn) (hn : (fn.name == "runtime.NumGoroutine") = false) (hb : fn.body.isNone = false) (args : Array Value) (w : World) :
    (callFunc g args).run P w = .ok (.enter g args) w := by
  simp only [callFunc, Sem.run_bind, run_program, Result.andThen_ok, hf, hn, hb, Bool.false_eq_true, if_false, Sem.run_pure]

section
variable {q : Qm} {P : Program} {fn : Func} {R : Ending → World → Prop} {Φ : Value → World → Prop} {M : Md} {n : Nat} {st : Slots} {k : List Item} {w : World} {ops rest : List Oper}
  {d : Nat} {v : Value} {ty : TypeId} {ps : String} {af : Array Edge}

theorem map_evs {ρ : Operand → Value} (h : ∀ x u, ev st x = some u → ρ x = u) : ∀ (xs : List Operand) (vs : List Value), evs st xs = some vs → xs.map ρ = vs
  | [], vs, he => by cases Option.some.inj he; rfl
  | x :: t, vs, he => by
    simp only [evs] at he
    cases h1 : ev st x with
    | none => simp [h1] at he
    | some v =>
      cases h2 : evs st t with
      | none => simp [h1, h2] at he
      | some us => simp only [h1, h2, Option.some.injEq] at he; subst he; simp [h _ _ h1, map_evs h t us h2]
theorem run_call (E : Env P) {g : Nat} {f : Operand} {args : Array Operand} {ats : Array TypeId} {fst cap vs : List Value} {dst : Option Tmp} {gd : Option (Nat × Bool)} {ρ : Operand → Value} (h : ∀ x u, ev st x = some u → ρ x = u)
    (hf : ev st f = some (.func (.func g) fst.toArray cap.toArray)) (ha : evs st args.toList = some vs) (hE : E.fn g = true) (w : World) :
    (execOp ρ ⟨dst, .call { callee := .value f, args, argTypes := ats }, ty, ps, af, gd⟩).run P w = .ok (.enter g (fst ++ vs ++ cap).toArray) w := by
  have e1 : args.map ρ = vs.toArray := by
    have := map_evs h _ _ ha
    rw [← this, ← Array.toList_map, Array.toArray_toList]
  simp only [execOp, resolve, h _ _ hf, e1, Deferred.ofValue, Sem.run_bind, Sem.run_pure, Result.andThen_ok, invoke]
  rw [E.fn_ok g hE]
  simp
theorem TL_callc (E : Env P) {g : Nat} {f : Operand} {args : Array Operand} {ats : Array TypeId} {fst cap vs : List Value} {R' : Ending → World → Prop}
    (hf : ev st f = some (.func (.func g) fst.toArray cap.toArray)) (ha : evs st args.toList = some vs) (hE : E.fn g = true) (hd : Nat.blt d n = true) (hc : Calls P g (fst ++ vs ++ cap).toArray w R')
    (hk : ∀ v w', R' (.returned v) w' → TL .seq P fn R M n ((d, v) :: st) ops rest k w') (hp : ∀ ch w', R' (.panicked ch) w' → LV P fn R M n st (.panicking ch) w') (ho : ∀ w', R' .outgrown w' → False) :
    TL .seq P fn R M n st ops (⟨some d, .call { callee := .value f, args, argTypes := ats }, ty, ps, af, none⟩ :: rest) k w := by
  intro a ha'
  refine wpList_plain rfl (fun K hK => ?_)
  unfold Oper.wp
  rw [run_call E (fun x u hx => ha'.ev hx) hf ha hE]
  rw [Oper.upon_enter]
  refine hc.mono (fun e w' he => ?_)
  cases e with
  | returned v => exact hK _ _ (hk v w' he (a.put (some d) v) (ha'.put hd v))
  | panicked ch => exact hp ch w' he a ha'
  | outgrown => exact (ho w' he).elim
theorem TL_callc0 (E : Env P) {g : Nat} {f : Operand} {args : Array Operand} {ats : Array TypeId} {fst cap vs : List Value} {R' : Ending → World → Prop}
    (hf : ev st f = some (.func (.func g) fst.toArray cap.toArray)) (ha : evs st args.toList = some vs) (hE : E.fn g = true) (hc : Calls P g (fst ++ vs ++ cap).toArray w R')
    (hk : ∀ v w', R' (.returned v) w' → TL .seq P fn R M n st ops rest k w') (hp : ∀ ch w', R' (.panicked ch) w' → LV P fn R M n st (.panicking ch) w') (ho : ∀ w', R' .outgrown w' → False) :
    TL .seq P fn R M n st ops (⟨none, .call { callee := .value f, args, argTypes := ats }, ty, ps, af, none⟩ :: rest) k w := by
  intro a ha'
  refine wpList_plain rfl (fun K hK => ?_)
  unfold Oper.wp
  rw [run_call E (fun x u hx => ha'.ev hx) hf ha hE]
  rw [Oper.upon_enter]
  refine hc.mono (fun e w' he => ?_)
  cases e with
  | returned v => exact hK _ _ (hk v w' he a ha')
  | panicked ch => exact hp ch w' he a ha'
  | outgrown => exact (ho w' he).elim
/-- A call of a named function that returns. -/
theorem TL_call (E : Env P) {g : Nat} {args : Array Operand} {ats : Array TypeId} {vs : List Value} {Ψ : Value → World → Prop}
    (ha : evs st args.toList = some vs := by exact rfl) (hE : E.fn g = true := by exact rfl) (hd : Nat.blt d n = true := by exact rfl) (hc : Ret P g vs w Ψ)
    (hf : Fl q (rest.length + 1) := by first | exact trivial | exact rfl) (hq : ∀ v w', Ψ v w' → Kp q w' := by exact fun _ _ _ => trivial)
    (hk : ∀ v w', Ψ v w' → TL q P fn R M n ((d, v) :: st) ops rest k w') :
    TL q P fn R M n st ops (⟨some d, .call { callee := .value (.func g), args, argTypes := ats }, ty, ps, af, none⟩ :: rest) k w := by
  cases q with
  | seq => exact TL_callc E (fst := []) (cap := []) rfl ha hE hd (R' := RR Ψ) (by have := hc; unfold Ret at this; simpa using this) hk (fun _ _ h => h.elim) (fun _ h => h)
  | quiet => exact hf.elim
  | held w0 D plan =>
    refine held_call (g := g) (args := vs.toArray) (Ψ := Ψ) rfl (fun a ha' => by have := run_call E (f := .func g) (fst := []) (cap := []) (dst := some d) (ty := ty) (ps := ps) (af := af) (gd := none) (ats := ats) (fun x u hx => ha'.ev hx) rfl ha hE w; simpa using this) ?_ hf hq
      (fun v w' hv done todo b hp hl hn hD a ha' hag => hk v w' hv done todo b hp hl hn hD _ (ha'.put hd v) hag)
    unfold Ret at hc
    exact hc.mono fun e w' he => by cases e <;> exact he
theorem TL_call0 (E : Env P) {g : Nat} {args : Array Operand} {ats : Array TypeId} {vs : List Value} {Ψ : Value → World → Prop}
    (ha : evs st args.toList = some vs := by exact rfl) (hE : E.fn g = true := by exact rfl) (hc : Ret P g vs w Ψ)
    (hf : Fl q (rest.length + 1) := by first | exact trivial | exact rfl) (hq : ∀ v w', Ψ v w' → Kp q w' := by exact fun _ _ _ => trivial)
    (hk : ∀ v w', Ψ v w' → TL q P fn R M n st ops rest k w') :
    TL q P fn R M n st ops (⟨none, .call { callee := .value (.func g), args, argTypes := ats }, ty, ps, af, none⟩ :: rest) k w := by
  cases q with
  | seq => exact TL_callc0 E (fst := []) (cap := []) rfl ha hE (R' := RR Ψ) (by have := hc; unfold Ret at this; simpa using this) hk (fun _ _ h => h.elim) (fun _ h => h)
  | quiet => exact hf.elim
  | held w0 D plan =>
    refine held_call (g := g) (args := vs.toArray) (Ψ := Ψ) rfl (fun a ha' => by have := run_call E (f := .func g) (fst := []) (cap := []) (dst := none) (ty := ty) (ps := ps) (af := af) (gd := none) (ats := ats) (fun x u hx => ha'.ev hx) rfl ha hE w; simpa using this) ?_ hf hq
      (fun v w' hv done todo b hp hl hn hD a ha' hag => hk v w' hv done todo b hp hl hn hD _ ha' hag)
    unfold Ret at hc
    exact hc.mono fun e w' he => by cases e <;> exact he
/-- In a region that draws: one value whatever has been made beside. -/
theorem TL_call_q (E : Env P) {g : Nat} {args : Array Operand} {ats : Array TypeId} {vs : List Value}
    (ha : evs st args.toList = some vs := by exact rfl) (hE : E.fn g = true := by exact rfl) (hd : Nat.blt d n = true := by exact rfl) (hc : ∀ w', Ext w w' → Ret P g vs w' (fun u w'' => u = v ∧ Ext w' w''))
    (hk : TL .quiet P fn R M n ((d, v) :: st) ops rest k w) :
    TL .quiet P fn R M n st ops (⟨some d, .call { callee := .value (.func g), args, argTypes := ats }, ty, ps, af, none⟩ :: rest) k w := by
  intro a ha'
  have hk' := hk (a.put (some d) v) (ha'.put hd v)
  refine wpQuiet_step (fun K hK => ?_)
  rw [if_pos (by simp [Region.wanted])]
  refine ⟨v, fun w' hw' => ?_, hK _ hk'⟩
  unfold Oper.quietAt
  rw [run_call E (fst := []) (cap := []) (fun x u hx => ha'.ev hx) rfl ha hE]
  refine ⟨rfl, ?_⟩
  have := hc w' hw'
  unfold Ret at this
  refine Calls.mono (by simpa using this) (fun e w'' he => ?_)
  cases e with
  | returned u => obtain ⟨rfl, h2⟩ := he; exact ⟨rfl, hw'.ext h2⟩
  | panicked ch => exact he.elim
  | outgrown => exact he.elim
theorem TL_panic {X : Operand} {t : TypeId} {u : Value} {dst : Option Tmp} (hx : ev st X = some (.iface t u)) (hR : LV P fn R M n st (.panicking [{ v := .iface t u, recovered := false }]) w) :
    TL .seq P fn R M n st ops (⟨dst, .panic X, ty, ps, af, none⟩ :: rest) k w := by
  intro a ha
  refine wpList_plain rfl (fun K hK => ?_)
  unfold Oper.wp
  simp only [execOp, ha.ev hx, Instr.panic, Sem.run_bind, run_goPanic, Result.andThen_halt, Oper.upon_panic]
  exact hR a ha

variable {dd : Bool}
theorem T_ret0 (hr : fn.results = #[]) (hR : Φ (.tuple #[]) w) : T P fn (RR Φ) ⟨dd, []⟩ n st (.code .ret :: k) w := T_ret rfl (res0 hr) hR
theorem T_end0 (hr : fn.results = #[]) (hR : Φ (.tuple #[]) w) : T P fn (RR Φ) ⟨dd, []⟩ n st [] w := T_end rfl (res0 hr) hR
theorem T_ret1 {t : Tmp} (hr : fn.results = #[.tmp t]) (hv : look st t = some v) (hR : Φ v w) : T P fn (RR Φ) ⟨dd, []⟩ n st (.code .ret :: k) w := T_ret rfl (res1 hr hv) hR
theorem T_ret2 {t u : Tmp} {x : Value} (hr : fn.results = #[.tmp t, .tmp u]) (hv : look st t = some v) (hx : look st u = some x) (hR : Φ (.tuple #[v, x]) w) : T P fn (RR Φ) ⟨dd, []⟩ n st (.code .ret :: k) w := T_ret rfl (res2 hr hv hx) hR
theorem T_ret3 {t u s : Tmp} {x y : Value} (hr : fn.results = #[.tmp t, .tmp u, .tmp s]) (hv : look st t = some v) (hx : look st u = some x) (hy : look st s = some y) (hR : Φ (.tuple #[v, x, y]) w) : T P fn (RR Φ) ⟨dd, []⟩ n st (.code .ret :: k) w := T_ret rfl (res3 hr hv hx hy) hR
/-! The same for any R: a function that may panic. -/
theorem T_ret1' {t : Tmp} (hr : fn.results = #[.tmp t]) (hv : look st t = some v) (hR : R (.returned v) w) : T P fn R ⟨dd, []⟩ n st (.code .ret :: k) w := T_ret rfl (res1 hr hv) hR
theorem T_ret0' (hr : fn.results = #[]) (hR : R (.returned (.tuple #[])) w) : T P fn R ⟨dd, []⟩ n st (.code .ret :: k) w := T_ret rfl (res0 hr) hR
theorem T_end0' (hr : fn.results = #[]) (hR : R (.returned (.tuple #[])) w) : T P fn R ⟨dd, []⟩ n st [] w := T_end rfl (res0 hr) hR
theorem LV_panic {ch : List PanicEntry} (hR : R (.panicked ch) w) : LV P fn R ⟨dd, []⟩ n st (.panicking ch) w := LV_nil rfl hR
/-- A result in memory. -/
theorem res1c (E : Env P) {t : TypeId} {dsc : TypeDesc} {x : Tmp} {b o : Nat} {bt : TypeId} {cs : List Value} (hr : fn.results = #[.cell x t]) (hx : look st x = some (.pointer (some ⟨b, o, none⟩))) (ht : E.und t = some dsc) (hn : nonAgg dsc = true) (hb : Blk w b bt cs) (hv : cs[o]? = some v) :
    ∀ a, OK M n st a → (results fn a.tmps).run P w = .ok v w := fun a ha => by
  have e1 := ha.get _ _ hx
  have hc : w.cell? ⟨b, o, none⟩ = some v := by rw [hb.cell, hv]
  simp only [Array.getD_eq_getD_getElem?] at e1
  simp [results, hr, e1, asAddr, loadVar, run_isAgg_no (E.und_ok _ _ ht) hn, hc]
theorem T_ret1c (E : Env P) {t : TypeId} {dsc : TypeDesc} {x : Tmp} {b o : Nat} {bt : TypeId} {cs : List Value} (hr : fn.results = #[.cell x t]) (hx : look st x = some (.pointer (some ⟨b, o, none⟩))) (ht : E.und t = some dsc) (hn : nonAgg dsc = true) (hb : Blk w b bt cs) (hv : cs[o]? = some v)
    (hR : Φ v w) : T P fn (RR Φ) ⟨dd, []⟩ n st (.code .ret :: k) w := T_ret rfl (res1c E hr hx ht hn hb hv) hR
/-! ### defer -/
theorem TL_defer {f : Operand} {fv : Fn} {args : Array Operand} {ats : Array TypeId} {fst cap vs : List Value} {dst : Option Tmp} (hf : ev st f = some (.func fv fst.toArray cap.toArray)) (ha : evs st args.toList = some vs) (hd : dst = none)
    (hk : TL .seq P fn R ⟨M.dfd, ⟨.fn fv cap.toArray, (fst ++ vs).toArray⟩ :: M.ds⟩ n st ops rest k w) :
    TL .seq P fn R M n st ops (⟨dst, .defer { callee := .value f, args, argTypes := ats }, ty, ps, af, none⟩ :: rest) k w := by
  subst hd
  intro a ha'
  refine wpList_plain rfl (fun K hK => ?_)
  unfold Oper.wp
  have e1 : args.map a.eval = vs.toArray := by
    have := map_evs (fun x u hx => ha'.ev hx) _ _ ha
    rw [← this, ← Array.toList_map, Array.toArray_toList]
  have hr : (execOp a.eval ⟨none, .defer { callee := .value f, args, argTypes := ats }, ty, ps, af, none⟩).run P w = .ok (.defer ⟨.fn fv cap.toArray, (fst ++ vs).toArray⟩) w := by
    simp only [execOp, resolve, ha'.ev hf, e1, Deferred.ofValue, Sem.run_bind, Sem.run_pure, Result.andThen_ok, List.append_toArray]
  rw [hr, Oper.upon_defer]
  exact hK _ _ (hk _ ⟨ha'.size, by simp [Act.put, ha'.defers], fun i v hv => ha'.get i v hv⟩)
theorem LV_defer (E : Env P) {g : Nat} {cap args : List Value} {ds : List Deferred} {u : FrameMode} {R' : Ending → FrameMode → World → Prop} (hE : E.fn g = true) (hu : u ≠ .run) (hc : CallsD P g (args ++ cap).toArray u w R')
    (hk : ∀ v u' w', R' (.returned v) u' w' → LV P fn R ⟨false, ds⟩ n st (settle u') w') (hp : ∀ ch u' w', R' (.panicked ch) u' w' → LV P fn R ⟨false, ds⟩ n st (raised u' ch) w') (ho : ∀ u' w', R' .outgrown u' w' → False) :
    LV P fn R ⟨false, ⟨.fn (.func g) cap.toArray, args.toArray⟩ :: ds⟩ n st u w := by
  intro a ha
  have hd := ha.defers
  simp only at hd
  refine ⟨?_, fun h => by cases h⟩
  rw [hd]
  refine ⟨hu, .func g, cap.toArray, g, (args ++ cap).toArray, rfl, ?_, ?_⟩
  · simp only [invoke]
    rw [E.fn_ok g hE]
    simp
  · intro c0 cs hc0
    obtain ⟨e, u', w', fr, hR, h1, h2⟩ := hc c0 cs hc0
    refine ⟨e, u', w', fr, ?_, h1, h2⟩
    have hOK : OK ⟨false, ds⟩ n st { a with defers := ds } := ⟨ha.size, rfl, fun i v hv => ha.get i v hv⟩
    cases e with
    | returned v => exact (hk v u' w' hR _ hOK).1
    | panicked ch => exact (hp ch u' w' hR _ hOK).1
    | outgrown => exact (ho u' w' hR).elim

/-! ## A slice literal -/
def evd (st : Slots) : Nat → List (Nat × Operand) → Option (List Value)
  | _, [] => some []
  | j, p :: t => bif Nat.beq p.1 j then (match ev st p.2 with
    | some v => match evd st (j + 1) t with
      | some vs => some (v :: vs)
      | none => none
    | none => none) else none
theorem fill_dense {ρ : Operand → Value} (h : ∀ x u, ev st x = some u → ρ x = u) : ∀ (ps : List (Nat × Operand)) (vs : List Value) (j : Nat) (cells : Array Value), evd st j ps = some vs → (vs.all fun v => v.oneCell') = true → j + vs.length ≤ cells.size →
    Instr.fill (fun i => some (i * 1, 1)) cells (ps.map fun p => (p.1, ρ p.2)) = some (cells.toList.take j ++ vs ++ cells.toList.drop (j + vs.length)).toArray
  | [], vs, j, cells, he, h1, hl => by
    cases Option.some.inj he
    simp [Instr.fill]
  | p :: t, vs, j, cells, he, h1, hl => by
    simp only [evd] at he
    by_cases hp : p.1 = j
    · subst hp
      simp only [Nat.beq_refl, cond_true] at he
      cases h2 : ev st p.2 with
      | none => simp [h2] at he
      | some v =>
        cases h3 : evd st (p.1 + 1) t with
        | none => simp [h2, h3] at he
        | some us =>
          simp only [h2, h3, Option.some.injEq] at he
          subst he
          simp only [List.all_cons, Bool.and_eq_true] at h1
          simp only [List.length_cons] at hl
          have hz : v.cells = #[v] := by cases v <;> simp_all [Value.cells, Value.oneCell']
          have ih := fill_dense h t us (p.1 + 1) (cells.setIfInBounds p.1 v) h3 h1.2 (by simp; omega)
          have hlt : p.1 < cells.toList.length := by simp; omega
          simp only [List.map_cons, Instr.fill, h _ _ h2, hz, Nat.mul_one]
          rw [if_neg (by simp; omega)]
          show Instr.fill (fun i => some (i, 1)) (cells.setIfInBounds p.1 v) _ = _
          rw [show (fun i : Nat => some (i, 1)) = (fun i => some (i * 1, 1)) from by funext i; simp]
          rw [ih]
          congr 1
          simp only [Array.toList_setIfInBounds]
          rw [List.take_succ_eq_append_getElem (by simpa using hlt), List.drop_set_of_lt (by omega)]
          simp [List.take_set_of_le, Nat.add_assoc, Nat.add_comm 1]
    · simp only [beq_ne hp, cond_false] at he
      cases he
theorem TL_buildSlice {t e : TypeId} {by_ len : Nat} {z : Value} {parts : Array (Nat × Operand)} {vs : List Value} (E : Env P) (ht : E.und t = some (.slice e) := by exact rfl) (he : E.inf e = some (1, by_, z) := by exact rfl) (hz : z.cells.size = 1 := by exact rfl) (hv : evd st 0 parts.toList = some vs := by exact rfl) (h1 : (vs.all fun v => v.oneCell') = true := by exact rfl)
    (hl : vs.length = len := by exact rfl) (hm : Nat.ble len 16777216 = true := by exact rfl) (hd : Nat.blt d n = true := by exact rfl)
    (hf : Fl q (rest.length + 1) := by first | exact trivial | exact rfl) (hq : ∀ w', Ext w w' → Kp q w' := by exact fun _ _ => trivial)
    (hk : ∀ b w', Ext w w' → w.heap.size ≤ b → b < w'.heap.size → Blk w' b e vs → TL q P fn R M n ((d, .slice (some ⟨b, 0, none⟩) len len) :: st) ops rest k w') :
    TL q P fn R M n st ops (⟨some d, .buildSlice t len parts, ty, ps, af, none⟩ :: rest) k w :=
  TL_new (w' := w.alloc (.cells vs.toArray e)) hd (fun ρ h => by
    have hm' : ¬ len > 2 ^ 24 := by have := Nat.le_of_ble_eq_true hm; omega
    have hp : (parts.map fun p => (p.1, ρ p.2)).toList = parts.toList.map fun p => (p.1, ρ p.2) := by simp
    have hfill : ∀ zs : Array Value, Instr.fill (fun i => some (i * 1, 1)) ((Array.range len).map (zs[· % zs.size]!)) (parts.toList.map fun p => (p.1, ρ p.2)) = some vs.toArray := by
      intro zs
      rw [fill_dense h parts.toList vs 0 _ hv h1 (by simp; omega)]
      simp [hl]
    simp only [execOp, Instr.buildSlice, Sem.run_bind, run_underlying (E.und_ok _ _ ht), Result.andThen_ok, run_sizeOf' (E.inf_ok _ _ _ _ he), Nat.mul_one, hm', if_false]
    by_cases h0 : len = 0
    · simp only [h0, if_true, Sem.run_pure, Result.andThen_ok, Sem.run_ite]
      have := hfill #[]
      rw [h0] at this
      simp only [Nat.mul_one] at this
      simp only [hp, this, newRow, Sem.run_bind, run_newObj, Sem.run_pure, Result.andThen_ok]
      rfl
    · simp only [h0, if_false, Sem.run_bind, run_zero' (E.inf_ok _ _ _ _ he), Sem.run_pure, Result.andThen_ok, Sem.run_ite]
      have := hfill z.cells
      simp only [Nat.mul_one] at this
      simp only [hp, this, newRow, Sem.run_bind, run_newObj, Sem.run_pure, Result.andThen_ok]
      rfl) hf (hq _ (Ext.alloc _ _))
    (hk w.heap.size _ (Ext.alloc _ _) (Nat.le_refl _) (by simp) (by simpa using Blk.new w e vs.toArray))

/-! ## Structs by value -/
def setAll : List Value → Nat → List Value → List Value
  | cs, _, [] => cs
  | cs, o, v :: vs => setAll (cs.set o v) (o + 1) vs
def bldF (inf : Nat → Option (Nat × Nat × Value)) (st : Slots) (fl : List (Nat × TypeId)) : List (Nat × Operand) → List Value → Option (List Value)
  | [], cs => some cs
  | p :: r, cs => match fl[p.1]? with
    | some (off, ft) => match inf ft with
      | some (s, _, _) => match ev st p.2 with
        | some v => bif Nat.beq v.cells.size s && Nat.ble (off + s) cs.length then bldF inf st fl r (setAll cs off v.cells.toList) else none
        | none => none
      | none => none
    | none => none
theorem setAll_length : ∀ (vs cs : List Value) (o : Nat), (setAll cs o vs).length = cs.length
  | [], _, _ => rfl
  | v :: vs, cs, o => by simp [setAll, setAll_length vs]
theorem foldl_setAll : ∀ (vs cs : List Value) (o j : Nat), (vs.zipIdx j).foldl (fun (cs : Array Value) x => cs.setIfInBounds (o + x.2) x.1) cs.toArray = (setAll cs (o + j) vs).toArray
  | [], cs, o, j => by simp [setAll]
  | v :: vs, cs, o, j => by
    simp only [List.zipIdx_cons, List.foldl_cons, setAll, List.setIfInBounds_toArray]
    rw [foldl_setAll vs (cs.set (o + j) v) o (j + 1)]
    rfl
theorem fill_bld {P : Program} {E : Env P} {fl : List (Nat × TypeId)} {ρ : Operand → Value} (h : ∀ x u, ev st x = some u → ρ x = u) {places : Nat → Option (Nat × Nat)}
    (hp : ∀ (i off : Nat) (ft : TypeId) (s b : Nat) (z : Value), fl[i]? = some (off, ft) → E.inf ft = some (s, b, z) → places i = some (off, s)) : ∀ (ps : List (Nat × Operand)) (cs cs' : List Value), bldF E.inf st fl ps cs = some cs' →
    Instr.fill places cs.toArray (ps.map fun p => (p.1, ρ p.2)) = some cs'.toArray
  | [], cs, cs', he => by cases Option.some.inj he; rfl
  | p :: r, cs, cs', he => by
    simp only [bldF] at he
    cases h1 : fl[p.1]? with
    | none => simp [h1] at he
    | some x =>
      obtain ⟨off, ft⟩ := x
      cases h2 : E.inf ft with
      | none => simp [h1, h2] at he
      | some y =>
        obtain ⟨s, b, z⟩ := y
        cases h3 : ev st p.2 with
        | none => simp [h1, h2, h3] at he
        | some v =>
          simp only [h1, h2, h3] at he
          by_cases hc : (Nat.beq v.cells.size s && Nat.ble (off + s) cs.length) = true
          · rw [hc] at he
            simp only [cond_true] at he
            simp only [Bool.and_eq_true] at hc
            have e1 := Nat.eq_of_beq_eq_true hc.1
            have e2 := Nat.le_of_ble_eq_true hc.2
            simp only [List.map_cons, Instr.fill, hp _ _ _ _ _ _ h1 h2, h _ _ h3]
            rw [if_neg (by simp [e1]; omega)]
            have e3 := foldl_setAll v.cells.toList cs off 0
            have e4 : v.cells.zipIdx.foldl (fun (cs : Array Value) x => cs.setIfInBounds (off + x.2) x.1) cs.toArray = (setAll cs off v.cells.toList).toArray := by
              rw [← Array.foldl_toList, Array.toList_zipIdx]
              exact e3
            have e5 : (v.cells.zipIdx.foldl (fun cs (x : Value × Nat) => match x with | (c, j) => cs.setIfInBounds (off + j) c) cs.toArray) = (setAll cs off v.cells.toList).toArray := e4
            rw [e5]
            exact fill_bld h hp r _ cs' he
          · simp only [Bool.not_eq_true] at hc
            rw [hc] at he
            cases he
theorem run_places {E : Env P} : ∀ (fs : List Field), (fs.all fun f => (E.inf f.type).isSome) = true → ∀ w, (fs.mapM (m := Sem) fun f => do pure (f.offset, ← sizeOf f.type)).run P w = .ok (fs.map fun f => (f.offset, P.cellsOf f.type)) w
  | [], _, w => by simp
  | f :: fs, h, w => by
    simp only [List.all_cons, Bool.and_eq_true] at h
    obtain ⟨x, hx⟩ := Option.isSome_iff_exists.1 h.1
    obtain ⟨s, b, z⟩ := x
    obtain ⟨i, i1, i2, _⟩ := E.inf_ok _ _ _ _ hx
    have ih := run_places (E := E) fs h.2 w
    have hs : (sizeOf f.type).run P w = .ok (P.cellsOf f.type) w := by simp [sizeOf, typeInfo, i1, Program.cellsOf]
    simp only [List.mapM_cons, Sem.run_bind, hs, Result.andThen_ok, Sem.run_pure, ih, List.map_cons]
theorem TL_build {t : TypeId} {s by_ : Nat} {z : Value} {fl : List (Nat × TypeId)} {parts : Array (Nat × Operand)} {cs : List Value} (E : Env P) (ht : E.fld t = some fl := by exact rfl) (he : E.inf t = some (s, by_, z) := by exact rfl) (hall : (fl.all fun p => (E.inf p.2).isSome) = true := by exact rfl)
    (hb : bldF E.inf st fl parts.toList z.cells.toList = some cs := by exact rfl) (hd : Nat.blt d n = true := by exact rfl)
    (hk : TL q P fn R M n ((d, .agg cs.toArray) :: st) ops rest k w) : TL q P fn R M n st ops (⟨some d, .build t parts, ty, ps, af, none⟩ :: rest) k w :=
  TL_val_w hd (fun w ρ h => by
    obtain ⟨fs, hu, hfl⟩ := E.fld_ok _ _ ht
    have hp : (parts.map fun p => (p.1, ρ p.2)).toList = parts.toList.map fun p => (p.1, ρ p.2) := by simp
    have hpl : (fs.mapM (m := Sem) fun f => do pure (f.offset, ← sizeOf f.type)).run P w = .ok (fs.toList.map fun f => (f.offset, P.cellsOf f.type)).toArray w := by
      rw [Array.mapM_eq_mapM_toList]
      have := run_places (E := E) fs.toList (by rw [← hfl] at hall; simpa using hall) w
      simp only [Sem.run_map, this, Result.andThen_ok]
    have hplace : ∀ (i off : Nat) (ft : TypeId) (s b : Nat) (z : Value), fl[i]? = some (off, ft) → E.inf ft = some (s, b, z) → (fs.toList.map fun f => (f.offset, P.cellsOf f.type)).toArray[i]? = some (off, s) := by
      intro i off ft s b z h1 h2
      rw [← hfl] at h1
      simp only [List.getElem?_map, Option.map_eq_some_iff] at h1
      obtain ⟨f, h3, h4⟩ := h1
      cases h4
      obtain ⟨ii, i1, i2, _⟩ := E.inf_ok _ _ _ _ h2
      simp only [List.getElem?_toArray, List.getElem?_map, h3, Option.map_some, Program.cellsOf, i1, i2, Option.getD_some]
    have hf := fill_bld (E := E) h hplace parts.toList z.cells.toList cs hb
    rw [Array.toArray_toList] at hf
    simp only [execOp, Instr.build, Sem.run_bind, run_zero' (E.inf_ok _ _ _ _ he), run_underlying hu, Result.andThen_ok, hpl, hp, hf, Sem.run_pure]) hk
theorem TL_assert_t {t a : TypeId} {X : Operand} {u : Value} {fl : List (Nat × TypeId)} (E : Env P) (hx : ev st X = some (.iface a u) := by exact rfl) (ht : E.fld a = some fl := by exact rfl) (hd : Nat.blt d n = true := by exact rfl)
    (hk : TL q P fn R M n ((d, .tuple [u, .bool true].toArray) :: st) ops rest k w) : TL q P fn R M n st ops (⟨some d, .typeAssert X t a true, ty, ps, af, none⟩ :: rest) k w :=
  TL_val_w hd (fun w ρ h => by
    obtain ⟨fs, hu, _⟩ := E.fld_ok _ _ ht
    simp [execOp, h _ _ hx, Instr.typeAssert, run_underlying hu]) hk
theorem TL_ine_t {t t2 a : TypeId} {X Y : Operand} {u : Value} (E : Env P) (hx : ev st X = some (.iface a u) := by exact rfl) (hy : ev st Y = some .nilIface := by exact rfl) (ht : E.ifc t = true := by exact rfl) (hd : Nat.blt d n = true := by exact rfl)
    (hk : TL q P fn R M n ((d, .bool true) :: st) ops rest k w) : TL q P fn R M n st ops (⟨some d, .binOp .neq t X Y t2, ty, ps, af, none⟩ :: rest) k w :=
  TL_val_w hd (fun w ρ h => by
    obtain ⟨ms, hu⟩ := E.ifc_ok _ ht
    have e0 : ∀ dp : Nat, (Op.equalIn (dp + 1) t (.iface a u) .nilIface).run P w = .ok false w := fun dp => by
      simp [Op.equalIn, run_underlying hu]
    have e1 : (Op.equal t (.iface a u) .nilIface).run P w = .ok false w := e0 9999
    show (do let v ← (do eqGuard .neq t X Y (ρ X) (ρ Y); binOp .neq t (ρ X) (ρ Y)); pure (Next.value v) : Sem Next).run P w = _
    rw [h _ _ hx, h _ _ hy]
    simp [eqGuard, binOp, e1]) hk
theorem TL_ine_f {t t2 : TypeId} {X : Operand} (E : Env P) (hx : ev st X = some .nilIface := by exact rfl) (ht : E.ifc t = true := by exact rfl) (hd : Nat.blt d n = true := by exact rfl)
    (hk : TL q P fn R M n ((d, .bool false) :: st) ops rest k w) : TL q P fn R M n st ops (⟨some d, .binOp .neq t X (.const .nilIface) t2, ty, ps, af, none⟩ :: rest) k w :=
  TL_val_w hd (fun w ρ h => by
    obtain ⟨ms, hu⟩ := E.ifc_ok _ ht
    have e0 : ∀ dp : Nat, (Op.equalIn (dp + 1) t .nilIface .nilIface).run P w = .ok true w := fun dp => by
      simp [Op.equalIn, run_underlying hu]
    have e1 : (Op.equal t .nilIface .nilIface).run P w = .ok true w := e0 9999
    have hy : ρ (.const .nilIface) = .nilIface := h _ _ rfl
    show (do let v ← (do eqGuard .neq t X (.const .nilIface) (ρ X) (ρ (.const .nilIface)); binOp .neq t (ρ X) (ρ (.const .nilIface))); pure (Next.value v) : Sem Next).run P w = _
    rw [h _ _ hx, hy]
    simp [eqGuard, binOp, e1]) hk

/-! ## append -/
def Near (A A' : Option Addr) (w : World) : Prop := ∀ ad, A' = some ad → A = some ad ∨ w.heap.size ≤ ad.block
theorem Near.lo {A A' : Option Addr} {w w' : World} {B : Nat} (h : Near A A' w) (hA : Hi A B) (hB : B ≤ w.heap.size) : Hi A' B := fun ad e => (h ad e).elim (fun h => hA ad h) (fun h => by omega)
theorem Near.ne {A A' : Option Addr} {w : World} {b : Nat} (h : Near A A' w) (hA : Off A [b]) (hb : b < w.heap.size) : Off A' [b] := fun ad e => (h ad e).elim (fun h => hA ad h) (fun h hm => by simp at hm; omega)
variable {E : Env P} {X Y : Operand} {t t2 e : TypeId} {s by_ base : Nat} {z : Value} {A A2 : Option Addr} {m c m2 c2 : Nat} {xs ys : List Value}
theorem own_form {w' : World} {v' : Value} {nn : Nat} (h : w'.ownsRow base e s v' nn xs) : ∃ A' c', v' = .slice A' nn c' ∧ Own w' base e s A' nn c' xs := by
  rcases h.2 with ⟨rfl, h0⟩ | ⟨g, cap, cur, rfl, _⟩
  · subst h0; exact ⟨none, 0, rfl, h⟩
  · exact ⟨_, _, rfl, h⟩
theorem ownBlock_of {A : Option Addr} (h : Own w base e s A m c xs) : (Value.slice A m c).ownBlock.toList = blkL A := by
  rcases h.2 with ⟨hv, _⟩ | ⟨g, cap, cur, hv, _⟩ <;> cases hv <;> rfl
theorem run_append_any (ht : P.underlying t = some (.slice e)) (hi : ∃ i, P.info? e = some i ∧ i.size = s ∧ i.bytes = by_ ∧ i.zero = some z) (hzs : z.cells.size = s) (hsz : 0 < s)
    (ho : Own w base e s A m c xs) (hr : Rd w A2 m2 s ys) (h1 : ∀ u ∈ ys, u.oneCell' = true) (hb1 : m + m2 ≤ maxLen) (hb2 : (m + m2) * by_ ≤ 140737488355328) (hb : base ≤ w.heap.size) (tt : TypeId) :
    ∃ A' c' w', (Builtin.append_ #[t, t] tt #[.slice A m c, .slice A2 m2 c2]).run P w = .ok (.slice A' (m + m2) c') w' ∧ Own w' base e s A' (m + m2) c' (xs ++ ys) ∧ Mod (blkL A) w w' ∧ Near A A' w := by
  obtain ⟨i, i1, i2, i3, i4⟩ := hi
  cases A2 with
  | none =>
    have hm : m2 = 0 := by
      rcases Nat.eq_zero_or_pos m2 with h0 | h0
      · exact h0
      · obtain ⟨b, off, hc, _⟩ := hr.2 h0; cases hc
    subst hm
    have hy : ys = [] := List.eq_nil_of_length_eq_zero (by simpa using hr.1)
    subst hy
    refine ⟨A, c, w, ?_, by simpa using ho, Mod.refl _ _, fun ad e => .inl e⟩
    have hc := ho.cap
    simp [Builtin.append_, run_underlying ht, sizeOf, typeInfo, i1, Builtin.lenOf, Builtin.firstCells, hc.1]
    cases A <;> simp [storeCells]
  | some a2 =>
    have hcell : ∀ j u, ys[j]? = some u → w.cell? (a2.add j) = some u := fun j u hu => by
      have h9 := hr.cell hu
      have hlt : j < ys.length := by
        rcases Nat.lt_or_ge j ys.length with hl | hl
        · exact hl
        · rw [List.getElem?_eq_none hl] at hu; cases hu
      have hn : 0 < m2 := by
        rcases Nat.eq_zero_or_pos m2 with h0 | h0
        · subst h0; rw [hr.1] at hlt; simp at hlt
        · exact h0
      obtain ⟨b, off, hab, _, _⟩ := hr.2 hn
      cases hab
      rw [← h9]
      congr 1
      unfold Addr.add adr
      split <;> simp_all
    obtain ⟨v', w', hrun, hown, hg, _, hnear⟩ := run_append_own_at (P := P) w base t tt e i z s by_ ht i1 i4 i2 i3 hzs hsz (.slice A m c) m xs ho a2 m2 c2 ys hr.1 hcell h1 hb1 hb2 hb
    obtain ⟨A', c', rfl, ho'⟩ := own_form hown
    refine ⟨A', c', w', hrun, ho', by have := Mod.of_grown hg; rwa [ownBlock_of ho] at this, fun ad ea => ?_⟩
    subst ea
    rcases hnear with h | h
    · left
      rcases ho'.2 with ⟨hv, _⟩ | ⟨g, cap, cur, hv, _⟩
      · cases hv
      · rcases ho.2 with ⟨hv2, _⟩ | ⟨g2, cap2, cur2, hv2, _⟩
        · cases hv2; cases hv; simp [Value.ownBlock] at h
        · cases hv2; cases hv; simp [Value.ownBlock] at h; subst h; rfl
    · right
      rcases ho'.2 with ⟨hv, _⟩ | ⟨g, cap, cur, hv, _⟩
      · cases hv
      · cases hv; simp [Value.ownBlock] at h; simp; omega
theorem TL_append (E : Env P) (hx : ev st X = some (.slice A m c) := by exact rfl) (hy : ev st Y = some (.slice A2 m2 c2) := by exact rfl) (ht : E.und t = some (.slice e) := by exact rfl) (he : E.inf e = some (s, by_, z) := by exact rfl) (hzs : z.cells.size = s := by exact rfl) (hsz : Nat.blt 0 s = true := by exact rfl) (hd : Nat.blt d n = true := by exact rfl)
    (ho : Own w base e s A m c xs := by focus ((repeat (first | assumption | (apply Own.rd; assumption) | (apply Rd.blk; assumption; exact rfl) | (apply Blk.be; assumption) | (apply Rd.be; assumption) | (apply Own.be; assumption) | (apply Blk.bm; assumption; focus (first | assumption | (simp only [List.mem_cons, List.not_mem_nil, or_false]; omega))) | (apply Rd.bm; assumption; focus assumption) | (apply Own.bm; assumption; focus assumption))); done)) (hr : Rd w A2 m2 s ys := by focus ((repeat (first | assumption | (apply Own.rd; assumption) | (apply Rd.blk; assumption; exact rfl) | (apply Blk.be; assumption) | (apply Rd.be; assumption) | (apply Own.be; assumption) | (apply Blk.bm; assumption; focus (first | assumption | (simp only [List.mem_cons, List.not_mem_nil, or_false]; omega))) | (apply Rd.bm; assumption; focus assumption) | (apply Own.bm; assumption; focus assumption))); done)) (h1 : ∀ u ∈ ys, u.oneCell' = true := by first | exact bv_one _ | (simp [Value.oneCell']; done)) (hb1 : m + m2 ≤ 9223372036854775807 := by first | assumption | omega) (hb2 : (m + m2) * by_ ≤ 140737488355328 := by first | assumption | omega) (hb : base ≤ w.heap.size := by first | assumption | omega)
    (hf : Fl q (rest.length + 1) := by first | exact trivial | exact rfl) (hq : ∀ w', Mod (blkL A) w w' → Kp q w' := by exact fun _ _ => trivial)
    (hk : ∀ A' c' w', Own w' base e s A' (m + m2) c' (xs ++ ys) → Mod (blkL A) w w' → Near A A' w → TL q P fn R M n ((d, .slice A' (m + m2) c') :: st) ops rest k w') :
    TL q P fn R M n st ops (⟨some d, .call { callee := .builtin .append, args := #[X, Y], argTypes := #[t, t] }, ty, ps, af, none⟩ :: rest) k w := by
  obtain ⟨A', c', w', hrun, h2, h3, h4⟩ := run_append_any (E.und_ok _ _ ht) (E.inf_ok _ _ _ _ he) hzs (by simpa [Nat.blt_eq] using hsz) ho hr h1 (by unfold maxLen; omega) hb2 hb (c2 := c2) ty
  refine TL_new (w' := w') hd (fun ρ h => ?_) hf (hq _ h3) (hk A' c' w' h2 h3 h4)
  simp only [execOp, resolve, invoke, builtin, Sem.run_bind, Sem.run_pure, Result.andThen_ok, List.map_toArray, List.map_cons, List.map_nil, h _ _ hx, h _ _ hy, hrun]
theorem TL_append_s {S : ByteArray} (E : Env P) (hx : ev st X = some (.slice A m c) := by exact rfl) (hy : ev st Y = some (.string S) := by exact rfl) (ht : E.und t = some (.slice e) := by exact rfl) (ht2 : E.und t2 = some .string := by exact rfl) (he : E.inf e = some (1, 1, .int .u8 0) := by exact rfl) (hd : Nat.blt d n = true := by exact rfl)
    (ho : Own w base e 1 A m c xs := by focus ((repeat (first | assumption | (apply Own.rd; assumption) | (apply Rd.blk; assumption; exact rfl) | (apply Blk.be; assumption) | (apply Rd.be; assumption) | (apply Own.be; assumption) | (apply Blk.bm; assumption; focus (first | assumption | (simp only [List.mem_cons, List.not_mem_nil, or_false]; omega))) | (apply Rd.bm; assumption; focus assumption) | (apply Own.bm; assumption; focus assumption))); done)) (hb1 : m + S.size ≤ 140737488355328 := by first | assumption | omega) (hb : base ≤ w.heap.size := by first | assumption | omega)
    (hf : Fl q (rest.length + 1) := by first | exact trivial | exact rfl) (hq : ∀ w', Mod (blkL A) w w' → Kp q w' := by exact fun _ _ => trivial)
    (hk : ∀ A' c' w', Own w' base e 1 A' (m + S.size) c' (xs ++ bv S.data.toList) → Mod (blkL A) w w' → Near A A' w → TL q P fn R M n ((d, .slice A' (m + S.size) c') :: st) ops rest k w') :
    TL q P fn R M n st ops (⟨some d, .call { callee := .builtin .append, args := #[X, Y], argTypes := #[t, t2] }, ty, ps, af, none⟩ :: rest) k w := by
  obtain ⟨i, i1, i2, i3, i4⟩ := E.inf_ok _ _ _ _ he
  have hmx : m + S.size ≤ maxLen := by unfold maxLen; omega
  obtain ⟨v', w', hrun, hown, hg, _⟩ := Lib.run_append_own_string (P := P) w base t t2 ty e i (E.und_ok _ _ ht) (E.und_ok _ _ ht2) i1 i4 i2 i3 (.slice A m c) m xs ho S hmx (by omega) hb
  obtain ⟨A', c', rfl, ho'⟩ := own_form hown
  have hsc : Lib.strCells S = bv S.data.toList := by simp [Lib.strCells, bv]
  rw [hsc] at ho'
  have hmg : Mod (blkL A) w w' := by have := Mod.of_grown hg; rwa [ownBlock_of ho] at this
  refine TL_new (w' := w') hd (fun ρ h => ?_) hf (hq _ hmg) (hk A' c' w' ho' hmg (fun ad ea => ?_))
  · simp only [execOp, resolve, invoke, builtin, Sem.run_bind, Sem.run_pure, Result.andThen_ok, List.map_toArray, List.map_cons, List.map_nil, h _ _ hx, h _ _ hy, hrun]
  · subst ea
    rcases ho.2 with ⟨hv, h0⟩ | ⟨g, cap, cur, hv, hbg, hh, hnc, hcm, hcs, _⟩
    · right
      cases hv
      obtain ⟨v2, w2, hrun2, hown2, _⟩ := Lib.run_append_own_string (P := P) w w.heap.size t t2 ty e i (E.und_ok _ _ ht) (E.und_ok _ _ ht2) i1 i4 i2 i3 (.slice none 0 0) 0 xs (by rw [← h0]; exact ⟨ho.1, .inl ⟨rfl, h0⟩⟩) S (by omega) (by omega) (Nat.le_refl _)
      rw [hrun] at hrun2
      injection hrun2 with e1 e2
      subst e1
      rcases hown2.2 with ⟨hv, _⟩ | ⟨g, cap, cur, hv, hg, _⟩
      · cases hv
      · cases hv; exact hg
    · cases hv
      by_cases hroom : m + S.size ≤ c
      · left
        have hr := Lib.run_append_room_string (P := P) w t t2 ty e i (E.und_ok _ _ ht) (E.und_ok _ _ ht2) i1 i2 g m c cur hh S hroom (by simp at hcs; omega)
        rw [hrun] at hr
        injection hr with e1 e2
        injection e1 with e1
        exact e1.symm
      · right
        have holds : ∀ j u, xs[j]? = some u → w.cell? ((⟨g, 0, none⟩ : Addr).add j) = some u := World.ownsRow.cells (g := g) ho rfl
        have hxl : xs.length = m := by simpa using ho.1
        have hr := Lib.run_append_grow_string (P := P) w t t2 ty e i (.int .u8 0) (E.und_ok _ _ ht) (E.und_ok _ _ ht2) i1 i4 ⟨g, 0, none⟩ m c xs (by rw [i2]; simpa using hxl) holds S (by omega) (by omega) (by rw [i3]; exact growslice_fits (by omega) (by omega))
        rw [hrun] at hr
        injection hr with e1 e2
        injection e1 with e1
        injection e1 with e1
        subst e1
        exact Nat.le_refl _
end
end Go.Proofs.Eng
