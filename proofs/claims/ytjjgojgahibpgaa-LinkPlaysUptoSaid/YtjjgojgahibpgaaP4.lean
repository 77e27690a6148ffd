import Derived.Test.YtjjgojgahibpgaaP3
/- Parts: Eng24 RW4 LW13 LLaw3 LW14. -/
/- A literal row without elements, of any type. -/
namespace Go.Proofs.Eng
open Go.RowKit
set_option linter.unusedSimpArgs false
set_option linter.unusedVariables false
set_option linter.unusedSectionVars false
section
variable {q : Qm} {P : Program} {fn : Func} {R : Ending → World → Prop} {M : Md} {n : Nat} {st : Slots} {k : List Item} {w : World} {ops rest : List Oper}
  {d : Nat} {ty : TypeId} {ps : String} {af : Array Edge} {t e : TypeId} {by_ s : Nat} {z : Value}
theorem TL_buildSlice0 (E : Env P) (ht : E.und t = some (.slice e) := by exact rfl) (he : E.inf e = some (s, by_, z) := by exact rfl) (hd : Nat.blt d n = true := by exact rfl)
    (hf : Fl q (rest.length + 1) := by first | exact trivial | exact rfl) (hq : ∀ w', Ext w w' → Kp q w' := by exact fun _ _ => trivial)
    (hk : ∀ b w', Ext w w' → w.heap.size ≤ b → b < w'.heap.size → Blk w' b e [] → TL q P fn R M n ((d, .slice (some ⟨b, 0, none⟩) 0 0) :: st) ops rest k w') :
    TL q P fn R M n st ops (⟨some d, .buildSlice t 0 #[], ty, ps, af, none⟩ :: rest) k w :=
  TL_new (w' := w.alloc (.cells #[] e)) hd (fun ρ h => by
    have hr0 : Array.range 0 = #[] := by apply Array.ext <;> simp
    simp [execOp, Instr.buildSlice, run_underlying (E.und_ok _ _ ht), run_sizeOf' (E.inf_ok _ _ _ _ he), Instr.fill, newRow, hr0]
    ) hf (hq _ (Ext.alloc _ _))
    (hk w.heap.size _ (Ext.alloc _ _) (Nat.le_refl _) (by simp) (by simpa using Blk.new w e #[]))
end
end Go.Proofs.Eng

namespace Go.Proofs.Ytjjgojgahibpgaa
open Go.RowKit Go.Proofs.Eng Go.Proofs.Codec Go.Proofs.Link
set_option linter.unusedSimpArgs false
set_option linter.unusedVariables false set_option maxRecDepth 10000
attribute [local irreducible] T TL LV TH TA
theorem fv_drop (l : List FE) (i : Nat) : (fv l).drop (i * 4) = fv (l.drop i) := by
  induction l generalizing i with
  | nil => simp [fv]
  | cons p l ih =>
    cases i with
    | zero => simp [fv]
    | succ i =>
      rw [fv_cons, List.drop_succ_cons, ← ih i, show (i + 1) * 4 = (f4 p).length + i * 4 by simp [f4]; omega, ← List.drop_drop, List.drop_left]
theorem FB.take {w : World} {base : Nat} : ∀ {xs : List FE} {ls : List Msg} (i : Nat), FB w base xs ls → FB w base (xs.take i) (ls.take i)
  | [], [], i, _ => by simp; trivial
  | x :: xs, l :: ls, 0, h => by simp; trivial
  | x :: xs, l :: ls, i + 1, h => ⟨h.1, FB.take i h.2⟩
  | [], _ :: _, _, h => h.elim
  | _ :: _, [], _, h => h.elim
theorem FB.drop {w : World} {base : Nat} : ∀ {xs : List FE} {ls : List Msg} (i : Nat), FB w base xs ls → FB w base (xs.drop i) (ls.drop i)
  | [], [], i, _ => by simp; trivial
  | x :: xs, l :: ls, 0, h => h
  | x :: xs, l :: ls, i + 1, h => FB.drop i h.2
  | [], _ :: _, _, h => h.elim
  | _ :: _, [], _, h => h.elim
def goA (l : List Msg) (ak : Nat) : Bool := match l with
  | [] => false
  | q :: _ => decide (q.seq < ak)
section
variable {base p : Nat} {m : RM} {f : Nat → Nat} {es : ES}
set_option maxHeartbeats 1600000
theorem RReceive_c (B : Option Addr) (n c : Nat) (b : Bs) (w : World) (h : REndM w base p m f es) (ok : OkE es) (hsrt : ∀ ak, es.fly.dropWhile (fun q => decide (q.seq < ak)) = (ackE es ak).fly) (hr : Rd w B n 1 (bv b)) (hn : n ≤ 7036874417) (hc : n ≤ c) :
    Ret Try.prog 37 [ptr p, .slice B n c] w (fun v w' => v = .int .i64 ((recvE es b).2 : Int) ∧ ∃ m' f', REndM w' base p m' f' (recvE es b).1 ∧ Turns f f' w w') := by
  have hD : p ∉ ([] : List Nat) := by simp
  have hbw := h.bw
  obtain ⟨hsq, hak, hkd⟩ := parseF_lt b
  have hbd := parseF_body b
  refine ret_T (n := 158) Try.func37 rfl rfl ?_
  repeat (first | refine T_seq ?_ | refine T_region ?_ | refine TL_nil ?_ | refine TL_move (hk := ?_) | refine TL_assign (hk := ?_))
  refine TL_call TE (hc := read_c B n c b _ hr hn hc) (hk := ?_)
  unfold recvE
  obtain ⟨pf, hpf⟩ : ∃ q, parseF b = q := ⟨_, rfl⟩
  rw [hpf] at hsq hak hkd hbd ⊢
  obtain ⟨kd, sq, ak, bd, okk⟩ := pf
  simp only at hsq hak hkd hbd ⊢
  rintro _ w1 ⟨⟨BA, bn, bc⟩, rfl, e1, rB, hiB⟩
  simp only at rB hiB
  have h1 := h.ext e1
  have hk1 := h1.blk
  unfold rendV at hk1
  have hold := fun x hx => (h.ki.old x hx).2
  have hret : ∀ w', Ext w1 w' → ∃ m' f', REndM w' base p m' f' es ∧ Turns f f' w w' := fun w' e => ⟨m, f, h1.ext e, Turns.ext (e1.ext e)⟩
  have wi := ok.wi
  have exk := ok.ex
  have z1 := e1.size
  clear hpf
  cases okk with
  | false =>
    rw [if_pos rfl]
    repeat (first | refine T_seq ?_ | refine T_region ?_ | refine T_cond_true rfl ?_ | refine TL_nil ?_ | refine TL_move (hk := ?_) | refine TL_assign (hk := ?_) | refine TL_extract (hk := ?_) | refine TL_not (hk := ?_))
    exact T_ret1 rfl rfl ⟨rfl, hret _ (Mod.refl _ _)⟩
  | true =>
    rw [if_neg (by decide)]
    repeat (first | refine T_seq ?_ | refine T_region ?_ | refine T_cond_false rfl ?_ | refine T_skip ?_ | refine TL_nil ?_ | refine TL_move (hk := ?_) | refine TL_assign (hk := ?_) | refine TL_extract (hk := ?_) | refine TL_not (hk := ?_))
    refine T_join (ι := Unit) (fun _ => [(43, .bool (decide (es.next < ak ∨ (kd = 1 ∧ es.exp + es.win ≤ sq)))), (5, .bool (decide (kd = 1))), (6, .int .u64 (sq : Int)), (7, .int .u64 (ak : Int)), (8, .slice BA bn bc), (0, ptr p)]) (fun _ w' => Ext w1 w') (fun kk join => ?_) ?_
    · have hadd : (es.exp : Int) + (es.win : Int) = ((es.exp + es.win : Nat) : Int) := by omega
      by_cases a0 : es.next < ak
      · rw [decide_eq_true (p := _ ∨ _) (.inl a0)] at join
        repeat (first | refine T_region_q TE.mixed (by kernel_rfl) ?_ | refine TL_gt_t (hk := ?_) | refine TL_move (hk := ?_) | refine TL_load TE (hk := ?_) | refine TL_fieldAddr TE (hk := ?_) | refine TL_no (hk := ?_) | refine TL_pick_t (hk := ?_) | refine TL_nilCheck (hk := ?_))
        refine TL_nil_q ?_; intro w5 e5
        exact T.sub (join () _ e5) (.c rfl (.c rfl (.c rfl (.c rfl (.c rfl (.c rfl (.n)))))))
      · by_cases a1 : kd = 1
        · rw [decide_eq_true a1] at join ⊢
          by_cases a3 : es.exp + es.win ≤ sq
          · rw [decide_eq_true (p := _ ∨ _) (.inr ⟨a1, a3⟩)] at join
            repeat (first | refine T_region_q TE.mixed (by kernel_rfl) ?_ | refine TL_add (hk := ?_) | refine TL_gt_f (hk := ?_) | refine TL_ge_t (hk := ?_) | refine TL_move (hk := ?_) | refine TL_load TE (hk := ?_) | refine TL_fieldAddr TE (hk := ?_) | refine TL_yes (hk := ?_) | refine TL_pick_t (hk := ?_) | refine TL_pick_f (hk := ?_) | refine TL_nilCheck (hk := ?_) | refine TL_conv TE (hk := ?_))
            refine TL_nil_q ?_; intro w5 e5
            exact T.sub (join () _ e5) (.c rfl (.c rfl (.c rfl (.c rfl (.c rfl (.c rfl (.n)))))))
          · rw [decide_eq_false (p := _ ∨ _) (fun q => q.elim a0 fun q => a3 q.2)] at join
            repeat (first | refine T_region_q TE.mixed (by kernel_rfl) ?_ | refine TL_add (hk := ?_) | refine TL_gt_f (hk := ?_) | refine TL_ge_f (hk := ?_) | refine TL_move (hk := ?_) | refine TL_load TE (hk := ?_) | refine TL_fieldAddr TE (hk := ?_) | refine TL_yes (hk := ?_) | refine TL_pick_t (hk := ?_) | refine TL_pick_f (hk := ?_) | refine TL_nilCheck (hk := ?_) | refine TL_conv TE (hk := ?_))
            refine TL_nil_q ?_; intro w5 e5
            exact T.sub (join () _ e5) (.c rfl (.c rfl (.c rfl (.c rfl (.c rfl (.c rfl (.n)))))))
        · rw [decide_eq_false a1] at join ⊢
          rw [decide_eq_false (p := _ ∨ _) (fun q => q.elim a0 fun q => a1 q.1)] at join
          repeat (first | refine T_region_q TE.mixed (by kernel_rfl) ?_ | refine TL_gt_f (hk := ?_) | refine TL_move (hk := ?_) | refine TL_load TE (hk := ?_) | refine TL_fieldAddr TE (hk := ?_) | refine TL_yes (hk := ?_) | refine TL_no (hk := ?_) | refine TL_pick_f (hk := ?_) | refine TL_nilCheck (hk := ?_))
          refine TL_nil_q ?_; intro w5 e5
          exact T.sub (join () _ e5) (.c rfl (.c rfl (.c rfl (.c rfl (.c rfl (.c rfl (.n)))))))
    rintro _ w5 e5
    by_cases g1 : es.next < ak
    · rw [if_pos g1, decide_eq_true (p := _ ∨ _) (.inl g1)]
      repeat (first | refine T_seq ?_ | refine T_region ?_ | refine T_cond_true rfl ?_ | refine TL_nil ?_ | refine TL_assign (hk := ?_))
      exact T_ret1 rfl rfl ⟨rfl, hret _ e5⟩
    rw [if_neg g1]
    by_cases g2 : kd = 1 ∧ es.exp ≤ sq ∧ es.win ≤ sq - es.exp
    · rw [if_pos g2, decide_eq_true (p := _ ∨ _) (.inr ⟨g2.1, by omega⟩)]
      repeat (first | refine T_seq ?_ | refine T_region ?_ | refine T_cond_true rfl ?_ | refine TL_nil ?_ | refine TL_assign (hk := ?_))
      exact T_ret1 rfl rfl ⟨rfl, hret _ e5⟩
    rw [if_neg g2, decide_eq_false (p := _ ∨ _) (fun q => q.elim g1 fun q => g2 ⟨q.1, by omega, by omega⟩)]
    have h5 := h1.ext e5
    have rB5 := rB.be e5
    have e05 := e1.ext e5
    have z5 := e5.size
    clear hk1 rB hret
    repeat (first | refine T_seq ?_ | refine T_cond_false rfl ?_ | refine T_block ?_ | refine T_skip ?_)
    refine T_loop (ι := List Msg) (fun _ => [(5, .bool (decide (kd = 1))), (6, .int .u64 (sq : Int)), (7, .int .u64 (ak : Int)), (8, .slice BA bn bc), (0, ptr p)])
      (fun l w' => (∃ m' f', REndM w' base p m' f' { es with fly := l } ∧ Turns f f' w w') ∧ l.dropWhile (fun q => decide (q.seq < ak)) = (ackE es ak).fly ∧ Rd w' BA bn 1 (bv bd) ∧ l.length ≤ es.fly.length) (fun l => l.length) es.fly (.c rfl (.c rfl (.c rfl (.c rfl (.c rfl (.n)))))) ⟨⟨m, f, h5, Turns.ext e05⟩, hsrt ak, rB5, Nat.le_refl _⟩ ?_
    rintro l w6 ⟨⟨m6, f6, h6, t6⟩, hdw, rB6, hll⟩ ih
    have hk6 := h6.blk
    unfold rendV at hk6
    have l1 := h6.pf.1.len
    have l2 := h6.pf.2.len
    rw [fv_len] at l1
    simp only at l2
    have hfl : m6.fl.2.1 = l.length := by omega
    have r6 := h6.pf.1.rd
    have z6 := t6.2.2
    have tot := ok.tot
    repeat (refine T_seq ?_)
    refine T_join (ι := Unit) (fun _ => [(60, .bool (goA l ak)), (5, .bool (decide (kd = 1))), (6, .int .u64 (sq : Int)), (7, .int .u64 (ak : Int)), (8, .slice BA bn bc), (0, ptr p)]) (fun _ w' => w' = w6) (fun kk join => ?_) ?_
    · cases hl0 : l with
      | nil =>
        rw [hl0] at join hfl
        rw [show goA [] ak = false from rfl] at join
        simp only [List.length_nil] at hfl
        have hfl' : ¬ 0 < m6.fl.2.1 := by omega
        repeat (first | refine T_region ?_ | refine TL_gt_f (hk := ?_) | refine TL_nil ?_ | refine TL_move (hk := ?_) | refine TL_load TE (hk := ?_) | refine TL_fieldAddr TE (hk := ?_) | refine TL_len TE (hk := ?_) | refine TL_no (hk := ?_) | refine TL_pick_f (hk := ?_) | refine TL_nilCheck (hk := ?_))
        exact T.sub (join () _ rfl) (.c rfl (.c rfl (.c rfl (.c rfl (.c rfl (.c rfl (.n)))))))
      | cons q t =>
        rw [hl0] at join l2 hfl
        simp only [List.length_cons] at l2 hfl
        cases hfm : m6.fm with
        | nil => rw [hfm] at l2; simp at l2
        | cons x tx =>
          have hg := (h6.pf.2.get 0 (by rw [hfm]; simp)).1
          rw [hfm] at r6 hg
          simp only [hl0, List.getD_cons_zero] at hg
          have hv0 : (fv (x :: tx))[0 * 4 + 0]? = some (.int .u64 (x.seq : Int)) := rfl
          have hv0' : (fv (x :: tx))[0]? = some (.int .u64 (x.seq : Int)) := rfl
          have hA : m6.fl.1 ≠ none := by obtain ⟨_, _, hq, _⟩ := r6.2 (by omega); rw [hq]; simp
          by_cases e : q.seq < ak
          · have e' : (x.seq : Int) < (ak : Int) := by omega
            rw [show goA (q :: t) ak = true from decide_eq_true e] at join
            repeat (first | refine T_region ?_ | refine TL_lt_t (hk := ?_) | refine TL_gt_t (hk := ?_) | refine TL_nil ?_ | refine TL_move (hk := ?_) | refine TL_load TE (hk := ?_) | refine TL_load_rd TE (hk := ?_) | refine TL_fieldAddr TE (hk := ?_) | refine TL_fieldAddr_e TE (hk := ?_) | refine TL_indexAddrn TE (hk := ?_) | refine TL_len TE (hk := ?_) | refine TL_yes (hk := ?_) | refine TL_pick_t (hk := ?_) | refine TL_nilCheck (hk := ?_))
            exact T.sub (join () _ rfl) (.c rfl (.c rfl (.c rfl (.c rfl (.c rfl (.c rfl (.n)))))))
          · have e' : ¬ (x.seq : Int) < (ak : Int) := by omega
            rw [show goA (q :: t) ak = false from decide_eq_false e] at join
            repeat (first | refine T_region ?_ | refine TL_lt_f (hk := ?_) | refine TL_gt_t (hk := ?_) | refine TL_nil ?_ | refine TL_move (hk := ?_) | refine TL_load TE (hk := ?_) | refine TL_load_rd TE (hk := ?_) | refine TL_fieldAddr TE (hk := ?_) | refine TL_fieldAddr_e TE (hk := ?_) | refine TL_indexAddrn TE (hk := ?_) | refine TL_len TE (hk := ?_) | refine TL_yes (hk := ?_) | refine TL_pick_t (hk := ?_) | refine TL_nilCheck (hk := ?_))
            exact T.sub (join () _ rfl) (.c rfl (.c rfl (.c rfl (.c rfl (.c rfl (.c rfl (.n)))))))
    rintro _ w6 rfl
    cases hgo : goA l ak with
    | true =>
      cases hl0 : l with
      | nil => rw [hl0] at hgo; cases hgo
      | cons q t =>
        subst hl0
        simp only [List.length_cons] at l2 hfl
        cases hfm : m6.fm with
        | nil => rw [hfm] at l2; simp at l2
        | cons x tx =>
          rw [hfm] at r6
          have hqa : q.seq < ak := by simpa [goA] using hgo
          have hll' : t.length + 1 ≤ es.fly.length := hll
          have hcap := h6.pf.1.cap.1
          have rcut := Rd.cut (l := 1) (h := m6.fl.2.1) (c := m6.fl.2.2) r6 (by omega) (Nat.le_refl _) hcap
          rw [fv_drop, List.drop_succ_cons, List.drop_zero, List.take_of_length_le (by rw [fv_len]; rw [hfm] at l2; simp at l2; omega)] at rcut
          have hb6 := h6.bw
          have hpf6 : p ∉ blkL m6.fl.1 := h6.p_fl
          repeat (first | refine T_region ?_ | refine T_cond_true rfl ?_ | refine T_block ?_ | refine T_skip ?_ | refine TL_move (hk := ?_))
          refine TL_buildSlice0 TE (hk := ?_); intro b7 w7 e7 h7 h7' k7
          have o7 : Own w7 w6.heap.size 125 4 (some ⟨b7, 0, none⟩) 0 0 [] := Own.of_blk k7 h7 rfl (by decide)
          have z7 := e7.size
          have hk7 := hk6.be e7
          have r7 := r6.be e7
          have rcut7 := rcut.be e7
          clear hk6 r6
          repeat (first | refine TL_move (hk := ?_) | refine TL_load TE (hk := ?_) | refine TL_fieldAddr TE (hk := ?_) | refine TL_nilCheck (hk := ?_) | refine TL_slice_lo TE (hk := ?_))
          have hone8 := fv_one tx
          refine TL_append TE (hk := ?_); intro A8 c8 w8 o8 m8 n8
          rw [List.nil_append] at o8
          have e68 : Ext w6 w8 := Mod.own e7 m8 o7.hi
          have hk8 := hk7.mod m8 (fun hq => by have := (h6.ki.old p (by rw [h6.ki.kp]; decide)).2; simp [blkL] at hq; omega)
          have z8 := e68.size
          clear hk7 r7 rcut7 rcut
          repeat (first | refine TL_fieldAddr TE (hk := ?_) | refine TL_nilCheck (hk := ?_))
          refine TL_store TE (hk := ?_); intro w9 m9 z9 k9
          have hA8 : ∀ b ∈ blkL A8, w6.heap.size ≤ b := fun b q => Hi.blk o8.hi b q
          have hplt := (h6.ki.old p (by rw [h6.ki.kp]; decide)).2
          have m69 : Eng.Mod [p] w6 w9 := (e68.mono (S' := [p]) (by simp)).trans m9
          obtain ⟨m10, f10, h10, t10⟩ := h6.pop (fl' := (A8, 0 + (m6.fl.2.1 - 1), c8)) (q0 := q) (qt := t) hfm rfl m69 k9 ((o8.mod m9 (off_of fun b q1 q2 => by rw [List.mem_singleton] at q2; subst q2; have := hA8 _ q1; omega)).weaken hb6) hA8
          have rB9 := rB6.mod m69 (off_of fun b q1 q2 => by
            rw [List.mem_singleton] at q2
            subst q2
            have := Hi.blk hiB b q1
            have := (h.ki.old b (by rw [h.ki.kp]; decide)).2
            omega)
          have hdw' : t.dropWhile (fun q => decide (q.seq < ak)) = (ackE es ak).fly := by rw [← hdw, List.dropWhile_cons, if_pos (by simpa using hqa)]
          repeat (first | refine T_inBlock ?_ | refine TL_nil ?_)
          exact ih t w9 _ (by simp) ⟨⟨m10, f10, h10, t6.trans t10 hold⟩, hdw', rB9, by simp only [List.length_cons] at hll; omega⟩ (.c rfl (.c rfl (.c rfl (.c rfl (.c rfl (.n))))))
    | false =>
      clear ih
      have hle : l = (ackE es ak).fly := by
        rw [← hdw]
        cases hl0 : l with
        | nil => rfl
        | cons q t =>
          rw [hl0] at hgo
          have : ¬ q.seq < ak := by simpa [goA] using hgo
          rw [List.dropWhile_cons, if_neg (by simpa using this)]
      have h7 : REndM w6 base p m6 f6 (ackE es ak) := by
        have : ({ es with fly := l } : ES) = ackE es ak := by unfold ackE at hle ⊢; rw [hle]
        rw [← this]; exact h6
      clear h6 hk6 r6
      by_cases g3 : kd = 2
      · rw [if_pos g3]
        subst g3
        repeat (first | refine T_seq ?_ | refine T_region ?_ | refine T_cond_true rfl ?_ | refine T_cond_false rfl ?_ | refine T_exit rfl ?_ | refine TL_nil ?_ | refine TL_move (hk := ?_) | refine TL_assign (hk := ?_) | refine TL_not (hk := ?_))
        exact T_ret1 rfl rfl ⟨rfl, m6, f6, h7, t6⟩
      rw [if_neg g3]
      have g4 : kd = 1 := by rcases hkd rfl with q | q <;> omega
      subst g4
      have hx1 : (ackE es ak).exp = es.exp := rfl
      have hx2 : (ackE es ak).held = es.held := rfl
      have hx3 : (ackE es ak).come = es.come := rfl
      obtain ⟨es1, hes1⟩ : ∃ e, ackE es ak = e := ⟨_, rfl⟩
      rw [hes1] at h7 hx1 hx2 hx3 ⊢
      have hk7 := h7.blk
      unfold rendV at hk7
      repeat (first | refine T_seq ?_ | refine T_region ?_ | refine T_cond_false rfl ?_ | refine T_skip ?_ | refine T_exit rfl ?_ | refine TL_nil ?_ | refine TL_move (hk := ?_) | refine TL_fieldAddr TE (hk := ?_) | refine TL_nilCheck (hk := ?_) | refine TL_not (hk := ?_))
      refine TL_store TE (hk := ?_); intro w8 m8 z8 k8
      obtain ⟨h8, t8⟩ := h7.nums (es' := { es1 with owed := true }) m8 k8 rfl rfl rfl rfl
      have hdata : dataE es1 sq bd = drainE (holdE { es1 with owed := true } sq bd).held.length (holdE { es1 with owed := true } sq bd) := rfl
      obtain ⟨es2, hes2⟩ : ∃ e, ({ es1 with owed := true } : ES) = e := ⟨_, rfl⟩
      replace hx1 : es2.exp = es.exp := by rw [← hes2]; exact hx1
      replace hx2 : es2.held = es.held := by rw [← hes2]; exact hx2
      replace hx3 : es2.come = es.come := by rw [← hes2]; exact hx3
      rw [hes2] at h8 hdata
      rw [hdata]
      have rB8 : Rd w8 BA bn 1 (bv bd) := rB6.mod m8 (off_of fun b q1 q2 => by
        rw [List.mem_singleton] at q2
        subst q2
        have := Hi.blk hiB b q1
        have := (h.ki.old b (by rw [h.ki.kp]; decide)).2
        omega)
      have t08 := t6.trans t8 hold
      have hk8 := h8.blk
      unfold rendV at hk8
      have okh := ok.hl
      have oke := ok.ex
      have hhl := congrArg List.length hx2
      clear hk7 k8 h7
      repeat (first | refine T_seq ?_ | refine TL_nil ?_)
      refine T_join (ι := Unit) (fun _ => [(87, .bool (decide (es2.exp ≤ sq ∧ (mget es2.held sq).isSome = false))), (6, .int .u64 (sq : Int)), (8, .slice BA bn bc), (0, ptr p)]) (fun _ w' => w' = w8) (fun kk join => ?_) ?_
      · by_cases a1 : es2.exp ≤ sq
        · repeat (first | refine T_region ?_ | refine TL_ge_t (hk := ?_) | refine TL_move (hk := ?_) | refine TL_load TE (hk := ?_) | refine TL_fieldAddr TE (hk := ?_) | refine TL_yes (hk := ?_) | refine TL_nilCheck (hk := ?_))
          refine TL_call TE (hc := Rheld_c sq _ h8 (by omega)) (hk := ?_)
          rintro _ w9 ⟨rfl, ⟨rfl, hg⟩ | ⟨i, hi, rfl, hg, _⟩⟩
          · rw [decide_eq_true ⟨a1, by rw [hg]; rfl⟩] at join
            repeat (first | refine TL_lt_t (hk := ?_) | refine TL_nil ?_ | refine TL_yes (hk := ?_) | refine TL_pick_t (hk := ?_))
            exact T.sub (join () _ rfl) (.c rfl (.c rfl (.c rfl (.c rfl (.n)))))
          · rw [decide_eq_false (fun q => by rw [hg] at q; cases q.2)] at join
            repeat (first | refine TL_lt_f (hk := ?_) | refine TL_nil ?_ | refine TL_yes (hk := ?_) | refine TL_pick_t (hk := ?_))
            exact T.sub (join () _ rfl) (.c rfl (.c rfl (.c rfl (.c rfl (.n)))))
        · rw [decide_eq_false (fun q => a1 q.1)] at join
          repeat (first | refine T_region ?_ | refine TL_ge_f (hk := ?_) | refine TL_nil ?_ | refine TL_move (hk := ?_) | refine TL_load TE (hk := ?_) | refine TL_fieldAddr TE (hk := ?_) | refine TL_no (hk := ?_) | refine TL_pick_f (hk := ?_) | refine TL_nilCheck (hk := ?_))
          exact T.sub (join () _ rfl) (.c rfl (.c rfl (.c rfl (.c rfl (.n)))))
      rintro _ w8 rfl
      have hlb : bd.length = bn := by simpa using rB8.1
      have z68 := t08.2.2
      have lk1 := h8.ph.1.len
      have lk2 := h8.ph.2.len
      rw [fv_len] at lk1
      have lk3 : (heldM es2.held).length = es2.held.length := by simp [heldM]
      refine T_join (ι := Unit) (fun _ => [(0, ptr p)]) (fun _ w' => ∃ m' f', REndM w' base p m' f' (holdE es2 sq bd) ∧ Turns f f' w w') (fun kk join => ?_) ?_
      · by_cases g5 : es2.exp ≤ sq ∧ (mget es2.held sq).isSome = false
        · have hh : holdE es2 sq bd = { es2 with held := mput es2.held sq bd } := by unfold holdE; rw [if_pos g5]
          rw [decide_eq_true g5]
          have hnone : mget es2.held sq = none := by
            cases hq : mget es2.held sq with
            | none => rfl
            | some _ => rw [hq] at g5; cases g5.2
          have hpke : p ∉ blkL m6.ke.1 := fun q => by have := h8.ki.kke p q; rw [h8.ki.kp] at this; cases this
          have ok8 := h8.ph.1
          have hone := bv_one bd
          have hklo := Lo.blk h8.ph.1.lo
          have hplt := (h8.ki.old p (by rw [h8.ki.kp]; decide)).2
          have hb8 := h8.bw
          repeat (refine T_cond_true rfl ?_)
          refine T_region_anyz TE.mixed (blkL m6.ke.1) (some 14) ?_; intro w9 e9 z9
          have hk9 := hk8.be e9
          (refine TA_take 0 rfl (by kernel_rfl) (by kernel_rfl) (by kernel_rfl) ?_; (repeat (first | refine TL_move (hk := ?_) | refine TLP_load TE (hk := ?_) | refine TL_fieldAddr TE (hk := ?_) | refine TL_nilCheck (hk := ?_))); refine TL_nil_p ?_); (refine TA_take 1 rfl (by kernel_rfl) (by kernel_rfl) (by kernel_rfl) ?_; (repeat (first | refine TL_move (hk := ?_) | refine TLP_load TE (hk := ?_) | refine TL_fieldAddr TE (hk := ?_) | refine TL_nilCheck (hk := ?_))); refine TL_nil_p ?_); (refine TA_take 2 rfl (by kernel_rfl) (by kernel_rfl) (by kernel_rfl) ?_; (repeat (first | refine TL_move (hk := ?_) | refine TLP_load TE (hk := ?_) | refine TL_fieldAddr TE (hk := ?_) | refine TL_nilCheck (hk := ?_))); refine TL_nil_p ?_); (refine TA_take 3 rfl (by kernel_rfl) (by kernel_rfl) (by kernel_rfl) ?_; (repeat (first | refine TL_move (hk := ?_) | refine TLP_load TE (hk := ?_) | refine TL_fieldAddr TE (hk := ?_) | refine TL_nilCheck (hk := ?_))); refine TL_nil_p ?_); (refine TA_take 4 rfl (by kernel_rfl) (by kernel_rfl) (by kernel_rfl) ?_; (repeat (first | refine TL_move (hk := ?_) | refine TLP_load TE (hk := ?_) | refine TL_fieldAddr TE (hk := ?_) | refine TL_nilCheck (hk := ?_))); refine TL_nil_p ?_); (refine TA_take 5 rfl (by kernel_rfl) (by kernel_rfl) (by kernel_rfl) ?_; (repeat (first | refine TL_move (hk := ?_) | refine TLP_load TE (hk := ?_) | refine TL_fieldAddr TE (hk := ?_) | refine TL_nilCheck (hk := ?_))); refine TL_nil_p ?_); (refine TA_take 7 rfl (by kernel_rfl) (by kernel_rfl) (by kernel_rfl) ?_; (repeat (first | refine TL_move (hk := ?_) | refine TLP_load TE (hk := ?_) | refine TL_fieldAddr TE (hk := ?_) | refine TL_nilCheck (hk := ?_))); refine TL_nil_p ?_)
          refine TA_one 6 rfl (by kernel_rfl) (by kernel_rfl) ?_
          refine TL_buildSlice TE (hf := rfl) (hq := fun w' h => Ext.un h) (hk := ?_); intro b10 w10 e10 h10 h10' k10
          have o10 : Own w10 w9.heap.size 5 1 (some ⟨b10, 0, none⟩) 0 0 [] := Own.of_blk k10 h10 rfl (by decide)
          have r10 := (rB8.be e9).be e10
          have z10 := e10.size
          refine TL_nil_p ?_
          refine TA_one 8 rfl (by kernel_rfl) (by kernel_rfl) ?_
          refine TL_append TE (ho := o10) (hr := r10) (h1 := hone) (hf := rfl) (hq := fun w' m => Ext.un (Mod.own e10 m o10.hi)) (hk := ?_); intro A11 c11 w11 o11 m11 n11
          rw [List.nil_append] at o11
          have e911 : Ext w9 w11 := Mod.own e10 m11 o10.hi
          have e811 := e9.ext e911
          have z11 := e911.size
          refine TL_nil_p ?_
          (refine TA_one 9 rfl (by kernel_rfl) (by kernel_rfl) ?_; (repeat (refine TL_build TE (hk := ?_))); refine TL_nil_p ?_)
          refine TA_one 10 rfl (by kernel_rfl) (by kernel_rfl) ?_
          refine TL_buildSliceA TE (hf := rfl) (hq := fun w' h => Ext.un (e911.ext h)) (hk := ?_); intro b12 w12 e12 h12 h12' k12
          replace k12 : Blk w12 b12 125 (fv [⟨sq, (A11, 0 + bn, c11), 0, false⟩]) := k12
          have r12 : Rd w12 (some ⟨b12, 0, none⟩) 1 4 (fv [⟨sq, (A11, 0 + bn, c11), 0, false⟩]) := Rd.blk k12 rfl
          have e812 := e811.ext e12
          have z12 := e12.size
          refine TL_nil_p ?_
          refine TA_one 11 rfl (by kernel_rfl) (by kernel_rfl) ?_
          refine TL_append TE (ho := ok8.be e812) (hr := r12) (h1 := fv_one _) (hf := rfl) (hq := fun w' m => (Ext.un (e911.ext e12)).trans m) (hk := ?_); intro A13 c13 w13 o13 m13 n13
          rw [← fv_append] at o13
          refine TL_nil_p ?_
          (refine TA_one 12 rfl (by kernel_rfl) (by kernel_rfl) ?_; (repeat (first | refine TL_fieldAddr TE (hk := ?_) | refine TL_nilCheck (hk := ?_))); refine TL_nil_p ?_); (refine TA_one 13 rfl (by kernel_rfl) (by kernel_rfl) ?_; (repeat (first | refine TL_fieldAddr TE (hk := ?_) | refine TL_nilCheck (hk := ?_))); refine TL_nil_p ?_)
          refine TA_one 14 rfl (by kernel_rfl) (by kernel_rfl) ?_
          refine TL_store TE (hf := rfl) (hq := fun _ _ _ => trivial) (hb := (hk8.be e812).mod m13 hpke) (hk := ?_); intro w14 m14 z14 k14
          refine TL_nil_z (by kernel_rfl) ?_
          have hA11 : ∀ y ∈ blkL A11, w8.heap.size ≤ y ∧ y < w11.heap.size := fun y q => ⟨by have := Hi.blk o11.hi y q; omega, Lo.blk o11.lo y q⟩
          have hn13 := Near.blk n13
          have hux : ∀ y ∈ blkL A11, y ∉ blkL A13 := fun y q q' => by
            have := hA11 y q
            rcases hn13 y q' with h' | h'
            · have := hklo y h'; omega
            · omega
          have offp : ∀ y, w8.heap.size ≤ y → y ∉ [p] := fun y q hq => by rw [List.mem_singleton] at hq; omega
          have M14 : Eng.Mod (p :: blkL m6.ke.1) w8 w14 := ((e812.mono (S' := p :: blkL m6.ke.1) (by simp)).step m13 (fun x hx => .inl (List.mem_cons_of_mem _ hx))).step m14 (fun x hx => .inl (by rw [List.mem_singleton.1 hx]; exact List.mem_cons_self))
          have hbo : Body w14 base (A11, 0 + bn, c11) bd := (((o11.be e12).mod m13 (off_of fun y q q' => by have := hklo y q'; have := hA11 y q; omega)).mod m14 (off_of fun y q => offp y (hA11 y q).1)).weaken (by omega)
          obtain ⟨m15, f15, h15, t15⟩ := h8.hold hnone (ke' := (A13, m6.ke.2.1 + 1, c13)) M14 k14 (o13.mod m14 (off_of fun y q q' => by
            rcases hn13 y q with h' | h'
            · rw [List.mem_singleton] at q'; subst q'; exact hpke h'
            · exact offp y (by omega) q')) (fun y q => (hn13 y q).imp id (fun a => by omega)) hbo (fun y q => (hA11 y q).1) hux
          --
          exact T.sub (join () _ ⟨m15, f15, by rw [hh]; exact h15, t08.trans t15 hold⟩) (.c rfl (.n))
        · have hh : holdE es2 sq bd = es2 := by unfold holdE; rw [if_neg g5]
          rw [decide_eq_false g5]
          repeat (first | refine T_cond_false rfl ?_ | refine T_skip ?_)
          exact T.sub (join () _ ⟨_, _, by rw [hh]; exact h8, t08⟩) (.c rfl (.n))
      rintro _ w9 ⟨m9, f9, h9, t9⟩
      have hhl2 : (holdE es2 sq bd).held.length ≤ es2.held.length + 1 ∧ (holdE es2 sq bd).exp = es2.exp ∧ (holdE es2 sq bd).come = es2.come := by
        unfold holdE
        split
        · rename_i g5
          have hnone : mget es2.held sq = none := by
            cases hq : mget es2.held sq with
            | none => rfl
            | some _ => rw [hq] at g5; cases g5.2
          refine ⟨?_, rfl, rfl⟩
          simp only
          rw [mput_new _ _ _ hnone]
          simp
        · exact ⟨by omega, rfl, rfl⟩
      obtain ⟨es3, hes3⟩ : ∃ e, holdE es2 sq bd = e := ⟨_, rfl⟩
      rw [hes3] at h9 hhl2 ⊢
      rw [hx1, hx2, hx3] at hhl2
      obtain ⟨hl1, hl2, hl3⟩ := hhl2
      clear hk8 h8 rB8 rB6 t08 t6
      repeat (first | refine T_seq ?_ | refine T_block ?_)
      refine T_loop (ι := ES) (fun _ => [(0, ptr p)]) (fun e w' => (∃ m' f', REndM w' base p m' f' e ∧ Turns f f' w w') ∧ drainE e.held.length e = drainE es3.held.length es3 ∧ e.exp + e.held.length ≤ 2 ^ 62 + 1 ∧ e.held.length + e.come.length ≤ 100001) (fun e => e.held.length) es3 (.c rfl (.n)) ⟨⟨m9, f9, h9, t9⟩, rfl, by rw [hl2]; omega, by rw [hl3]; omega⟩ ?_
      rintro e w10 ⟨⟨mm, ff, hh, tt⟩, hdr, hex, hco⟩ ih
      have hk := hh.blk
      unfold rendV at hk
      repeat (first | refine T_seq ?_ | refine T_region ?_ | refine TL_move (hk := ?_) | refine TL_load TE (hk := ?_) | refine TL_fieldAddr TE (hk := ?_) | refine TL_nilCheck (hk := ?_))
      refine TL_call TE (hc := Rheld_c e.exp _ hh (by omega)) (hk := ?_)
      rintro _ w11 ⟨rfl, ⟨rfl, hg⟩ | ⟨i0, hi0, rfl, hg0, hmd0⟩⟩
      · rw [drain_stop hg] at hdr
        clear ih
        repeat (first | refine T_seq ?_ | refine T_region ?_ | refine T_cond_false rfl ?_ | refine T_exit rfl ?_ | refine TL_ge_f (hk := ?_) | refine TL_nil ?_ | refine TL_assign (hk := ?_))
        exact T_ret1 rfl rfl ⟨rfl, mm, ff, by rw [← hdr]; exact hh, tt⟩
      repeat (first | refine T_seq ?_ | refine T_region ?_ | refine T_cond_true rfl ?_ | refine T_block ?_ | refine T_skip ?_ | refine TL_ge_t (hk := ?_) | refine TL_nil ?_ | refine TL_move (hk := ?_) | refine TL_load TE (hk := ?_) | refine TL_fieldAddr TE (hk := ?_) | refine TL_nilCheck (hk := ?_))
      refine TL_call TE (hc := Rheld_c e.exp _ hh (by omega)) (hk := ?_)
      rintro _ w11 ⟨rfl, ⟨rfl, hg⟩ | ⟨i, hi, rfl, hg, hmd⟩⟩
      · rw [hg] at hg0; cases hg0
      have l1 := hh.pc.1.len
      have l2 := hh.pc.2.len
      rw [slVs_length, Nat.mul_one] at l1
      have lk1 := hh.ph.1.len
      have lk2 := hh.ph.2.len
      rw [fv_len] at lk1
      have lk3 : (heldM e.held).length = e.held.length := by simp [heldM]
      have hik : i < mm.km.length := by omega
      have hdg := drain_go hg
      have hml := mdel_len _ _ _ hg
      have hbd2 : ((heldM e.held).getD i m0).body = (e.held[i]).2 := by simp [heldM, List.getD_eq_getElem?_getD, List.getElem?_eq_getElem hi]
      have rK := hh.ph.1.rd
      have hv1 : (fv mm.km)[i * 4 + 1]? = some (slV (mm.km.getD i fe0).sv) := fv_at mm.km i 1 hik (by omega)
      have hcomes := @REndM.comes
      have hcb : p ∉ blkL mm.co.1 := fun q => by have := hh.ki.kco p q; rw [hh.ki.kp] at this; cases this
      have hcK : Off mm.ke.1 (blkL mm.co.1) := off_of fun y q q' => by have := hh.ki.kke y q; rw [hh.ki.kco y q'] at this; cases this
      have hA : mm.ke.1 ≠ none := by obtain ⟨_, _, hq, _⟩ := rK.2 (by omega); rw [hq]; simp
      obtain ⟨x, hx⟩ : ∃ x, (mm.km.getD i fe0).sv = x := ⟨_, rfl⟩
      have hco0 := hh.pc.1
      have hb10 := hh.bw
      have hplt := (hh.ki.old p (by rw [hh.ki.kp]; decide)).2
      rw [hx] at hv1
      repeat (first | refine T_seq ?_ | refine TL_nil ?_ | refine TL_assign (hk := ?_))
      refine T_region_anyz TE.mixed (blkL mm.co.1) (some 17) ?_; intro w12 e12 z12
      have hk12 := hk.be e12
      have rK12 := rK.be e12
      (refine TA_take 0 rfl (by kernel_rfl) (by kernel_rfl) (by kernel_rfl) ?_; (repeat (first | refine TL_move (hk := ?_) | refine TLP_load TE (hk := ?_) | refine TLP_load_rd TE (hk := ?_) | refine TL_fieldAddr TE (hk := ?_) | refine TL_fieldAddr_e TE (hk := ?_) | refine TL_indexAddrn TE (hk := ?_) | refine TL_nilCheck (hk := ?_))); refine TL_nil_p ?_); (refine TA_take 1 rfl (by kernel_rfl) (by kernel_rfl) (by kernel_rfl) ?_; (repeat (first | refine TL_move (hk := ?_) | refine TLP_load TE (hk := ?_) | refine TLP_load_rd TE (hk := ?_) | refine TL_fieldAddr TE (hk := ?_) | refine TL_fieldAddr_e TE (hk := ?_) | refine TL_indexAddrn TE (hk := ?_) | refine TL_nilCheck (hk := ?_))); refine TL_nil_p ?_); (refine TA_take 2 rfl (by kernel_rfl) (by kernel_rfl) (by kernel_rfl) ?_; (repeat (first | refine TL_move (hk := ?_) | refine TLP_load TE (hk := ?_) | refine TLP_load_rd TE (hk := ?_) | refine TL_fieldAddr TE (hk := ?_) | refine TL_fieldAddr_e TE (hk := ?_) | refine TL_indexAddrn TE (hk := ?_) | refine TL_nilCheck (hk := ?_))); refine TL_nil_p ?_); (refine TA_take 3 rfl (by kernel_rfl) (by kernel_rfl) (by kernel_rfl) ?_; (repeat (first | refine TL_move (hk := ?_) | refine TLP_load TE (hk := ?_) | refine TLP_load_rd TE (hk := ?_) | refine TL_fieldAddr TE (hk := ?_) | refine TL_fieldAddr_e TE (hk := ?_) | refine TL_indexAddrn TE (hk := ?_) | refine TL_nilCheck (hk := ?_))); refine TL_nil_p ?_); (refine TA_take 4 rfl (by kernel_rfl) (by kernel_rfl) (by kernel_rfl) ?_; (repeat (first | refine TL_move (hk := ?_) | refine TLP_load TE (hk := ?_) | refine TLP_load_rd TE (hk := ?_) | refine TL_fieldAddr TE (hk := ?_) | refine TL_fieldAddr_e TE (hk := ?_) | refine TL_indexAddrn TE (hk := ?_) | refine TL_nilCheck (hk := ?_))); refine TL_nil_p ?_); (refine TA_take 5 rfl (by kernel_rfl) (by kernel_rfl) (by kernel_rfl) ?_; (repeat (first | refine TL_move (hk := ?_) | refine TLP_load TE (hk := ?_) | refine TLP_load_rd TE (hk := ?_) | refine TL_fieldAddr TE (hk := ?_) | refine TL_fieldAddr_e TE (hk := ?_) | refine TL_indexAddrn TE (hk := ?_) | refine TL_nilCheck (hk := ?_))); refine TL_nil_p ?_); (refine TA_take 6 rfl (by kernel_rfl) (by kernel_rfl) (by kernel_rfl) ?_; (repeat (first | refine TL_move (hk := ?_) | refine TLP_load TE (hk := ?_) | refine TLP_load_rd TE (hk := ?_) | refine TL_fieldAddr TE (hk := ?_) | refine TL_fieldAddr_e TE (hk := ?_) | refine TL_indexAddrn TE (hk := ?_) | refine TL_nilCheck (hk := ?_))); refine TL_nil_p ?_); (refine TA_take 7 rfl (by kernel_rfl) (by kernel_rfl) (by kernel_rfl) ?_; (repeat (first | refine TL_move (hk := ?_) | refine TLP_load TE (hk := ?_) | refine TLP_load_rd TE (hk := ?_) | refine TL_fieldAddr TE (hk := ?_) | refine TL_fieldAddr_e TE (hk := ?_) | refine TL_indexAddrn TE (hk := ?_) | refine TL_nilCheck (hk := ?_))); refine TL_nil_p ?_); (refine TA_take 8 rfl (by kernel_rfl) (by kernel_rfl) (by kernel_rfl) ?_; (repeat (first | refine TL_move (hk := ?_) | refine TLP_load TE (hk := ?_) | refine TLP_load_rd TE (hk := ?_) | refine TL_fieldAddr TE (hk := ?_) | refine TL_fieldAddr_e TE (hk := ?_) | refine TL_indexAddrn TE (hk := ?_) | refine TL_nilCheck (hk := ?_))); refine TL_nil_p ?_); (refine TA_take 9 rfl (by kernel_rfl) (by kernel_rfl) (by kernel_rfl) ?_; (repeat (first | refine TL_move (hk := ?_) | refine TLP_load TE (hk := ?_) | refine TLP_load_rd TE (hk := ?_) | refine TL_fieldAddr TE (hk := ?_) | refine TL_fieldAddr_e TE (hk := ?_) | refine TL_indexAddrn TE (hk := ?_) | refine TL_nilCheck (hk := ?_))); refine TL_nil_p ?_); (refine TA_take 10 rfl (by kernel_rfl) (by kernel_rfl) (by kernel_rfl) ?_; (repeat (first | refine TL_move (hk := ?_) | refine TLP_load TE (hk := ?_) | refine TLP_load_rd TE (hk := ?_) | refine TL_fieldAddr TE (hk := ?_) | refine TL_fieldAddr_e TE (hk := ?_) | refine TL_indexAddrn TE (hk := ?_) | refine TL_nilCheck (hk := ?_))); refine TL_nil_p ?_); (refine TA_take 11 rfl (by kernel_rfl) (by kernel_rfl) (by kernel_rfl) ?_; (repeat (first | refine TL_move (hk := ?_) | refine TLP_load TE (hk := ?_) | refine TLP_load_rd TE (hk := ?_) | refine TL_fieldAddr TE (hk := ?_) | refine TL_fieldAddr_e TE (hk := ?_) | refine TL_indexAddrn TE (hk := ?_) | refine TL_nilCheck (hk := ?_))); refine TL_nil_p ?_); (refine TA_take 12 rfl (by kernel_rfl) (by kernel_rfl) (by kernel_rfl) ?_; (repeat (first | refine TL_move (hk := ?_) | refine TLP_load TE (hk := ?_) | refine TLP_load_rd TE (hk := ?_) | refine TL_fieldAddr TE (hk := ?_) | refine TL_fieldAddr_e TE (hk := ?_) | refine TL_indexAddrn TE (hk := ?_) | refine TL_nilCheck (hk := ?_))); refine TL_nil_p ?_)
      refine TA_one 13 rfl (by kernel_rfl) (by kernel_rfl) ?_
      refine TL_buildSlice TE (hf := rfl) (hq := fun w' h => Ext.un h) (hk := ?_); intro b14 w14 e14 h14 h14' k14
      replace k14 : Blk w14 b14 23 (slVs [x]) := k14
      have r14 : Rd w14 (some ⟨b14, 0, none⟩) 1 1 (slVs [x]) := Rd.blk k14 rfl
      have e014 := e12.ext e14
      have z014 := e014.size
      refine TL_nil_p ?_
      refine TA_one 14 rfl (by kernel_rfl) (by kernel_rfl) ?_
      refine TL_append_g TE (hco0.be e014) r14 (slVs_one _) (hf := rfl) (hq := fun w' m => (Ext.un e14).trans m) (hk := ?_); intro A15 c15 w15 o15 m15 n15
      rw [← slVs_append] at o15
      refine TL_nil_p ?_
      (refine TA_one 15 rfl (by kernel_rfl) (by kernel_rfl) ?_; (repeat (first | refine TL_fieldAddr TE (hk := ?_) | refine TL_nilCheck (hk := ?_))); refine TL_nil_p ?_); (refine TA_one 16 rfl (by kernel_rfl) (by kernel_rfl) ?_; (repeat (first | refine TL_fieldAddr TE (hk := ?_) | refine TL_nilCheck (hk := ?_))); refine TL_nil_p ?_)
      refine TA_one 17 rfl (by kernel_rfl) (by kernel_rfl) ?_
      have hk15 := (hk.be e014).mod m15 hcb
      refine TL_store TE (hf := rfl) (hq := fun _ _ _ => trivial) (hb := hk15) (hk := ?_); intro w16 m16 z16 k16
      refine TL_nil_z (by kernel_rfl) ?_
      have n15b := Near.blk n15
      have M16 : Eng.Mod (p :: blkL mm.co.1) w11 w16 := ((e014.mono (S' := p :: blkL mm.co.1) (by simp)).step m15 (fun y q => .inl (List.mem_cons_of_mem _ q))).step m16 (fun y q => .inl (by rw [List.mem_singleton.1 q]; exact List.mem_cons_self))
      obtain ⟨f17, h17, t17⟩ := hh.comes hik (co' := (A15, mm.co.2.1 + 1, c15)) M16 k16 (by
        rw [hx]
        exact o15.mod m16 (off_of fun y q q' => by
          rw [List.mem_singleton] at q'
          subst q'
          rcases n15b y q with q2 | q2
          · exact hcb q2
          · omega)) (fun y q => (n15b y q).imp id (fun a => by omega))
      rw [hbd2] at h17
      have hk16 := h17.blk
      unfold rendV at hk16
      simp only at hk16
      have rK16 := h17.ph.1.rd
      simp only at rK16
      have hcK := h17.ph.1.cap
      simp only at hcK
      have hc1 : (i : Int) + 1 = ((i + 1 : Nat) : Int) := by omega
      have hbw17 := h17.bw
      clear hk hk12 hk15 rK rK12 k16
      repeat (refine T_seq ?_)
      refine T_region_anyz TE.mixed ([] : List Nat) (some 19) ?_; intro w18 e18 z18
      have hk18 := hk16.be e18
      have rK18 := rK16.be e18
      (refine TA_take 0 rfl (by kernel_rfl) (by kernel_rfl) (by kernel_rfl) ?_; (repeat (first | refine TL_add (hk := ?_) | refine TL_move (hk := ?_) | refine TLP_load TE (hk := ?_) | refine TL_fieldAddr TE (hk := ?_) | refine TL_nilCheck (hk := ?_) | refine TL_slice_hi TE (hk := ?_))); refine TL_nil_p ?_); (refine TA_take 2 rfl (by kernel_rfl) (by kernel_rfl) (by kernel_rfl) ?_; (repeat (first | refine TL_add (hk := ?_) | refine TL_move (hk := ?_) | refine TLP_load TE (hk := ?_) | refine TL_fieldAddr TE (hk := ?_) | refine TL_nilCheck (hk := ?_) | refine TL_slice_hi TE (hk := ?_))); refine TL_nil_p ?_); (refine TA_take 3 rfl (by kernel_rfl) (by kernel_rfl) (by kernel_rfl) ?_; (repeat (first | refine TL_add (hk := ?_) | refine TL_move (hk := ?_) | refine TLP_load TE (hk := ?_) | refine TL_fieldAddr TE (hk := ?_) | refine TL_nilCheck (hk := ?_) | refine TL_slice_hi TE (hk := ?_))); refine TL_nil_p ?_); (refine TA_take 4 rfl (by kernel_rfl) (by kernel_rfl) (by kernel_rfl) ?_; (repeat (first | refine TL_add (hk := ?_) | refine TL_move (hk := ?_) | refine TLP_load TE (hk := ?_) | refine TL_fieldAddr TE (hk := ?_) | refine TL_nilCheck (hk := ?_) | refine TL_slice_hi TE (hk := ?_))); refine TL_nil_p ?_); (refine TA_take 5 rfl (by kernel_rfl) (by kernel_rfl) (by kernel_rfl) ?_; (repeat (first | refine TL_add (hk := ?_) | refine TL_move (hk := ?_) | refine TLP_load TE (hk := ?_) | refine TL_fieldAddr TE (hk := ?_) | refine TL_nilCheck (hk := ?_) | refine TL_slice_hi TE (hk := ?_))); refine TL_nil_p ?_); (refine TA_take 6 rfl (by kernel_rfl) (by kernel_rfl) (by kernel_rfl) ?_; (repeat (first | refine TL_add (hk := ?_) | refine TL_move (hk := ?_) | refine TLP_load TE (hk := ?_) | refine TL_fieldAddr TE (hk := ?_) | refine TL_nilCheck (hk := ?_) | refine TL_slice_hi TE (hk := ?_))); refine TL_nil_p ?_); (refine TA_take 7 rfl (by kernel_rfl) (by kernel_rfl) (by kernel_rfl) ?_; (repeat (first | refine TL_add (hk := ?_) | refine TL_move (hk := ?_) | refine TLP_load TE (hk := ?_) | refine TL_fieldAddr TE (hk := ?_) | refine TL_nilCheck (hk := ?_) | refine TL_slice_hi TE (hk := ?_))); refine TL_nil_p ?_); (refine TA_take 9 rfl (by kernel_rfl) (by kernel_rfl) (by kernel_rfl) ?_; (repeat (first | refine TL_add (hk := ?_) | refine TL_move (hk := ?_) | refine TLP_load TE (hk := ?_) | refine TL_fieldAddr TE (hk := ?_) | refine TL_nilCheck (hk := ?_) | refine TL_slice_hi TE (hk := ?_))); refine TL_nil_p ?_); (refine TA_take 10 rfl (by kernel_rfl) (by kernel_rfl) (by kernel_rfl) ?_; (repeat (first | refine TL_add (hk := ?_) | refine TL_move (hk := ?_) | refine TLP_load TE (hk := ?_) | refine TL_fieldAddr TE (hk := ?_) | refine TL_nilCheck (hk := ?_) | refine TL_slice_hi TE (hk := ?_))); refine TL_nil_p ?_); (refine TA_take 11 rfl (by kernel_rfl) (by kernel_rfl) (by kernel_rfl) ?_; (repeat (first | refine TL_add (hk := ?_) | refine TL_move (hk := ?_) | refine TLP_load TE (hk := ?_) | refine TL_fieldAddr TE (hk := ?_) | refine TL_nilCheck (hk := ?_) | refine TL_slice_hi TE (hk := ?_))); refine TL_nil_p ?_); (refine TA_take 12 rfl (by kernel_rfl) (by kernel_rfl) (by kernel_rfl) ?_; (repeat (first | refine TL_add (hk := ?_) | refine TL_move (hk := ?_) | refine TLP_load TE (hk := ?_) | refine TL_fieldAddr TE (hk := ?_) | refine TL_nilCheck (hk := ?_) | refine TL_slice_hi TE (hk := ?_))); refine TL_nil_p ?_); (refine TA_take 13 rfl (by kernel_rfl) (by kernel_rfl) (by kernel_rfl) ?_; (repeat (first | refine TL_add (hk := ?_) | refine TL_move (hk := ?_) | refine TLP_load TE (hk := ?_) | refine TL_fieldAddr TE (hk := ?_) | refine TL_nilCheck (hk := ?_) | refine TL_slice_hi TE (hk := ?_))); refine TL_nil_p ?_); (refine TA_take 14 rfl (by kernel_rfl) (by kernel_rfl) (by kernel_rfl) ?_; (repeat (first | refine TL_add (hk := ?_) | refine TL_move (hk := ?_) | refine TLP_load TE (hk := ?_) | refine TL_fieldAddr TE (hk := ?_) | refine TL_nilCheck (hk := ?_) | refine TL_slice_hi TE (hk := ?_))); refine TL_nil_p ?_)
      rw [hc1]
      (refine TA_take 15 rfl (by kernel_rfl) (by kernel_rfl) (by kernel_rfl) ?_; (repeat (refine TL_slice_lo TE (hk := ?_))); refine TL_nil_p ?_)
      refine TA_one 1 rfl (by kernel_rfl) (by kernel_rfl) ?_
      refine TL_buildSlice0 TE (hf := rfl) (hq := fun w' h => Ext.un h) (hk := ?_); intro b19 w19 e19 h19 h19' k19
      have o19 : Own w19 w18.heap.size 125 4 (some ⟨b19, 0, none⟩) 0 0 [] := Own.of_blk k19 h19 rfl (by decide)
      have rp : Rd w19 mm.ke.1 i 4 (fv (mm.km.take i)) := by
        have := Rd.take (h := i) (rK18.be e19) (by omega)
        rwa [fv_take] at this
      refine TL_nil_p ?_
      refine TA_one 8 rfl (by kernel_rfl) (by kernel_rfl) ?_
      refine TL_append TE (ho := o19) (hr := rp) (h1 := fv_one _) (hf := rfl) (hq := fun w' m => Ext.un (Mod.own e19 m o19.hi)) (hk := ?_); intro A20 c20 w20 o20 m20 n20
      rw [List.nil_append] at o20
      have e20 : Ext w18 w20 := Mod.own e19 m20 o19.hi
      have z20 := e20.size
      have rs : Rd w20 (cutA mm.ke.1 mm.ke.2.2 (i + 1) 4) (mm.ke.2.1 - (i + 1)) 4 (fv (mm.km.drop (i + 1))) := by
        have := Rd.cut (l := i + 1) (h := mm.ke.2.1) (c := mm.ke.2.2) (rK18.be e20) (by omega) (Nat.le_refl _) hcK.1
        rwa [fv_drop, List.take_of_length_le (by rw [fv_len, List.length_drop]; omega)] at this
      refine TL_nil_p ?_
      refine TA_one 16 rfl (by kernel_rfl) (by kernel_rfl) ?_
      refine TL_append TE (ho := o20) (hr := rs) (h1 := fv_one _) (hf := rfl) (hq := fun w' m => Ext.un (Mod.own e20 m o20.hi)) (hk := ?_); intro A21 c21 w21 o21 m21 n21
      rw [← fv_append] at o21
      have e21 : Ext w18 w21 := Mod.own e20 m21 o20.hi
      refine TL_nil_p ?_
      (refine TA_one 17 rfl (by kernel_rfl) (by kernel_rfl) ?_; (repeat (first | refine TL_fieldAddr TE (hk := ?_) | refine TL_nilCheck (hk := ?_))); refine TL_nil_p ?_); (refine TA_one 18 rfl (by kernel_rfl) (by kernel_rfl) ?_; (repeat (first | refine TL_fieldAddr TE (hk := ?_) | refine TL_nilCheck (hk := ?_))); refine TL_nil_p ?_)
      refine TA_one 19 rfl (by kernel_rfl) (by kernel_rfl) ?_
      have e1621 := e18.ext e21
      have hk21 := hk16.be e1621
      refine TL_store TE (hf := rfl) (hq := fun _ _ _ => trivial) (hb := hk21) (hk := ?_); intro w22 m22 z22 k22
      refine TL_nil_z (by kernel_rfl) ?_
      have hce : ((e.exp : Nat) : Int) + 1 = ((e.exp + 1 : Nat) : Int) := by omega
      have z1621 := e1621.size
      have z21 := e21.size
      have z18' := e18.size
      clear hk16 hk18 hk21 rK16 rK18 rp rs
      repeat (first | refine T_region ?_ | refine TL_add (hk := ?_) | refine TL_move (hk := ?_) | refine TL_load TE (hk := ?_) | refine TL_fieldAddr TE (hk := ?_) | refine TL_nilCheck (hk := ?_))
      rw [hce]
      refine TL_store TE (hk := ?_); intro w23 m23 z23 k23
      have M23 : Eng.Mod [p] w16 w23 := ((e1621.mono (S' := [p]) (by simp)).trans m22).trans m23
      have hA21 : ∀ y ∈ blkL A21, w18.heap.size ≤ y := Hi.blk o21.hi
      have hpl : p < w16.heap.size := (h17.ki.old p (by rw [h17.ki.kp]; decide)).2
      have hA21p : ∀ y ∈ blkL A21, y ∉ [p] := fun y q q' => by
        rw [List.mem_singleton] at q'
        have := hA21 y q
        omega
      have hhe : heldM (mdel e.held e.exp) = (heldM e.held).take i ++ (heldM e.held).drop (i + 1) := by rw [hmd]; simp [heldM, List.map_take, List.map_drop]
      obtain ⟨m24, f24, h24, t24⟩ := h17.gone (km' := mm.km.take i ++ mm.km.drop (i + 1)) (held' := mdel e.held e.exp) (fun y q => by
        rcases List.mem_append.1 q with q | q
        · exact List.mem_of_mem_take q
        · exact List.mem_of_mem_drop q) (fun w2 hf => by rw [hhe]; exact (FB.take i hf).append (FB.drop (i + 1) hf)) (ke' := (A21, 0 + i + (mm.ke.2.1 - (i + 1)), c21)) M23 k23 (((o21.mod m22 (off_of hA21p)).mod m23 (off_of hA21p)).weaken (by omega)) (fun y q => by have := hA21 y q; omega)
      repeat (first | refine T_inBlock ?_ | refine TL_nil ?_)
      refine ih _ w23 _ ?_ ⟨⟨m24, f24, h24, (tt.trans t17 hold).trans t24 hold⟩, ?_, ?_, ?_⟩ (.c rfl (.n))
      · simp only; omega
      · rw [← hdr, hdg]
      · simp only; omega
      · simp only [List.length_append, List.length_cons, List.length_nil]; omega
end
end Go.Proofs.Ytjjgojgahibpgaa

namespace Go.Proofs.Ytjjgojgahibpgaa
open Go.RowKit Go.Proofs.Eng Go.Proofs.Codec Go.Proofs.Link
set_option linter.unusedSimpArgs false
set_option linter.unusedVariables false set_option maxRecDepth 10000
attribute [local irreducible] T TL LV TH TA
section
variable {w0 w w' : World} {base p : Nat} {m m' : EM} {r : RM} {f f' g : Nat → Nat} {es es' : ES}
theorem REndM.other (h : REndM w base p r g es) (t : Turns f f' w w') (hd : ∀ b, f b = 0 ∨ g b = 0) : REndM w' base p r g es ∧ ∀ b, f' b = 0 ∨ g b = 0 := by
  obtain ⟨⟨S, m1, s1⟩, n1, z1⟩ := t
  refine ⟨h.mod m1 (fun b hb => (hd b).resolve_left (s1 b hb)), fun b => ?_⟩
  by_cases q : f' b = 0
  · exact .inl q
  · right
    rcases n1 b q with h1 | h1
    · exact (hd b).resolve_left h1
    · by_cases y : g b = 0
      · exact y
      · have := (h.ki.old b y).2; omega
/-- An end of the program, an end of the document, apart. -/
structure PR (w0 w : World) (ba pa : Nat) (ma : EM) (fa : Nat → Nat) (ea : ES) (bb pb : Nat) (mb : RM) (fb : Nat → Nat) (eb : ES) : Prop where
  e : Ext w0 w
  A : EndM w ba pa ma fa ea
  B : REndM w bb pb mb fb eb
  dj : ∀ b, fa b = 0 ∨ fb b = 0
  ha : w0.heap.size ≤ ba
  hb : w0.heap.size ≤ bb
variable {ba pa bb pb : Nat} {ma : EM} {mb : RM} {fa fb : Nat → Nat} {ea eb : ES}
theorem PR.a (T : PR w0 w ba pa ma fa ea bb pb mb fb eb) {m' : EM} {f' : Nat → Nat} {es' : ES} (h : EndM w' ba pa m' f' es') (t : Turns fa f' w w') : PR w0 w' ba pa m' f' es' bb pb mb fb eb := by
  obtain ⟨h2, d2⟩ := T.B.other t T.dj
  exact ⟨t.ext0 T.e (fun b hb => Nat.le_trans T.ha (T.A.ki.old b hb).1), h, h2, d2, T.ha, T.hb⟩
theorem PR.b (T : PR w0 w ba pa ma fa ea bb pb mb fb eb) {m' : RM} {f' : Nat → Nat} {es' : ES} (h : REndM w' bb pb m' f' es') (t : Turns fb f' w w') : PR w0 w' ba pa ma fa ea bb pb m' f' es' := by
  obtain ⟨h2, d2⟩ := T.A.other t (fun b => (T.dj b).symm)
  exact ⟨t.ext0 T.e (fun b hb => Nat.le_trans T.hb (T.B.ki.old b hb).1), h2, h, fun b => (d2 b).symm, T.ha, T.hb⟩
theorem PR.ext (T : PR w0 w ba pa ma fa ea bb pb mb fb eb) (e : Ext w w') : PR w0 w' ba pa ma fa ea bb pb mb fb eb := ⟨T.e.ext e, T.A.ext e, T.B.ext e, T.dj, T.ha, T.hb⟩
/-- What is neither's own may turn. -/
theorem PR.mod (T : PR w0 w ba pa ma fa ea bb pb mb fb eb) {S : List Nat} (m : Eng.Mod S w w') (h0 : ∀ b ∈ S, w0.heap.size ≤ b) (h1 : ∀ b ∈ S, fa b = 0) (h2 : ∀ b ∈ S, fb b = 0) : PR w0 w' ba pa ma fa ea bb pb mb fb eb :=
  ⟨T.e.step m (fun b q => .inr (h0 b q)), T.A.mod m h1, T.B.mod m h2, T.dj, T.ha, T.hb⟩
/-- All old blocks that one of them owns. -/
def ownD (w : World) (fa fb : Nat → Nat) : List Nat := (List.range w.heap.size).filter fun b => decide (fa b ≠ 0 ∨ fb b ≠ 0)
theorem ownD_mem {fa fb : Nat → Nat} {b : Nat} (h : b ∈ ownD w fa fb) : fa b ≠ 0 ∨ fb b ≠ 0 := by
  have := (List.mem_filter.1 h).2
  simpa using this
theorem PR.off (T : PR w0 w ba pa ma fa ea bb pb mb fb eb) {A : Option Addr} (h : Lo A w0.heap.size) : Off A (ownD w fa fb) := off_of fun b q q' => by
  have h1 := Lo.blk h b q
  have h2 := T.ha
  have h3 := T.hb
  rcases ownD_mem q' with q' | q'
  · have := (T.A.ki.old b q').1; omega
  · have := (T.B.ki.old b q').1; omega
end
theorem ret_q {P : Program} {g : FuncId} {a : List Value} {w : World} {x : Value} (h : Ret P g a w (fun v w' => v = x ∧ w' = w)) : Ret P g a w (fun v w' => v = x ∧ Ext w w') :=
  h.mono (fun v w' q => ⟨q.1, by rw [q.2]; exact Mod.refl _ _⟩)
theorem spoil_c26 (A : Option Addr) (n c base : Nat) (l : Bs) (w : World) (h : Own w base 5 1 A n c (bv l)) (hn : n ≤ 9223372036854775807) :
    Ret Try.prog 36 [.slice A n c] w (fun v w' => Eng.Mod (blkL A) w w') := by
  have hl : l.length = n := by simpa using h.len
  refine ret_T (n := 17) Try.func36 rfl rfl ?_
  repeat (first | refine T_seq ?_ | refine T_region ?_ | refine T_block ?_ | refine TL_nil ?_ | refine TL_assign (hk := ?_))
  refine T_loop (ι := Nat × Bs) (fun i => [(2, .int .i64 (i.1 : Int)), (0, .slice A n c)]) (fun i w' => i.1 ≤ n ∧ i.2.length = n ∧ Own w' base 5 1 A n c (bv i.2) ∧ Eng.Mod (blkL A) w w') (fun i => n - i.1) (0, l) (.c rfl (.c rfl (.n))) ⟨Nat.zero_le _, hl, h, Mod.refl _ _⟩ ?_
  rintro ⟨i, l1⟩ w1 ⟨hi, hl1, o1, m1⟩ ih
  simp only at hi hl1 o1 m1 ih ⊢
  by_cases hlt : i < n
  · have r1 := o1.rd
    have hA : A ≠ none := by obtain ⟨_, _, hq, _⟩ := r1.2 (by omega); rw [hq]; simp
    have hg := gb_lt l1 i
    have hx : gb l1 i ^^^ 85 < 256 := Nat.xor_lt_two_pow (n := 8) hg (by decide)
    repeat (first | refine T_seq ?_ | refine T_region ?_ | refine T_cond_true rfl ?_ | refine T_block ?_ | refine T_skip ?_ | refine TL_lt_t (hk := ?_) | (refine TL_xor (hk := ?_); intro _) | refine TL_nil ?_ | refine TL_move (hk := ?_) | (refine TL_load_b TE (hk := ?_); intro _) | refine TL_indexAddr1n TE (hk := ?_) | refine TL_len TE (hk := ?_))
    refine TL_store_own TE (hk := ?_); intro w2 m2 z2 o2
    repeat (first | refine T_region ?_ | refine T_inBlock ?_ | refine TL_add (hk := ?_) | refine TL_nil ?_ | refine TL_move (hk := ?_) | refine TL_assign (hk := ?_))
    refine ih (i + 1, l1.set i (UInt8.ofNat (gb l1 i ^^^ 85))) w2 _ (by simp only; omega) ⟨by simp only; omega, by simpa using hl1, ?_, m1.trans m2⟩ (.c rfl (.c rfl (.n)))
    simp only
    rw [← bv_set _ _ _ hx]
    exact o2
  · have : n = i := by omega
    clear ih
    repeat (first | refine T_seq ?_ | refine T_region ?_ | refine T_cond_false rfl ?_ | refine T_exit rfl ?_ | refine TL_lt_f (hk := ?_) | refine TL_nil ?_ | refine TL_move (hk := ?_) | refine TL_len TE (hk := ?_))
    exact T_end0 rfl m1
theorem frames_c26 (O Q : SV) (xs ys : List SV) (bs : List Bs) (w : World) {b1 b2 : Nat} (hO : Rd w O.1 O.2.1 1 (slVs xs)) (hQ : Rd w Q.1 Q.2.1 1 (slVs ys)) (hx : Bods w b1 xs bs) (hy : Bods w b2 ys bs) (hn : O.2.1 ≤ 1000000) :
    Ret Try.prog 34 [slV O, slV Q] w (fun v w' => v = .bool true ∧ Ext w w') := by
  have l1 := hx.len
  have l2 := hy.len
  have l3 : xs.length = O.2.1 := by have := hO.1; simpa using this
  have l4 : ys.length = Q.2.1 := by have := hQ.1; simpa using this
  refine ret_T (n := 27) Try.func34 rfl rfl ?_
  repeat (first | refine T_seq ?_ | refine T_region ?_ | refine T_cond_false rfl ?_ | refine T_block ?_ | refine T_skip ?_ | refine TL_ne_f (hk := ?_) | refine TL_nil ?_ | refine TL_move (hk := ?_) | refine TL_assign (hk := ?_) | refine TL_len TE (hk := ?_))
  refine T_loop (ι := Nat) (fun i => [(5, .int .i64 (i : Int)), (0, slV O), (1, slV Q)]) (fun i w' => i ≤ O.2.1 ∧ Ext w w') (fun i => O.2.1 - i) 0 (.c rfl (.c rfl (.c rfl (.n)))) ⟨Nat.zero_le _, Mod.refl _ _⟩ ?_
  rintro i w1 ⟨hi, e1⟩ ih
  by_cases hlt : i < O.2.1
  · have rO := hO.be e1
    have rQ := hQ.be e1
    have hA : O.1 ≠ none := by obtain ⟨_, _, hq, _⟩ := rO.2 (by omega); rw [hq]; simp
    have hB : Q.1 ≠ none := by obtain ⟨_, _, hq, _⟩ := rQ.2 (by omega); rw [hq]; simp
    have hv := slVs_get xs i (by omega)
    have hu := slVs_get ys i (by omega)
    have gx := hx.get i (by omega)
    have gy := hy.get i (by omega)
    generalize xs.getD i (none, 0, 0) = x at hv gx
    generalize ys.getD i (none, 0, 0) = y at hu gy
    generalize bs.getD i [] = b at gx gy
    have hxr := Own.rd (gx.mod e1 (fun b q q' => by cases q'))
    have hyr := Own.rd (gy.mod e1 (fun b q q' => by cases q'))
    repeat (first | refine T_seq ?_ | refine T_region ?_ | refine T_region_q TE.mixed (by kernel_rfl) ?_ | refine T_cond_true rfl ?_ | refine T_block ?_ | refine T_skip ?_ | refine TL_lt_t (hk := ?_) | refine TL_nil ?_ | refine TL_move (hk := ?_) | refine TL_load_rd TE (hk := ?_) | refine TL_indexAddr1n TE (hk := ?_) | refine TL_len TE (hk := ?_))
    refine TL_call_q TE rfl rfl rfl ((fun w' e' => ret_q (same_c26 x.1 y.1 x.2.1 x.2.2 y.2.1 y.2.2 b b w' (hxr.be e') (hyr.be e')))) ?_
    rw [decide_eq_true rfl]
    repeat (refine TL_not (hk := ?_))
    refine TL_nil_q ?_; intro w3 e3
    repeat (first | refine T_region ?_ | refine T_cond_false rfl ?_ | refine T_inBlock ?_ | refine T_skip ?_ | refine TL_add (hk := ?_) | refine TL_nil ?_ | refine TL_move (hk := ?_) | refine TL_assign (hk := ?_))
    exact ih (i + 1) _ _ (by omega) ⟨by omega, e1.ext e3⟩ (.c rfl (.c rfl (.c rfl (.n))))
  · have : O.2.1 = i := by omega
    clear ih
    repeat (first | refine T_seq ?_ | refine T_region ?_ | refine T_cond_false rfl ?_ | refine T_exit rfl ?_ | refine TL_lt_f (hk := ?_) | refine TL_nil ?_ | refine TL_move (hk := ?_) | refine TL_assign (hk := ?_) | refine TL_len TE (hk := ?_))
    exact T_ret1 rfl rfl ⟨rfl, e1⟩
theorem stands_c26 (w : World) {ba pa bb pb : Nat} {ma : EM} {mb : RM} {fa fb : Nat → Nat} {es : ES} (hA : EndM w ba pa ma fa es) (hB : REndM w bb pb mb fb es) :
    Ret Try.prog 40 [ptr pa, ptr pb] w (fun v w' => v = .bool true ∧ Ext w w') := by
  have hk := hB.blk
  unfold rendV at hk
  have l1 := hB.pu.1.len
  have l2 := hB.pu.2.len
  rw [slVs_length, Nat.mul_one] at l1
  have l3 := hB.pf.1.len
  have l4 := hB.pf.2.len
  rw [fv_len] at l3
  have l5 := hB.ph.1.len
  have l6 := hB.ph.2.len
  rw [fv_len] at l5
  have l7 : (heldM es.held).length = es.held.length := by simp [heldM]
  refine ret_T (n := 51) Try.func40 rfl rfl ?_
  repeat (first | refine T_seq ?_ | refine T_region ?_ | refine T_region_q TE.mixed (by kernel_rfl) ?_ | refine TL_nil ?_ | refine TL_move (hk := ?_) | refine TL_assign (hk := ?_))
  refine TL_call_q TE rfl rfl rfl ((fun w' e' => ret_q (Unsent_c w' (hA.ext e')))) ?_
  repeat (first | refine TL_eq_t (hk := ?_) | refine TL_move (hk := ?_) | refine TL_load TE (hk := ?_) | refine TL_fieldAddr TE (hk := ?_) | refine TL_len TE (hk := ?_) | refine TL_yes (hk := ?_) | refine TL_nilCheck (hk := ?_))
  refine TL_call_q TE rfl rfl rfl ((fun w' e' => ret_q (Flying_c w' (hA.ext e')))) ?_
  repeat (first | refine TL_eq_t (hk := ?_) | refine TL_move (hk := ?_) | refine TL_load TE (hk := ?_) | refine TL_fieldAddr TE (hk := ?_) | refine TL_len TE (hk := ?_) | refine TL_yes (hk := ?_) | refine TL_pick_t (hk := ?_) | refine TL_nilCheck (hk := ?_))
  refine TL_call_q TE rfl rfl rfl ((fun w' e' => ret_q (Held_c w' (hA.ext e')))) ?_
  repeat (first | refine TL_eq_t (hk := ?_) | refine TL_move (hk := ?_) | refine TL_load TE (hk := ?_) | refine TL_fieldAddr TE (hk := ?_) | refine TL_len TE (hk := ?_) | refine TL_yes (hk := ?_) | refine TL_pick_t (hk := ?_) | refine TL_nilCheck (hk := ?_))
  refine TL_call_q TE rfl rfl rfl ((fun w' e' => ret_q (Sent_c w' (hA.ext e')))) ?_
  repeat (first | refine TL_eq_t (hk := ?_) | refine TL_move (hk := ?_) | refine TL_load TE (hk := ?_) | refine TL_fieldAddr TE (hk := ?_) | refine TL_yes (hk := ?_) | refine TL_pick_t (hk := ?_) | refine TL_nilCheck (hk := ?_))
  refine TL_call_q TE rfl rfl rfl ((fun w' e' => ret_q (Expects_c w' (hA.ext e')))) ?_
  repeat (first | refine TL_eq_t (hk := ?_) | refine TL_move (hk := ?_) | refine TL_assign (hk := ?_) | refine TL_load TE (hk := ?_) | refine TL_fieldAddr TE (hk := ?_) | refine TL_yes (hk := ?_) | refine TL_pick_t (hk := ?_) | refine TL_nilCheck (hk := ?_))
  refine TL_nil_q ?_; intro w3 e3
  --
  exact T_ret1 rfl rfl ⟨rfl, e3⟩
theorem blkS_get {xs : List SV} {j : Nat} (h : j < xs.length) {b : Nat} (hb : b ∈ blkL (xs.getD j (none, 0, 0)).1) : b ∈ blkS xs := by
  unfold blkS
  rw [List.mem_flatMap]
  refine ⟨_, ?_, hb⟩
  rw [List.getD_eq_getElem?_getD, List.getElem?_eq_getElem h]
  exact List.getElem_mem _
theorem blkS_disj : ∀ {xs : List SV} (_ : (blkS xs).Nodup) {j k : Nat} (_ : j < xs.length) (_ : k < xs.length) (_ : j ≠ k), ∀ b ∈ blkL (xs.getD j (none, 0, 0)).1, b ∉ blkL (xs.getD k (none, 0, 0)).1
  | [], _, j, k, hj, _, _ => by simp at hj
  | x :: xs, h, j, k, hj, hk, hjk => by
    rw [blkS_cons, List.nodup_append] at h
    intro b hb hb'
    cases j with
    | zero =>
      cases k with
      | zero => exact hjk rfl
      | succ k => exact h.2.2 b hb b (blkS_get (j := k) (by simpa using hk) (by simpa using hb')) rfl
    | succ j =>
      cases k with
      | zero => exact h.2.2 b hb' b (blkS_get (j := j) (by simpa using hj) (by simpa using hb)) rfl
      | succ k => exact blkS_disj h.2.1 (j := j) (k := k) (by simpa using hj) (by simpa using hk) (by omega) b (by simpa using hb) (by simpa using hb')
theorem Turns.inD {f f' : Nat → Nat} {w0 w w' : World} {D : List Nat} (t : Turns f f' w w') (m : Eng.Mod D w0 w) (hD : ∀ b, b < w0.heap.size → f b ≠ 0 → b ∈ D) : Eng.Mod D w0 w' := by
  obtain ⟨⟨S, m1, s1⟩, n1, z1⟩ := t
  refine m.step m1 (fun b hb => ?_)
  by_cases q : b < w0.heap.size
  · exact .inl (hD b q (s1 b hb))
  · exact .inr (by omega)
theorem ownD_in {w w5 : World} {fa fb : Nat → Nat} (z : w5.heap.size = w.heap.size) : (∀ b, b < w5.heap.size → fa b ≠ 0 → b ∈ ownD w fa fb) ∧ ∀ b, b < w5.heap.size → fb b ≠ 0 → b ∈ ownD w fa fb :=
  ⟨fun b h q => List.mem_filter.2 ⟨List.mem_range.2 (by omega), by simpa using .inl q⟩, fun b h q => List.mem_filter.2 ⟨List.mem_range.2 (by omega), by simpa using .inr q⟩⟩
end Go.Proofs.Ytjjgojgahibpgaa

/- What flies, flies by rising numbers. -/
namespace Go.Proofs.Ytjjgojgahibpgaa
open Go.Proofs.Eng Go.Proofs.Codec Go.Proofs.Link
set_option linter.unusedSimpArgs false
set_option linter.unusedVariables false
def Srt (es : ES) : Prop := es.fly.Pairwise fun a b => a.seq < b.seq
theorem Srt.new {W P : Nat} : Srt (nE W P) := by simp [Srt, nE]
theorem Srt.send {es : ES} (h : Srt es) (b : Bs) : Srt (sendE es b).1 := by
  unfold sendE
  split
  · exact h
  · split <;> exact h
theorem Srt.fill {W P : Nat} (hP : 1 ≤ P) : ∀ (f i : Nat) {es : ES}, WinI W P i es → Srt es → Srt (fillE f es)
  | 0, i, es, _, h => h
  | f + 1, i, es, hw, h => by
    rw [fillE_succ]
    by_cases h1 : es.fly.length < es.win
    · rw [if_pos h1]
      cases hn : es.new with
      | nil => exact h
      | cons b t =>
        have h2 := WinI.fill hP 1 i hw
        rw [show fillE 1 es = { es with fly := es.fly ++ [⟨es.next, b, 0, true⟩], new := t, next := es.next + 1 } by rw [fillE_succ, if_pos h1, hn]; rfl] at h2
        refine Srt.fill hP f i h2 ?_
        unfold Srt at h ⊢
        simp only
        rw [List.pairwise_append]
        refine ⟨h, List.pairwise_singleton _ _, fun a ha c hc => ?_⟩
        rw [List.mem_singleton.1 hc]
        exact (hw.fb a ha).2.1
    · rw [if_neg h1]; exact h
theorem Srt.map {es es' : ES} (h : Srt es) (g : Msg → Msg) (hg : ∀ q, (g q).seq = q.seq) (he : es'.fly = es.fly.map g) : Srt es' := by
  unfold Srt at h ⊢
  rw [he, List.pairwise_map]
  exact h.imp (fun {a b} q => by rw [hg, hg]; exact q)
theorem Srt.out {W P i : Nat} {es : ES} (hP : 1 ≤ P) (hw : WinI W P i es) (h : Srt es) : Srt (outE es).1 :=
  (Srt.fill hP es.new.length i hw h).map undue (fun _ => rfl) rfl
theorem Srt.tick {es : ES} (h : Srt es) : Srt (tickE es) := h.map (tickM es.pat) (fun q => by unfold tickM; split <;> rfl) rfl
theorem drain_fly : ∀ (f : Nat) (es : ES), (drainE f es).fly = es.fly
  | 0, es => rfl
  | f + 1, es => by
    unfold drainE
    cases mget es.held es.exp with
    | none => rfl
    | some b => exact drain_fly f _
theorem data_fly (es : ES) (q : Nat) (b : Bs) : (dataE es q b).fly = es.fly := by
  unfold dataE
  simp only
  rw [drain_fly]
  unfold holdE
  split <;> rfl
theorem Srt.recv {es : ES} (h : Srt es) (b : Bs) : Srt (recvE es b).1 := by
  have ha : ∀ ak, Srt (ackE es ak) := fun ak => by
    unfold Srt at h ⊢
    exact h.filter _
  unfold recvE
  simp only
  split
  · exact h
  split
  · exact h
  split
  · exact h
  split
  · exact ha _
  · show List.Pairwise _ (dataE _ _ _).fly
    rw [data_fly]
    exact ha _
theorem Srt.ack {es : ES} (h : Srt es) (ak : Nat) : es.fly.dropWhile (fun q => decide (q.seq < ak)) = (ackE es ak).fly := by
  unfold Srt at h
  unfold ackE
  simp only
  generalize es.fly = l at h ⊢
  induction l with
  | nil => rfl
  | cons q t ih =>
    rw [List.pairwise_cons] at h
    replace ih := ih h.2
    rw [List.dropWhile_cons, List.filter_cons]
    by_cases e : q.seq < ak
    · simp only [e, decide_true, if_true, Bool.not_true, Bool.false_eq_true, if_false]
      exact ih
    · simp only [e, decide_false, Bool.false_eq_true, if_false, Bool.not_false, if_true]
      congr 1
      symm
      rw [List.filter_eq_self]
      intro x hx
      have := h.1 x hx
      simp
      omega
end Go.Proofs.Ytjjgojgahibpgaa

namespace Go.Proofs.Ytjjgojgahibpgaa
open Go.RowKit Go.Proofs.Eng Go.Proofs.Codec Go.Proofs.Link
set_option linter.unusedSimpArgs false
set_option linter.unusedVariables false set_option maxRecDepth 10000
attribute [local irreducible] T TL LV TH TA
set_option maxHeartbeats 3200000
/-- A row of bytes that neither end owns. -/
def Gv (w : World) (base : Nat) (x : SV) (l : Bs) (fa fb : Nat → Nat) : Prop := Body w base x l ∧ (∀ b ∈ blkL x.1, fa b = 0) ∧ ∀ b ∈ blkL x.1, fb b = 0
theorem Gv.a {w w' : World} {base : Nat} {x : SV} {l : Bs} {fa fb fa' : Nat → Nat} (h : Gv w base x l fa fb) (t : Turns fa fa' w w') : Gv w' base x l fa' fb := by
  obtain ⟨h1, h2⟩ := h.1.turn t h.2.1
  exact ⟨h1, h2, h.2.2⟩
theorem Gv.b {w w' : World} {base : Nat} {x : SV} {l : Bs} {fa fb fb' : Nat → Nat} (h : Gv w base x l fa fb) (t : Turns fb fb' w w') : Gv w' base x l fa fb' := by
  obtain ⟨h1, h2⟩ := h.1.turn t h.2.2
  exact ⟨h1, h.2.1, h2⟩
theorem Gv.mod {w w' : World} {base : Nat} {x : SV} {l : Bs} {fa fb : Nat → Nat} {S : List Nat} (h : Gv w base x l fa fb) (m : Eng.Mod S w w') (hS : ∀ b ∈ blkL x.1, b ∉ S) : Gv w' base x l fa fb := ⟨h.1.mod m hS, h.2⟩
theorem Gv.ext {w w' : World} {base : Nat} {x : SV} {l : Bs} {fa fb : Nat → Nat} (h : Gv w base x l fa fb) (m : Ext w w') : Gv w' base x l fa fb := h.mod m (fun b q q' => by cases q')
/-- What stands at an act's end. -/
def PlI (w w' : World) (ba pa bb pb : Nat) (Wn Pn i base : Nat) (g : SV) (l : Bs) : Prop :=
  ∃ ma fa mb fb es, PR w w' ba pa ma fa es bb pb mb fb es ∧ WinI Wn Pn i es ∧ Srt es ∧ Gv w' base g l fa fb
theorem outE_len (es : ES) : (outE es).2.length ≤ (outE es).1.fly.length + 1 := by
  unfold outE
  simp only [List.length_map]
  split
  · simp
  · unfold dueB
    rw [List.length_map]
    have := List.length_filter_le (fun q : Msg => q.due) (fillE es.new.length es).fly
    omega
theorem LinkPlays_c (W P : Int) (v0 : Value) (w : World) {base : Nat} (hW : -9223372036854775808 ≤ W ∧ W ≤ 9223372036854775807) (hP : -9223372036854775808 ≤ P ∧ P ≤ 9223372036854775807) (hM : 1048576 ≤ 1048576) (hv : ReadsB Try.prog w base 59 v0 1048576) :
    Ret Try.prog 6 [.int .i64 W, .int .i64 P, v0] w (fun v w' => v = .bool true ∧ Ext w w') := by
  obtain ⟨A, n, c, l, rfl, hA, hnc, hcm⟩ := acts_in hv
  unfold maxLen at hcm
  have hl := hA.len
  clear hv hM
  refine ret_T (n := 164) Try.func6 rfl rfl ?_
  repeat (first | refine T_seq ?_ | refine T_region ?_ | refine TL_nil ?_ | refine TL_move (hk := ?_) | refine TL_assign (hk := ?_))
  refine TL_call TE (hc := long_c26 A n c l _ hA (by omega)) (hk := ?_)
  rintro _ w1 ⟨rfl | ⟨rfl, hn⟩, e1⟩
  · repeat (first | refine T_seq ?_ | refine T_region ?_ | refine T_cond_true rfl ?_ | refine TL_nil ?_)
    refine TL_call TE (hc := live_c26 _) (hk := ?_)
    rintro _ w2 ⟨rfl, e2⟩
    repeat (first | refine TL_nil ?_ | refine TL_assign (hk := ?_))
    exact T_ret1 rfl rfl ⟨rfl, e1.ext e2⟩
  repeat (first | refine T_seq ?_ | refine T_region ?_ | refine T_cond_false rfl ?_ | refine T_skip ?_ | refine TL_nil ?_ | refine TL_move (hk := ?_))
  refine TL_call TE (hc := LNew_c W P _ hW hP) (hk := ?_)
  rintro _ w2 ⟨e2, ⟨hg, rfl⟩ | ⟨hg, pa, ma, fa, rfl, hE⟩⟩
  · repeat (first | refine T_seq ?_ | refine T_region ?_ | refine TL_nil ?_ | refine TL_move (hk := ?_) | refine TL_assign (hk := ?_) | refine TL_extract (hk := ?_))
    refine TL_call TE (hc := RMake_c W P _ hW hP) (hk := ?_)
    rintro _ w3 ⟨e3, ⟨hg2, rfl⟩ | ⟨hg2, _⟩⟩
    · repeat (first | refine T_seq ?_ | refine T_region ?_ | refine TL_nil ?_ | refine TL_move (hk := ?_) | refine TL_assign (hk := ?_) | refine TL_extract (hk := ?_))
      refine TL_call TE (hc := num_c26 _ _) (hk := ?_)
      rintro _ w3 ⟨rfl, rfl⟩
      repeat (first | refine TL_ne_f (hk := ?_) | refine TL_pnil_t TE (hk := ?_) | refine TL_bne TE (hk := ?_) | refine TL_move (hk := ?_) | refine TL_yes (hk := ?_) | refine TL_pick_f (hk := ?_))
      refine TL_call TE (hc := live_c26 _) (hk := ?_)
      rintro _ w4 ⟨rfl, e4⟩
      repeat (first | refine T_seq ?_ | refine T_region ?_ | refine T_cond_false rfl ?_ | refine T_block ?_ | refine T_skip ?_ | refine TL_nil ?_ | refine TL_assign (hk := ?_) | refine TL_yes (hk := ?_) | refine TL_pick_f (hk := ?_) | refine TL_not (hk := ?_))
      refine T_loop (ι := Unit) (fun _ => [(7, .pointer none)]) (fun _ w' => w' = w4) (fun _ => 0) () (.c rfl (.n)) rfl ?_
      rintro _ w5 rfl -
      repeat (first | refine T_seq ?_ | refine T_region ?_ | refine T_cond_false rfl ?_ | refine T_exit rfl ?_ | refine TL_pnn_f TE (hk := ?_) | refine TL_nil ?_ | refine TL_move (hk := ?_) | refine TL_assign (hk := ?_) | refine TL_no (hk := ?_) | refine TL_pick_f (hk := ?_))
      exact T_ret1 rfl rfl ⟨rfl, ((e1.ext e2).ext e3).ext e4⟩
    · rw [hg] at hg2; cases hg2
  repeat (first | refine T_seq ?_ | refine T_region ?_ | refine TL_nil ?_ | refine TL_move (hk := ?_) | refine TL_assign (hk := ?_) | refine TL_extract (hk := ?_))
  refine TL_call TE (hc := RMake_c W P _ hW hP) (hk := ?_)
  rintro _ w3 ⟨e3, ⟨hg2, rfl⟩ | ⟨-, pb, mb, fb, rfl, hR⟩⟩
  · rw [hg] at hg2; cases hg2
  unfold goodE at hg
  rw [decide_eq_true_eq] at hg
  obtain ⟨Wn, rfl⟩ := Int.eq_ofNat_of_zero_le (show 0 ≤ W by omega)
  obtain ⟨Pn, rfl⟩ := Int.eq_ofNat_of_zero_le (show 0 ≤ P by omega)
  replace hE : EndM w2 w1.heap.size pa ma fa (nE Wn Pn) := hE
  replace hR : REndM w3 w2.heap.size pb mb fb (nE Wn Pn) := hR
  have hWn : 1 ≤ Wn ∧ Wn ≤ 256 := by omega
  have hPn : 1 ≤ Pn ∧ Pn ≤ 1000 := by omega
  have z1 := e1.size
  have z2 := e2.size
  have hp0 : PR w w3 w1.heap.size pa ma fa (nE Wn Pn) w2.heap.size pb mb fb (nE Wn Pn) := ⟨(e1.ext e2).ext e3, hE.ext e3, hR, fun b => by
    by_cases q : fa b = 0
    · exact .inl q
    · by_cases y : fb b = 0
      · exact .inr y
      · have := (hE.ki.old b q).2; have := (hR.ki.old b y).1; omega, z1, by omega⟩
  repeat (first | refine T_seq ?_ | refine T_region ?_ | refine TL_nil ?_ | refine TL_move (hk := ?_) | refine TL_assign (hk := ?_) | refine TL_extract (hk := ?_))
  refine TL_call TE (hc := num_c26 _ _) (hk := ?_)
  rintro _ w3 ⟨rfl, rfl⟩
  repeat (first | refine TL_ne_f (hk := ?_) | refine TL_pnil_f TE (hk := ?_) | refine TL_bne TE (hk := ?_) | refine TL_move (hk := ?_) | refine TL_yes (hk := ?_) | refine TL_pick_f (hk := ?_))
  refine TL_call TE (hc := live_c26 _) (hk := ?_)
  rintro _ w4 ⟨rfl, e4⟩
  replace hp0 := hp0.ext e4
  clear hE hR e2 e3 e4
  repeat (first | refine T_seq ?_ | refine T_region ?_ | refine T_cond_false rfl ?_ | refine T_block ?_ | refine T_skip ?_ | refine TL_nil ?_ | refine TL_assign (hk := ?_) | refine TL_yes (hk := ?_) | refine TL_pick_f (hk := ?_) | refine TL_not (hk := ?_))
  refine T_loop (ι := Nat) (fun i => [(11, .int .i64 (i : Int)), (7, ptr pa), (9, ptr pb), (2, .slice A n c)])
    (fun i w' => i ≤ n ∧ ∃ ma fa mb fb es, PR w w' w1.heap.size pa ma fa es w2.heap.size pb mb fb es ∧ WinI Wn Pn i es ∧ Srt es) (fun i => n - i) 0 (.c rfl (.c rfl (.c rfl (.c rfl (.n))))) ⟨Nat.zero_le _, ma, fa, mb, fb, _, hp0, WinI.new, Srt.new⟩ ?_
  clear hp0 e1
  rintro i w3 ⟨hi, ma, fa, mb, fb, es, h3, i3, s3⟩ ih
  by_cases hlt : i < n
  · have ok := i3.ok hWn hPn (by omega)
    have h1 := (hA.be h3.e).rd
    have hAn : A ≠ none := by obtain ⟨_, _, hq, _⟩ := h1.2 (by omega); rw [hq]; simp
    have hv0 := avs_at0 l i (by omega)
    have hv1 := avs_at1 l i (by omega)
    have hAl := hA.rd.lo (by omega)
    have hget := fun w' (e : Ext w w') => (hA.be e).get i hlt
    have hxl : 0 < (l.getD i av0).n → Lo (l.getD i av0).A w.heap.size := fun q => ((hA.get i hlt).1).lo q
    generalize l.getD i av0 = x at hv0 hv1 hget hxl
    obtain ⟨-, hbc, hbn, hk1, hk2⟩ := hget w3 h3.e
    replace hget := fun w' e => (hget w' e).1
    have hnl := i3.nl
    have hx3 := hget w3 h3.e
    have hone := bv_one x.b
    repeat (first | refine T_seq ?_ | refine T_region ?_ | refine T_cond_true rfl ?_ | refine T_block ?_ | refine T_skip ?_ | refine TL_lt_t (hk := ?_) | refine TL_pnn_t TE (hk := ?_) | refine TL_nil ?_ | refine TL_move (hk := ?_) | refine TL_len TE (hk := ?_) | refine TL_yes (hk := ?_) | refine TL_pick_t (hk := ?_))
    refine TL_buildSlice0 TE (hk := ?_); intro b4 w4 e4 h4 h4' k4
    have o4 : Own w4 w3.heap.size 5 1 (some ⟨b4, 0, none⟩) 0 0 [] := Own.of_blk k4 h4 rfl (by decide)
    have h14 := h1.be e4
    have hx4 := hx3.be e4
    repeat (first | refine TL_move (hk := ?_) | refine TL_load_rd TE (hk := ?_) | refine TL_fieldAddr_e TE (hk := ?_) | refine TL_indexAddrn TE (hk := ?_))
    refine TL_append TE (hk := ?_); intro GA gc w5 o5 m5 n5
    rw [List.nil_append] at o5
    have e35 : Ext w3 w5 := Mod.own e4 m5 o4.hi
    have p5 := h3.ext e35
    have g5 : Gv w5 w3.heap.size (GA, 0 + x.n, gc) x.b fa fb := ⟨o5, fun b q => by
      by_cases y : fa b = 0
      · exact y
      · have := (h3.A.ki.old b y).2; have := Hi.blk o5.hi b q; omega, fun b q => by
      by_cases y : fb b = 0
      · exact y
      · have := (h3.B.ki.old b y).2; have := Hi.blk o5.hi b q; omega⟩
    have h0le := h3.e.size
    generalize w3.heap.size = B3 at g5 h0le
    clear h3 h1 hx3 h14 hx4 o4 o5 k4 e4 m5 n5 e35 hone
    repeat (first | refine TL_nil ?_ | refine TL_assign (hk := ?_))
    refine T_seq ?_
    refine T_join (ι := Unit) (fun _ => [(12, slV (GA, 0 + x.n, gc)), (11, .int .i64 (i : Int)), (7, ptr pa), (9, ptr pb), (2, .slice A n c)])
      (fun _ w' => PlI w w' w1.heap.size pa w2.heap.size pb Wn Pn (i + 1) B3 (GA, 0 + x.n, gc) x.b) (fun kk join => ?_) ?_
    · clear ih
      have r5 := (hA.be p5.e).rd
      by_cases k1 : x.kd = 1
      · have hDA : Off A (ownD w5 fa fb) := p5.off hAl
        repeat (first | refine T_seq ?_ | refine T_region ?_ | refine T_cond_true rfl ?_ | refine T_block ?_ | refine TL_eq_t (hk := ?_) | refine TL_nil ?_ | refine TL_move (hk := ?_) | refine TL_assign (hk := ?_) | refine TL_load_rd TE (hk := ?_) | refine TL_fieldAddr_e TE (hk := ?_) | refine TL_indexAddrn TE (hk := ?_))
        refine T_region_any TE.mixed (ownD w5 fa fb) ?_; intro w6 e6 z6
        obtain ⟨iA, iB⟩ := ownD_in (fa := fa) (fb := fb) z6
        have p6 := p5.ext e6
        have g6 := g5.ext e6
        have r6 := r5.be e6
        (refine TA_take 0 rfl (by kernel_rfl) (by kernel_rfl) (by kernel_rfl) ?_; (repeat (first | refine TL_move (hk := ?_) | refine TLP_load_rd TE (hk := ?_) | refine TL_fieldAddr_e TE (hk := ?_) | refine TL_indexAddrn TE (hk := ?_))); refine TL_nil_p ?_); (refine TA_take 1 rfl (by kernel_rfl) (by kernel_rfl) (by kernel_rfl) ?_; (repeat (first | refine TL_move (hk := ?_) | refine TLP_load_rd TE (hk := ?_) | refine TL_fieldAddr_e TE (hk := ?_) | refine TL_indexAddrn TE (hk := ?_))); refine TL_nil_p ?_); (refine TA_take 4 rfl (by kernel_rfl) (by kernel_rfl) (by kernel_rfl) ?_; (repeat (first | refine TL_move (hk := ?_) | refine TLP_load_rd TE (hk := ?_) | refine TL_fieldAddr_e TE (hk := ?_) | refine TL_indexAddrn TE (hk := ?_))); refine TL_nil_p ?_); (refine TA_take 5 rfl (by kernel_rfl) (by kernel_rfl) (by kernel_rfl) ?_; (repeat (first | refine TL_move (hk := ?_) | refine TLP_load_rd TE (hk := ?_) | refine TL_fieldAddr_e TE (hk := ?_) | refine TL_indexAddrn TE (hk := ?_))); refine TL_nil_p ?_); (refine TA_take 6 rfl (by kernel_rfl) (by kernel_rfl) (by kernel_rfl) ?_; (repeat (first | refine TL_move (hk := ?_) | refine TLP_load_rd TE (hk := ?_) | refine TL_fieldAddr_e TE (hk := ?_) | refine TL_indexAddrn TE (hk := ?_))); refine TL_nil_p ?_); (refine TA_take 7 rfl (by kernel_rfl) (by kernel_rfl) (by kernel_rfl) ?_; (repeat (first | refine TL_move (hk := ?_) | refine TLP_load_rd TE (hk := ?_) | refine TL_fieldAddr_e TE (hk := ?_) | refine TL_indexAddrn TE (hk := ?_))); refine TL_nil_p ?_); (refine TA_take 8 rfl (by kernel_rfl) (by kernel_rfl) (by kernel_rfl) ?_; (repeat (first | refine TL_move (hk := ?_) | refine TLP_load_rd TE (hk := ?_) | refine TL_fieldAddr_e TE (hk := ?_) | refine TL_indexAddrn TE (hk := ?_))); refine TL_nil_p ?_); (refine TA_take 9 rfl (by kernel_rfl) (by kernel_rfl) (by kernel_rfl) ?_; (repeat (first | refine TL_move (hk := ?_) | refine TLP_load_rd TE (hk := ?_) | refine TL_fieldAddr_e TE (hk := ?_) | refine TL_indexAddrn TE (hk := ?_))); refine TL_nil_p ?_)
        refine TA_one 2 rfl (by kernel_rfl) (by kernel_rfl) ?_; (try refine TL_yes (hk := ?_)); refine TL_call TE (hc := (Send_c GA (0 + x.n) gc x.b _ p6.A p6.A.bw (by omega) g6.1.rd (by omega))) (hq := (by rintro _ w7 ⟨rfl, m', f', h', t'⟩; exact t'.inD (Mod.refl _ _) iA)) (hk := ?_)
        rintro _ w7 ⟨rfl, ma7, fa7, h7, t7⟩
        have M7 := t7.inD (Mod.refl _ _) iA
        have p7 := p6.a h7 t7
        have g7 := g6.a t7
        clear p6 g6 r6
        refine TL_nil_p ?_
        refine TA_one 3 rfl (by kernel_rfl) (by kernel_rfl) ?_; (try refine TL_yes (hk := ?_)); refine TL_call TE (hc := num_c26 _ _) (hq := (by rintro _ w8 ⟨rfl, rfl⟩; exact M7)) (hk := ?_)
        rintro _ w8 ⟨rfl, rfl⟩
        refine TL_nil_p ?_
        refine TA_one 10 rfl (by kernel_rfl) (by kernel_rfl) ?_; (try refine TL_yes (hk := ?_)); refine TL_call TE (hc := (RSend_c x.A x.n x.c x.b _ p7.B (by omega) (hget _ p7.e) (by omega))) (hq := (by rintro _ w9 ⟨rfl, m', f', h', t'⟩; exact t'.inD M7 iB)) (hk := ?_)
        rintro _ w9 ⟨rfl, mb9, fb9, h9, t9⟩
        have p9 := p7.b h9 t9
        have g9 := g7.b t9
        clear p7 g7
        refine TL_nil_p ?_
        (refine TA_one 11 rfl (by kernel_rfl) (by kernel_rfl) ?_; (repeat (refine TL_ne_f (hk := ?_))); refine TL_nil_p ?_)
        refine TA_done (by kernel_rfl) ?_
        repeat (first | refine T_cond_false rfl ?_ | refine T_inBlock ?_ | refine T_skip ?_)
        exact T.sub (join () _ ⟨_, _, _, _, _, p9, i3.send x.b, s3.send x.b, g9⟩) (.c rfl (.c rfl (.c rfl (.c rfl (.c rfl (.n))))))
      by_cases k2 : x.kd = 2
      · have hgl : ∀ y ∈ blkL GA, y < w5.heap.size := fun y q => (g5.1.lt y q).2
        have z05 := p5.e.size
        repeat (first | refine T_seq ?_ | refine T_region ?_ | refine T_cond_true rfl ?_ | refine T_cond_false rfl ?_ | refine T_block ?_ | refine TL_eq_t (hk := ?_) | refine TL_eq_f (hk := ?_) | refine TL_nil ?_ | refine TL_move (hk := ?_) | refine TL_assign (hk := ?_) | refine TL_load_rd TE (hk := ?_) | refine TL_fieldAddr_e TE (hk := ?_) | refine TL_indexAddrn TE (hk := ?_))
        refine TL_call TE (hc := Out_c _ p5.A p5.A.bw ok) (hk := ?_)
        rintro _ w6 ⟨O, xs, ma6, fa6, rfl, h6, t6, o6, fo6, fx6⟩
        have hfb5 : ∀ y, w5.heap.size ≤ y → fb y = 0 := fun y q => by
          by_cases z : fb y = 0
          · exact z
          · have := (p5.B.ki.old y z).2; omega
        have go6 : ∀ y ∈ blkL O.1, fb y = 0 := fun y q => hfb5 y (Hi.blk o6.own.hi y q)
        have gx6 : ∀ y ∈ blkS xs, fb y = 0 := fun y q => hfb5 y (o6.bod.lt y q).1
        have p6 := p5.a h6 t6
        have g6 := g5.a t6
        have hO1 := o6.own.len
        have hO2 := o6.bod.len
        have hO3 : (outE es).2.length ≤ 100000 := by have := outE_len es; have := (i3.out hPn.1).fw; omega
        rw [slVs_length, Nat.mul_one] at hO1
        clear p5 g5 hfb5
        repeat (first | refine T_seq ?_ | refine T_region ?_ | refine TL_nil ?_ | refine TL_move (hk := ?_) | refine TL_assign (hk := ?_))
        refine TL_call TE (hc := ROut_c _ p6.B ok) (hk := ?_)
        rintro _ w7 ⟨Q, ys, mb7, fb7, rfl, h7, t7, o7⟩
        have p7 := p6.b h7 t7
        have g7 := g6.b t7
        obtain ⟨o6', go7, gx7⟩ := OutP.turn (f := fb) (f' := fb7) o6 t7 go6 (fun y q => gx6 y q)
        clear p6 g6 go6 gx6
        --
        refine TL_call TE (hc := frames_c26 O Q xs ys _ _ o6'.own.rd o7.own.rd o6'.bod o7.bod (by omega)) (hk := ?_)
        rintro _ w8 ⟨rfl, e8⟩
        have p8 := p7.ext e8
        have g8 := g7.ext e8
        have o8 := o6'.be e8
        clear p7 g7 o6 o6' o7
        repeat (first | refine T_seq ?_ | refine T_region ?_ | refine T_cond_false rfl ?_ | refine T_block ?_ | refine T_skip ?_ | refine TL_nil ?_ | refine TL_assign (hk := ?_) | refine TL_not (hk := ?_))
        refine T_loop (ι := Nat) (fun k => [(14, .int .i64 (k : Int)), (13, slV O), (12, slV (GA, 0 + x.n, gc)), (11, .int .i64 (i : Int)), (7, ptr pa), (9, ptr pb), (2, .slice A n c)])
          (fun k w' => k ≤ O.2.1 ∧ PR w w' w1.heap.size pa ma6 fa6 (outE es).1 w2.heap.size pb mb7 fb7 (outE es).1 ∧ Gv w' B3 (GA, 0 + x.n, gc) x.b fa6 fb7 ∧ Rd w' O.1 O.2.1 1 (slVs xs) ∧ ∀ j, k ≤ j → j < xs.length → Body w' w5.heap.size (xs.getD j (none, 0, 0)) ((outE es).2.getD j [])) (fun k => O.2.1 - k) 0 (.c rfl (.c rfl (.c rfl (.c rfl (.c rfl (.c rfl (.c rfl (.n))))))))
          ⟨Nat.zero_le _, p8, g8, o8.own.rd, fun j _ q => o8.bod.get j q⟩ ?_
        clear p8 g8
        rintro k w9 ⟨hk, p9, g9, r9, hb9⟩ ih
        by_cases hkl : k < O.2.1
        · have hOn : O.1 ≠ none := by obtain ⟨_, _, hq, _⟩ := r9.2 (by omega); rw [hq]; simp
          have hv := slVs_get xs k (by omega)
          have hbk := hb9 k (Nat.le_refl _) (by omega)
          have hyl := hbk.len
          have hyb := hbk.cap
          have hkz : ∀ y ∈ blkL (xs.getD k (none, 0, 0)).1, y ∈ blkS xs := fun y q => blkS_get (j := k) (by omega) q
          have hdj := fun j h1 h2 => blkS_disj o8.nd (j := j) (k := k) h1 (by omega) h2
          generalize xs.getD k (none, 0, 0) = y at hv hbk hyl hyb hkz hdj
          unfold maxLen at hyb
          repeat (first | refine T_seq ?_ | refine T_region ?_ | refine T_cond_true rfl ?_ | refine T_block ?_ | refine T_skip ?_ | refine TL_lt_t (hk := ?_) | refine TL_nil ?_ | refine TL_move (hk := ?_) | refine TL_load_rd TE (hk := ?_) | refine TL_indexAddr1n TE (hk := ?_) | refine TL_len TE (hk := ?_))
          refine TL_call TE (hc := spoil_c26 y.1 y.2.1 y.2.2 _ _ _ hbk (by omega)) (hk := ?_)
          rintro _ w10 m10
          have p10 := p9.mod m10 (fun b q => by have := (o8.bod.lt b (hkz b q)).1; omega) (fun b q => fx6 b (hkz b q)) (fun b q => gx7 b (hkz b q))
          have g10 := g9.mod m10 (fun b q q' => by have := (o8.bod.lt b (hkz b q')).1; have := hgl b q; omega)
          have r10 := r9.mod m10 (off_of fun b q q' => o8.off b (hkz b q') q)
          repeat (first | refine T_region ?_ | refine T_inBlock ?_ | refine TL_add (hk := ?_) | refine TL_nil ?_ | refine TL_move (hk := ?_) | refine TL_assign (hk := ?_))
          exact ih (k + 1) w10 _ (by omega) ⟨by omega, p10, g10, r10, fun j h1 h2 => (hb9 j (by omega) h2).mod m10 (hdj j h2 (by omega))⟩ (.c rfl (.c rfl (.c rfl (.c rfl (.c rfl (.c rfl (.c rfl (.n))))))))
        · clear ih
          repeat (first | refine T_seq ?_ | refine T_region ?_ | refine T_cond_false rfl ?_ | refine T_inBlock ?_ | refine T_exit rfl ?_ | refine TL_lt_f (hk := ?_) | refine TL_nil ?_ | refine TL_move (hk := ?_) | refine TL_len TE (hk := ?_))
          exact T.sub (join () _ ⟨_, _, _, _, _, p9, (i3.out hPn.1).mono (Nat.le_succ _), s3.out hPn.1 i3, g9⟩) (.c rfl (.c rfl (.c rfl (.c rfl (.c rfl (.n))))))
      by_cases k3 : x.kd = 3
      · have hDA : Off A (ownD w5 fa fb) := p5.off hAl
        repeat (first | refine T_seq ?_ | refine T_region ?_ | refine T_cond_true rfl ?_ | refine T_cond_false rfl ?_ | refine T_block ?_ | refine TL_eq_t (hk := ?_) | refine TL_eq_f (hk := ?_) | refine TL_nil ?_ | refine TL_move (hk := ?_) | refine TL_assign (hk := ?_) | refine TL_load_rd TE (hk := ?_) | refine TL_fieldAddr_e TE (hk := ?_) | refine TL_indexAddrn TE (hk := ?_))
        refine T_region_any TE.mixed (ownD w5 fa fb) ?_; intro w6 e6 z6
        obtain ⟨iA, iB⟩ := ownD_in (fa := fa) (fb := fb) z6
        have p6 := p5.ext e6
        have g6 := g5.ext e6
        have r6 := r5.be e6
        have hgc := g6.1.cap.1
        simp only at hgc
        (refine TA_take 0 rfl (by kernel_rfl) (by kernel_rfl) (by kernel_rfl) ?_; (repeat (first | refine TL_move (hk := ?_) | refine TLP_load_rd TE (hk := ?_) | refine TL_fieldAddr_e TE (hk := ?_) | refine TL_indexAddrn TE (hk := ?_))); refine TL_nil_p ?_); (refine TA_take 1 rfl (by kernel_rfl) (by kernel_rfl) (by kernel_rfl) ?_; (repeat (first | refine TL_move (hk := ?_) | refine TLP_load_rd TE (hk := ?_) | refine TL_fieldAddr_e TE (hk := ?_) | refine TL_indexAddrn TE (hk := ?_))); refine TL_nil_p ?_); (refine TA_take 4 rfl (by kernel_rfl) (by kernel_rfl) (by kernel_rfl) ?_; (repeat (first | refine TL_move (hk := ?_) | refine TLP_load_rd TE (hk := ?_) | refine TL_fieldAddr_e TE (hk := ?_) | refine TL_indexAddrn TE (hk := ?_))); refine TL_nil_p ?_); (refine TA_take 5 rfl (by kernel_rfl) (by kernel_rfl) (by kernel_rfl) ?_; (repeat (first | refine TL_move (hk := ?_) | refine TLP_load_rd TE (hk := ?_) | refine TL_fieldAddr_e TE (hk := ?_) | refine TL_indexAddrn TE (hk := ?_))); refine TL_nil_p ?_); (refine TA_take 6 rfl (by kernel_rfl) (by kernel_rfl) (by kernel_rfl) ?_; (repeat (first | refine TL_move (hk := ?_) | refine TLP_load_rd TE (hk := ?_) | refine TL_fieldAddr_e TE (hk := ?_) | refine TL_indexAddrn TE (hk := ?_))); refine TL_nil_p ?_); (refine TA_take 7 rfl (by kernel_rfl) (by kernel_rfl) (by kernel_rfl) ?_; (repeat (first | refine TL_move (hk := ?_) | refine TLP_load_rd TE (hk := ?_) | refine TL_fieldAddr_e TE (hk := ?_) | refine TL_indexAddrn TE (hk := ?_))); refine TL_nil_p ?_); (refine TA_take 8 rfl (by kernel_rfl) (by kernel_rfl) (by kernel_rfl) ?_; (repeat (first | refine TL_move (hk := ?_) | refine TLP_load_rd TE (hk := ?_) | refine TL_fieldAddr_e TE (hk := ?_) | refine TL_indexAddrn TE (hk := ?_))); refine TL_nil_p ?_); (refine TA_take 9 rfl (by kernel_rfl) (by kernel_rfl) (by kernel_rfl) ?_; (repeat (first | refine TL_move (hk := ?_) | refine TLP_load_rd TE (hk := ?_) | refine TL_fieldAddr_e TE (hk := ?_) | refine TL_indexAddrn TE (hk := ?_))); refine TL_nil_p ?_)
        refine TA_one 2 rfl (by kernel_rfl) (by kernel_rfl) ?_; (try refine TL_yes (hk := ?_)); refine TL_call TE (hc := (Receive_c GA (0 + x.n) gc x.b _ p6.A p6.A.bw ok g6.1.rd (by omega) hgc)) (hq := (by rintro _ w7 ⟨rfl, m', f', h', t'⟩; exact t'.inD (Mod.refl _ _) iA)) (hk := ?_)
        rintro _ w7 ⟨rfl, ma7, fa7, h7, t7⟩
        have M7 := t7.inD (Mod.refl _ _) iA
        have p7 := p6.a h7 t7
        have g7 := g6.a t7
        clear p6 g6 r6
        refine TL_nil_p ?_
        refine TA_one 3 rfl (by kernel_rfl) (by kernel_rfl) ?_; (try refine TL_yes (hk := ?_)); refine TL_call TE (hc := num_c26 _ _) (hq := (by rintro _ w8 ⟨rfl, rfl⟩; exact M7)) (hk := ?_)
        rintro _ w8 ⟨rfl, rfl⟩
        refine TL_nil_p ?_
        refine TA_one 10 rfl (by kernel_rfl) (by kernel_rfl) ?_; (try refine TL_yes (hk := ?_)); refine TL_call TE (hc := (RReceive_c x.A x.n x.c x.b _ p7.B ok s3.ack (hget _ p7.e) (by omega) hbc)) (hq := (by rintro _ w9 ⟨rfl, m', f', h', t'⟩; exact t'.inD M7 iB)) (hk := ?_)
        rintro _ w9 ⟨rfl, mb9, fb9, h9, t9⟩
        have p9 := p7.b h9 t9
        have g9 := g7.b t9
        clear p7 g7
        refine TL_nil_p ?_
        (refine TA_one 11 rfl (by kernel_rfl) (by kernel_rfl) ?_; (repeat (refine TL_ne_f (hk := ?_))); refine TL_nil_p ?_)
        refine TA_done (by kernel_rfl) ?_
        repeat (first | refine T_cond_false rfl ?_ | refine T_inBlock ?_ | refine T_skip ?_)
        exact T.sub (join () _ ⟨_, _, _, _, _, p9, i3.recv x.b, s3.recv x.b, g9⟩) (.c rfl (.c rfl (.c rfl (.c rfl (.c rfl (.n))))))
      by_cases k4 : x.kd = 4
      · have hx := Next_c _ p5.A
        unfold nextE at hx
        cases hc : es.come with
        | nil =>
          rw [hc] at hx
          simp only at hx
          repeat (first | refine T_seq ?_ | refine T_region ?_ | refine T_cond_true rfl ?_ | refine T_cond_false rfl ?_ | refine T_block ?_ | refine TL_eq_t (hk := ?_) | refine TL_eq_f (hk := ?_) | refine TL_nil ?_ | refine TL_move (hk := ?_) | refine TL_assign (hk := ?_) | refine TL_load_rd TE (hk := ?_) | refine TL_fieldAddr_e TE (hk := ?_) | refine TL_indexAddrn TE (hk := ?_))
          refine TL_call TE (hc := hx) (hk := ?_)
          rintro _ w6 ⟨rfl, rfl⟩
          have hy := RNext_c _ p5.B
          unfold nextE at hy
          rw [hc] at hy
          simp only at hy
          repeat (first | refine T_seq ?_ | refine T_region ?_ | refine TL_nil ?_ | refine TL_move (hk := ?_) | refine TL_assign (hk := ?_) | refine TL_extract (hk := ?_))
          refine TL_call TE (hc := hy) (hk := ?_)
          rintro _ w6 ⟨rfl, rfl⟩
          repeat (first | refine T_seq ?_ | refine T_region ?_ | refine TL_bne TE (hk := ?_) | refine TL_nil ?_ | refine TL_move (hk := ?_) | refine TL_assign (hk := ?_) | refine TL_yes (hk := ?_) | refine TL_extract (hk := ?_))
          refine TL_call TE (hc := same_c26 none none 0 0 0 0 [] [] _ (Rd.nil _ _ _) (Rd.nil _ _ _)) (hk := ?_)
          rintro _ w6 ⟨rfl, rfl⟩
          rw [decide_eq_true rfl]
          repeat (first | refine T_region ?_ | refine T_cond_false rfl ?_ | refine T_skip ?_ | refine TL_nil ?_ | refine TL_move (hk := ?_) | refine TL_yes (hk := ?_) | refine TL_pick_f (hk := ?_) | refine TL_not (hk := ?_))
          refine TL_call TE (hc := spoil_c26 none 0 0 0 [] _ (Own.nil _ _ _ _) (by omega)) (hk := ?_)
          rintro _ w7 m7
          have m7' : Ext w6 w7 := m7
          have p7 := p5.ext m7'
          have g7 := g5.ext m7'
          repeat (first | refine T_inBlock ?_ | refine TL_nil ?_)
          exact T.sub (join () _ ⟨_, _, _, _, _, p7, i3.mono (Nat.le_succ _), s3, g7⟩) (.c rfl (.c rfl (.c rfl (.c rfl (.c rfl (.n))))))
        | cons bb bt =>
          rw [hc] at hx
          simp only at hx
          repeat (first | refine T_seq ?_ | refine T_region ?_ | refine T_cond_true rfl ?_ | refine T_cond_false rfl ?_ | refine T_block ?_ | refine TL_eq_t (hk := ?_) | refine TL_eq_f (hk := ?_) | refine TL_nil ?_ | refine TL_move (hk := ?_) | refine TL_assign (hk := ?_) | refine TL_load_rd TE (hk := ?_) | refine TL_fieldAddr_e TE (hk := ?_) | refine TL_indexAddrn TE (hk := ?_))
          refine TL_call TE (hc := hx) (hk := ?_)
          rintro _ w6 ⟨y, ma6, fa6, rfl, h6, t6, hy6, fy6, fy5⟩
          have p6 := p5.a h6 t6
          have g6 := g5.a t6
          have fyb : ∀ b ∈ blkL y.1, fb b = 0 := fun b q => by
            rcases p5.dj b with z | z
            · rw [fy5 b q] at z; cases z
            · exact z
          have hy := RNext_c _ p6.B
          unfold nextE at hy
          rw [hc] at hy
          simp only at hy
          repeat (first | refine T_seq ?_ | refine T_region ?_ | refine TL_nil ?_ | refine TL_move (hk := ?_) | refine TL_assign (hk := ?_) | refine TL_extract (hk := ?_))
          refine TL_call TE (hc := hy) (hk := ?_)
          rintro _ w7 ⟨u, mb7, rfl, h7, t7, hu7⟩
          have p7 := p6.b h7 t7
          have g7 := g6.b t7
          obtain ⟨hy7, fyb7⟩ := hy6.turn t7 fyb
          have hyl := hy7.cap
          unfold maxLen at hyl
          have gyd : ∀ b ∈ blkL GA, b ∉ blkL y.1 := fun b q q' => by have := g5.2.1 b q; rw [fy5 b q'] at this; cases this
          repeat (first | refine T_seq ?_ | refine T_region ?_ | refine TL_bne TE (hk := ?_) | refine TL_nil ?_ | refine TL_move (hk := ?_) | refine TL_assign (hk := ?_) | refine TL_yes (hk := ?_) | refine TL_extract (hk := ?_))
          refine TL_call TE (hc := same_c26 y.1 u.1 y.2.1 y.2.2 u.2.1 u.2.2 bb bb _ hy7.rd hu7.rd) (hk := ?_)
          rintro _ w7 ⟨rfl, rfl⟩
          rw [decide_eq_true rfl]
          repeat (first | refine T_region ?_ | refine T_cond_false rfl ?_ | refine T_skip ?_ | refine TL_nil ?_ | refine TL_move (hk := ?_) | refine TL_yes (hk := ?_) | refine TL_pick_f (hk := ?_) | refine TL_not (hk := ?_))
          refine TL_call TE (hc := spoil_c26 y.1 y.2.1 y.2.2 _ _ _ hy7 (by omega)) (hk := ?_)
          rintro _ w8 m8
          have hlo := hy7.lt
          have p8 := p7.mod m8 (fun b q => by have := (hy7.lt b q).1; omega) fy6 fyb7
          have g8 := g7.mod m8 gyd
          repeat (first | refine T_inBlock ?_ | refine TL_nil ?_)
          exact T.sub (join () _ ⟨_, _, _, _, _, p8, (i3.next hc).mono (Nat.le_succ i), s3, g8⟩) (.c rfl (.c rfl (.c rfl (.c rfl (.c rfl (.n))))))
      by_cases k5 : x.kd = 5
      · have hfl := i3.fw
        repeat (first | refine T_seq ?_ | refine T_region ?_ | refine T_cond_true rfl ?_ | refine T_cond_false rfl ?_ | refine T_block ?_ | refine TL_eq_t (hk := ?_) | refine TL_eq_f (hk := ?_) | refine TL_nil ?_ | refine TL_move (hk := ?_) | refine TL_assign (hk := ?_) | refine TL_load_rd TE (hk := ?_) | refine TL_fieldAddr_e TE (hk := ?_) | refine TL_indexAddrn TE (hk := ?_))
        refine TL_call TE (hc := Tick_c _ p5.A (by omega) (fun q hq => (ok.fb q hq).2.2)) (hk := ?_)
        rintro _ w6 ⟨ma6, h6, t6⟩
        have p6 := p5.a h6 t6
        have g6 := g5.a t6
        repeat (first | refine T_region ?_ | refine TL_nil ?_ | refine TL_move (hk := ?_))
        refine TL_call TE (hc := RTick_c _ p6.B (by omega) (fun q hq => (ok.fb q hq).2.2)) (hk := ?_)
        rintro _ w7 ⟨mb7, h7, t7⟩
        have p7 := p6.b h7 t7
        have g7 := g6.b t7
        repeat (first | refine T_inBlock ?_ | refine TL_nil ?_)
        exact T.sub (join () _ ⟨_, _, _, _, _, p7, (i3.tick hPn.1).mono (Nat.le_succ i), s3.tick, g7⟩) (.c rfl (.c rfl (.c rfl (.c rfl (.c rfl (.n))))))
      repeat (first | refine T_seq ?_ | refine T_region ?_ | refine T_cond_false rfl ?_ | refine T_block ?_ | refine T_inBlock ?_ | refine T_skip ?_ | refine TL_eq_f (hk := ?_) | refine TL_nil ?_ | refine TL_move (hk := ?_) | refine TL_assign (hk := ?_) | refine TL_load_rd TE (hk := ?_) | refine TL_fieldAddr_e TE (hk := ?_) | refine TL_indexAddrn TE (hk := ?_))
      exact T.sub (join () _ ⟨_, _, _, _, _, p5, i3.mono (Nat.le_succ i), s3, g5⟩) (.c rfl (.c rfl (.c rfl (.c rfl (.c rfl (.n))))))
    clear p5 g5 i3 s3
    rintro _ w6 ⟨ma6, fa6, mb6, fb6, es6, p6, i6, s6, g6⟩
    have r6 := (hA.be p6.e).rd
    have hx6 := hget _ p6.e
    repeat (first | refine T_seq ?_ | refine T_region ?_ | refine TL_move (hk := ?_) | refine TL_load_rd TE (hk := ?_) | refine TL_fieldAddr_e TE (hk := ?_) | refine TL_indexAddrn TE (hk := ?_))
    refine TL_call TE (hc := same_c26 GA x.A (0 + x.n) gc x.n x.c x.b x.b _ g6.1.rd hx6) (hk := ?_)
    rintro _ w7 ⟨rfl, rfl⟩
    rw [decide_eq_true rfl]
    repeat (first | refine TL_move (hk := ?_) | refine TL_yes (hk := ?_) | refine TL_not (hk := ?_))
    refine TL_call TE (hc := stands_c26 _ p6.A p6.B) (hk := ?_)
    rintro _ w8 ⟨rfl, e8⟩
    have p8 := p6.ext e8
    have g8 := g6.ext e8
    clear p6 g6 r6 hx6
    repeat (first | refine T_region ?_ | refine T_cond_false rfl ?_ | refine T_skip ?_ | refine TL_nil ?_ | refine TL_move (hk := ?_) | refine TL_yes (hk := ?_) | refine TL_pick_f (hk := ?_) | refine TL_not (hk := ?_))
    refine TL_call TE (hc := spoil_c26 GA (0 + x.n) gc _ _ _ g8.1 (by omega)) (hk := ?_)
    rintro _ w9 m9
    have p9 := p8.mod m9 (fun b q => by have := (g8.1.lt b q).1; omega) g8.2.1 g8.2.2
    repeat (first | refine T_region ?_ | refine T_inBlock ?_ | refine TL_add (hk := ?_) | refine TL_nil ?_ | refine TL_move (hk := ?_) | refine TL_assign (hk := ?_))
    exact ih (i + 1) w9 _ (by omega) ⟨by omega, _, _, _, _, _, p9, i6, s6⟩ (.c rfl (.c rfl (.c rfl (.c rfl (.n)))))
  · have : n = i := by omega
    subst this
    clear ih
    repeat (first | refine T_seq ?_ | refine T_region ?_ | refine T_cond_false rfl ?_ | refine T_exit rfl ?_ | refine TL_lt_f (hk := ?_) | refine TL_pnn_t TE (hk := ?_) | refine TL_nil ?_ | refine TL_move (hk := ?_) | refine TL_assign (hk := ?_) | refine TL_len TE (hk := ?_) | refine TL_yes (hk := ?_) | refine TL_pick_t (hk := ?_))
    exact T_ret1 rfl rfl ⟨rfl, h3.e⟩
end Go.Proofs.Ytjjgojgahibpgaa
