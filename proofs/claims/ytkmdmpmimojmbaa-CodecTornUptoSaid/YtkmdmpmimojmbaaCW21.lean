import Derived.Test.YtkmdmpmimojmbaaCW20
namespace Go.Proofs.Ytkmdmpmimojmbaa
open Go.RowKit Go.Proofs.Eng Go.Proofs.Codec
set_option linter.unusedSimpArgs false
set_option linter.unusedVariables false
attribute [local irreducible] T TL LV TH
set_option maxHeartbeats 2000000

def sealF (l : List UInt8) : List UInt8 × Int := if 65536 < l.length then ([], 1) else (frame l, 0)
theorem SealU (A : Option Addr) (n c : Nat) (l : List UInt8) (w : World) (h : Rd w A n 1 (bv l)) :
    Ret Try.prog 22 [.slice A n c] w (fun v w' => ∃ A' n' c', v = .tuple #[.slice A' n' c', .int .i64 (sealF l).2] ∧ Ext w w' ∧ Own w' w.heap.size 5 1 A' n' c' (bv (sealF l).1)) := by
  have hlen : l.length = n := by simpa using h.1
  by_cases g : 65536 < n
  · have hs : sealF l = ([], 1) := by unfold sealF; rw [if_pos (by omega)]
    rw [hs]
    exact (Seal_c2 A n c w g).mono fun v w' ⟨a, b⟩ => ⟨none, 0, 0, a, b ▸ Mod.refl _ _, Own.nil _ _ _ _⟩
  · have hs : sealF l = (frame l, 0) := by unfold sealF; rw [if_neg (by omega)]
    rw [hs]
    exact (Seal_c A n c l w h (by omega)).mono fun v w' ⟨A', c', a, b, o⟩ => ⟨A', n + 8, c', a, b, o⟩
theorem RSealU (A : Option Addr) (n c : Nat) (l : List UInt8) (w : World) (h : Rd w A n 1 (bv l)) :
    Ret Try.prog 30 [.slice A n c] w (fun v w' => ∃ A' n' c', v = .tuple #[.slice A' n' c', .int .i64 (sealF l).2] ∧ Ext w w' ∧ Own w' w.heap.size 5 1 A' n' c' (bv (sealF l).1)) := by
  have hlen : l.length = n := by simpa using h.1
  by_cases g : 65536 < n
  · have hs : sealF l = ([], 1) := by unfold sealF; rw [if_pos (by omega)]
    rw [hs]
    exact (RSeal_c2 A n c w g).mono fun v w' ⟨a, b⟩ => ⟨none, 0, 0, a, b ▸ Mod.refl _ _, Own.nil _ _ _ _⟩
  · have hs : sealF l = (frame l, 0) := by unfold sealF; rw [if_neg (by omega)]
    rw [hs]
    exact (RSeal_c A n c l w h (by omega)).mono fun v w' ⟨A', c', a, b, o⟩ => ⟨A', n + 8, c', a, b, o⟩
theorem Loads.get {w : World} : ∀ {xs : List Value} {ps : List (List UInt8)} {b e : Nat} {q : Nat} {x : Value}, Loads w b e xs ps → xs[q]? = some x → ∃ A n c p, x = .slice A n c ∧ ps[q]? = some p ∧ Own w b 5 1 A n c (bv p)
  | [], [], _, _, _, _, _, hx => by simp at hx
  | [], _ :: _, _, _, _, _, h, _ => h.elim
  | _ :: _, [], _, _, _, _, h, _ => h.elim
  | y :: t, p :: ps, b, e, 0, x, h, hx => by
    obtain ⟨A, n, c, b', hy, ho, _, _, _⟩ := h
    simp at hx
    subst hx
    exact ⟨A, n, c, p, hy, rfl, ho⟩
  | y :: t, p :: ps, b, e, q + 1, x, h, hx => by
    obtain ⟨A, n, c, b', hy, ho, _, hb, ht⟩ := h
    obtain ⟨A', n', c', p', h1, h2, h3⟩ := Loads.get ht (by simpa using hx)
    exact ⟨A', n', c', p', h1, by simpa using h2, h3.weaken hb⟩
theorem Loads.le {w : World} : ∀ {xs : List Value} {ps : List (List UInt8)} {b e : Nat}, Loads w b e xs ps → b ≤ e
  | [], [], _, _, h => h
  | [], _ :: _, _, _, h => h.elim
  | _ :: _, [], _, _, h => h.elim
  | x :: t, p :: ps, b, e, h => by
    obtain ⟨_, _, _, b', _, _, _, hb, ht⟩ := h
    exact Nat.le_trans hb (Loads.le ht)
theorem blkL_lt {A : Option Addr} {x y : Nat} (hA : Lo A y) (hx : x ∈ blkL A) : x < y := by
  cases A with
  | none => simp [blkL] at hx
  | some a => simp [blkL] at hx; subst hx; exact hA a rfl
theorem blkL_ge {A : Option Addr} {x y : Nat} (hA : Hi A y) (hx : x ∈ blkL A) : y ≤ x := by
  cases A with
  | none => simp [blkL] at hx
  | some a => simp [blkL] at hx; subst hx; exact hA a rfl
theorem CodecFrames_c (A : Option Addr) (n c : Nat) (l : List UInt8) (B : Option Addr) (m d : Nat) (k : List UInt8) (w : World) (hA : Rd w A n 1 (bv l)) (hnc : n ≤ c) (hcm : c ≤ maxLen) (hB : Rd w B m 1 (bv k)) (hmd : m ≤ d) (hdm : d ≤ maxLen) :
    Ret Try.prog 7 [.slice A n c, .slice B m d] w (fun v w' => v = .bool true ∧ Ext w w') := by
  unfold maxLen at hcm hdm
  have hlen : k.length = m := by simpa using hB.1
  by_cases g1 : 200000 < n
  · refine ret_T (n := 183) Try.func7 rfl rfl ?_
    repeat (first | refine T_seq ?_ | refine T_region ?_ | refine T_cond_true rfl ?_ | refine TL_gt_t (hk := ?_) | refine TL_nil ?_ | refine TL_move (hk := ?_) | refine TL_assign (hk := ?_) | refine TL_len TE (hk := ?_) | refine TL_no (hk := ?_) | refine TL_pick_t (hk := ?_))
    refine TL_call TE (hc := live_c w) (hk := ?_)
    rintro _ w1 ⟨rfl, e1⟩
    repeat (first | refine TL_nil ?_ | refine TL_assign (hk := ?_))
    exact T_ret1 rfl rfl ⟨rfl, e1⟩
  by_cases g2 : 200000 < m
  · refine ret_T (n := 183) Try.func7 rfl rfl ?_
    repeat (first | refine T_seq ?_ | refine T_region ?_ | refine T_cond_true rfl ?_ | refine TL_gt_t (hk := ?_) | refine TL_gt_f (hk := ?_) | refine TL_nil ?_ | refine TL_move (hk := ?_) | refine TL_assign (hk := ?_) | refine TL_len TE (hk := ?_) | refine TL_yes (hk := ?_) | refine TL_pick_f (hk := ?_))
    refine TL_call TE (hc := live_c w) (hk := ?_)
    rintro _ w1 ⟨rfl, e1⟩
    repeat (first | refine TL_nil ?_ | refine TL_assign (hk := ?_))
    exact T_ret1 rfl rfl ⟨rfl, e1⟩
  refine ret_T (n := 183) Try.func7 rfl rfl ?_
  repeat (first | refine T_seq ?_ | refine T_region ?_ | refine T_cond_false rfl ?_ | refine T_skip ?_ | refine TL_gt_f (hk := ?_) | refine TL_nil ?_ | refine TL_move (hk := ?_) | refine TL_assign (hk := ?_) | refine TL_len TE (hk := ?_) | refine TL_yes (hk := ?_) | refine TL_pick_f (hk := ?_))
  refine TL_call TE (hc := lent_c B m d k w hB (by omega)) (hk := ?_)
  rintro _ w1 ⟨Af, cf, rfl, e1, of⟩
  have z1 := e1.size
  have ccf := of.cap
  have loF := of.lo
  have hiF := of.hi
  repeat (first | refine T_seq ?_ | refine T_region ?_ | refine TL_nil ?_ | refine TL_move (hk := ?_) | refine TL_assign (hk := ?_))
  refine TL_call TE (hc := SealU A n c l w1 (hA.ext e1)) (hk := ?_)
  rintro _ w2 ⟨Ap, np, cp, rfl, e2, op⟩
  have z2 := e2.size
  repeat (first | refine T_seq ?_ | refine T_region ?_ | refine TL_nil ?_ | refine TL_move (hk := ?_) | refine TL_assign (hk := ?_) | refine TL_extract (hk := ?_))
  refine TL_call TE (hc := RSealU A n c l w2 (hA.ext (e1.ext e2))) (hk := ?_)
  rintro _ w3 ⟨Aw, nw, cw, rfl, e3, ow⟩
  have z3 := e3.size
  have op3 := op.ext e3
  have of3 := of.ext (e2.ext e3)
  have e03 := (e1.ext e2).ext e3
  clear of op e1 e2 e3
  repeat (first | refine T_seq ?_ | refine T_region ?_ | refine TL_nil ?_ | refine TL_move (hk := ?_) | refine TL_assign (hk := ?_) | refine TL_len TE (hk := ?_) | refine TL_extract (hk := ?_) | refine TL_slice_hi TE (hk := ?_))
  refine TL_call TE (hc := Open_c Af m cf k w3 (Rd.head1 of3.rd hlen) (by omega) (by omega)) (hk := ?_)
  rintro _ w4 ⟨Ax, nx, cx, rfl, e4, ox⟩
  have z4 := e4.size
  repeat (first | refine T_seq ?_ | refine T_region ?_ | refine TL_nil ?_ | refine TL_move (hk := ?_) | refine TL_assign (hk := ?_) | refine TL_extract (hk := ?_))
  refine TL_call TE (hc := ROpen_c B m d k w4 (hB.ext (e03.ext e4)) (by omega) (by omega)) (hk := ?_)
  rintro _ w5 ⟨Ay, ny, cy, rfl, e5, oy⟩
  have z5 := e5.size
  have of5 := of3.ext (e4.ext e5)
  have op5 := op3.ext (e4.ext e5)
  have ow5 := ow.ext (e4.ext e5)
  have ox5 := ox.ext e5
  have loX := ox.lo
  have hiX := ox.hi
  have loY := oy.lo
  have hiY := oy.hi
  have e05 := (e03.ext e4).ext e5
  clear of3 op3 ow ox e03 e4 e5
  repeat (first | refine T_seq ?_ | refine T_region ?_ | refine TL_nil ?_ | refine TL_move (hk := ?_) | refine TL_assign (hk := ?_) | refine TL_len TE (hk := ?_) | refine TL_extract (hk := ?_) | refine TL_slice_hi TE (hk := ?_))
  refine TL_call TE (hc := Frames_c Af m cf k w5 (Rd.head1 of5.rd hlen) (by omega) (by omega)) (hk := ?_)
  rintro _ w6 ⟨Al, ml, cl, xl, rfl, e6, ol, Ll⟩
  have z6 := e6.size
  repeat (first | refine T_seq ?_ | refine T_region ?_ | refine TL_nil ?_ | refine TL_move (hk := ?_) | refine TL_assign (hk := ?_) | refine TL_extract (hk := ?_))
  refine TL_call TE (hc := RFrames_c B m d k w6 (hB.ext (e05.ext e6)) (by omega) (by omega)) (hk := ?_)
  rintro _ w7 ⟨Am, mm, cm, xm, rfl, e7, om, Lm⟩
  have z7 := e7.size
  have of7 := of5.ext (e6.ext e7)
  have op7 := op5.ext (e6.ext e7)
  have ow7 := ow5.ext (e6.ext e7)
  have ox7 := ox5.ext (e6.ext e7)
  have oy7 := oy.ext (e6.ext e7)
  have ol7 := ol.ext e7
  have Ll7 := Ll.ext e7
  have e07 := (e05.ext e6).ext e7
  have hiL := ol.hi
  have hiM := om.hi
  have hll := ol.len
  have hlc := ol.cap
  unfold maxLen at hlc
  have hlm := om.len
  have hl1 := Ll.len
  have hl2 := Lm.len
  have hmm : ml = mm := by omega
  clear of5 op5 ow5 ox5 oy ol Ll e05 e6 e7
  repeat (first | refine T_seq ?_ | refine T_region ?_ | refine TL_nil ?_ | refine TL_move (hk := ?_) | refine TL_assign (hk := ?_) | refine TL_extract (hk := ?_))
  refine TL_call TE (hc := num_c _ w7) (hk := ?_)
  rintro _ w7 ⟨rfl, rfl⟩
  repeat (first | refine TL_ne_f (hk := ?_) | refine TL_move (hk := ?_) | refine TL_yes (hk := ?_))
  refine TL_call TE (hc := same_t Ap Aw np nw cp cw _ w7 op7.rd ow7.rd) (hk := ?_)
  rintro _ w7 ⟨rfl, rfl⟩
  repeat (first | refine TL_move (hk := ?_) | refine TL_yes (hk := ?_) | refine TL_pick_f (hk := ?_) | refine TL_not (hk := ?_))
  refine TL_call TE (hc := num_c _ w7) (hk := ?_)
  rintro _ w7 ⟨rfl, rfl⟩
  repeat (first | refine TL_ne_f (hk := ?_) | refine TL_move (hk := ?_) | refine TL_yes (hk := ?_) | refine TL_pick_f (hk := ?_))
  refine TL_call TE (hc := same_t Ax Ay nx ny cx cy _ w7 ox7.rd oy7.rd) (hk := ?_)
  rintro _ w7 ⟨rfl, rfl⟩
  repeat (first | refine TL_move (hk := ?_) | refine TL_yes (hk := ?_) | refine TL_pick_f (hk := ?_) | refine TL_not (hk := ?_))
  refine TL_call TE (hc := num_c _ w7) (hk := ?_)
  rintro _ w7 ⟨rfl, rfl⟩
  repeat (first | refine TL_ne_f (hk := ?_) | refine TL_move (hk := ?_) | refine TL_len TE (hk := ?_) | refine TL_yes (hk := ?_) | refine TL_pick_f (hk := ?_) | refine TL_slice_hi TE (hk := ?_))
  refine TL_call TE (hc := Sum_c Af m cf k w7 (Rd.head1 of7.rd hlen) (by omega)) (hk := ?_)
  rintro _ w7 ⟨rfl, rfl⟩
  repeat (first | refine TL_move (hk := ?_) | refine TL_yes (hk := ?_))
  refine TL_call TE (hc := RSum_c B m d k w7 (hB.ext e07) (by omega)) (hk := ?_)
  rintro _ w7 ⟨rfl, rfl⟩
  repeat (first | refine TL_ne_f (hk := ?_) | refine TL_move (hk := ?_) | refine TL_yes (hk := ?_) | refine TL_pick_f (hk := ?_))
  refine TL_call TE (hc := kept_t Af B (m + 2) m cf d k w7 of7.rd (hB.ext e07) (by omega)) (hk := ?_)
  rintro _ w8 ⟨rfl, e8⟩
  have of8 := of7.ext e8
  have ox8 := ox7.ext e8
  have oy8 := oy7.ext e8
  have ol8 := ol7.ext e8
  have om8 := om.ext e8
  have Ll8 := Ll7.ext e8
  have Lm8 := Lm.ext e8
  have e08 := e07.ext e8
  clear of7 op7 ow7 ox7 oy7 ol7 om Ll7 Lm e07 e8
  repeat (first | refine T_seq ?_ | refine T_region ?_ | refine T_cond_false rfl ?_ | refine T_block ?_ | refine T_skip ?_ | refine TL_nil ?_ | refine TL_assign (hk := ?_) | refine TL_yes (hk := ?_) | refine TL_pick_f (hk := ?_) | refine TL_not (hk := ?_))
  refine T_loop (ι := Nat × List Value) (fun i => [(22, .int .i64 (i.1 : Int)), (5, .slice Af (m + 2) cf), (16, .slice Al ml cl), (19, .slice Am mm cm), (10, .slice Ax nx cx), (13, .slice Ay ny cy)])
    (fun i w' => i.1 ≤ m + 2 ∧ Own w' w.heap.size 5 1 Af (m + 2) cf i.2 ∧ Mod (blkL Af) w8 w') (fun i => m + 2 - i.1) (0, _) (.c rfl (.c rfl (.c rfl (.c rfl (.c rfl (.c rfl (.n))))))) ⟨by simp, of8, Mod.refl _ _⟩ ?_
  clear of8
  rintro ⟨i, ys⟩ w9 ⟨hi, o9, m9⟩ ih
  simp only at hi o9 m9 ih ⊢
  have hyl := o9.len
  by_cases hin : i < m + 2
  · repeat (first | refine T_seq ?_ | refine T_region ?_ | refine T_cond_true rfl ?_ | refine T_block ?_ | refine T_skip ?_ | refine TL_lt_t (hk := ?_) | refine TL_nil ?_ | refine TL_move (hk := ?_) | refine TL_indexAddr1n TE (hk := ?_) | refine TL_len TE (hk := ?_))
    refine TL_store_own TE (hk := ?_); intro w10 m10 s10 o10
    repeat (first | refine T_region ?_ | refine T_inBlock ?_ | refine TL_add (hk := ?_) | refine TL_nil ?_ | refine TL_move (hk := ?_) | refine TL_assign (hk := ?_))
    exact ih (i + 1, _) w10 _ (by simp only; omega) ⟨by simp only; omega, o10, m9.trans m10⟩ (.c rfl (.c rfl (.c rfl (.c rfl (.c rfl (.c rfl (.n)))))))
  have ox9 := ox8.mod m9 (Off.nb (x := w1.heap.size) (y := 0) loF (hiX.mono (by omega)))
  have oy9 := oy8.mod m9 (Off.nb (x := w1.heap.size) (y := 0) loF (hiY.mono (by omega)))
  have ol9 := ol8.mod m9 (Off.nb (x := w1.heap.size) (y := 0) loF (hiL.mono (by omega)))
  have om9 := om8.mod m9 (Off.nb (x := w1.heap.size) (y := 0) loF (hiM.mono (by omega)))
  have Ll9 := Ll8.mod m9 (fun x hx => by have := blkL_lt loF hx; omega)
  have Lm9 := Lm8.mod m9 (fun x hx => by have := blkL_lt loF hx; omega)
  have e09 := e08.own m9 hiF
  clear ox8 oy8 ol8 om8 Ll8 Lm8 e08 m9 o9 ih hyl
  repeat (first | refine T_seq ?_ | refine T_region ?_ | refine T_cond_false rfl ?_ | refine T_block ?_ | refine T_exit rfl ?_ | refine TL_lt_f (hk := ?_) | refine TL_nil ?_ | refine TL_move (hk := ?_) | refine TL_assign (hk := ?_) | refine TL_len TE (hk := ?_))
  refine T_loop (ι := Nat × Nat × List Value × List (List UInt8)) (fun i => [(23, .int .i64 (i.1 : Int)), (16, .slice Al ml cl), (19, .slice Am mm cm), (10, .slice Ax nx cx), (13, .slice Ay ny cy)])
    (fun i w' => i.1 ≤ ml ∧ i.2.2.1 = xl.drop i.1 ∧ i.2.2.2 = (frames k).1.drop i.1 ∧ w5.heap.size ≤ i.2.1 ∧ Loads w' i.2.1 w6.heap.size i.2.2.1 i.2.2.2 ∧ Loads w' w6.heap.size w7.heap.size xm (frames k).1 ∧
      Own w' w5.heap.size 25 1 Al ml cl xl ∧ Own w' w6.heap.size 25 1 Am mm cm xm ∧ Own w' w3.heap.size 5 1 Ax nx cx (bv (openF k).1) ∧ Own w' w4.heap.size 5 1 Ay ny cy (bv (openF k).1) ∧ Ext w w') (fun i => ml - i.1) (0, w5.heap.size, xl, (frames k).1) (.c rfl (.c rfl (.c rfl (.c rfl (.c rfl (.n))))))
    ⟨by simp, rfl, rfl, Nat.le_refl _, Ll9, Lm9, ol9, om9, ox9, oy9, e09⟩ ?_
  clear ox9 oy9 ol9 om9 Ll9 Lm9 e09
  rintro ⟨q, bq, rest, prest⟩ w10 ⟨hq, hr, hp, hbq, Ll, Lm, ol, om, ox, oy, e0⟩ ih
  simp only at hq hr hp hbq Ll Lm ol om ox oy e0 ih ⊢
  by_cases hqm : q < ml
  · obtain ⟨x, hx⟩ : ∃ x, xl[q]? = some x := ⟨_, List.getElem?_eq_getElem (by omega)⟩
    obtain ⟨p, hp2⟩ : ∃ p, (frames k).1[q]? = some p := ⟨_, List.getElem?_eq_getElem (by omega)⟩
    obtain ⟨y, hy⟩ : ∃ y, xm[q]? = some y := ⟨_, List.getElem?_eq_getElem (by omega)⟩
    have hr2 : rest = x :: xl.drop (q + 1) := by rw [hr]; have := (List.getElem?_eq_some_iff.1 hx); obtain ⟨h1, h2⟩ := this; rw [List.drop_eq_getElem_cons h1, h2]
    have hp3 : prest = p :: (frames k).1.drop (q + 1) := by rw [hp]; have := (List.getElem?_eq_some_iff.1 hp2); obtain ⟨h1, h2⟩ := this; rw [List.drop_eq_getElem_cons h1, h2]
    rw [hr2, hp3] at Ll
    obtain ⟨Aq, nq, cq, b', rfl, oq, loq, hb', Lt⟩ := Ll
    obtain ⟨Ar, nr, cr, p', rfl, hp4, or⟩ := Lm.get hy
    rw [hp2] at hp4
    cases hp4
    have hle := Lt.le
    have hiq := oq.hi
    have hqc := oq.cap
    unfold maxLen at hqc
    clear hr hp hr2 hp3
    repeat (first | refine T_seq ?_ | refine T_region ?_ | refine T_region_q TE.mixed (by kernel_rfl) ?_ | refine T_cond_true rfl ?_ | refine T_block ?_ | refine T_skip ?_ | refine TL_lt_t (hk := ?_) | refine TL_nil ?_ | refine TL_move (hk := ?_) | refine TL_load_rd TE (hk := ?_) | refine TL_indexAddr1n TE (hk := ?_) | refine TL_len TE (hk := ?_))
    refine TL_call_q TE rfl rfl rfl (fun w' e => (same_t Aq Ar nq nr cq cr p w' (oq.ext e).rd (or.ext e).rd).mono fun v w2 ⟨a, b⟩ => ⟨a, b ▸ Mod.refl _ _⟩) ?_
    repeat (refine TL_not (hk := ?_))
    refine TL_nil_q ?_; intro w11 e11
    have oq1 := oq.ext e11
    have Lt1 := Lt.ext e11
    have Lm1 := Lm.ext e11
    have ol1 := ol.ext e11
    have om1 := om.ext e11
    have ox1 := ox.ext e11
    have oy1 := oy.ext e11
    have e01 := e0.ext e11
    clear oq Lt Lm ol om ox oy e0 e11 or
    repeat (first | refine T_seq ?_ | refine T_region ?_ | refine T_cond_false rfl ?_ | refine T_block ?_ | refine T_skip ?_ | refine TL_nil ?_ | refine TL_assign (hk := ?_))
    refine T_loop (ι := Nat × List Value) (fun i => [(24, .int .i64 (i.1 : Int)), (23, .int .i64 (q : Int)), (16, .slice Al ml cl), (19, .slice Am mm cm), (10, .slice Ax nx cx), (13, .slice Ay ny cy)])
      (fun i w' => i.1 ≤ nq ∧ Own w' bq 5 1 Aq nq cq i.2 ∧ Mod (blkL Aq) w11 w') (fun i => nq - i.1) (0, _) (.c rfl (.c rfl (.c rfl (.c rfl (.c rfl (.c rfl (.n))))))) ⟨by simp, oq1, Mod.refl _ _⟩ ?_
    rintro ⟨z, zs⟩ w12 ⟨hz, o12, m12⟩ ih2
    simp only at hz o12 m12 ih2 ⊢
    have hzl := o12.len
    have ol2 := ol1.mod m12 (Own.ne_type ol1 oq1 (by decide))
    by_cases hzn : z < nq
    · repeat (first | refine T_seq ?_ | refine T_region ?_ | refine T_cond_true rfl ?_ | refine T_block ?_ | refine T_skip ?_ | refine TL_lt_t (hk := ?_) | refine TL_nil ?_ | refine TL_move (hk := ?_) | refine TL_load_rd TE (hk := ?_) | refine TL_indexAddr1n TE (hk := ?_) | refine TL_len TE (hk := ?_))
      refine TL_store_own TE (hk := ?_); intro w13 m13 s13 o13
      repeat (first | refine T_region ?_ | refine T_inBlock ?_ | refine TL_add (hk := ?_) | refine TL_nil ?_ | refine TL_move (hk := ?_) | refine TL_assign (hk := ?_))
      exact ih2 (z + 1, _) w13 _ (by simp only; omega) ⟨by simp only; omega, o13, m12.trans m13⟩ (.c rfl (.c rfl (.c rfl (.c rfl (.c rfl (.c rfl (.n)))))))
    have om2 := om1.mod m12 (Own.ne_type om1 oq1 (by decide))
    have ox2 := ox1.mod m12 (Off.nb2 (x := w4.heap.size) (hiq.mono (by omega)) loX)
    have oy2 := oy1.mod m12 (Off.nb2 (x := w5.heap.size) (hiq.mono (by omega)) loY)
    have Lt2 := Lt1.mod m12 (fun x hx => .inl (blkL_lt loq hx))
    have Lm2 := Lm1.mod m12 (fun x hx => .inl (by have := blkL_lt loq hx; omega))
    have e02 := e01.own m12 (hiq.mono (by omega))
    clear ol1 om1 ox1 oy1 Lt1 Lm1 e01 m12 o12 ih2 oq1
    repeat (first | refine T_seq ?_ | refine T_region ?_ | refine T_cond_false rfl ?_ | refine T_inBlock ?_ | refine T_exit rfl ?_ | refine TL_add (hk := ?_) | refine TL_lt_f (hk := ?_) | refine TL_nil ?_ | refine TL_move (hk := ?_) | refine TL_assign (hk := ?_) | refine TL_load_rd TE (hk := ?_) | refine TL_indexAddr1n TE (hk := ?_) | refine TL_len TE (hk := ?_))
    exact ih (q + 1, b', _, _) w12 _ (by simp only; omega) ⟨by simp only; omega, rfl, rfl, by simp only; omega, Lt2, Lm2, ol2, om2, ox2, oy2, e02⟩ (.c rfl (.c rfl (.c rfl (.c rfl (.c rfl (.n))))))
  · repeat (first | refine T_seq ?_ | refine T_region ?_ | refine T_cond_false rfl ?_ | refine T_exit rfl ?_ | refine TL_lt_f (hk := ?_) | refine TL_nil ?_ | refine TL_move (hk := ?_) | refine TL_len TE (hk := ?_))
    refine TL_call TE (hc := same_t Ax Ay nx ny cx cy _ w10 ox.rd oy.rd) (hk := ?_)
    rintro _ w10 ⟨rfl, rfl⟩
    repeat (first | refine TL_move (hk := ?_) | refine TL_yes (hk := ?_))
    refine TL_call TE (hc := live_c w10) (hk := ?_)
    rintro _ w11 ⟨rfl, e11⟩
    repeat (first | refine TL_nil ?_ | refine TL_assign (hk := ?_) | refine TL_pick_t (hk := ?_))
    exact T_ret1 rfl rfl ⟨rfl, e0.ext e11⟩
end Go.Proofs.Ytkmdmpmimojmbaa
