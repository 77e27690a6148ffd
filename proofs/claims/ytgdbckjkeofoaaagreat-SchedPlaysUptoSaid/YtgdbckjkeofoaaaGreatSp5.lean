import Derived.Test.YtgdbckjkeofoaaaGreatSp4
import Derived.ArgAppend
/- Parts: DW2 SFW14 DW3 SLaw4 DW4 SW9 Eng10 Eng29 Eng35 SAct SW10 SW14 DW5 SW11 SW12 SLaw5 Eng36 Eng19 SW15 SW16 DLaw3 DW6 DW7 DW8 DW9. -/
namespace Go.Proofs.YtgdbckjkeofoaaaGreat
open Go.RowKit Go.Proofs.Eng Go.Proofs.Foot Go.Proofs.Locks Go.Proofs.Sched
set_option linter.unusedSimpArgs false
set_option linter.unusedVariables false set_option maxRecDepth 10000
attribute [local irreducible] T TL LV TH TA
set_option maxHeartbeats 3200000
section
variable {base : Nat} {a : DA} {x L : SL} {es : List EV} {g : Nat → Nat} {win : Nat} {S : StE} {l : List Tx} {E : List EnE}
theorem flies_c (i : Nat) (w : World) (D : DocM w base a x L es g win S l E) (hi : i < E.length) (hn : E.length ≤ 1000) : Ret Tryz.prog 77 [pB a.y, .int .i64 (i : Int)] w (fun v w' => v = .bool (flyB (stE E i)) ∧ w' = w) := by
  have hk := D.yk
  have hr := D.eo.rd
  obtain ⟨h1, h2⟩ := D.el
  have hv := D.st_at hi
  have hA : L.1 ≠ none := by obtain ⟨_, _, hq, _⟩ := hr.2 (by omega); rw [hq]; simp
  unfold flyB
  generalize stE E i = z at hv
  refine ret_T (n := 36) Tryz.func77 rfl rfl ?_
  by_cases e2 : ((z : Nat) : Int) = 2
  · rw [decide_eq_true (.inl (by omega))]
    repeat (first | refine T_seq ?_ | refine T_region ?_ | refine TL_eq_t (hk := ?_) | refine TL_nil ?_ | refine TL_move (hk := ?_) | refine TL_assign (hk := ?_) | refine TL_load TE (hk := ?_) | refine TL_load_rd TE (hk := ?_) | refine TL_fieldAddr TE (hk := ?_) | refine TL_fieldAddr_e TE (hk := ?_) | refine TL_indexAddrn TE (hk := ?_) | refine TL_no (hk := ?_) | refine TL_pick_t (hk := ?_) | refine TL_nilCheck (hk := ?_))
    exact T_ret1 rfl rfl ⟨rfl, rfl⟩
  · by_cases e3 : ((z : Nat) : Int) = 3
    · rw [decide_eq_true (.inr (.inl (by omega)))]
      repeat (first | refine T_seq ?_ | refine T_region ?_ | refine TL_eq_t (hk := ?_) | refine TL_eq_f (hk := ?_) | refine TL_nil ?_ | refine TL_move (hk := ?_) | refine TL_assign (hk := ?_) | refine TL_load TE (hk := ?_) | refine TL_load_rd TE (hk := ?_) | refine TL_fieldAddr TE (hk := ?_) | refine TL_fieldAddr_e TE (hk := ?_) | refine TL_indexAddrn TE (hk := ?_) | refine TL_yes (hk := ?_) | refine TL_no (hk := ?_) | refine TL_pick_t (hk := ?_) | refine TL_pick_f (hk := ?_) | refine TL_nilCheck (hk := ?_))
      exact T_ret1 rfl rfl ⟨rfl, rfl⟩
    · by_cases e4 : ((z : Nat) : Int) = 4
      · rw [decide_eq_true (.inr (.inr (by omega)))]
        repeat (first | refine T_seq ?_ | refine T_region ?_ | refine TL_eq_t (hk := ?_) | refine TL_eq_f (hk := ?_) | refine TL_nil ?_ | refine TL_move (hk := ?_) | refine TL_assign (hk := ?_) | refine TL_load TE (hk := ?_) | refine TL_load_rd TE (hk := ?_) | refine TL_fieldAddr TE (hk := ?_) | refine TL_fieldAddr_e TE (hk := ?_) | refine TL_indexAddrn TE (hk := ?_) | refine TL_yes (hk := ?_) | refine TL_pick_f (hk := ?_) | refine TL_nilCheck (hk := ?_))
        exact T_ret1 rfl rfl ⟨rfl, rfl⟩
      · rw [decide_eq_false (by omega)]
        repeat (first | refine T_seq ?_ | refine T_region ?_ | refine TL_eq_f (hk := ?_) | refine TL_nil ?_ | refine TL_move (hk := ?_) | refine TL_assign (hk := ?_) | refine TL_load TE (hk := ?_) | refine TL_load_rd TE (hk := ?_) | refine TL_fieldAddr TE (hk := ?_) | refine TL_fieldAddr_e TE (hk := ?_) | refine TL_indexAddrn TE (hk := ?_) | refine TL_yes (hk := ?_) | refine TL_pick_f (hk := ?_) | refine TL_nilCheck (hk := ?_))
        exact T_ret1 rfl rfl ⟨rfl, rfl⟩
theorem RFlying_c (w : World) (D : DocM w base a x L es g win S l E) (hn : E.length ≤ 1000) : Ret Tryz.prog 54 [pB a.y] w (fun v w' => v = .int .i64 ((flyL E E.length).length : Int) ∧ w' = w) := by
  have hk := D.yk
  obtain ⟨h1, h2⟩ := D.el
  refine ret_T (n := 20) Tryz.func54 rfl rfl ?_
  repeat (first | refine T_seq ?_ | refine T_region ?_ | refine T_block ?_ | refine TL_nil ?_ | refine TL_assign (hk := ?_))
  refine T_loop (ι := Nat) (fun i => [(4, .int .i64 (i : Int)), (3, .int .i64 ((flyL E i).length : Int)), (0, pB a.y)]) (fun i w' => i ≤ E.length ∧ w' = w) (fun i => E.length - i) 0 (.c rfl (.c rfl (.c rfl (.n)))) ⟨Nat.zero_le _, rfl⟩ ?_
  rintro i w1 ⟨hi, rfl⟩ ih
  have hfl := fly_len E i
  by_cases hlt : i < E.length
  · have hs := fly_succ E i
    repeat (first | refine T_seq ?_ | refine T_region ?_ | refine T_cond_true rfl ?_ | refine T_block ?_ | refine T_skip ?_ | refine TL_lt_t (hk := ?_) | refine TL_nil ?_ | refine TL_move (hk := ?_) | refine TL_load TE (hk := ?_) | refine TL_fieldAddr TE (hk := ?_) | refine TL_len TE (hk := ?_) | refine TL_nilCheck (hk := ?_))
    refine TL_call TE (hc := flies_c i _ D hlt hn) (hk := ?_)
    rintro _ w1 ⟨rfl, rfl⟩
    cases hf : flyB (stE E i) with
    | true =>
      rw [hf, if_pos rfl] at hs
      have hc : ((flyL E i).length : Int) + 1 = ((flyL E (i + 1)).length : Int) := by rw [hs]; simp
      repeat (first | refine T_region ?_ | refine T_cond_true rfl ?_ | refine T_inBlock ?_ | refine TL_add (hk := ?_) | refine TL_nil ?_ | refine TL_move (hk := ?_) | refine TL_assign (hk := ?_))
      exact ih (i + 1) _ _ (by omega) ⟨by omega, rfl⟩ (by rw [← hc]; exact (.c rfl (.c rfl (.c rfl (.n)))))
    | false =>
      rw [hf, if_neg (by simp), List.append_nil] at hs
      repeat (first | refine T_region ?_ | refine T_cond_false rfl ?_ | refine T_inBlock ?_ | refine T_skip ?_ | refine TL_add (hk := ?_) | refine TL_nil ?_ | refine TL_move (hk := ?_) | refine TL_assign (hk := ?_))
      exact ih (i + 1) _ _ (by omega) ⟨by omega, rfl⟩ (by rw [hs]; exact (.c rfl (.c rfl (.c rfl (.n)))))
  · have hie : E.length = i := by omega
    clear ih
    rw [← hie]
    repeat (first | refine T_seq ?_ | refine T_region ?_ | refine T_cond_false rfl ?_ | refine T_exit rfl ?_ | refine TL_lt_f (hk := ?_) | refine TL_nil ?_ | refine TL_move (hk := ?_) | refine TL_assign (hk := ?_) | refine TL_load TE (hk := ?_) | refine TL_fieldAddr TE (hk := ?_) | refine TL_len TE (hk := ?_) | refine TL_nilCheck (hk := ?_))
    exact T_ret1 rfl rfl ⟨rfl, rfl⟩
/-- For whom one waits, in the document. -/
def waitD (E : List EnE) (i : Nat) (j : Nat) : List Nat := (List.range j).filter fun k => flyB (stE E k) && clB E i k
theorem waitD_succ (E : List EnE) (i j : Nat) : waitD E i (j + 1) = waitD E i j ++ (if (flyB (stE E j) && clB E i j) = true then [j] else []) := by
  unfold waitD
  rw [List.range_succ, List.filter_append]
  congr 1
  simp only [List.filter_cons, List.filter_nil]
theorem waitD_len (E : List EnE) (i j : Nat) : (waitD E i j).length ≤ j := Nat.le_trans (List.length_filter_le _ _) (by simp)
theorem waitD_nil {E : List EnE} {i : Nat} : (waitD E i i).length = 0 ↔ rdyI E i := by
  rw [List.length_eq_zero_iff]
  unfold waitD
  rw [List.filter_eq_nil_iff]
  constructor
  · intro h k hk hf
    have := h k (List.mem_range.2 hk)
    rw [hf] at this
    simpa using this
  · intro h k hk
    cases hf : flyB (stE E k) with
    | false => simp
    | true => simp [h k (List.mem_range.1 hk) hf]
theorem clash_clB {E : List EnE} {i k : Nat} : (((E.getD k en0).wr.any fun x => decide (x ∈ (E.getD i en0).rd ++ (E.getD i en0).wr)) || ((E.getD i en0).wr.any fun x => decide (x ∈ (E.getD k en0).rd ++ (E.getD k en0).wr))) = clB E i k := by
  have hn : ((locksT (E.getD k en0).rd (E.getD k en0).wr).map (·.1)).Nodup := by
    unfold locksT
    rw [List.map_map, show (((fun x : Lk => x.1) ∘ fun t => (t, bitsM (ofM (E.getD k en0).rd (E.getD k en0).wr) t &&& 2 != 0)) : Tx → Tx) = id from rfl, List.map_id]
    unfold keysM used
    exact (List.mergeSort_perm _ _).nodup_iff.2 ((of_nodup _ _).sublist (List.filter_sublist.map _))
  unfold clB entA
  simp only
  rw [← clash2_eq hn, show clash2 (locksT (E.getD k en0).rd (E.getD k en0).wr) (locksT (E.getD i en0).rd (E.getD i en0).wr) = meetL (locksM (ofM (E.getD k en0).rd (E.getD k en0).wr)) (locksM (ofM (E.getD i en0).rd (E.getD i en0).wr)) from rfl, meet_eq, clash_eq]
theorem RWaits_c15 (i : Nat) (w : World) (D : DocM w base a x L es g win S l E) (hi : i < E.length) (hn : E.length ≤ 1000) : Ret Tryz.prog 47 [pB a.y, .int .i64 (i : Int)] w (fun v w' => ∃ y : SL, v = sL y ∧ Ext w w' ∧ Own w' w.heap.size 2 1 y.1 y.2.1 y.2.2 (nzV (waitD E i i))) := by
  obtain ⟨h1, h2⟩ := D.el
  refine ret_T (n := 39) Tryz.func47 rfl rfl ?_
  repeat (first | refine T_seq ?_ | refine T_region ?_ | refine T_block ?_ | refine TL_nil ?_ | refine TL_assign (hk := ?_))
  refine T_loop (ι := Nat × SL) (fun q => [(6, .int .i64 (q.1 : Int)), (5, sL q.2), (0, pB a.y), (1, .int .i64 (i : Int))]) (fun q w' => q.1 ≤ i ∧ Ext w w' ∧ Own w' w.heap.size 2 1 q.2.1 q.2.2.1 q.2.2.2 (nzV (waitD E i q.1))) (fun q => i - q.1) (0, (none, 0, 0)) (.c rfl (.c rfl (.c rfl (.c rfl (.n))))) ⟨Nat.zero_le _, Mod.refl _ _, Own.nil _ _ _ _⟩ ?_
  rintro ⟨k, y⟩ w1 ⟨hk, e1, o1⟩ ih
  simp only at hk e1 o1 ih ⊢
  have D1 := D.ext e1
  have z1 := e1.size
  have hyl : y.2.1 = (waitD E i k).length := by have := o1.len; rw [nzV_len] at this; omega
  have hwl := waitD_len E i k
  by_cases hlt : k < i
  · have hs := waitD_succ E i k
    have hyk := D1.yk
    have hr := D1.eo.rd
    have hA : L.1 ≠ none := by obtain ⟨_, _, hq, _⟩ := hr.2 (by omega); rw [hq]; simp
    have hgk := D1.at (show k < E.length by omega)
    have hgi := D1.at hi
    have hck := D1.ek _ (getD_in (d := ev0) (show k < es.length by omega))
    have hci := D1.ek _ (getD_in (d := ev0) (show i < es.length by omega))
    have hek : ((rowV enV es).drop (k * 3 + 0)).take 2 = [.slice (es.getD k ev0).A (es.getD k ev0).n (es.getD k ev0).c, .slice (es.getD k ev0).B (es.getD k ev0).m (es.getD k ev0).d] := by
      have := congrArg (List.take 2) (rowV_elem enV_len es k ev0 (by omega))
      rw [List.take_take] at this
      exact this
    have hei : ((rowV enV es).drop (i * 3 + 0)).take 2 = [.slice (es.getD i ev0).A (es.getD i ev0).n (es.getD i ev0).c, .slice (es.getD i ev0).B (es.getD i ev0).m (es.getD i ev0).d] := by
      have := congrArg (List.take 2) (rowV_elem enV_len es i ev0 (by omega))
      rw [List.take_take] at this
      exact this
    have hcl := clash_clB (E := E) (i := i) (k := k)
    rw [← hgk, ← hgi] at hcl
    generalize es.getD k ev0 = u at hek hck hcl
    generalize es.getD i ev0 = v at hei hci hcl
    have hLD : Off L.1 ([] : List Nat) := .nil _
    have hyD : a.y ∉ ([] : List Nat) := by simp
    repeat (first | refine T_seq ?_ | refine T_region ?_ | refine T_cond_true rfl ?_ | refine T_block ?_ | refine T_skip ?_ | refine TL_lt_t (hk := ?_) | refine TL_nil ?_ | refine TL_move (hk := ?_))
    refine T_region_any TE.mixed ([] : List Nat) ?_; intro w2 e2 z2
    have D2 := D1.ext e2
    have hr2 := hr.be e2
    have hyk2 := hyk.be e2
    (refine TA_take 0 rfl (by kernel_rfl) (by kernel_rfl) (by kernel_rfl) ?_; (repeat (refine TL_move (hk := ?_))); refine TL_nil_p ?_); (refine TA_take 1 rfl (by kernel_rfl) (by kernel_rfl) (by kernel_rfl) ?_; (repeat (refine TL_move (hk := ?_))); refine TL_nil_p ?_)
    refine TA_one 2 rfl (by kernel_rfl) (by kernel_rfl) ?_; (try refine TL_yes (hk := ?_)); refine TL_call TE (hc := (flies_c k _ D2 (by omega) hn)) (hq := (by rintro _ w' ⟨rfl, rfl⟩; exact Mod.refl _ _)) (hk := ?_)
    rintro _ w2 ⟨rfl, rfl⟩
    refine TL_nil_p ?_
    cases hf : flyB (stE E k) with
    | false =>
      rw [hf, Bool.false_and, if_neg (by simp), List.append_nil] at hs
      (refine TA_take 3 rfl (by kernel_rfl) (by kernel_rfl) (by kernel_rfl) ?_; (repeat (first | refine TL_move (hk := ?_) | refine TL_no (hk := ?_))); refine TL_nil_p ?_); (refine TA_take 4 rfl (by kernel_rfl) (by kernel_rfl) (by kernel_rfl) ?_; (repeat (first | refine TL_move (hk := ?_) | refine TL_no (hk := ?_))); refine TL_nil_p ?_); (refine TA_take 5 rfl (by kernel_rfl) (by kernel_rfl) (by kernel_rfl) ?_; (repeat (first | refine TL_move (hk := ?_) | refine TL_no (hk := ?_))); refine TL_nil_p ?_); (refine TA_take 6 rfl (by kernel_rfl) (by kernel_rfl) (by kernel_rfl) ?_; (repeat (first | refine TL_move (hk := ?_) | refine TL_no (hk := ?_))); refine TL_nil_p ?_); (refine TA_take 7 rfl (by kernel_rfl) (by kernel_rfl) (by kernel_rfl) ?_; (repeat (first | refine TL_move (hk := ?_) | refine TL_no (hk := ?_))); refine TL_nil_p ?_); (refine TA_take 8 rfl (by kernel_rfl) (by kernel_rfl) (by kernel_rfl) ?_; (repeat (first | refine TL_move (hk := ?_) | refine TL_no (hk := ?_))); refine TL_nil_p ?_); (refine TA_take 9 rfl (by kernel_rfl) (by kernel_rfl) (by kernel_rfl) ?_; (repeat (first | refine TL_move (hk := ?_) | refine TL_no (hk := ?_))); refine TL_nil_p ?_); (refine TA_take 10 rfl (by kernel_rfl) (by kernel_rfl) (by kernel_rfl) ?_; (repeat (first | refine TL_move (hk := ?_) | refine TL_no (hk := ?_))); refine TL_nil_p ?_); (refine TA_take 11 rfl (by kernel_rfl) (by kernel_rfl) (by kernel_rfl) ?_; (repeat (first | refine TL_move (hk := ?_) | refine TL_no (hk := ?_))); refine TL_nil_p ?_); (refine TA_take 12 rfl (by kernel_rfl) (by kernel_rfl) (by kernel_rfl) ?_; (repeat (first | refine TL_move (hk := ?_) | refine TL_no (hk := ?_))); refine TL_nil_p ?_); (refine TA_take 13 rfl (by kernel_rfl) (by kernel_rfl) (by kernel_rfl) ?_; (repeat (first | refine TL_move (hk := ?_) | refine TL_no (hk := ?_))); refine TL_nil_p ?_); (refine TA_take 14 rfl (by kernel_rfl) (by kernel_rfl) (by kernel_rfl) ?_; (repeat (first | refine TL_move (hk := ?_) | refine TL_no (hk := ?_))); refine TL_nil_p ?_); (refine TA_take 15 rfl (by kernel_rfl) (by kernel_rfl) (by kernel_rfl) ?_; (repeat (first | refine TL_move (hk := ?_) | refine TL_no (hk := ?_))); refine TL_nil_p ?_); (refine TA_take 16 rfl (by kernel_rfl) (by kernel_rfl) (by kernel_rfl) ?_; (repeat (first | refine TL_move (hk := ?_) | refine TL_no (hk := ?_))); refine TL_nil_p ?_); (refine TA_take 17 rfl (by kernel_rfl) (by kernel_rfl) (by kernel_rfl) ?_; (repeat (first | refine TL_move (hk := ?_) | refine TL_no (hk := ?_))); refine TL_nil_p ?_); (refine TA_take 18 rfl (by kernel_rfl) (by kernel_rfl) (by kernel_rfl) ?_; (repeat (first | refine TL_move (hk := ?_) | refine TL_no (hk := ?_))); refine TL_nil_p ?_); (refine TA_take 19 rfl (by kernel_rfl) (by kernel_rfl) (by kernel_rfl) ?_; (repeat (first | refine TL_move (hk := ?_) | refine TL_no (hk := ?_))); refine TL_nil_p ?_)
      (refine TA_one 20 rfl (by kernel_rfl) (by kernel_rfl) ?_; (repeat (first | refine TL_no (hk := ?_) | refine TL_pick_f (hk := ?_))); refine TL_nil_p ?_); (refine TA_one 21 rfl (by kernel_rfl) (by kernel_rfl) ?_; (repeat (first | refine TL_no (hk := ?_) | refine TL_pick_f (hk := ?_))); refine TL_nil_p ?_)
      refine TA_done (by kernel_rfl) ?_
      repeat (first | refine T_region ?_ | refine T_cond_false rfl ?_ | refine T_inBlock ?_ | refine T_skip ?_ | refine TL_add (hk := ?_) | refine TL_nil ?_ | refine TL_move (hk := ?_) | refine TL_assign (hk := ?_))
      exact ih (k + 1, y) _ _ (by simp only; omega) ⟨by simp only; omega, e1.ext e2, by simp only; rw [hs]; exact o1.be e2⟩ (.c rfl (.c rfl (.c rfl (.c rfl (.n)))))
    | true =>
      rw [hf, Bool.true_and] at hs
      (refine TA_take 3 rfl (by kernel_rfl) (by kernel_rfl) (by kernel_rfl) ?_; (repeat (first | refine TL_move (hk := ?_) | refine TLP_load TE (hk := ?_) | refine TL_fieldAddr TE (hk := ?_) | refine TL_fieldAddr_e TE (hk := ?_) | refine TL_indexAddrn TE (hk := ?_) | refine TL_yes (hk := ?_) | refine TL_nilCheck (hk := ?_))); refine TL_nil_p ?_); (refine TA_take 4 rfl (by kernel_rfl) (by kernel_rfl) (by kernel_rfl) ?_; (repeat (first | refine TL_move (hk := ?_) | refine TLP_load TE (hk := ?_) | refine TL_fieldAddr TE (hk := ?_) | refine TL_fieldAddr_e TE (hk := ?_) | refine TL_indexAddrn TE (hk := ?_) | refine TL_yes (hk := ?_) | refine TL_nilCheck (hk := ?_))); refine TL_nil_p ?_); (refine TA_take 5 rfl (by kernel_rfl) (by kernel_rfl) (by kernel_rfl) ?_; (repeat (first | refine TL_move (hk := ?_) | refine TLP_load TE (hk := ?_) | refine TL_fieldAddr TE (hk := ?_) | refine TL_fieldAddr_e TE (hk := ?_) | refine TL_indexAddrn TE (hk := ?_) | refine TL_yes (hk := ?_) | refine TL_nilCheck (hk := ?_))); refine TL_nil_p ?_); (refine TA_take 6 rfl (by kernel_rfl) (by kernel_rfl) (by kernel_rfl) ?_; (repeat (first | refine TL_move (hk := ?_) | refine TLP_load TE (hk := ?_) | refine TL_fieldAddr TE (hk := ?_) | refine TL_fieldAddr_e TE (hk := ?_) | refine TL_indexAddrn TE (hk := ?_) | refine TL_yes (hk := ?_) | refine TL_nilCheck (hk := ?_))); refine TL_nil_p ?_); (refine TA_take 7 rfl (by kernel_rfl) (by kernel_rfl) (by kernel_rfl) ?_; (repeat (first | refine TL_move (hk := ?_) | refine TLP_load TE (hk := ?_) | refine TL_fieldAddr TE (hk := ?_) | refine TL_fieldAddr_e TE (hk := ?_) | refine TL_indexAddrn TE (hk := ?_) | refine TL_yes (hk := ?_) | refine TL_nilCheck (hk := ?_))); refine TL_nil_p ?_); (refine TA_take 8 rfl (by kernel_rfl) (by kernel_rfl) (by kernel_rfl) ?_; (repeat (first | refine TL_move (hk := ?_) | refine TLP_load TE (hk := ?_) | refine TL_fieldAddr TE (hk := ?_) | refine TL_fieldAddr_e TE (hk := ?_) | refine TL_indexAddrn TE (hk := ?_) | refine TL_yes (hk := ?_) | refine TL_nilCheck (hk := ?_))); refine TL_nil_p ?_); (refine TA_take 9 rfl (by kernel_rfl) (by kernel_rfl) (by kernel_rfl) ?_; (repeat (first | refine TL_move (hk := ?_) | refine TLP_load TE (hk := ?_) | refine TL_fieldAddr TE (hk := ?_) | refine TL_fieldAddr_e TE (hk := ?_) | refine TL_indexAddrn TE (hk := ?_) | refine TL_yes (hk := ?_) | refine TL_nilCheck (hk := ?_))); refine TL_nil_p ?_); (refine TA_take 10 rfl (by kernel_rfl) (by kernel_rfl) (by kernel_rfl) ?_; (repeat (first | refine TL_move (hk := ?_) | refine TLP_load TE (hk := ?_) | refine TL_fieldAddr TE (hk := ?_) | refine TL_fieldAddr_e TE (hk := ?_) | refine TL_indexAddrn TE (hk := ?_) | refine TL_yes (hk := ?_) | refine TL_nilCheck (hk := ?_))); refine TL_nil_p ?_)
      refine TA_take 11 rfl (by kernel_rfl) (by kernel_rfl) (by kernel_rfl) ?_
      refine TL_yes (hk := ?_)
      refine TLP_loada TE (cs := [.slice u.A u.n u.c, .slice u.B u.m u.d]) (hr := hr2) (hc := hek) (hk := ?_)
      refine TL_nil_p ?_
      (refine TA_take 12 rfl (by kernel_rfl) (by kernel_rfl) (by kernel_rfl) ?_; (repeat (first | refine TL_move (hk := ?_) | refine TLP_load TE (hk := ?_) | refine TL_fieldAddr TE (hk := ?_) | refine TL_fieldAddr_e TE (hk := ?_) | refine TL_indexAddrn TE (hk := ?_) | refine TL_yes (hk := ?_) | refine TL_nilCheck (hk := ?_))); refine TL_nil_p ?_); (refine TA_take 13 rfl (by kernel_rfl) (by kernel_rfl) (by kernel_rfl) ?_; (repeat (first | refine TL_move (hk := ?_) | refine TLP_load TE (hk := ?_) | refine TL_fieldAddr TE (hk := ?_) | refine TL_fieldAddr_e TE (hk := ?_) | refine TL_indexAddrn TE (hk := ?_) | refine TL_yes (hk := ?_) | refine TL_nilCheck (hk := ?_))); refine TL_nil_p ?_); (refine TA_take 14 rfl (by kernel_rfl) (by kernel_rfl) (by kernel_rfl) ?_; (repeat (first | refine TL_move (hk := ?_) | refine TLP_load TE (hk := ?_) | refine TL_fieldAddr TE (hk := ?_) | refine TL_fieldAddr_e TE (hk := ?_) | refine TL_indexAddrn TE (hk := ?_) | refine TL_yes (hk := ?_) | refine TL_nilCheck (hk := ?_))); refine TL_nil_p ?_); (refine TA_take 15 rfl (by kernel_rfl) (by kernel_rfl) (by kernel_rfl) ?_; (repeat (first | refine TL_move (hk := ?_) | refine TLP_load TE (hk := ?_) | refine TL_fieldAddr TE (hk := ?_) | refine TL_fieldAddr_e TE (hk := ?_) | refine TL_indexAddrn TE (hk := ?_) | refine TL_yes (hk := ?_) | refine TL_nilCheck (hk := ?_))); refine TL_nil_p ?_); (refine TA_take 16 rfl (by kernel_rfl) (by kernel_rfl) (by kernel_rfl) ?_; (repeat (first | refine TL_move (hk := ?_) | refine TLP_load TE (hk := ?_) | refine TL_fieldAddr TE (hk := ?_) | refine TL_fieldAddr_e TE (hk := ?_) | refine TL_indexAddrn TE (hk := ?_) | refine TL_yes (hk := ?_) | refine TL_nilCheck (hk := ?_))); refine TL_nil_p ?_); (refine TA_take 17 rfl (by kernel_rfl) (by kernel_rfl) (by kernel_rfl) ?_; (repeat (first | refine TL_move (hk := ?_) | refine TLP_load TE (hk := ?_) | refine TL_fieldAddr TE (hk := ?_) | refine TL_fieldAddr_e TE (hk := ?_) | refine TL_indexAddrn TE (hk := ?_) | refine TL_yes (hk := ?_) | refine TL_nilCheck (hk := ?_))); refine TL_nil_p ?_); (refine TA_take 18 rfl (by kernel_rfl) (by kernel_rfl) (by kernel_rfl) ?_; (repeat (first | refine TL_move (hk := ?_) | refine TLP_load TE (hk := ?_) | refine TL_fieldAddr TE (hk := ?_) | refine TL_fieldAddr_e TE (hk := ?_) | refine TL_indexAddrn TE (hk := ?_) | refine TL_yes (hk := ?_) | refine TL_nilCheck (hk := ?_))); refine TL_nil_p ?_)
      refine TA_take 19 rfl (by kernel_rfl) (by kernel_rfl) (by kernel_rfl) ?_
      refine TL_yes (hk := ?_)
      refine TLP_loada TE (cs := [.slice v.A v.n v.c, .slice v.B v.m v.d]) (hr := hr2) (hc := hei) (hk := ?_)
      refine TL_nil_p ?_
      refine TA_one 20 rfl (by kernel_rfl) (by kernel_rfl) ?_; (try refine TL_yes (hk := ?_)); refine TL_call TE (hc := (RClash_c u.A u.B v.A v.B u.n u.m v.n v.m u.c u.d v.c v.d u.rd u.wr v.rd v.wr _ (hck.ra.be e2) (hck.rb.be e2) (hci.ra.be e2) (hci.rb.be e2) (by have := hck.na; omega) (by have := hck.nb; omega) (by have := hci.na; omega) (by have := hci.nb; omega))) (hq := (by rintro _ w' ⟨rfl, e⟩; exact e)) (hk := ?_)
      rintro _ w3 ⟨rfl, e3⟩
      refine TL_nil_p ?_
      rw [show ((u.wr.any fun x => decide (x ∈ v.rd ++ v.wr)) || (v.wr.any fun x => decide (x ∈ u.rd ++ u.wr))) = clB E i k from hcl]
      (refine TA_one 21 rfl (by kernel_rfl) (by kernel_rfl) ?_; (repeat (refine TL_pick_t (hk := ?_))); refine TL_nil_p ?_)
      refine TA_done (by kernel_rfl) ?_
      have e13 := e2.ext e3
      have z13 := e13.size
      cases hc : clB E i k with
      | false =>
        rw [hc, if_neg (by simp), List.append_nil] at hs
        repeat (first | refine T_region ?_ | refine T_cond_false rfl ?_ | refine T_inBlock ?_ | refine T_skip ?_ | refine TL_add (hk := ?_) | refine TL_nil ?_ | refine TL_move (hk := ?_) | refine TL_assign (hk := ?_))
        exact ih (k + 1, y) _ _ (by simp only; omega) ⟨by simp only; omega, e1.ext e13, by simp only; rw [hs]; exact o1.be e13⟩ (.c rfl (.c rfl (.c rfl (.c rfl (.n)))))
      | true =>
        rw [hc, if_pos rfl] at hs
        have o3 := o1.be e13
        repeat (first | refine T_region ?_ | refine T_cond_true rfl ?_ | refine TL_move (hk := ?_))
        refine TL_buildSlice TE (hk := ?_); intro b4 w4 e4 q4 q4' k4
        have r4 : Rd w4 (some ⟨b4, 0, none⟩) 1 1 (nzV [k]) := Rd.blk k4 rfl
        have o4 := o3.be e4
        have z4 := e4.size
        have hone := nzV_one [k]
        --
        refine TL_append TE (hk := ?_); intro A5 c5 w5 o5 m5 n5
        rw [← nzV_append, ← hs] at o5
        have e15 : Ext w w5 := ((e1.ext e13).ext e4).own m5 o1.hi
        repeat (first | refine T_region ?_ | refine T_inBlock ?_ | refine TL_add (hk := ?_) | refine TL_nil ?_ | refine TL_move (hk := ?_) | refine TL_assign (hk := ?_))
        exact ih (k + 1, (A5, y.2.1 + 1, c5)) _ _ (by simp only; omega) ⟨by simp only; omega, e15, o5⟩ (.c rfl (.c rfl (.c rfl (.c rfl (.n)))))
  · obtain rfl : k = i := by omega
    clear ih
    repeat (first | refine T_seq ?_ | refine T_region ?_ | refine T_cond_false rfl ?_ | refine T_exit rfl ?_ | refine TL_lt_f (hk := ?_) | refine TL_nil ?_ | refine TL_move (hk := ?_) | refine TL_assign (hk := ?_))
    exact T_ret1 rfl rfl ⟨y, rfl, e1, o1⟩
theorem settle_c (w : World) (D : DocM w base a x L es g win S l E) (hn : E.length ≤ 1000) : Ret Tryz.prog 46 [pB a.y] w (fun v w' => ∃ es', DocM w' base a x L es' g win S l (settleD E) ∧ Tn g g w w') := by
  refine ret_T (n := 35) Tryz.func46 rfl rfl ?_
  repeat (first | refine T_seq ?_ | refine T_region ?_ | refine T_block ?_ | refine TL_nil ?_ | refine TL_assign (hk := ?_))
  refine T_loop (ι := Nat) (fun i => [(2, .int .i64 (i : Int)), (0, pB a.y)]) (fun i w' => i ≤ E.length ∧ ∃ es', DocM w' base a x L es' g win S l (setK E i) ∧ Tn g g w w') (fun i => E.length - i) 0 (.c rfl (.c rfl (.n))) ⟨Nat.zero_le _, es, D, Tn.refl _ _⟩ ?_
  rintro i w1 ⟨hi, es1, D1, t1⟩ ih
  have hle := (setK_spec E i).1
  have hk := D1.yk
  obtain ⟨h1, h2⟩ := D1.el
  rw [hle] at h1 h2
  by_cases hlt : i < E.length
  · have hr := D1.eo.rd
    have hv := D1.st_at (i := i) (by rw [hle]; exact hlt)
    have hA : L.1 ≠ none := by obtain ⟨_, _, hq, _⟩ := hr.2 (by omega); rw [hq]; simp
    have hs : setK E (i + 1) = if stE (setK E i) i = 2 ∧ rdyB (setK E i) i = true then setSt (setK E i) i 3 else setK E i := rfl
    by_cases e2 : stE (setK E i) i = 2
    · have e2' : ((stE (setK E i) i : Nat) : Int) = 2 := by omega
      repeat (first | refine T_seq ?_ | refine T_region ?_ | refine T_cond_true rfl ?_ | refine T_block ?_ | refine T_skip ?_ | refine TL_lt_t (hk := ?_) | refine TL_eq_t (hk := ?_) | refine TL_nil ?_ | refine TL_move (hk := ?_) | refine TL_load TE (hk := ?_) | refine TL_load_rd TE (hk := ?_) | refine TL_fieldAddr TE (hk := ?_) | refine TL_fieldAddr_e TE (hk := ?_) | refine TL_indexAddrn TE (hk := ?_) | refine TL_len TE (hk := ?_) | refine TL_yes (hk := ?_) | refine TL_nilCheck (hk := ?_))
      refine TL_call TE (hc := RWaits_c15 i _ D1 (by rw [hle]; exact hlt) (by rw [hle]; exact hn)) (hk := ?_)
      rintro _ w2 ⟨y, rfl, e, o⟩
      have hyl : y.2.1 = (waitD (setK E i) i i).length := by have := o.len; rw [nzV_len] at this; omega
      have D2 := D1.ext e
      have hk2 := D2.yk
      have hr2 := D2.eo.rd
      by_cases hw : (waitD (setK E i) i i).length = 0
      · have hw' : ((y.2.1 : Nat) : Int) = 0 := by omega
        rw [if_pos ⟨e2, rdyB_iff.2 (waitD_nil.1 hw)⟩] at hs
        have ho2 := D2.eo
        clear hk hr
        repeat (first | refine T_region ?_ | refine T_cond_true rfl ?_ | refine TL_eq_t (hk := ?_) | refine TL_nil ?_ | refine TL_move (hk := ?_) | refine TL_load TE (hk := ?_) | refine TL_fieldAddr TE (hk := ?_) | refine TL_fieldAddr_e TE (hk := ?_) | refine TL_indexAddrn TE (hk := ?_) | refine TL_len TE (hk := ?_) | refine TL_yes (hk := ?_) | refine TL_pick_t (hk := ?_) | refine TL_nilCheck (hk := ?_))
        refine TL_store_own TE (ho := ho2) (hj := by rw [rowV_len enV_len]; omega) (hk := ?_); intro w3 m3 z3 o3
        rw [show (Value.int .i64 3) = .int .i64 ((3 : Nat) : Int) from rfl, evSt_row es1 i 3 (by omega)] at o3
        obtain ⟨D3, t3⟩ := D2.setE (by rw [hle]; exact hlt) m3 o3
        repeat (first | refine T_region ?_ | refine T_inBlock ?_ | refine TL_add (hk := ?_) | refine TL_nil ?_ | refine TL_move (hk := ?_) | refine TL_assign (hk := ?_))
        exact ih (i + 1) _ _ (by omega) ⟨by omega, _, by rw [hs]; exact D3, (t1.trans (Tn.ext e)).trans t3⟩ (.c rfl (.c rfl (.n)))
      · have hw' : ¬ ((y.2.1 : Nat) : Int) = 0 := by omega
        rw [if_neg (fun q => hw (waitD_nil.2 (rdyB_iff.1 q.2)))] at hs
        repeat (first | refine T_region ?_ | refine T_cond_false rfl ?_ | refine T_inBlock ?_ | refine T_skip ?_ | refine TL_add (hk := ?_) | refine TL_eq_f (hk := ?_) | refine TL_nil ?_ | refine TL_move (hk := ?_) | refine TL_assign (hk := ?_) | refine TL_len TE (hk := ?_) | refine TL_yes (hk := ?_) | refine TL_pick_t (hk := ?_))
        exact ih (i + 1) _ _ (by omega) ⟨by omega, es1, by rw [hs]; exact D2, t1.trans (Tn.ext e)⟩ (.c rfl (.c rfl (.n)))
    · have e2' : ¬ ((stE (setK E i) i : Nat) : Int) = 2 := by omega
      rw [if_neg (fun q => e2 q.1)] at hs
      repeat (first | refine T_seq ?_ | refine T_region ?_ | refine T_cond_true rfl ?_ | refine T_cond_false rfl ?_ | refine T_block ?_ | refine T_inBlock ?_ | refine T_skip ?_ | refine TL_add (hk := ?_) | refine TL_lt_t (hk := ?_) | refine TL_eq_f (hk := ?_) | refine TL_nil ?_ | refine TL_move (hk := ?_) | refine TL_assign (hk := ?_) | refine TL_load TE (hk := ?_) | refine TL_load_rd TE (hk := ?_) | refine TL_fieldAddr TE (hk := ?_) | refine TL_fieldAddr_e TE (hk := ?_) | refine TL_indexAddrn TE (hk := ?_) | refine TL_len TE (hk := ?_) | refine TL_no (hk := ?_) | refine TL_pick_f (hk := ?_) | refine TL_nilCheck (hk := ?_))
      exact ih (i + 1) _ _ (by omega) ⟨by omega, es1, by rw [hs]; exact D1, t1⟩ (.c rfl (.c rfl (.n)))
  · have hie : E.length = i := by omega
    clear ih
    rw [← hie] at D1
    repeat (first | refine T_seq ?_ | refine T_region ?_ | refine T_cond_false rfl ?_ | refine T_exit rfl ?_ | refine TL_lt_f (hk := ?_) | refine TL_nil ?_ | refine TL_move (hk := ?_) | refine TL_load TE (hk := ?_) | refine TL_fieldAddr TE (hk := ?_) | refine TL_len TE (hk := ?_) | refine TL_nilCheck (hk := ?_))
    exact T_end0 rfl ⟨es1, D1, t1⟩
theorem RState_c15 (q : Int) (w : World) (D : DocM w base a x L es g win S l E) (hn : E.length ≤ 1000) : Ret Tryz.prog 45 [pB a.y, .int .i64 q] w (fun v w' => v = .int .i64 ((if q < 0 ∨ (E.length : Int) ≤ q then 0 else stE E q.toNat : Nat) : Int) ∧ w' = w) := by
  have hk := D.yk
  have hr := D.eo.rd
  obtain ⟨h1, h2⟩ := D.el
  refine ret_T (n := 24) Tryz.func45 rfl rfl ?_
  by_cases c1 : q < 0
  · rw [if_pos (.inl c1)]
    repeat (first | refine T_seq ?_ | refine T_region ?_ | refine T_cond_true rfl ?_ | refine TL_lt_t (hk := ?_) | refine TL_nil ?_ | refine TL_move (hk := ?_) | refine TL_assign (hk := ?_) | refine TL_no (hk := ?_) | refine TL_pick_t (hk := ?_))
    exact T_ret1 rfl rfl ⟨rfl, rfl⟩
  · by_cases c2 : (E.length : Int) ≤ q
    · have c2' : ((L.2.1 : Nat) : Int) ≤ q := by omega
      rw [if_pos (.inr c2)]
      repeat (first | refine T_seq ?_ | refine T_region ?_ | refine T_cond_true rfl ?_ | refine TL_lt_f (hk := ?_) | refine TL_ge_t (hk := ?_) | refine TL_nil ?_ | refine TL_move (hk := ?_) | refine TL_assign (hk := ?_) | refine TL_load TE (hk := ?_) | refine TL_fieldAddr TE (hk := ?_) | refine TL_len TE (hk := ?_) | refine TL_yes (hk := ?_) | refine TL_pick_f (hk := ?_) | refine TL_nilCheck (hk := ?_))
      exact T_ret1 rfl rfl ⟨rfl, rfl⟩
    · obtain ⟨i, rfl⟩ := Int.eq_ofNat_of_zero_le (show 0 ≤ q by omega)
      have hi : i < E.length := by omega
      have hv := D.st_at hi
      have hA : L.1 ≠ none := by obtain ⟨_, _, hq, _⟩ := hr.2 (by omega); rw [hq]; simp
      rw [if_neg (by omega)]
      simp only [Int.toNat_natCast]
      repeat (first | refine T_seq ?_ | refine T_region ?_ | refine T_cond_false rfl ?_ | refine T_skip ?_ | refine TL_lt_f (hk := ?_) | refine TL_ge_f (hk := ?_) | refine TL_nil ?_ | refine TL_move (hk := ?_) | refine TL_assign (hk := ?_) | refine TL_load TE (hk := ?_) | refine TL_load_rd TE (hk := ?_) | refine TL_fieldAddr TE (hk := ?_) | refine TL_fieldAddr_e TE (hk := ?_) | refine TL_indexAddrn TE (hk := ?_) | refine TL_len TE (hk := ?_) | refine TL_yes (hk := ?_) | refine TL_pick_f (hk := ?_) | refine TL_nilCheck (hk := ?_))
      exact T_ret1 rfl rfl ⟨rfl, rfl⟩
theorem With_c (z : Nat) (w : World) (D : DocM w base a x L es g win S l E) (hn : E.length ≤ 1000) (hz : z ≤ 10) : Ret Tryz.prog 50 [pB a.y, .int .i64 (z : Int)] w (fun v w' => ∃ y : SL, v = sL y ∧ Ext w w' ∧ Own w' w.heap.size 2 1 y.1 y.2.1 y.2.2 (nzV (withS E [z]))) := by
  obtain ⟨h1, h2⟩ := D.el
  refine ret_T (n := 31) Tryz.func50 rfl rfl ?_
  repeat (first | refine T_seq ?_ | refine T_region ?_ | refine T_block ?_ | refine TL_nil ?_ | refine TL_assign (hk := ?_))
  refine T_loop (ι := Nat × SL) (fun q => [(6, .int .i64 (q.1 : Int)), (5, sL q.2), (0, pB a.y), (1, .int .i64 (z : Int))]) (fun q w' => q.1 ≤ E.length ∧ Ext w w' ∧ Own w' w.heap.size 2 1 q.2.1 q.2.2.1 q.2.2.2 (nzV (withU E [z] q.1))) (fun q => E.length - q.1) (0, (none, 0, 0)) (.c rfl (.c rfl (.c rfl (.c rfl (.n))))) ⟨Nat.zero_le _, Mod.refl _ _, Own.nil _ _ _ _⟩ ?_
  rintro ⟨k, y⟩ w1 ⟨hk, e1, o1⟩ ih
  simp only at hk e1 o1 ih ⊢
  have D1 := D.ext e1
  have hyk := D1.yk
  have hr := D1.eo.rd
  have z1 := e1.size
  have hyl : y.2.1 = (withU E [z] k).length := by have := o1.len; rw [nzV_len] at this; omega
  have hwl := withU_len E [z] k
  by_cases hlt : k < E.length
  · have hA : L.1 ≠ none := by obtain ⟨_, _, hq, _⟩ := hr.2 (by omega); rw [hq]; simp
    have hv := D1.st_at hlt
    have hs := withU_succ E [z] k
    have hst : (E.getD k en0).st = stE E k := rfl
    rw [hst] at hs
    by_cases hz' : stE E k = z
    · have hzz : ((stE E k : Nat) : Int) = (z : Int) := by omega
      rw [if_pos (by simp [hz'])] at hs
      repeat (first | refine T_seq ?_ | refine T_region ?_ | refine T_cond_true rfl ?_ | refine T_block ?_ | refine T_skip ?_ | refine TL_lt_t (hk := ?_) | refine TL_eq_t (hk := ?_) | refine TL_nil ?_ | refine TL_move (hk := ?_) | refine TL_load TE (hk := ?_) | refine TL_load_rd TE (hk := ?_) | refine TL_fieldAddr TE (hk := ?_) | refine TL_fieldAddr_e TE (hk := ?_) | refine TL_indexAddrn TE (hk := ?_) | refine TL_len TE (hk := ?_) | refine TL_nilCheck (hk := ?_))
      refine TL_buildSlice TE (hk := ?_); intro b4 w4 e4 q4 q4' k4
      have r4 : Rd w4 (some ⟨b4, 0, none⟩) 1 1 (nzV [k]) := Rd.blk k4 rfl
      have o4 := o1.be e4
      have z4 := e4.size
      have hone := nzV_one [k]
      --
      refine TL_append TE (hk := ?_); intro A5 c5 w5 o5 m5 n5
      rw [← nzV_append, ← hs] at o5
      have e15 : Ext w w5 := (e1.ext e4).own m5 o1.hi
      repeat (first | refine T_region ?_ | refine T_inBlock ?_ | refine TL_add (hk := ?_) | refine TL_nil ?_ | refine TL_move (hk := ?_) | refine TL_assign (hk := ?_))
      exact ih (k + 1, (A5, y.2.1 + 1, c5)) _ _ (by simp only; omega) ⟨by simp only; omega, e15, o5⟩ (.c rfl (.c rfl (.c rfl (.c rfl (.n)))))
    · have hzz : ¬ ((stE E k : Nat) : Int) = (z : Int) := by omega
      rw [if_neg (by simp [hz']), List.append_nil] at hs
      repeat (first | refine T_seq ?_ | refine T_region ?_ | refine T_cond_true rfl ?_ | refine T_cond_false rfl ?_ | refine T_block ?_ | refine T_inBlock ?_ | refine T_skip ?_ | refine TL_add (hk := ?_) | refine TL_lt_t (hk := ?_) | refine TL_eq_f (hk := ?_) | refine TL_nil ?_ | refine TL_move (hk := ?_) | refine TL_assign (hk := ?_) | refine TL_load TE (hk := ?_) | refine TL_load_rd TE (hk := ?_) | refine TL_fieldAddr TE (hk := ?_) | refine TL_fieldAddr_e TE (hk := ?_) | refine TL_indexAddrn TE (hk := ?_) | refine TL_len TE (hk := ?_) | refine TL_nilCheck (hk := ?_))
      exact ih (k + 1, y) _ _ (by simp only; omega) ⟨by simp only; omega, e1, by simp only; rw [hs]; exact o1⟩ (.c rfl (.c rfl (.c rfl (.c rfl (.n)))))
  · obtain rfl : k = E.length := by omega
    clear ih
    repeat (first | refine T_seq ?_ | refine T_region ?_ | refine T_cond_false rfl ?_ | refine T_exit rfl ?_ | refine TL_lt_f (hk := ?_) | refine TL_nil ?_ | refine TL_move (hk := ?_) | refine TL_assign (hk := ?_) | refine TL_load TE (hk := ?_) | refine TL_fieldAddr TE (hk := ?_) | refine TL_len TE (hk := ?_) | refine TL_nilCheck (hk := ?_))
    exact T_ret1 rfl rfl ⟨y, rfl, e1, o1⟩
theorem RLeft_c (w : World) (D : DocM w base a x L es g win S l E) (hn : E.length ≤ 1000) : Ret Tryz.prog 53 [pB a.y] w (fun v w' => v = .int .i64 ((E.length : Int) - ((withS E [5]).length : Int) - ((withS E [6]).length : Int)) ∧ Ext w w') := by
  obtain ⟨h1, h2⟩ := D.el
  have hw := fun z => withU_len E z E.length
  have hw5 : (withS E [5]).length ≤ E.length := hw _
  have hw6 : (withS E [6]).length ≤ E.length := hw _
  have hyD : a.y ∉ ([] : List Nat) := by simp
  refine ret_T (n := 16) Tryz.func53 rfl rfl ?_
  repeat (first | refine T_seq ?_ | refine T_region ?_ | refine TL_nil ?_ | refine TL_assign (hk := ?_))
  refine T_region_any TE.mixed ([] : List Nat) ?_; intro w1 e1 z1
  have D1 := D.ext e1
  have hyk := D1.yk
  (refine TA_take 0 rfl (by kernel_rfl) (by kernel_rfl) (by kernel_rfl) ?_; (repeat (first | refine TL_move (hk := ?_) | refine TLP_load TE (hk := ?_) | refine TL_fieldAddr TE (hk := ?_) | refine TL_len TE (hk := ?_) | refine TL_nilCheck (hk := ?_))); refine TL_nil_p ?_); (refine TA_take 1 rfl (by kernel_rfl) (by kernel_rfl) (by kernel_rfl) ?_; (repeat (first | refine TL_move (hk := ?_) | refine TLP_load TE (hk := ?_) | refine TL_fieldAddr TE (hk := ?_) | refine TL_len TE (hk := ?_) | refine TL_nilCheck (hk := ?_))); refine TL_nil_p ?_); (refine TA_take 2 rfl (by kernel_rfl) (by kernel_rfl) (by kernel_rfl) ?_; (repeat (first | refine TL_move (hk := ?_) | refine TLP_load TE (hk := ?_) | refine TL_fieldAddr TE (hk := ?_) | refine TL_len TE (hk := ?_) | refine TL_nilCheck (hk := ?_))); refine TL_nil_p ?_); (refine TA_take 3 rfl (by kernel_rfl) (by kernel_rfl) (by kernel_rfl) ?_; (repeat (first | refine TL_move (hk := ?_) | refine TLP_load TE (hk := ?_) | refine TL_fieldAddr TE (hk := ?_) | refine TL_len TE (hk := ?_) | refine TL_nilCheck (hk := ?_))); refine TL_nil_p ?_); (refine TA_take 4 rfl (by kernel_rfl) (by kernel_rfl) (by kernel_rfl) ?_; (repeat (first | refine TL_move (hk := ?_) | refine TLP_load TE (hk := ?_) | refine TL_fieldAddr TE (hk := ?_) | refine TL_len TE (hk := ?_) | refine TL_nilCheck (hk := ?_))); refine TL_nil_p ?_); (refine TA_take 5 rfl (by kernel_rfl) (by kernel_rfl) (by kernel_rfl) ?_; (repeat (first | refine TL_move (hk := ?_) | refine TLP_load TE (hk := ?_) | refine TL_fieldAddr TE (hk := ?_) | refine TL_len TE (hk := ?_) | refine TL_nilCheck (hk := ?_))); refine TL_nil_p ?_); (refine TA_take 9 rfl (by kernel_rfl) (by kernel_rfl) (by kernel_rfl) ?_; (repeat (first | refine TL_move (hk := ?_) | refine TLP_load TE (hk := ?_) | refine TL_fieldAddr TE (hk := ?_) | refine TL_len TE (hk := ?_) | refine TL_nilCheck (hk := ?_))); refine TL_nil_p ?_)
  refine TA_one 6 rfl (by kernel_rfl) (by kernel_rfl) ?_; (try refine TL_yes (hk := ?_)); refine TL_call TE (hc := (With_c 5 _ D1 hn (by decide))) (hq := (by rintro _ w' ⟨y, rfl, e, o⟩; exact e)) (hk := ?_)
  rintro _ w2 ⟨y, rfl, e2, o2⟩
  have hy := o2.len
  rw [nzV_len] at hy
  refine TL_nil_p ?_
  (refine TA_take 7 rfl (by kernel_rfl) (by kernel_rfl) (by kernel_rfl) ?_; (repeat (first | refine TL_sub (hk := ?_) | refine TL_len TE (hk := ?_))); refine TL_nil_p ?_); (refine TA_take 8 rfl (by kernel_rfl) (by kernel_rfl) (by kernel_rfl) ?_; (repeat (first | refine TL_sub (hk := ?_) | refine TL_len TE (hk := ?_))); refine TL_nil_p ?_)
  refine TA_one 10 rfl (by kernel_rfl) (by kernel_rfl) ?_; (try refine TL_yes (hk := ?_)); refine TL_call TE (hc := (With_c 6 _ (D1.ext e2) hn (by decide))) (hq := (by rintro _ w' ⟨y, rfl, e, o⟩; exact e2.ext e)) (hk := ?_)
  rintro _ w3 ⟨u, rfl, e3, o3⟩
  have hu := o3.len
  rw [nzV_len] at hu
  refine TL_nil_p ?_
  (refine TA_one 11 rfl (by kernel_rfl) (by kernel_rfl) ?_; (repeat (first | refine TL_sub (hk := ?_) | refine TL_assign (hk := ?_) | refine TL_len TE (hk := ?_))); refine TL_nil_p ?_); (refine TA_one 12 rfl (by kernel_rfl) (by kernel_rfl) ?_; (repeat (first | refine TL_sub (hk := ?_) | refine TL_assign (hk := ?_) | refine TL_len TE (hk := ?_))); refine TL_nil_p ?_); (refine TA_one 13 rfl (by kernel_rfl) (by kernel_rfl) ?_; (repeat (first | refine TL_sub (hk := ?_) | refine TL_assign (hk := ?_) | refine TL_len TE (hk := ?_))); refine TL_nil_p ?_)
  refine TA_done (by kernel_rfl) ?_
  --
  exact T_ret1 rfl rfl ⟨by rw [h1, show y.2.1 = (withS E [5]).length by omega, show u.2.1 = (withS E [6]).length by omega], (e1.ext e2).ext e3⟩
theorem RTake_c (w : World) (D : DocM w base a x L es g win S l E) (hn : E.length ≤ 1000) : Ret Tryz.prog 23 [pB a.y] w (fun v w' => match withS E [3] with
    | [] => v = .tuple #[.int .i64 0, .bool false] ∧ w' = w
    | q :: _ => v = .tuple #[.int .i64 (q : Int), .bool true] ∧ ∃ es', DocM w' base a x L es' g win S l (setSt E q 4) ∧ Tn g g w w') := by
  obtain ⟨h1, h2⟩ := D.el
  have hk := D.yk
  have hr := D.eo.rd
  refine ret_T (n := 31) Tryz.func23 rfl rfl ?_
  repeat (first | refine T_seq ?_ | refine T_region ?_ | refine T_block ?_ | refine TL_nil ?_ | refine TL_assign (hk := ?_))
  refine T_loop (ι := Nat) (fun i => [(4, .int .i64 (i : Int)), (0, pB a.y)]) (fun i w' => i ≤ E.length ∧ w' = w ∧ withU E [3] i = []) (fun i => E.length - i) 0 (.c rfl (.c rfl (.n))) ⟨Nat.zero_le _, rfl, rfl⟩ ?_
  rintro i w1 ⟨hi, rfl, hno⟩ ih
  by_cases hlt : i < E.length
  · have hA : L.1 ≠ none := by obtain ⟨_, _, hq, _⟩ := hr.2 (by omega); rw [hq]; simp
    have hv := D.st_at hlt
    have hs := withU_succ E [3] i
    rw [hno, List.nil_append, show (E.getD i en0).st = stE E i from rfl] at hs
    by_cases hz : stE E i = 3
    · have hzz : ((stE E i : Nat) : Int) = 3 := by omega
      rw [if_pos (by simp [hz])] at hs
      have hw : ∃ t, withS E [3] = i :: t := by
        have hp : ∀ d, ∃ t, withU E [3] (i + 1 + d) = i :: t := fun d => by
          induction d with
          | zero => exact ⟨[], hs⟩
          | succ d ihd =>
            obtain ⟨t, ht⟩ := ihd
            rw [show i + 1 + (d + 1) = (i + 1 + d) + 1 by omega, withU_succ, ht]
            exact ⟨_, rfl⟩
        have := hp (E.length - (i + 1))
        rwa [show i + 1 + (E.length - (i + 1)) = E.length by omega] at this
      obtain ⟨t, ht⟩ := hw
      rw [ht]
      simp only
      have ho := D.eo
      clear ih
      repeat (first | refine T_seq ?_ | refine T_region ?_ | refine T_cond_true rfl ?_ | refine T_block ?_ | refine T_skip ?_ | refine TL_lt_t (hk := ?_) | refine TL_eq_t (hk := ?_) | refine TL_nil ?_ | refine TL_move (hk := ?_) | refine TL_load TE (hk := ?_) | refine TL_load_rd TE (hk := ?_) | refine TL_fieldAddr TE (hk := ?_) | refine TL_fieldAddr_e TE (hk := ?_) | refine TL_indexAddrn TE (hk := ?_) | refine TL_len TE (hk := ?_) | refine TL_nilCheck (hk := ?_))
      refine TL_store_own TE (ho := ho) (hj := by rw [rowV_len enV_len]; omega) (hk := ?_); intro w3 m3 z3 o3
      rw [show (Value.int .i64 4) = .int .i64 ((4 : Nat) : Int) from rfl, evSt_row es i 4 (by omega)] at o3
      obtain ⟨D3, t3⟩ := D.setE hlt m3 o3
      repeat (first | refine T_seq ?_ | refine T_region ?_ | refine TL_nil ?_ | refine TL_move (hk := ?_) | refine TL_assign (hk := ?_))
      exact T_ret2 rfl rfl rfl ⟨rfl, _, D3, t3⟩
    · have hzz : ¬ ((stE E i : Nat) : Int) = 3 := by omega
      rw [if_neg (by simp [hz])] at hs
      repeat (first | refine T_seq ?_ | refine T_region ?_ | refine T_cond_true rfl ?_ | refine T_cond_false rfl ?_ | refine T_block ?_ | refine T_inBlock ?_ | refine T_skip ?_ | refine TL_add (hk := ?_) | refine TL_lt_t (hk := ?_) | refine TL_eq_f (hk := ?_) | refine TL_nil ?_ | refine TL_move (hk := ?_) | refine TL_assign (hk := ?_) | refine TL_load TE (hk := ?_) | refine TL_load_rd TE (hk := ?_) | refine TL_fieldAddr TE (hk := ?_) | refine TL_fieldAddr_e TE (hk := ?_) | refine TL_indexAddrn TE (hk := ?_) | refine TL_len TE (hk := ?_) | refine TL_nilCheck (hk := ?_))
      exact ih (i + 1) _ _ (by omega) ⟨by omega, rfl, hs⟩ (.c rfl (.c rfl (.n)))
  · have hie : i = E.length := by omega
    have hw : withS E [3] = [] := by have hq := hno; rw [hie] at hq; exact hq
    rw [hw]
    clear ih
    repeat (first | refine T_seq ?_ | refine T_region ?_ | refine T_cond_false rfl ?_ | refine T_exit rfl ?_ | refine TL_lt_f (hk := ?_) | refine TL_nil ?_ | refine TL_move (hk := ?_) | refine TL_assign (hk := ?_) | refine TL_load TE (hk := ?_) | refine TL_fieldAddr TE (hk := ?_) | refine TL_len TE (hk := ?_) | refine TL_nilCheck (hk := ?_))
    exact T_ret2 rfl rfl rfl ⟨rfl, rfl⟩
end
theorem RSame_c (A B : Option Addr) (n c m d : Nat) (u v : List Int) (w : World) (hA : Rd w A n 1 (iv u)) (hB : Rd w B m 1 (iv v)) (huv : u = v) (hn : n ≤ 100000) : Ret Tryz.prog 48 [.slice A n c, .slice B m d] w (fun x w' => x = .bool true ∧ Ext w w') := by
  subst huv
  have h1 := hA.1
  have h2 := hB.1
  have hil : (iv u).length = u.length := by simp [iv]
  rw [hil] at h1 h2
  obtain rfl : m = n := by omega
  refine ret_T (n := 26) Tryz.func48 rfl rfl ?_
  repeat (first | refine T_seq ?_ | refine T_region ?_ | refine T_cond_false rfl ?_ | refine T_block ?_ | refine T_skip ?_ | refine TL_ne_f (hk := ?_) | refine TL_nil ?_ | refine TL_move (hk := ?_) | refine TL_assign (hk := ?_) | refine TL_len TE (hk := ?_))
  refine T_loop (ι := Nat) (fun i => [(5, .int .i64 (i : Int)), (0, .slice A m c), (1, .slice B m d)]) (fun i w' => i ≤ m ∧ Ext w w') (fun i => m - i) 0 (.c rfl (.c rfl (.c rfl (.n)))) ⟨Nat.zero_le _, Mod.refl _ _⟩ ?_
  rintro i w1 ⟨hi, e1⟩ ih
  by_cases hlt : i < m
  · have hA1 := hA.be e1
    have hB1 := hB.be e1
    have hv := iv_at u i (by omega)
    have oA : Off A ([] : List Nat) := .nil _
    have oB : Off B ([] : List Nat) := .nil _
    have hAn : A ≠ none := by obtain ⟨_, _, hq, _⟩ := hA1.2 (by omega); rw [hq]; simp
    have hBn : B ≠ none := by obtain ⟨_, _, hq, _⟩ := hB1.2 (by omega); rw [hq]; simp
    repeat (first | refine T_seq ?_ | refine T_region ?_ | refine T_region_q TE.mixed (by kernel_rfl) ?_ | refine T_cond_true rfl ?_ | refine T_block ?_ | refine T_skip ?_ | refine TL_lt_t (hk := ?_) | refine TL_ne_f (hk := ?_) | refine TL_nil ?_ | refine TL_move (hk := ?_) | refine TL_load_rd TE (hk := ?_) | refine TL_indexAddr1n TE (hk := ?_) | refine TL_len TE (hk := ?_))
    refine TL_nil_q ?_; intro w2 e2
    repeat (first | refine T_region ?_ | refine T_cond_false rfl ?_ | refine T_inBlock ?_ | refine T_skip ?_ | refine TL_add (hk := ?_) | refine TL_nil ?_ | refine TL_move (hk := ?_) | refine TL_assign (hk := ?_))
    exact ih (i + 1) _ _ (by omega) ⟨by omega, e1.ext e2⟩ (.c rfl (.c rfl (.c rfl (.n))))
  · clear ih
    repeat (first | refine T_seq ?_ | refine T_region ?_ | refine T_cond_false rfl ?_ | refine T_exit rfl ?_ | refine TL_lt_f (hk := ?_) | refine TL_nil ?_ | refine TL_move (hk := ?_) | refine TL_assign (hk := ?_) | refine TL_len TE (hk := ?_))
    exact T_ret1 rfl rfl ⟨rfl, e1⟩
end Go.Proofs.YtgdbckjkeofoaaaGreat

namespace Go.Proofs.YtgdbckjkeofoaaaGreat
open Go.RowKit Go.Proofs.Eng Go.Proofs.Foot
set_option linter.unusedSimpArgs false
set_option linter.unusedVariables false set_option maxRecDepth 10000
attribute [local irreducible] T TL LV TH TA
set_option maxHeartbeats 3200000
theorem both2_c (A B : Option Addr) (n m c d : Nat) (l k : List Tx) (w : World) (h : Rd w A n 1 (sv l)) (g : Rd w B m 1 (sv k)) (hn : n ≤ 1100000) (hm : m ≤ 1100000) :
    Ret Tryz.prog 40 [.slice A n c, .slice B m d] w (fun v w' => ∃ A' c', v = .slice A' (n + m) c' ∧ Ext w w' ∧ Own w' w.heap.size 9 1 A' (n + m) c' (sv (l ++ k))) := by
  have svl := sv_one l
  have svk := sv_one k
  refine ret_T (n := 10) Tryz.func40 rfl rfl ?_
  repeat (first | refine T_seq ?_ | refine T_region ?_ | refine TL_nil ?_ | refine TL_assign (hk := ?_))
  refine TL_buildSlice TE (hk := ?_); intro b1 w1 e1 h1 h2 k1
  have o1 : Own w1 w.heap.size 9 1 (some ⟨b1, 0, none⟩) 0 0 [] := Own.of_blk k1 h1 rfl (by decide)
  have s1 := e1.size
  repeat (refine TL_move (hk := ?_))
  refine TL_append TE (hk := ?_); intro A2 c2 w2 o2 m2 n2
  have e2 : Ext w w2 := e1.own m2 o1.hi
  have s2 := m2.size
  have g2 := g.be e2
  repeat (refine TL_move (hk := ?_))
  refine TL_append TE (hk := ?_); intro A4 c4 w4 o4 m4 n4
  repeat (first | refine TL_nil ?_ | refine TL_assign (hk := ?_))
  refine T_ret1 rfl rfl ⟨A4, c4, by simp, e2.own m4 o2.hi, ?_⟩
  rw [sv_append]
  simpa using o4
theorem Set2_c (A : Option Addr) (n c : Nat) (l : List Tx) (w : World) (h : Rd w A n 1 (sv l)) (hn : n ≤ 2200000) :
    Ret Tryz.prog 27 [.slice A n c] w (fun v w' => ∃ A' c', v = .slice A' (setT l).length c' ∧ Ext w w' ∧ Own w' w.heap.size 9 1 A' (setT l).length c' (sv (setT l))) := by
  have hl : l.length = n := by simpa using h.1
  refine ret_T (n := 63) Tryz.func27 rfl rfl ?_
  repeat (first | refine T_seq ?_ | refine T_region ?_ | refine T_block ?_ | refine TL_nil ?_ | refine TL_assign (hk := ?_))
  refine T_loop (ι := Nat × Option Addr × Nat × Nat × List Tx) (fun i => [(4, .int .i64 (i.1 : Int)), (3, .slice i.2.1 i.2.2.2.1 i.2.2.1), (0, .slice A n c)])
    (fun i w' => Ext w w' ∧ i.1 ≤ n ∧ i.2.2.2.2 = setT (l.take i.1) ∧ i.2.2.2.1 = i.2.2.2.2.length ∧ i.2.2.2.1 ≤ i.1 ∧ Own w' w.heap.size 9 1 i.2.1 i.2.2.2.1 i.2.2.1 (sv i.2.2.2.2)) (fun i => n - i.1) (0, none, 0, 0, []) (.c rfl (.c rfl (.c rfl (.n)))) ⟨Mod.refl _ _, Nat.zero_le _, by simp [setT], rfl, Nat.le_refl _, Own.nil _ _ _ _⟩ ?_
  rintro ⟨i, B, cb, m, o⟩ w1 ⟨e1, hi, ho, hm, hmi, own⟩ ih
  simp only at hi ho hm hmi own ⊢
  have h1 := h.be e1
  by_cases hlt : i < n
  · have hst := setT_take l i (by omega)
    rw [← ho] at hst
    obtain ⟨x, hx⟩ : ∃ x, l.getD i [] = x := ⟨_, rfl⟩
    rw [hx] at hst
    repeat (first | refine T_seq ?_ | refine T_region ?_ | refine T_cond_true rfl ?_ | refine T_block ?_ | refine T_skip ?_ | refine TL_lt_t (hk := ?_) | refine TL_nil ?_ | refine TL_move (hk := ?_) | refine TL_assign (hk := ?_) | refine TL_len TE (hk := ?_))
    refine T_loop (ι := Nat) (fun k => [(5, .int .i64 (k : Int)), (4, .int .i64 (i : Int)), (3, .slice B m cb), (0, .slice A n c)])
      (fun k w' => Ext w1 w' ∧ k ≤ m ∧ ∀ j, j < k → o.getD j [] < x) (fun k => m - k) 0 (.c rfl (.c rfl (.c rfl (.c rfl (.n))))) ⟨Mod.refl _ _, Nat.zero_le _, fun j h => absurd h (by omega)⟩ ?_
    rintro k w2 ⟨e2, hk, hu⟩ ih2
    have own2 := own.be e2
    have h2 := h1.be e2
    have hlo : o.length = m := hm.symm
    by_cases hkm : k < m
    · by_cases hs : o.getD k [] < x
      · have hs' : o.getD k [] < l.getD i [] := by rw [hx]; exact hs
        repeat (first | refine T_seq ?_ | refine T_region_q TE.mixed (by kernel_rfl) ?_ | refine TL_lt_t (hk := ?_) | refine TL_slt_t (hk := ?_) | refine TL_move (hk := ?_) | refine TL_indexAddr1n TE (hk := ?_) | refine TL_len TE (hk := ?_) | refine TL_yes (hk := ?_) | refine TL_pick_t (hk := ?_) | refine TL_load_s TE (hk := ?_))
        refine TL_nil_q ?_; intro w3 e3
        repeat (first | refine T_region ?_ | refine T_cond_true rfl ?_ | refine T_block ?_ | refine T_inBlock ?_ | refine T_skip ?_ | refine TL_add (hk := ?_) | refine TL_nil ?_ | refine TL_move (hk := ?_) | refine TL_assign (hk := ?_))
        exact ih2 (k + 1) _ _ (by omega) ⟨e2.ext e3, by omega, fun j hj => by
          by_cases q : j = k
          · rw [q]; exact hs
          · exact hu j (by omega)⟩ (.c rfl (.c rfl (.c rfl (.c rfl (.n)))))
      · have hs' : ¬ o.getD k [] < l.getD i [] := by rw [hx]; exact hs
        have hat := ins_at x o k hu (by omega) (fun _ => hs)
        repeat (first | refine T_seq ?_ | refine T_region_q TE.mixed (by kernel_rfl) ?_ | refine TL_lt_t (hk := ?_) | refine TL_slt_f (hk := ?_) | refine TL_move (hk := ?_) | refine TL_indexAddr1n TE (hk := ?_) | refine TL_len TE (hk := ?_) | refine TL_yes (hk := ?_) | refine TL_pick_t (hk := ?_) | refine TL_load_s TE (hk := ?_))
        refine TL_nil_q ?_; intro w3 e3
        have own3 := own2.be e3
        have h3 := h2.be e3
        clear own2 h2
        by_cases he : o.getD k [] = x
        · have he' : ofL (o.getD k []) = ofL (l.getD i []) := by rw [hx, he]
          rw [if_pos ⟨by omega, he⟩] at hat
          repeat (first | refine T_seq ?_ | refine T_region_q TE.mixed (by kernel_rfl) ?_ | refine T_cond_false rfl ?_ | refine T_exit rfl ?_ | refine TL_lt_t (hk := ?_) | refine TL_seq_t (hk := ?_) | refine TL_move (hk := ?_) | refine TL_indexAddr1n TE (hk := ?_) | refine TL_len TE (hk := ?_) | refine TL_yes (hk := ?_) | refine TL_pick_t (hk := ?_) | refine TL_load_s TE (hk := ?_))
          refine TL_nil_q ?_; intro w4 e4
          repeat (first | refine T_region ?_ | refine T_cond_true rfl ?_ | refine T_exit rfl ?_ | refine TL_add (hk := ?_) | refine TL_nil ?_ | refine TL_move (hk := ?_) | refine TL_assign (hk := ?_))
          exact ih (i + 1, B, cb, m, o) _ _ (by simp only; omega) ⟨((e1.ext e2).ext e3).ext e4, by show i + 1 ≤ n; omega, by rw [hst, hat], hm, by show m ≤ i + 1; omega, own3.be e4⟩ (.c rfl (.c rfl (.c rfl (.n))))
        · have he' : ¬ ofL (o.getD k []) = ofL (l.getD i []) := fun q => he (by rw [← hx]; exact ofL_inj q)
          rw [if_neg (fun q => he q.2)] at hat
          repeat (first | refine T_seq ?_ | refine T_region_q TE.mixed (by kernel_rfl) ?_ | refine T_cond_false rfl ?_ | refine T_exit rfl ?_ | refine TL_lt_t (hk := ?_) | refine TL_seq_f (hk := ?_) | refine TL_move (hk := ?_) | refine TL_indexAddr1n TE (hk := ?_) | refine TL_len TE (hk := ?_) | refine TL_yes (hk := ?_) | refine TL_pick_t (hk := ?_) | refine TL_load_s TE (hk := ?_))
          refine TL_nil_q ?_; intro w4 e4
          have own4 := own3.be e4
          have h4 := h3.be e4
          have e05 : Ext w w4 := ((e1.ext e2).ext e3).ext e4

          repeat (first | refine T_seq ?_ | refine T_region ?_ | refine T_cond_false rfl ?_ | refine T_skip ?_ | refine TL_move (hk := ?_))
          refine TL_buildSlice TE (hk := ?_); intro b5 w5 e5 h5 h5' k5
          have own5 := own4.be e5
          have h5s := h4.be e5
          have e06 := e05.ext e5
          have s05 := e06.size
          have hlo0 : Lo A w.heap.size := h.lo (by omega)
          --
          refine TL_append TE (hk := ?_); intro A6 c6 w6 o6 m6 n6
          have s6 := m6.size
          have hi6 : Hi A6 w.heap.size := o6.hi
          have e46 : Ext w w6 := e06.own m6 own5.hi
          have h6 := h5s.bm m6 (Off.lohi hlo0 own5.hi)
          repeat (first | refine T_seq ?_ | refine TL_nil ?_ | refine TL_assign (hk := ?_))
          refine T_region_held TE.mixed (blkL A6) [(0, true), (1, true), (2, true), (3, true), (4, true), (5, true), (6, true), (7, false)] rfl (by kernel_rfl) rfl (by kernel_rfl) ?_; intro w7 e7 s7
          have o7 := o6.be e7
          have ek : Int.toNat ((k : Int) + 1) = k + 1 := by omega
          have ek0 : Int.toNat (k : Int) = k := by omega
          have hcap := o6.cap
          have hmx : m + 1 ≤ 2200001 := by omega
          have hone : ∀ u ∈ sv o ++ [Value.string ⟨#[]⟩], u.oneCell' = true := fun u hu => by
            rcases List.mem_append.1 hu with q | q
            · exact sv_one _ u q
            · simp only [List.mem_singleton] at q; subst q; rfl
          clear k5 own4 own5 h4 h5s own own3 h3
          repeat (first | refine TL_add (hk := ?_) | refine TL_move (hk := ?_) | refine TL_slice_lo TE (hk := ?_))
          refine TL_copy TE (ho := o7) (hr := (o7.rd.cut (l := k) (h := m + 1) (c := c6) (by omega) (Nat.le_refl _) hcap.1)) (h1 := fun u hu => hone u (List.mem_of_mem_drop (List.mem_of_mem_take hu))) (hf := rfl) (hq := fun w' h _ => h) (hk := ?_)
          intro w8 m8 s8 o8
          simp only [ek, ek0] at o8
          have es : sv o ++ [Value.string ⟨#[]⟩] = sv (o ++ [[]]) := by rw [sv_append]; rfl
          rw [es, Nat.mul_one, Nat.mul_one, sv_drop, sv_take, sv_drop, sv_take, sv_take, ← sv_append, ← sv_append] at o8
          have hgap := gap_at o k x (by omega)
          rw [hlo] at hgap
          rw [show min (m + 1 - k) (m + 1 - (k + 1)) = min (m + 1 - k) (m - k) by omega] at o8
          rw [List.take_take, Nat.min_eq_left (show min (m + 1 - k) (m - k) ≤ m + 1 - k by omega)] at o8
          refine TL_nil_h ?_
          have hi8 : Hi A6 w.heap.size := hi6
          have h7 := h6.be e7
          have h8 := h7.bm m8 (Off.lohi hlo0 hi6)
          clear o7 o6 hone h6 h7
          repeat (first | refine T_region ?_ | refine TL_move (hk := ?_) | refine TL_indexAddr1n TE (hk := ?_) | refine TL_load_s TE (hk := ?_))
          refine TL_store_own TE (hk := ?_); intro w9 m9 s9 o9
          repeat (first | refine T_region ?_ | refine T_inBlock ?_ | refine TL_add (hk := ?_) | refine TL_nil ?_ | refine TL_move (hk := ?_) | refine TL_assign (hk := ?_))
          rw [sv_set, hx, hgap] at o9
          refine ih (i + 1, A6, c6, m + 1, insT x o) _ _ (by simp only; omega) ⟨((e46.ext e7).own m8 hi6).own m9 hi6, by show i + 1 ≤ n; omega, hst.symm, ?_, by show m + 1 ≤ i + 1; omega, ?_⟩ (.c rfl (.c rfl (.c rfl (.n))))
          · rw [hat]; simp; omega
          · rw [hat]; exact o9
    · have hkeq : k = m := by omega
      have hat := ins_at x o k hu (by omega) (fun h => absurd h (by omega))
      rw [if_neg (fun q => absurd q.1 (by omega))] at hat
      repeat (first | refine T_seq ?_ | refine T_region_q TE.mixed (by kernel_rfl) ?_ | refine TL_lt_f (hk := ?_) | refine TL_move (hk := ?_) | refine TL_len TE (hk := ?_) | refine TL_no (hk := ?_) | refine TL_pick_f (hk := ?_))
      refine TL_nil_q ?_; intro w3 e3
      have own3 := own2.be e3
      have h3 := h2.be e3
      clear own2 h2
      repeat (first | refine T_seq ?_ | refine T_region_q TE.mixed (by kernel_rfl) ?_ | refine T_cond_false rfl ?_ | refine T_exit rfl ?_ | refine TL_lt_f (hk := ?_) | refine TL_move (hk := ?_) | refine TL_len TE (hk := ?_) | refine TL_no (hk := ?_) | refine TL_pick_f (hk := ?_))
      refine TL_nil_q ?_; intro w4 e4
      have own4 := own3.be e4
      have h4 := h3.be e4
      have e05 : Ext w w4 := ((e1.ext e2).ext e3).ext e4

      repeat (first | refine T_seq ?_ | refine T_region ?_ | refine T_cond_false rfl ?_ | refine T_skip ?_ | refine TL_move (hk := ?_))
      refine TL_buildSlice TE (hk := ?_); intro b5 w5 e5 h5 h5' k5
      have own5 := own4.be e5
      have h5s := h4.be e5
      have e06 := e05.ext e5
      have s05 := e06.size
      have hlo0 : Lo A w.heap.size := h.lo (by omega)
      --
      refine TL_append TE (hk := ?_); intro A6 c6 w6 o6 m6 n6
      have s6 := m6.size
      have hi6 : Hi A6 w.heap.size := o6.hi
      have e46 : Ext w w6 := e06.own m6 own5.hi
      have h6 := h5s.bm m6 (Off.lohi hlo0 own5.hi)
      repeat (first | refine T_seq ?_ | refine TL_nil ?_ | refine TL_assign (hk := ?_))
      refine T_region_held TE.mixed (blkL A6) [(0, true), (1, true), (2, true), (3, true), (4, true), (5, true), (6, true), (7, false)] rfl (by kernel_rfl) rfl (by kernel_rfl) ?_; intro w7 e7 s7
      have o7 := o6.be e7
      have ek : Int.toNat ((k : Int) + 1) = k + 1 := by omega
      have ek0 : Int.toNat (k : Int) = k := by omega
      have hcap := o6.cap
      have hmx : m + 1 ≤ 2200001 := by omega
      have hone : ∀ u ∈ sv o ++ [Value.string ⟨#[]⟩], u.oneCell' = true := fun u hu => by
        rcases List.mem_append.1 hu with q | q
        · exact sv_one _ u q
        · simp only [List.mem_singleton] at q; subst q; rfl
      clear k5 own4 own5 h4 h5s own own3 h3
      repeat (first | refine TL_add (hk := ?_) | refine TL_move (hk := ?_) | refine TL_slice_lo TE (hk := ?_))
      refine TL_copy TE (ho := o7) (hr := (o7.rd.cut (l := k) (h := m + 1) (c := c6) (by omega) (Nat.le_refl _) hcap.1)) (h1 := fun u hu => hone u (List.mem_of_mem_drop (List.mem_of_mem_take hu))) (hf := rfl) (hq := fun w' h _ => h) (hk := ?_)
      intro w8 m8 s8 o8
      simp only [ek, ek0] at o8
      have es : sv o ++ [Value.string ⟨#[]⟩] = sv (o ++ [[]]) := by rw [sv_append]; rfl
      rw [es, Nat.mul_one, Nat.mul_one, sv_drop, sv_take, sv_drop, sv_take, sv_take, ← sv_append, ← sv_append] at o8
      have hgap := gap_at o k x (by omega)
      rw [hlo] at hgap
      rw [show min (m + 1 - k) (m + 1 - (k + 1)) = min (m + 1 - k) (m - k) by omega] at o8
      rw [List.take_take, Nat.min_eq_left (show min (m + 1 - k) (m - k) ≤ m + 1 - k by omega)] at o8
      refine TL_nil_h ?_
      have hi8 : Hi A6 w.heap.size := hi6
      have h7 := h6.be e7
      have h8 := h7.bm m8 (Off.lohi hlo0 hi6)
      clear o7 o6 hone h6 h7
      repeat (first | refine T_region ?_ | refine TL_move (hk := ?_) | refine TL_indexAddr1n TE (hk := ?_) | refine TL_load_s TE (hk := ?_))
      refine TL_store_own TE (hk := ?_); intro w9 m9 s9 o9
      repeat (first | refine T_region ?_ | refine T_inBlock ?_ | refine TL_add (hk := ?_) | refine TL_nil ?_ | refine TL_move (hk := ?_) | refine TL_assign (hk := ?_))
      rw [sv_set, hx, hgap] at o9
      refine ih (i + 1, A6, c6, m + 1, insT x o) _ _ (by simp only; omega) ⟨((e46.ext e7).own m8 hi6).own m9 hi6, by show i + 1 ≤ n; omega, hst.symm, ?_, by show m + 1 ≤ i + 1; omega, ?_⟩ (.c rfl (.c rfl (.c rfl (.n))))
      · rw [hat]; simp; omega
      · rw [hat]; exact o9
  · have hin : i = n := by omega
    have hfin : o = setT l := by rw [ho, hin, ← hl, List.take_length]
    repeat (first | refine T_seq ?_ | refine T_region ?_ | refine T_cond_false rfl ?_ | refine T_exit rfl ?_ | refine TL_lt_f (hk := ?_) | refine TL_nil ?_ | refine TL_move (hk := ?_) | refine TL_assign (hk := ?_) | refine TL_len TE (hk := ?_))
    refine T_ret1 rfl rfl ⟨B, cb, by rw [hm, hfin], e1, ?_⟩
    rw [hm, hfin] at own
    exact own
theorem RNorm2_c (A B : Option Addr) (n c m d : Nat) (r k : List Tx) (w : World) (h : Rd w A n 1 (sv r)) (g : Rd w B m 1 (sv k)) (hn : n ≤ 1100000) (hm : m ≤ 1100000) (sr : Short r) (sk : Short k) :
    Ret Tryz.prog 16 [.agg #[.slice A n c, .slice B m d]] w (fun v w' => ∃ u, v = .tuple #[u, .int .i64 (normF r k).2] ∧ Ext w w' ∧ FootO w' w.heap.size 9 u (normF r k).1) := by
  have hr : r.length = n := by simpa using h.1
  have hk : k.length = m := by simpa using g.1
  have heq := norm_eq r k
  refine ret_T (n := 36) Tryz.func16 rfl rfl ?_
  repeat (first | refine T_seq ?_ | refine T_region ?_)
  refine TL_box (hk := ?_); intro b1 w1 e1 h1 h1' k1
  refine TL_alloc TE (hk := ?_); intro b2 w2 e2 h2 h2' k2
  have k12 := k1.be e2
  clear k1
  have e02 := e1.ext e2
  have s1 := e1.size
  have s2 := e2.size
  have hA := h.be e02
  have hB := g.be e02
  repeat (first | refine T_seq ?_ | refine T_region ?_ | refine TL_nil ?_ | refine TL_assign (hk := ?_) | refine TL_load TE (hk := ?_) | refine TL_fieldAddr TE (hk := ?_))
  refine TL_call TE (hc := both2_c A B n m c d r k _ hA hB (by omega) (by omega)) (hk := ?_)
  rintro _ w3 ⟨A3, c3, rfl, e3, o3⟩
  have s3 := e3.size
  have hrk : (r ++ k).length = n + m := by simp [hr, hk]
  have srk := short_append sr sk
  have k13 := k12.be e3
  have k23 := k2.be e3
  have hA3 := hA.be e3
  have hB3 := hB.be e3
  clear k12 k2 h g hA hB
  repeat (first | refine T_seq ?_ | refine T_region ?_ | refine T_block ?_ | refine TL_nil ?_ | refine TL_assign (hk := ?_))
  refine T_loop (ι := Nat) (fun i => [(5, .int .i64 (i : Int)), (4, .slice A3 (n + m) c3), (1, .pointer (some ⟨b1, 0, none⟩)), (2, .pointer (some ⟨b2, 0, none⟩))])
    (fun i w' => w' = w3 ∧ i ≤ n + m ∧ ∀ x, x < i → validT ((r ++ k).getD x []) = true) (fun i => n + m - i) 0 (.c rfl (.c rfl (.c rfl (.c rfl (.n))))) ⟨rfl, by omega, fun x h => by omega⟩ ?_
  rintro i w3 ⟨rfl, hi, hu⟩ ih
  have e03 := e02.ext e3
  by_cases hlt : i < n + m
  · repeat (first | refine T_seq ?_ | refine T_region ?_ | refine T_cond_true rfl ?_ | refine T_block ?_ | refine T_skip ?_ | refine TL_lt_t (hk := ?_) | refine TL_nil ?_ | refine TL_move (hk := ?_) | refine TL_indexAddr1n TE (hk := ?_) | refine TL_len TE (hk := ?_) | refine TL_load_s TE (hk := ?_))
    refine TL_call TE (hc := RValid_c ((r ++ k).getD i []) (srk i (by omega)) _) (hk := ?_)
    rintro _ _ ⟨rfl, rfl⟩
    by_cases hv : validT ((r ++ k).getD i []) = true
    · rw [hv]
      repeat (first | refine T_region ?_ | refine T_cond_false rfl ?_ | refine T_inBlock ?_ | refine T_skip ?_ | refine TL_add (hk := ?_) | refine TL_nil ?_ | refine TL_move (hk := ?_) | refine TL_assign (hk := ?_) | refine TL_not (hk := ?_))
      exact ih (i + 1) _ _ (by omega) ⟨rfl, by omega, fun x hx => by
        by_cases q : x = i
        · rw [q]; exact hv
        · exact hu x (by omega)⟩ (.c rfl (.c rfl (.c rfl (.c rfl (.n)))))
    · have hv' : validT ((r ++ k).getD i []) = false := by simpa using hv
      have hf := all_not (by omega) hv'
      rw [List.all_append] at hf
      rw [hf] at heq
      rw [hv']
      repeat (first | refine T_seq ?_ | refine T_region ?_ | refine T_cond_true rfl ?_ | refine TL_nil ?_ | refine TL_not (hk := ?_) | refine TL_build TE (hk := ?_))
      refine TL_storea TE (hk := ?_); intro w4 m4 s4 k4
      repeat (first | refine TL_nil ?_ | refine TL_assign (hk := ?_))
      refine T_retA2 TE (vs := [.slice none 0 0, .slice none 0 0]) (o := 0) rfl rfl rfl rfl rfl k4 rfl (Nat.succ_pos _) ⟨.agg #[.slice none 0 0, .slice none 0 0], ?_, Mod.step e03 m4 (by simp; omega), ?_⟩
      · rw [heq]; rfl
      · rw [heq]; exact FootO.nil _ _ _
  · have hin : i = (r ++ k).length := by omega
    have hall := all_upto (by rw [← hin]; exact hu)
    rw [List.all_append] at hall
    rw [hall, if_pos rfl] at heq
    clear ih hu
    have hsl := setT_len (r ++ k)
    repeat (first | refine T_seq ?_ | refine T_region ?_ | refine T_cond_false rfl ?_ | refine T_exit rfl ?_ | refine TL_lt_f (hk := ?_) | refine TL_nil ?_ | refine TL_move (hk := ?_) | refine TL_len TE (hk := ?_))
    refine TL_call TE (hc := Set2_c A3 (n + m) c3 (r ++ k) _ o3.rd (by omega)) (hk := ?_)
    rintro _ w4 ⟨A4, c4, rfl, e4, o4⟩
    have s4 := e4.size
    have k24 := k23.be e4
    have k14 := k13.be e4
    have hA4 := hA3.be e4
    have hB4 := hB3.be e4
    clear k23 k13 hA3 hB3 o3
    by_cases h64 : 64 < (setT (r ++ k)).length
    · rw [if_pos h64] at heq
      repeat (first | refine T_seq ?_ | refine T_region ?_ | refine T_cond_true rfl ?_ | refine TL_gt_t (hk := ?_) | refine TL_nil ?_ | refine TL_len TE (hk := ?_) | refine TL_build TE (hk := ?_))
      refine TL_storea TE (hk := ?_); intro w5 m5 s5 k5
      repeat (first | refine TL_nil ?_ | refine TL_assign (hk := ?_))
      refine T_retA2 TE (vs := [.slice none 0 0, .slice none 0 0]) (o := 0) rfl rfl rfl rfl rfl k5 rfl (Nat.succ_pos _) ⟨.agg #[.slice none 0 0, .slice none 0 0], ?_, Mod.step (e03.ext e4) m5 (by simp; omega), ?_⟩
      · rw [heq]
      · rw [heq]; exact FootO.nil _ _ _
    · rw [if_neg h64] at heq
      repeat (first | refine T_seq ?_ | refine T_cond_false rfl ?_ | refine T_skip ?_ | refine TL_gt_f (hk := ?_) | refine TL_nil ?_ | refine TL_len TE (hk := ?_))
      refine T_region_held TE.mixed [b2] [(0, true), (1, true), (3, true), (4, true), (2, false), (5, false), (6, true), (7, false), (8, true)] rfl (by kernel_rfl) rfl (by kernel_rfl) ?_; intro w5 e5 s5
      have hd5 : Eng.Mod [b2] w5 w5 := Mod.refl _ _
      have k15 := k14.be e5
      have k25 := k24.be e5
      have hA5 := hA4.be e5
      have hB5 := hB4.be e5
      clear k14 k24 hA4 hB4
      have hb12 : b1 ≠ b2 := by omega
      repeat (first | refine TLH_load TE (hk := ?_) | refine TL_fieldAddr TE (hk := ?_))
      refine TL_call TE (hc := Set2_c A n c r w5 hA5 (by omega)) (hq := fun v w' ⟨_, _, _, h, _⟩ => hd5.ext h) (hk := ?_)
      rintro _ w6 ⟨A6, c6, rfl, e6, o6⟩
      refine TL_call TE (hc := Set2_c B m d k w6 (hB5.be e6) (by omega)) (hq := fun v w' ⟨_, _, _, h, _⟩ => (hd5.ext e6).ext h) (hk := ?_)
      rintro _ w7 ⟨A7, c7, rfl, e7, o7⟩
      have s6 := e6.size
      have s7 := e7.size
      have k27 := (k25.be e6).be e7
      repeat (refine TL_build TE (hk := ?_))
      refine TL_storea TE (hf := rfl) (hq := fun w' h _ => ((hd5.ext e6).ext e7).trans h) (hk := ?_); intro w8 m8 s8 k8
      repeat (refine TL_assign (hk := ?_))
      refine TL_nil_h ?_
      --
      have a1 := (o6.be e7).mod m8 (Off.hi o6.hi (by omega))
      have a2 := o7.mod m8 (Off.hi o7.hi (by omega))
      refine T_retA2 TE (vs := [.slice A6 _ c6, .slice A7 _ c7]) (o := 0) rfl rfl rfl rfl rfl k8 rfl (Nat.succ_pos _) ⟨.agg #[.slice A6 (setT r).length c6, .slice A7 (setT k).length c7], ?_, Mod.step ((((e03.ext e4).ext e5).ext e6).ext e7) m8 (by simp; omega), ?_⟩
      · rw [heq]
      · rw [heq]; exact ⟨A6, _, c6, A7, _, c7, rfl, a1.weaken (by omega), a2.weaken (by omega), Off.hilo o7.hi o6.lo⟩
end Go.Proofs.YtgdbckjkeofoaaaGreat

namespace Go.Proofs.YtgdbckjkeofoaaaGreat
open Go.RowKit Go.Proofs.Eng Go.Proofs.Foot Go.Proofs.Locks Go.Proofs.Sched
set_option linter.unusedSimpArgs false
set_option linter.unusedVariables false set_option maxRecDepth 10000
attribute [local irreducible] T TL LV TH TA
set_option maxHeartbeats 3200000
/-- How many keys, and how long. -/
structure KL (l : List Tx) (n : Nat) : Prop where
  nl : l.length ≤ 200 + 64 * n
  kl : ∀ k ∈ l, k.length ≤ 64
theorem KL.up {l : List Tx} {n m : Nat} (h : KL l n) (hm : n ≤ m) : KL l m := ⟨by have := h.nl; omega, h.kl⟩
theorem insK_len (l : List Tx) (k : Tx) : (insK l k).length ≤ l.length + 1 := by
  have h2 := insK_cnt l k (fun _ => true)
  rw [List.filter_eq_self.2 (fun _ _ => rfl), List.filter_eq_self.2 (fun _ _ => rfl)] at h2
  rw [h2]
  split <;> omega
theorem foldK_len : ∀ (ks l : List Tx), (ks.foldl insK l).length ≤ l.length + ks.length
  | [], l => by simp
  | k :: ks, l => by
    have h1 := foldK_len ks (insK l k)
    have h2 := insK_len l k
    simp only [List.foldl_cons, List.length_cons]
    omega
theorem foldK_mem : ∀ (ks l : List Tx) (x : Tx), x ∈ ks.foldl insK l → x ∈ ks ∨ x ∈ l
  | [], l, x, h => .inr h
  | k :: ks, l, x, h => by
    rcases foldK_mem ks (insK l k) x h with q | q
    · exact .inl (List.mem_cons_of_mem _ q)
    · rcases mem_insK.1 q with q | q
      · exact .inl (by rw [q]; exact List.mem_cons_self)
      · exact .inr q
theorem valid_len {k : Tx} (h : validT k = true) : k.length ≤ 64 := by
  unfold validT at h
  rw [Bool.and_eq_true, decide_eq_true_eq] at h
  omega
theorem KL.fold {l : List Tx} {n : Nat} (h : KL l n) {ks : List Tx} (hk : ks.length ≤ 64) (hv : ks.all validT = true) : KL (ks.foldl insK l) (n + 1) :=
  ⟨by have := foldK_len ks l; have := h.nl; omega, fun x hx => (foldK_mem ks l x hx).elim (fun q => valid_len (List.all_eq_true.1 hv x q)) (h.kl x)⟩
theorem lockL_stopD {s : SS} (h : ¬ (s.nxt < s.E.length ∧ s.t.E.length < s.win)) (f : Nat) : lockL f s = s := by
  cases f with
  | zero => rfl
  | succ f => unfold lockL; rw [if_neg h]
theorem lockU_goD {s : SS} (h1 : s.nxt < s.E.length) (h2 : s.t.E.length < s.win) (hn : (lockS s).nxt = s.nxt + 1) (hl : (lockS s).E.length = s.E.length) : lockU (lockS s) = lockU s := by
  unfold lockU
  rw [hn, hl, show s.E.length - s.nxt = (s.E.length - (s.nxt + 1)) + 1 by omega]
  conv => rhs; unfold lockL
  rw [if_pos ⟨h1, h2⟩]
theorem set_set2 {E : List EnE} {i z y : Nat} (hi : i < E.length) : setSt (setSt E i z) i y = setSt E i y := by
  unfold setSt
  rw [List.set_set, getD_set _ _ _ _ _ hi, if_pos rfl]
theorem lockS_win (s : SS) : (lockS s).win = s.win := by unfold lockS; simp only; split <;> rfl
section
variable {base : Nat} {a : DA} {x L : SL} {es : List EV} {g : Nat → Nat} {win : Nat} {S : StE} {l : List Tx} {E D0 : List EnE} {s : SS}
theorem RLock_c (w : World) (D : DocM w base a x L es g s.win s.S l D0) (J : SJ s) (hps : PS D0 s.E) (nf : NF s.E) (kl : KL l s.nxt) (hn : s.E.length ≤ 250) : Ret Tryz.prog 44 [pB a.y] w (fun v w' => ∃ x' es' g' l', DocM w' base a x' L es' g' s.win (lockE s).S l' (lockE s).E ∧ KL l' (lockE s).nxt ∧ Tn g g' w w') := by
  have hw := D.wn
  refine ret_T (n := 61) Tryz.func44 rfl rfl ?_
  repeat (first | refine T_seq ?_ | refine T_region ?_ | refine T_block ?_ | refine TL_nil ?_ | refine TL_assign (hk := ?_))
  refine T_loop (ι := Nat) (fun i => [(2, .int .i64 (i : Int)), (0, pB a.y)]) (fun i w' => ∃ s' D1 x1 es1 g1 l1, i ≤ s'.nxt ∧ SJ s' ∧ PS D1 s'.E ∧ NF s'.E ∧ KL l1 s'.nxt ∧ s'.E.length = s.E.length ∧ s'.win = s.win ∧ lockU s' = lockU s ∧ DocM w' base a x1 L es1 g1 s.win s'.S l1 D1 ∧ Tn g g1 w w') (fun i => s.E.length - i) 0 (.c rfl (.c rfl (.n))) ⟨s, D0, x, es, g, l, Nat.zero_le _, J, hps, nf, kl, rfl, rfl, rfl, D, Tn.refl _ _⟩ ?_
  clear D J hps nf kl
  rintro i w1 ⟨s', D1, x1, es1, g1, l1, hi, J, hps, nf, kl, hle, hwn, hU, D, t1⟩ ih
  have hel := D.el
  have hdl := hps.ln
  have hnl := J.nl
  have hyk := D.yk
  have hr := D.eo.rd
  have hfin : lockU s' = s' → settleD D1 = (lockE s).E ∧ (lockE s).S = s'.S ∧ (lockE s).nxt = s'.nxt := fun hq => by
    have h1 : lockU s = s' := by rw [← hU, hq]
    have h2 := settle_eq J (by omega) (D := D1) (by rw [hq]; exact hps)
    have h3 : lockE s' = lockE s := by unfold lockE; rw [hU]
    refine ⟨by rw [h2, h3], ?_, ?_⟩
    · show (lockU s).S = _; rw [h1]
    · show (lockU s).nxt = _; rw [h1]
  by_cases hlt : i < s.E.length
  · have hA : L.1 ≠ none := by obtain ⟨_, _, hq, _⟩ := hr.2 (by omega); rw [hq]; simp
    have hv := D.st_at (i := i) (by omega)
    by_cases h1 : stE D1 i = 1
    · have h1' : ((stE D1 i : Nat) : Int) = 1 := by omega
      have hs1 : stE s'.E i = 1 := by
        rcases hps.st i with q | ⟨q1, q2, -⟩
        · rw [← q]; exact h1
        · omega
      have hin : i = s'.nxt := by
        have := (J.a1 i (by omega))
        have h3 : ¬ i < s'.nxt := fun q => this.1 q hs1
        omega
      have hfl : (flyL D1 D1.length).length = s'.t.E.length := by rw [hdl, hps.flyL, fly_all J]
      repeat (first | refine T_seq ?_ | refine T_region ?_ | refine T_cond_true rfl ?_ | refine T_cond_false rfl ?_ | refine T_block ?_ | refine T_skip ?_ | refine TL_lt_t (hk := ?_) | refine TL_ne_f (hk := ?_) | refine TL_nil ?_ | refine TL_move (hk := ?_) | refine TL_load TE (hk := ?_) | refine TL_load_rd TE (hk := ?_) | refine TL_fieldAddr TE (hk := ?_) | refine TL_fieldAddr_e TE (hk := ?_) | refine TL_indexAddrn TE (hk := ?_) | refine TL_len TE (hk := ?_) | refine TL_nilCheck (hk := ?_))
      refine T_region_any TE.mixed ([] : List Nat) ?_; intro w2 e2 z2
      have D2 := D.ext e2
      have hyk2 := D2.yk
      have hyD0 : a.y ∉ ([] : List Nat) := by simp
      (refine TA_take 0 rfl (by kernel_rfl) (by kernel_rfl) (by kernel_rfl) ?_; (repeat (first | refine TL_move (hk := ?_) | refine TLP_load TE (hk := ?_) | refine TL_fieldAddr TE (hk := ?_) | refine TL_nilCheck (hk := ?_))); refine TL_nil_p ?_); (refine TA_take 2 rfl (by kernel_rfl) (by kernel_rfl) (by kernel_rfl) ?_; (repeat (first | refine TL_move (hk := ?_) | refine TLP_load TE (hk := ?_) | refine TL_fieldAddr TE (hk := ?_) | refine TL_nilCheck (hk := ?_))); refine TL_nil_p ?_); (refine TA_take 3 rfl (by kernel_rfl) (by kernel_rfl) (by kernel_rfl) ?_; (repeat (first | refine TL_move (hk := ?_) | refine TLP_load TE (hk := ?_) | refine TL_fieldAddr TE (hk := ?_) | refine TL_nilCheck (hk := ?_))); refine TL_nil_p ?_); (refine TA_take 4 rfl (by kernel_rfl) (by kernel_rfl) (by kernel_rfl) ?_; (repeat (first | refine TL_move (hk := ?_) | refine TLP_load TE (hk := ?_) | refine TL_fieldAddr TE (hk := ?_) | refine TL_nilCheck (hk := ?_))); refine TL_nil_p ?_); (refine TA_take 5 rfl (by kernel_rfl) (by kernel_rfl) (by kernel_rfl) ?_; (repeat (first | refine TL_move (hk := ?_) | refine TLP_load TE (hk := ?_) | refine TL_fieldAddr TE (hk := ?_) | refine TL_nilCheck (hk := ?_))); refine TL_nil_p ?_)
      refine TA_one 1 rfl (by kernel_rfl) (by kernel_rfl) ?_; (try refine TL_yes (hk := ?_)); refine TL_call TE (hc := (RFlying_c _ D2 (by omega))) (hq := (by rintro _ w' ⟨rfl, rfl⟩; exact Mod.refl _ _)) (hk := ?_)
      rintro _ w2 ⟨rfl, rfl⟩
      rw [hfl]
      refine TL_nil_p ?_
      have t12 := t1.trans (Tn.ext e2)
      by_cases hfw : s.win ≤ s'.t.E.length
      · (refine TA_one 6 rfl (by kernel_rfl) (by kernel_rfl) ?_; (repeat (refine TL_ge_t (hk := ?_))); refine TL_nil_p ?_)
        refine TA_done (by kernel_rfl) ?_
        clear ih
        obtain ⟨f1, f2, f3⟩ := hfin (lockL_stopD (fun q => by omega) _)
        repeat (first | refine T_region ?_ | refine T_cond_true rfl ?_ | refine T_exit rfl ?_ | refine TL_move (hk := ?_))
        refine TL_call TE (hc := settle_c _ D2 (by omega)) (hk := ?_)
        rintro _ w3 ⟨es3, D3, t3⟩
        rw [f1, ← f2] at D3
        repeat (refine TL_nil ?_)
        exact T_end0 rfl ⟨x1, es3, g1, l1, D3, by rw [f3]; exact kl, t12.trans t3⟩
      · (refine TA_one 6 rfl (by kernel_rfl) (by kernel_rfl) ?_; (repeat (refine TL_ge_f (hk := ?_))); refine TL_nil_p ?_)
        refine TA_done (by kernel_rfl) ?_
        have hr2 := D2.eo.rd
        have ho2 := D2.eo
        obtain ⟨J', hn', hl'⟩ := lockS_sj J (by omega) (by omega) (by omega)
        have hU' := (lockU_goD (by omega) (by omega) hn' hl').trans hU
        have nf' : NF (lockS s').E := NF_ft hl' (ft_lockS s') nf
        have hw' := (lockS_win s').trans hwn
        have hnf := nf i (by omega)
        obtain ⟨-, hkv, -, -⟩ := norm_keys hnf
        have h05 := claim_05 (S := s'.S) hnf
        have hlo : ∀ k, stE s'.E k = 2 → k < i := fun k hk => by
          rcases Nat.lt_or_ge k s'.E.length with q | q
          · rw [hin]; exact (J.a1 k q).2 (by omega)
          · have := st_out q; omega
        have hps2 : ∀ z, PS (setSt D1 i z) (setSt s'.E i z) := fun z => hps.set (by omega) hlo
        clear hr hyk
        repeat (first | refine T_seq ?_ | refine T_region ?_ | refine T_cond_false rfl ?_ | refine T_skip ?_ | refine TL_move (hk := ?_) | refine TL_load TE (hk := ?_) | refine TL_fieldAddr TE (hk := ?_) | refine TL_fieldAddr_e TE (hk := ?_) | refine TL_indexAddrn TE (hk := ?_) | refine TL_nilCheck (hk := ?_))
        refine TL_store_own TE (ho := ho2) (hj := by rw [rowV_len enV_len]; omega) (hk := ?_); intro w3 m3 z3 o3
        rw [show (Value.int .i64 2) = .int .i64 ((2 : Nat) : Int) from rfl, evSt_row es1 i 2 (by omega)] at o3
        obtain ⟨D3, t3⟩ := D2.setE (by omega) m3 o3
        clear ho2 hr2 m3 o3 hyk2
        have hyk3 := D3.yk
        have hsk3 := D3.sk
        have hr3 := D3.eo.rd
        obtain ⟨u, hu⟩ : ∃ u, (evSt es1 i 2).getD i ev0 = u := ⟨_, rfl⟩
        have hel3 := D3.el
        rw [setSt_len] at hel3
        have hv3 : (rowV enV (evSt es1 i 2))[i * 3 + 1]? = some (.slice u.B u.m u.d) := by rw [← hu]; exact rowV_at enV_len _ i 1 ev0 (by omega) (by omega)
        have hck := D3.ek u (by rw [← hu]; exact getD_in (by omega))
        have huw : u.wr = (s'.E.getD i en0).wr := by
          have h3 := D3.at (i := i) (by rw [setSt_len]; omega)
          rw [hu] at h3
          have h4 := (hps2 2).ent i
          have h5 : u.wr = ((setSt D1 i 2).getD i en0).wr := by rw [← h3]; rfl
          rw [h5]
          have h6 := congrArg (fun l => (l.getD i ([], [])).2) (hps2 2).ft
          have h7 := congrArg (fun l => (l.getD i ([], [])).2) (ft_set s'.E i 2)
          have h8 : ∀ F : List EnE, i < F.length → ((F.map ftE).getD i ([], [])).2 = (F.getD i en0).wr := fun F hF => by
            rw [List.getD_eq_getElem?_getD, List.getD_eq_getElem?_getD, List.getElem?_map, List.getElem?_eq_getElem hF]
            rfl

          rw [h8 _ (by rw [setSt_len]; omega), h8 _ (by rw [setSt_len]; omega)] at h6
          rw [h8 _ (by rw [setSt_len]; omega), h8 _ (by omega)] at h7
          rw [h6, h7]
        rw [← huw] at hkv h05
        have hum := hck.nb
        have hul : u.wr.length = u.m := by have := hck.rb.1; rw [sv_length] at this; omega
        have hskb : a.sb ∉ blkL x1.1 := fun q => by have := D3.g1; have := D3.g2 _ q; omega
        have hskB : a.sb ∉ blkL u.B := fun q => by have := D3.g1; have := hck.hb _ q; omega
        have hyD : a.y ∉ [a.sb] := by rw [List.mem_singleton]; intro q; have := D3.g1; have := D3.g3; rw [q] at this; omega
        have hLD : Off L.1 [a.sb] := off_ofL fun b hb q => by have h1 := D3.g1; have h2 := D3.g4 b hb; rw [List.mem_singleton.1 q] at h2; omega
        have hbw : base ≤ w3.heap.size := by have := D3.old a.y (by rw [D3.g3]; decide); omega
        have hnx : s'.nxt ≤ 250 := by omega
        have hlen := kl.nl
        have hE3 : (lockS s').E = setSt s'.E i (if (claimE s'.S u.wr).2 = 5 then 6 else 2) ∧ (lockS s').S = (claimE s'.S u.wr).1 := by
          unfold lockS
          simp only
          rw [← hin, ← huw]
          by_cases q : (claimE s'.S u.wr).2 = 5
          · rw [if_pos q, if_pos q]; exact ⟨rfl, (claim_same (S := s'.S) (ks := u.wr) (by omega)).symm⟩
          · rw [if_neg q, if_neg q]; exact ⟨rfl, rfl⟩
        repeat (first | refine T_seq ?_ | refine TL_nil ?_)
        refine T_region_any TE.mixed ([a.sb] : List Nat) ?_; intro w4 e4 z4
        have D4 := D3.ext e4
        have hyk4 := D4.yk
        have hr4 := D4.eo.rd
        have hck4 := D4.ek u (by rw [← hu]; exact getD_in (by omega))
        (refine TA_take 0 rfl (by kernel_rfl) (by kernel_rfl) (by kernel_rfl) ?_; (repeat (first | refine TL_move (hk := ?_) | refine TLP_load TE (hk := ?_) | refine TLP_load_rd TE (hk := ?_) | refine TL_fieldAddr TE (hk := ?_) | refine TL_fieldAddr_e TE (hk := ?_) | refine TL_indexAddrn TE (hk := ?_) | refine TL_nilCheck (hk := ?_))); refine TL_nil_p ?_); (refine TA_take 1 rfl (by kernel_rfl) (by kernel_rfl) (by kernel_rfl) ?_; (repeat (first | refine TL_move (hk := ?_) | refine TLP_load TE (hk := ?_) | refine TLP_load_rd TE (hk := ?_) | refine TL_fieldAddr TE (hk := ?_) | refine TL_fieldAddr_e TE (hk := ?_) | refine TL_indexAddrn TE (hk := ?_) | refine TL_nilCheck (hk := ?_))); refine TL_nil_p ?_); (refine TA_take 2 rfl (by kernel_rfl) (by kernel_rfl) (by kernel_rfl) ?_; (repeat (first | refine TL_move (hk := ?_) | refine TLP_load TE (hk := ?_) | refine TLP_load_rd TE (hk := ?_) | refine TL_fieldAddr TE (hk := ?_) | refine TL_fieldAddr_e TE (hk := ?_) | refine TL_indexAddrn TE (hk := ?_) | refine TL_nilCheck (hk := ?_))); refine TL_nil_p ?_); (refine TA_take 3 rfl (by kernel_rfl) (by kernel_rfl) (by kernel_rfl) ?_; (repeat (first | refine TL_move (hk := ?_) | refine TLP_load TE (hk := ?_) | refine TLP_load_rd TE (hk := ?_) | refine TL_fieldAddr TE (hk := ?_) | refine TL_fieldAddr_e TE (hk := ?_) | refine TL_indexAddrn TE (hk := ?_) | refine TL_nilCheck (hk := ?_))); refine TL_nil_p ?_); (refine TA_take 4 rfl (by kernel_rfl) (by kernel_rfl) (by kernel_rfl) ?_; (repeat (first | refine TL_move (hk := ?_) | refine TLP_load TE (hk := ?_) | refine TLP_load_rd TE (hk := ?_) | refine TL_fieldAddr TE (hk := ?_) | refine TL_fieldAddr_e TE (hk := ?_) | refine TL_indexAddrn TE (hk := ?_) | refine TL_nilCheck (hk := ?_))); refine TL_nil_p ?_); (refine TA_take 5 rfl (by kernel_rfl) (by kernel_rfl) (by kernel_rfl) ?_; (repeat (first | refine TL_move (hk := ?_) | refine TLP_load TE (hk := ?_) | refine TLP_load_rd TE (hk := ?_) | refine TL_fieldAddr TE (hk := ?_) | refine TL_fieldAddr_e TE (hk := ?_) | refine TL_indexAddrn TE (hk := ?_) | refine TL_nilCheck (hk := ?_))); refine TL_nil_p ?_); (refine TA_take 6 rfl (by kernel_rfl) (by kernel_rfl) (by kernel_rfl) ?_; (repeat (first | refine TL_move (hk := ?_) | refine TLP_load TE (hk := ?_) | refine TLP_load_rd TE (hk := ?_) | refine TL_fieldAddr TE (hk := ?_) | refine TL_fieldAddr_e TE (hk := ?_) | refine TL_indexAddrn TE (hk := ?_) | refine TL_nilCheck (hk := ?_))); refine TL_nil_p ?_); (refine TA_take 7 rfl (by kernel_rfl) (by kernel_rfl) (by kernel_rfl) ?_; (repeat (first | refine TL_move (hk := ?_) | refine TLP_load TE (hk := ?_) | refine TLP_load_rd TE (hk := ?_) | refine TL_fieldAddr TE (hk := ?_) | refine TL_fieldAddr_e TE (hk := ?_) | refine TL_indexAddrn TE (hk := ?_) | refine TL_nilCheck (hk := ?_))); refine TL_nil_p ?_); (refine TA_take 8 rfl (by kernel_rfl) (by kernel_rfl) (by kernel_rfl) ?_; (repeat (first | refine TL_move (hk := ?_) | refine TLP_load TE (hk := ?_) | refine TLP_load_rd TE (hk := ?_) | refine TL_fieldAddr TE (hk := ?_) | refine TL_fieldAddr_e TE (hk := ?_) | refine TL_indexAddrn TE (hk := ?_) | refine TL_nilCheck (hk := ?_))); refine TL_nil_p ?_); (refine TA_take 9 rfl (by kernel_rfl) (by kernel_rfl) (by kernel_rfl) ?_; (repeat (first | refine TL_move (hk := ?_) | refine TLP_load TE (hk := ?_) | refine TLP_load_rd TE (hk := ?_) | refine TL_fieldAddr TE (hk := ?_) | refine TL_fieldAddr_e TE (hk := ?_) | refine TL_indexAddrn TE (hk := ?_) | refine TL_nilCheck (hk := ?_))); refine TL_nil_p ?_); (refine TA_take 10 rfl (by kernel_rfl) (by kernel_rfl) (by kernel_rfl) ?_; (repeat (first | refine TL_move (hk := ?_) | refine TLP_load TE (hk := ?_) | refine TLP_load_rd TE (hk := ?_) | refine TL_fieldAddr TE (hk := ?_) | refine TL_fieldAddr_e TE (hk := ?_) | refine TL_indexAddrn TE (hk := ?_) | refine TL_nilCheck (hk := ?_))); refine TL_nil_p ?_); (refine TA_take 11 rfl (by kernel_rfl) (by kernel_rfl) (by kernel_rfl) ?_; (repeat (first | refine TL_move (hk := ?_) | refine TLP_load TE (hk := ?_) | refine TLP_load_rd TE (hk := ?_) | refine TL_fieldAddr TE (hk := ?_) | refine TL_fieldAddr_e TE (hk := ?_) | refine TL_indexAddrn TE (hk := ?_) | refine TL_nilCheck (hk := ?_))); refine TL_nil_p ?_); (refine TA_take 12 rfl (by kernel_rfl) (by kernel_rfl) (by kernel_rfl) ?_; (repeat (first | refine TL_move (hk := ?_) | refine TLP_load TE (hk := ?_) | refine TLP_load_rd TE (hk := ?_) | refine TL_fieldAddr TE (hk := ?_) | refine TL_fieldAddr_e TE (hk := ?_) | refine TL_indexAddrn TE (hk := ?_) | refine TL_nilCheck (hk := ?_))); refine TL_nil_p ?_)
        have hcl := RClaim_c a.sb a.P a.r x1 l1 s'.S base u.B u.m u.d u.wr w4 D4.ds D4.sk D4.so (by omega) hskb D4.p6 D4.r4 hck4.rb (by omega) (by omega) (fun k hk => by have := valid_len (List.all_eq_true.1 hkv k hk); omega) (fun k hk => by have := kl.kl k hk; omega) hskB
        refine TA_one 13 rfl (by kernel_rfl) (by kernel_rfl) ?_; (try refine TL_yes (hk := ?_)); refine TL_call TE (hc := hcl) (hq := (by rintro _ w' ⟨rfl, ⟨-, e⟩ | ⟨-, m, -⟩⟩; exact e.mono (fun b hb => by cases hb); exact m)) (hk := ?_)
        rintro _ w5 ⟨rfl, hcs⟩
        refine TL_nil_p ?_
        have t14 := (t12.trans t3).trans (Tn.ext e4)
        rcases hcs with ⟨hc, e5⟩ | ⟨hc, m5, x5, hb5, ho5, hn5⟩
        · have h5 : (claimE s'.S u.wr).2 = 5 := by omega
          rw [if_pos h5, claim_same hc] at hE3
          rw [h5]
          (refine TA_one 14 rfl (by kernel_rfl) (by kernel_rfl) ?_; (repeat (refine TL_ne_t (hk := ?_))); refine TL_nil_p ?_)
          refine TA_done (by kernel_rfl) ?_
          have D5 := D4.ext e5
          have hyk5 := D5.yk
          have hr5 := D5.eo.rd
          have ho5 := D5.eo
          clear hyk3 hr3 hyk4 hr4
          repeat (first | refine T_region ?_ | refine T_cond_true rfl ?_ | refine TL_move (hk := ?_) | refine TL_load TE (hk := ?_) | refine TL_fieldAddr TE (hk := ?_) | refine TL_fieldAddr_e TE (hk := ?_) | refine TL_indexAddrn TE (hk := ?_) | refine TL_nilCheck (hk := ?_))
          refine TL_store_own TE (ho := ho5) (hj := by rw [rowV_len enV_len]; omega) (hk := ?_); intro w6 m6 z6 o6
          rw [show (Value.int .i64 6) = .int .i64 ((6 : Nat) : Int) from rfl, evSt_row _ i 6 (by omega)] at o6
          obtain ⟨D6, t6⟩ := D5.setE (by rw [setSt_len]; omega) m6 o6
          rw [set_set2 (by omega), ← hE3.2] at D6
          repeat (first | refine T_region ?_ | refine TL_nil ?_ | refine TL_move (hk := ?_))
          refine TL_call TE (hc := settle_c _ D6 (by rw [setSt_len]; omega)) (hk := ?_)
          rintro _ w7 ⟨es7, D7, t7⟩
          repeat (first | refine T_region ?_ | refine T_inBlock ?_ | refine TL_add (hk := ?_) | refine TL_nil ?_ | refine TL_move (hk := ?_) | refine TL_assign (hk := ?_))
          exact ih (i + 1) _ _ (by omega) ⟨lockS s', _, x1, es7, g1, l1, by omega, J', by rw [hE3.1]; exact (hps2 6).settle, nf', kl.up (by omega), by omega, hw', hU', D7, ((t14.trans (Tn.ext e5)).trans t6).trans t7⟩ (.c rfl (.c rfl (.n)))
        · rw [if_neg (by omega)] at hE3
          rw [hc]
          (refine TA_one 14 rfl (by kernel_rfl) (by kernel_rfl) ?_; (repeat (refine TL_ne_f (hk := ?_))); refine TL_nil_p ?_)
          refine TA_done (by kernel_rfl) ?_
          obtain ⟨g5, D5, t5⟩ := D4.claim m5 hb5 ho5 hn5 (D4.ds.claim u.wr hc)
          rw [← hE3.2] at D5
          clear hyk3 hr3 hyk4 hr4
          repeat (first | refine T_region ?_ | refine T_cond_false rfl ?_ | refine T_skip ?_ | refine TL_move (hk := ?_))
          refine TL_call TE (hc := settle_c _ D5 (by rw [setSt_len]; omega)) (hk := ?_)
          rintro _ w7 ⟨es7, D7, t7⟩
          repeat (first | refine T_region ?_ | refine T_inBlock ?_ | refine TL_add (hk := ?_) | refine TL_nil ?_ | refine TL_move (hk := ?_) | refine TL_assign (hk := ?_))
          exact ih (i + 1) _ _ (by omega) ⟨lockS s', _, x5, es7, g5, _, by omega, J', by rw [hE3.1]; exact (hps2 2).settle, nf', by rw [hn']; exact kl.fold (by omega) hkv, by omega, hw', hU', D7, (t14.trans t5).trans t7⟩ (.c rfl (.c rfl (.n)))
    · have h1' : ¬ ((stE D1 i : Nat) : Int) = 1 := by omega
      have hin : i < s'.nxt := by
        refine (J.a1 i (by omega)).2 (fun q => ?_)
        rcases hps.st i with y | ⟨y1, y2, -⟩ <;> omega
      repeat (first | refine T_seq ?_ | refine T_region ?_ | refine T_cond_true rfl ?_ | refine T_block ?_ | refine T_skip ?_ | refine T_exit rfl ?_ | refine TL_add (hk := ?_) | refine TL_lt_t (hk := ?_) | refine TL_ne_t (hk := ?_) | refine TL_nil ?_ | refine TL_move (hk := ?_) | refine TL_assign (hk := ?_) | refine TL_load TE (hk := ?_) | refine TL_load_rd TE (hk := ?_) | refine TL_fieldAddr TE (hk := ?_) | refine TL_fieldAddr_e TE (hk := ?_) | refine TL_indexAddrn TE (hk := ?_) | refine TL_len TE (hk := ?_) | refine TL_nilCheck (hk := ?_))
      exact ih (i + 1) _ _ (by omega) ⟨s', D1, x1, es1, g1, l1, by omega, J, hps, nf, kl, hle, hwn, hU, D, t1⟩ (.c rfl (.c rfl (.n)))
  · clear ih
    obtain ⟨f1, f2, f3⟩ := hfin (lockL_stopD (fun q => by omega) _)
    repeat (first | refine T_seq ?_ | refine T_region ?_ | refine T_cond_false rfl ?_ | refine T_exit rfl ?_ | refine TL_lt_f (hk := ?_) | refine TL_nil ?_ | refine TL_move (hk := ?_) | refine TL_load TE (hk := ?_) | refine TL_fieldAddr TE (hk := ?_) | refine TL_len TE (hk := ?_) | refine TL_nilCheck (hk := ?_))
    refine TL_call TE (hc := settle_c _ D (by omega)) (hk := ?_)
    rintro _ w3 ⟨es3, D3, t3⟩
    rw [f1, ← f2] at D3
    repeat (refine TL_nil ?_)
    exact T_end0 rfl ⟨x1, es3, g1, l1, D3, by rw [f3]; exact kl, t1.trans t3⟩
end
end Go.Proofs.YtgdbckjkeofoaaaGreat

/- What locking, adding, taking, doing turn of the states. -/
namespace Go.Proofs.YtgdbckjkeofoaaaGreat
open Go.RowKit Go.Proofs.Eng Go.Proofs.Foot Go.Proofs.Locks Go.Proofs.Sched
set_option linter.unusedSimpArgs false
set_option linter.unusedVariables false set_option maxRecDepth 10000
attribute [local irreducible] T TL LV TH TA
/-- From one row of entries to another: who was ready, taken, done or full is as before; the others may be locked, ready or full. -/
def StepE (E E' : List EnE) : Prop := E'.length = E.length ∧ ∀ i, i < E.length → (3 ≤ stE E i → stE E' i = stE E i) ∧ (stE E i ≤ 2 → stE E' i ≤ 3 ∨ stE E' i = 6)
section
variable {E E' E2 : List EnE} {s : SS} {i : Nat}
theorem StepE.refl (E : List EnE) : StepE E E := ⟨rfl, fun i _ => ⟨fun _ => rfl, fun h => .inl (by omega)⟩⟩
theorem StepE.trans (h : StepE E E') (g : StepE E' E2) : StepE E E2 := by
  refine ⟨g.1.trans h.1, fun i hi => ?_⟩
  obtain ⟨h1, h2⟩ := h.2 i hi
  obtain ⟨g1, g2⟩ := g.2 i (by rw [h.1]; exact hi)
  refine ⟨fun q => by rw [g1 (by rw [h1 q]; exact q), h1 q], fun q => ?_⟩
  by_cases e : 3 ≤ stE E' i
  · rw [g1 e]; exact h2 q
  · exact g2 (by omega)
end
end Go.Proofs.YtgdbckjkeofoaaaGreat

namespace Go.Proofs.YtgdbckjkeofoaaaGreat
open Go.RowKit Go.Proofs.Eng Go.Proofs.Foot Go.Proofs.Locks Go.Proofs.Sched
set_option linter.unusedSimpArgs false
set_option linter.unusedVariables false set_option maxRecDepth 10000
attribute [local irreducible] T TL LV TH TA
set_option maxHeartbeats 3200000
section
variable {base : Nat} {a : DA} {x L : SL} {es : List EV} {g : Nat → Nat} {win : Nat} {S : StE} {l : List Tx} {E D0 : List EnE} {s : SS}
theorem RDone_c (q : Int) (w : World) (D : DocM w base a x L es g s.win s.S l s.E) (R : SR s) (nf : NF s.E) (kl : KL l s.nxt) (hn : s.E.length ≤ 250) : Ret Tryz.prog 24 [pB a.y, .int .i64 q] w (fun v w' => v = .int .i64 ((doneE s q).2 : Int) ∧ ∃ x' es' g' l', DocM w' base a x' L es' g' s.win (doneE s q).1.S l' (doneE s q).1.E ∧ KL l' (doneE s q).1.nxt ∧ Tn g g' w w') := by
  have hel := D.el
  have hst : (if q < 0 ∨ (s.E.length : Int) ≤ q then 0 else stE s.E q.toNat) = stS s q := rfl
  have hcS := RState_c15 q w D (by omega)
  rw [hst] at hcS
  unfold doneE
  refine ret_T (n := 20) Tryz.func24 rfl rfl ?_
  repeat (first | refine T_seq ?_ | refine T_region ?_ | refine TL_nil ?_ | refine TL_move (hk := ?_) | refine TL_assign (hk := ?_))
  refine TL_call TE (hc := hcS) (hk := ?_)
  rintro _ w1 ⟨rfl, rfl⟩
  by_cases h4 : stS s q = 4
  · have h4' : ((stS s q : Nat) : Int) = 4 := by omega
    rw [if_neg (by omega)]
    have hq : 0 ≤ q ∧ q < (s.E.length : Int) := by
      unfold stS at h4
      split at h4
      · omega
      · omega
    obtain ⟨i, rfl⟩ := Int.eq_ofNat_of_zero_le hq.1
    have hi : i < s.E.length := by omega
    have h4s : stE s.E i = 4 := by
      unfold stS at h4
      rw [if_neg (by omega)] at h4
      exact h4
    have hJ := done_sj R hi h4s
    have hyk := D.yk
    have hr := D.eo.rd
    have ho := D.eo
    have hA : L.1 ≠ none := by obtain ⟨_, _, hq, _⟩ := hr.2 (by omega); rw [hq]; simp
    repeat (first | refine T_seq ?_ | refine T_region ?_ | refine T_cond_false rfl ?_ | refine T_skip ?_ | refine TL_ne_f (hk := ?_) | refine TL_nil ?_ | refine TL_move (hk := ?_) | refine TL_load TE (hk := ?_) | refine TL_fieldAddr TE (hk := ?_) | refine TL_fieldAddr_e TE (hk := ?_) | refine TL_indexAddrn TE (hk := ?_) | refine TL_nilCheck (hk := ?_))
    refine TL_store_own TE (ho := ho) (hj := by rw [rowV_len enV_len]; omega) (hk := ?_); intro w3 m3 z3 o3
    rw [show (Value.int .i64 5) = .int .i64 ((5 : Nat) : Int) from rfl, evSt_row es i 5 (by omega)] at o3
    obtain ⟨D3, t3⟩ := D.setE hi m3 o3
    repeat (first | refine T_seq ?_ | refine T_region ?_ | refine TL_nil ?_ | refine TL_move (hk := ?_))
    refine TL_call TE (hc := settle_c _ D3 (by rw [setSt_len]; omega)) (hk := ?_)
    rintro _ w4 ⟨es4, D4, t4⟩
    obtain ⟨s1, hs1⟩ : ∃ s1 : SS, { s with E := setSt s.E i 5, t := (relE s.t (i : Int)).1 } = s1 := ⟨_, rfl⟩
    have e1 : s1.win = s.win := by rw [← hs1]
    have e2 : s1.S = s.S := by rw [← hs1]
    have e3 : s1.E = setSt s.E i 5 := by rw [← hs1]
    have e4 : s1.nxt = s.nxt := by rw [← hs1]
    simp only [Int.toNat_natCast]
    rw [hs1] at hJ ⊢
    rw [← e1, ← e2, ← e3] at D4
    repeat (first | refine T_seq ?_ | refine T_region ?_ | refine TL_nil ?_ | refine TL_move (hk := ?_))
    refine TL_call TE (hc := RLock_c w4 D4 hJ (PS.refl _).settle (by rw [e3]; exact NF_ft (setSt_len _ _ _) (ft_set _ _ _) nf) (by rw [e4]; exact kl) (by rw [e3, setSt_len]; exact hn)) (hk := ?_)
    rintro _ w5 ⟨x5, es5, g5, l5, D5, k5, t5⟩
    rw [e1] at D5
    repeat (first | refine T_seq ?_ | refine T_region ?_ | refine TL_nil ?_ | refine TL_assign (hk := ?_))
    exact T_ret1 rfl rfl ⟨rfl, x5, es5, g5, l5, D5, k5, (t3.trans t4).trans t5⟩
  · have h4' : ¬ ((stS s q : Nat) : Int) = 4 := by omega
    rw [if_pos h4]
    repeat (first | refine T_seq ?_ | refine T_region ?_ | refine T_cond_true rfl ?_ | refine TL_ne_t (hk := ?_) | refine TL_nil ?_ | refine TL_assign (hk := ?_))
    exact T_ret1 rfl rfl ⟨rfl, x, es, g, l, D, kl, Tn.refl _ _⟩
theorem RAdd_c (q : Int) (A B : Option Addr) (n c m0 d : Nat) (r k : List Tx) (w : World) (D : DocM w base a x L es g s.win s.S l s.E) (R : SR s) (nf : NF s.E) (kl : KL l s.nxt) (hen : s.E.length + 1 ≤ 250) (hr : Rd w A n 1 (sv r)) (hk : Rd w B m0 1 (sv k)) (hn : n ≤ 50000) (hm0 : m0 ≤ 50000) (sr : Short r) (sk : Short k) :
    Ret Tryz.prog 20 [pB a.y, .int .i64 q, .agg #[.slice A n c, .slice B m0 d]] w (fun v w' => v = .int .i64 (addE s q r k).2 ∧ ∃ x' L' es' g' l', DocM w' base a x' L' es' g' s.win (addE s q r k).1.S l' (addE s q r k).1.E ∧ KL l' (addE s q r k).1.nxt ∧ NF (addE s q r k).1.E ∧ Tn g g' w w') := by
  obtain ⟨hel, hes⟩ := D.el
  have hyk0 := D.yk
  have hbs0 : base ≤ w.heap.size := by have := D.old a.y (by rw [D.g3]; decide); omega
  have hrl : r.length = n := by have := hr.1; rw [sv_length] at this; omega
  have hkl : k.length = m0 := by have := hk.1; rw [sv_length] at this; omega
  unfold addE
  refine ret_T (n := 41) Tryz.func20 rfl rfl ?_
  repeat (first | refine T_seq ?_ | refine T_region ?_)
  refine TL_box (hk := ?_); intro b1 w1 e1 h1 h1' k1
  replace k1 : Blk w1 b1 35 [.slice A n c, .slice B m0 d] := k1
  have hb1 := hyk0.be e1
  have D1 := D.ext e1
  have z1 := e1.size
  by_cases hq : q = (s.E.length : Int)
  · rw [if_neg (fun z => z hq)]
    have hq' : q = (L.2.1 : Int) := by omega
    repeat (first | refine T_seq ?_ | refine T_region ?_ | refine T_cond_false rfl ?_ | refine T_skip ?_ | refine TL_ne_f (hk := ?_) | refine TL_nil ?_ | refine TL_move (hk := ?_) | refine TL_assign (hk := ?_) | refine TL_load TE (hk := ?_) | refine TL_fieldAddr TE (hk := ?_) | refine TL_len TE (hk := ?_) | refine TL_nilCheck (hk := ?_))
    refine TL_loadb TE (cs := [.slice A n c, .slice B m0 d]) (o := 0) rfl rfl k1 rfl rfl (Nat.succ_pos _) (hk := ?_)
    --
    refine TL_call TE (hc := RNorm2_c A B n c m0 d r k w1 (hr.be e1) (hk.be e1) (by omega) (by omega) sr sk) (hk := ?_)
    rintro _ w2 ⟨u, rfl, e2, hu⟩
    obtain ⟨A2, n2, c2, B2, m2, d2, rfl, oA2, oB2, hoff⟩ := hu
    have D2 := D1.ext e2
    have hb2 := hb1.be e2
    have k2 := k1.be e2
    clear hb1 k1 hyk0
    repeat (first | refine TL_move (hk := ?_) | refine TL_extract (hk := ?_))
    refine TL_alloc TE (hk := ?_); intro b3 w3 e3 h3 h3' k3
    --
    refine TL_storea TE (hk := ?_); intro w4 m4 z4 k4
    replace k4 : Blk w4 b3 35 [.slice A2 n2 c2, .slice B2 m2 d2] := k4
    have z3 := e3.size
    have e24 : Ext w2 w4 := Mod.step e3 m4 (by simp; omega)
    have D4 := D2.ext e24
    have hb4 := hb2.be e24
    have k24 := k2.be e24
    have z2 := e2.size
    have e04 : Ext w w4 := (e1.ext e2).ext e24
    have oA4 := oA2.be e24
    have oB4 := oB2.be e24
    have hrg := norm_rng r k
    clear k3 m4 hb2 k2 D2 oA2 oB2
    by_cases he : (normF r k).2 = 0
    · rw [he, if_neg (by simp)]
      have hol := norm_len he
      have hl1 : (normF r k).1.1.length = n2 := by have := oA4.len; rw [sv_length] at this; omega
      have hl2 : (normF r k).1.2.length = m2 := by have := oB4.len; rw [sv_length] at this; omega
      have hn2 : n2 ≤ 64 ∧ m2 ≤ 64 := by rw [← hl1, ← hl2]; exact norm_out hol
      have hA4 := oA4.rd
      have hB4 := oB4.rd
      repeat (first | refine T_seq ?_ | refine T_region ?_ | refine T_cond_false rfl ?_ | refine T_skip ?_ | refine TL_ne_f (hk := ?_) | refine TL_nil ?_ | refine TL_move (hk := ?_) | refine TL_assign (hk := ?_))
      refine TL_loadb TE (cs := [.slice A n c, .slice B m0 d]) (o := 0) rfl rfl k24 rfl rfl (Nat.succ_pos _) (hk := ?_)
      --
      refine TL_loadb TE (cs := [.slice A2 n2 c2, .slice B2 m2 d2]) (o := 0) rfl rfl k4 rfl rfl (Nat.succ_pos _) (hk := ?_)
      --
      refine TL_call TE (hc := Same_c A B A2 B2 n m0 n2 m2 c d c2 d2 r k (normF r k).1.1 (normF r k).1.2 w4 (hr.be e04) (hk.be e04) hA4 hB4 (by omega) (by omega) (by omega) (by omega)) (hk := ?_)
      rintro _ w5 ⟨rfl, e5⟩
      have D5 := D4.ext e5
      have hb5 := hb4.be e5
      have k5 := k24.be e5
      have k45 := k4.be e5
      clear hb4 k24 k4
      by_cases hx : r = (normF r k).1.1 ∧ k = (normF r k).1.2
      · rw [decide_eq_true hx, if_neg (fun z => z ⟨hx.1.symm, hx.2.symm⟩)]
        have hnn : normF r k = ((r, k), 0) := by
          apply Prod.ext
          · exact Prod.ext hx.1.symm hx.2.symm
          · exact he
        have hyD : a.y ∉ [a.y] ++ blkL L.1 → False := fun q => q (by simp)
        have hyL : a.y ∉ blkL L.1 := fun q => by have h1 := D.g4 _ q; have h2 := D.g3; omega
        have hbD : b3 ∉ blkL L.1 := fun q => by have := (D.eo.bl b3 q).2; omega
        repeat (first | refine T_seq ?_ | refine T_cond_false rfl ?_ | refine T_skip ?_ | refine TL_nil ?_ | refine TL_not (hk := ?_))
        refine T_region_anyz TE.mixed (blkL L.1) (some 11) ?_; intro w7 e7 z7
        have D7 := D5.ext e7
        have hb7 := hb5.be e7
        have k47 := k45.be e7
        (refine TA_take 0 rfl (by kernel_rfl) (by kernel_rfl) (by kernel_rfl) ?_; (repeat (first | refine TL_move (hk := ?_) | refine TLP_load TE (hk := ?_) | refine TL_fieldAddr TE (hk := ?_) | refine TL_nilCheck (hk := ?_))); refine TL_nil_p ?_); (refine TA_take 1 rfl (by kernel_rfl) (by kernel_rfl) (by kernel_rfl) ?_; (repeat (first | refine TL_move (hk := ?_) | refine TLP_load TE (hk := ?_) | refine TL_fieldAddr TE (hk := ?_) | refine TL_nilCheck (hk := ?_))); refine TL_nil_p ?_); (refine TA_take 2 rfl (by kernel_rfl) (by kernel_rfl) (by kernel_rfl) ?_; (repeat (first | refine TL_move (hk := ?_) | refine TLP_load TE (hk := ?_) | refine TL_fieldAddr TE (hk := ?_) | refine TL_nilCheck (hk := ?_))); refine TL_nil_p ?_); (refine TA_take 3 rfl (by kernel_rfl) (by kernel_rfl) (by kernel_rfl) ?_; (repeat (first | refine TL_move (hk := ?_) | refine TLP_load TE (hk := ?_) | refine TL_fieldAddr TE (hk := ?_) | refine TL_nilCheck (hk := ?_))); refine TL_nil_p ?_); (refine TA_take 4 rfl (by kernel_rfl) (by kernel_rfl) (by kernel_rfl) ?_; (repeat (first | refine TL_move (hk := ?_) | refine TLP_load TE (hk := ?_) | refine TL_fieldAddr TE (hk := ?_) | refine TL_nilCheck (hk := ?_))); refine TL_nil_p ?_)
        refine TA_take 5 rfl (by kernel_rfl) (by kernel_rfl) (by kernel_rfl) ?_
        refine TLP_loadb TE (cs := [.slice A2 n2 c2, .slice B2 m2 d2]) (o := 0) (hb := k47) (hD := hbD) (hk := ?_)
        refine TL_nil_p ?_
        (refine TA_take 6 rfl (by kernel_rfl) (by kernel_rfl) (by kernel_rfl) ?_; (repeat (refine TL_build TE (hk := ?_))); refine TL_nil_p ?_)
        refine TA_one 7 rfl (by kernel_rfl) (by kernel_rfl) ?_
        refine TL_buildSliceA TE (hf := rfl) (hq := fun w' h => (Ext.un h)) (hk := ?_); intro b8 w8 e8 h8 h8' k8
        obtain ⟨y, hyd⟩ : ∃ y : EV, y = ⟨A2, n2, c2, B2, m2, d2, (normF r k).1.1, (normF r k).1.2, 1⟩ := ⟨_, rfl⟩
        replace k8 : Blk w8 b8 92 (rowV enV [y]) := by rw [hyd]; exact k8
        have r8 : Rd w8 (some ⟨b8, 0, none⟩) 1 3 (rowV enV [y]) := Rd.blk k8 rfl
        have D8 := D7.ext e8
        have hb8 := hb7.be e8
        have z8 := e8.size
        have z5 := e5.size
        refine TL_nil_p ?_
        refine TA_one 8 rfl (by kernel_rfl) (by kernel_rfl) ?_
        refine TL_append TE (ho := D8.eo) (hr := r8) (h1 := rowV_one enV_one _) (hf := rfl) (hq := fun w' m => (Ext.un e8).trans m) (hk := ?_); intro A9 c9 w9 o9 m9 n9
        rw [← rowV_append] at o9
        have hb9 := hb8.mod m9 hyL
        refine TL_nil_p ?_
        (refine TA_one 9 rfl (by kernel_rfl) (by kernel_rfl) ?_; (repeat (first | refine TL_fieldAddr TE (hk := ?_) | refine TL_nilCheck (hk := ?_))); refine TL_nil_p ?_); (refine TA_one 10 rfl (by kernel_rfl) (by kernel_rfl) ?_; (repeat (first | refine TL_fieldAddr TE (hk := ?_) | refine TL_nilCheck (hk := ?_))); refine TL_nil_p ?_)
        refine TA_one 11 rfl (by kernel_rfl) (by kernel_rfl) ?_
        refine TL_store TE (hb := hb9) (hf := rfl) (hq := fun _ _ _ => trivial) (hk := ?_); intro w10 m10 z10 k10
        refine TL_nil_z (by kernel_rfl) ?_
        have E48 : Ext w4 w8 := (e5.ext e7).ext e8
        have E18 : Ext w1 w8 := (e2.ext e24).ext E48
        have hold := fun b (hb : g b ≠ 0) => (D1.old b hb).2
        have hgz : ∀ b, w1.heap.size ≤ b → g b = 0 := fun b hb => by
          by_cases q : g b = 0
          · exact q
          · have := hold b q; omega
        have hbs : base ≤ w1.heap.size := by have := D1.old a.y (by rw [D1.g3]; decide); omega
        have hnew : ∀ (A : Option Addr) (n c : Nat) (xs : List Value), Own w4 w1.heap.size 9 1 A n c xs → ∀ b ∈ blkL A, g b = 0 ∧ base ≤ b ∧ b < w8.heap.size ∧ w1.heap.size ≤ b := fun A n c xs ho b hb => by
          have h1 := ho.bl b hb
          have h2 := E48.size
          exact ⟨hgz b h1.1, by omega, by omega, h1.1⟩
        obtain ⟨g11, D11, t11⟩ := D8.push (w' := w1) (z := y) (L' := (A9, L.2.1 + 1, c9)) (Mod.refl _ _) m9 o9 n9 m10 k10 (by rw [hyd]; exact hA4.be E48) (by rw [hyd]; exact hB4.be E48) (by rw [hyd]; exact hnew _ _ _ _ oA4) (by rw [hyd]; exact hnew _ _ _ _ oB4) (by rw [hyd]; exact hn2.1) (by rw [hyd]; exact hn2.2) E18 hold
        have hxe : enE y = ⟨(normF r k).1.1, (normF r k).1.2, 1⟩ := by rw [hyd]; rfl
        rw [hxe] at D11
        have hJ : SJ { s with E := s.E ++ [⟨(normF r k).1.1, (normF r k).1.2, 1⟩] } := push_sj R.toSJ (by rw [hnn]; exact chk_norm he)
        have hnf : NF (s.E ++ [⟨(normF r k).1.1, (normF r k).1.2, 1⟩]) := fun j hj => by
          rw [List.length_append, List.length_singleton] at hj
          rcases Nat.lt_or_ge j s.E.length with z | z
          · rw [getD_al _ _ _ _ z]; exact nf j z
          · rw [getD_ar _ _ _ _ z, show j - s.E.length = 0 by omega]
            show normF (normF r k).1.1 (normF r k).1.2 = _
            rw [hnn]
            simp only
            rw [hnn]
            rfl
        obtain ⟨s1, hs1⟩ : ∃ s1 : SS, { s with E := s.E ++ [⟨(normF r k).1.1, (normF r k).1.2, 1⟩] } = s1 := ⟨_, rfl⟩
        have e1' : s1.win = s.win := by rw [← hs1]
        have e2' : s1.S = s.S := by rw [← hs1]
        have e3' : s1.E = s.E ++ [⟨(normF r k).1.1, (normF r k).1.2, 1⟩] := by rw [← hs1]
        have e4' : s1.nxt = s.nxt := by rw [← hs1]
        rw [hs1] at hJ ⊢
        rw [← e1', ← e2', ← e3'] at D11
        rw [← e3'] at hnf
        have hl1 : s1.E.length = s.E.length + 1 := by rw [e3']; simp
        repeat (first | refine T_seq ?_ | refine T_region ?_ | refine TL_move (hk := ?_))
        refine TL_call TE (hc := RLock_c w10 D11 hJ (PS.refl _) hnf (by rw [e4']; exact kl) (by omega)) (hk := ?_)
        rintro _ w12 ⟨x12, es12, g12, l12, D12, k12, t12⟩
        rw [e1'] at D12
        repeat (first | refine T_seq ?_ | refine T_region ?_ | refine TL_nil ?_ | refine TL_assign (hk := ?_))
        exact T_ret1 rfl rfl ⟨rfl, x12, _, es12, g12, l12, D12, k12, NF_ft (lockE_sr hJ (by omega)).2 (ft_lock s1) hnf, ((Tn.ext e1).trans t11).trans t12⟩
      · rw [decide_eq_false hx, if_pos (fun z => hx ⟨z.1.symm, z.2.symm⟩)]
        repeat (first | refine T_seq ?_ | refine T_region ?_ | refine T_cond_true rfl ?_ | refine TL_nil ?_ | refine TL_assign (hk := ?_) | refine TL_not (hk := ?_))
        exact T_ret1 rfl rfl ⟨rfl, x, L, es, g, l, D5, kl, nf, Tn.ext (e04.ext e5)⟩
    · rw [if_pos he]
      repeat (first | refine T_seq ?_ | refine T_region ?_ | refine T_cond_true rfl ?_ | refine TL_ne_t (hk := ?_) | refine TL_nil ?_ | refine TL_move (hk := ?_) | refine TL_assign (hk := ?_))
      exact T_ret1 rfl rfl ⟨rfl, x, L, es, g, l, D4, kl, nf, Tn.ext e04⟩
  · have hq' : ¬ q = (L.2.1 : Int) := by omega
    rw [if_pos hq]
    repeat (first | refine T_seq ?_ | refine T_region ?_ | refine T_cond_true rfl ?_ | refine TL_ne_t (hk := ?_) | refine TL_nil ?_ | refine TL_move (hk := ?_) | refine TL_assign (hk := ?_) | refine TL_load TE (hk := ?_) | refine TL_fieldAddr TE (hk := ?_) | refine TL_len TE (hk := ?_) | refine TL_nilCheck (hk := ?_))
    exact T_ret1 rfl rfl ⟨rfl, x, L, es, g, l, D1, kl, nf, Tn.ext e1⟩
end
end Go.Proofs.YtgdbckjkeofoaaaGreat

namespace Go.Proofs.YtgdbckjkeofoaaaGreat
open Go.RowKit Go.Proofs.Eng Go.Proofs.Foot Go.Proofs.Locks Go.Proofs.Sched
set_option linter.unusedSimpArgs false
set_option linter.unusedVariables false set_option maxRecDepth 10000
attribute [local irreducible] T TL LV TH TA
set_option maxHeartbeats 3200000
end Go.Proofs.YtgdbckjkeofoaaaGreat

/- What an argument that reads as data looks like, and how much it holds. -/
namespace Go.Proofs.Eng
open Go.RowKit Go.WideShapes
set_option linter.unusedSimpArgs false
set_option linter.unusedVariables false
/-- How much a reading holds. -/
structure Bulk (H : Type) where
  one : DataW H → Nat
  all : List (DataW H) → Nat
  lit : ∀ l, 1 ≤ one (.lit l)
  str : ∀ b, one (.lit (.string b)) = b.length + 1
  nil : one .nil = 1
  slice : ∀ e s, one (.slice e s) = all e + all s + 1
  agg : ∀ p, one (.agg p) = all p + 1
  none : all [] = 0
  some : ∀ d r, all (d :: r) = one d + all r
def FitB (w : World) : Ty → List Value → Nat → Prop
  | .int k, cs, m => 1 ≤ m ∧ ∃ n, cs = [.int k n] ∧ Fits k n
  | .bool, cs, m => 1 ≤ m ∧ ∃ b, cs = [.bool b]
  | .str, cs, m => ∃ s : ByteArray, cs = [.string s] ∧ s.size ≤ maxLen ∧ s.size + 1 ≤ m
  | .slice e, cs, m => ∃ (A : Option Addr) (n c : Nat) (xs : List (List Value)) (ms : List Nat), cs = [.slice A n c] ∧ n ≤ c ∧ c ≤ maxLen ∧ xs.length = n ∧ ms.length = n ∧ ms.sum + 1 ≤ m ∧ Rd w A n e.size xs.flatten ∧
      ∀ (i : Nat) (x : List Value) (k : Nat), xs[i]? = some x → ms[i]? = some k → x.length = e.size ∧ FitB w e x k
  | .unit, cs, _ => cs = []
  | .cons a b, cs, m => ∃ x y p q, cs = x ++ y ∧ x.length = a.size ∧ p + q ≤ m ∧ FitB w a x p ∧ FitB w b y q
  | .struct p, cs, m => FitB w p cs m
  | .array n e, cs, m => ∃ (xs : List (List Value)) (ms : List Nat), cs = xs.flatten ∧ xs.length = n ∧ ms.length = n ∧ ms.sum ≤ m ∧ ∀ (i : Nat) (x : List Value) (k : Nat), xs[i]? = some x → ms[i]? = some k → x.length = e.size ∧ FitB w e x k
theorem FitB.mono {w : World} : ∀ {ty : Ty} {cs : List Value} {m m' : Nat}, FitB w ty cs m → m ≤ m' → FitB w ty cs m'
  | .int _, _, _, _, ⟨h, r⟩, hm => ⟨Nat.le_trans h hm, r⟩
  | .bool, _, _, _, ⟨h, r⟩, hm => ⟨Nat.le_trans h hm, r⟩
  | .str, _, _, _, ⟨s, h1, h2, h3⟩, hm => ⟨s, h1, h2, Nat.le_trans h3 hm⟩
  | .slice _, _, _, _, ⟨A, n, c, xs, ms, h1, h2, h3, h4, h5, h6, h7⟩, hm => ⟨A, n, c, xs, ms, h1, h2, h3, h4, h5, Nat.le_trans h6 hm, h7⟩
  | .unit, _, _, _, h, _ => h
  | .cons _ _, _, _, _, ⟨x, y, p, q, h1, h2, h3, h4⟩, hm => ⟨x, y, p, q, h1, h2, Nat.le_trans h3 hm, h4⟩
  | .struct p, _, _, _, h, hm => FitB.mono (ty := p) h hm
  | .array _ _, _, _, _, ⟨xs, ms, h1, h2, h3, h4, h5⟩, hm => ⟨xs, ms, h1, h2, h3, Nat.le_trans h4 hm, h5⟩
section
variable {H : Type} {enc : TypeId × Value → H} {P : Program} {w : World} {base : Nat} {spare : Nat → Bool} {held : Bool}
theorem Bulk.map_sum (K : Bulk H) (l : List (DataW H × List MemPlace)) : K.all (l.map (·.1)) = (l.map fun x => K.one x.1).sum := by
  induction l with
  | nil => simp [K.none]
  | cons a l ih => simp [K.some, ih]
theorem fitb_of_trod (E : Env P) (K : Bulk H) : ∀ (ty : Ty),
    (∀ t, tyOk E ty (.at t) = true → ∀ fuel cs x, DataW.trod enc P w base spare held fuel t cs = some x → FitB w ty cs (K.one x.1)) ∧
    (∀ off fl, tyOk E ty (.from off fl) = true → ∀ (cs : List Value) (ys : List (DataW H × List MemPlace)), cs.length = off + ty.size → ys.length = fl.length →
      (∀ (i : Nat) (o : Nat) (t : TypeId) y, fl[i]? = some (o, t) → ys[i]? = some y → ∃ n, DataW.trod enc P w base spare held n t ((cs.drop o).take (P.cellsOf t)) = some y) → FitB w ty (cs.drop off) (ys.map fun x => K.one x.1).sum) := by
  intro ty
  induction ty with
  | int k =>
    refine ⟨fun t h fuel cs x hd => ?_, fun _ _ h => by simp [tyOk] at h⟩
    obtain ⟨n, h1, h3, h2⟩ := DataW.trod_int (und_int h) hd
    rw [h3]
    exact ⟨K.lit _, n, h1, fits_of_wf h2⟩
  | bool =>
    refine ⟨fun t h fuel cs x hd => ?_, fun _ _ h => by simp [tyOk] at h⟩
    obtain ⟨b, h1, h3⟩ := DataW.trod_bool (und_bool h) hd
    rw [h3]
    exact ⟨K.lit _, b, h1⟩
  | str =>
    refine ⟨fun t h fuel cs x hd => ?_, fun _ _ h => by simp [tyOk] at h⟩
    obtain ⟨s, h1, h3, h2⟩ := DataW.trod_string (und_str h) hd
    rw [h3]
    exact ⟨s, h1, h2, by rw [K.str]; simp⟩
  | slice e ih =>
    refine ⟨fun t h fuel cs x hd => ?_, fun _ _ h => by simp [tyOk] at h⟩
    simp only [tyOk] at h
    split at h
    · rename_i u hu
      simp only [Bool.and_eq_true] at h
      obtain ⟨⟨h1, h2⟩, h3⟩ := h
      have hsz := sizeIs_ok h2
      have h0 : 0 < e.size := by simpa [Nat.blt_eq] using h3
      rcases DataW.trod_slice (E.und_ok _ _ hu) hd with ⟨rfl, hx⟩ | ⟨a, len, cap, elems, rest, n, _, rfl, hx, hb, hl, hm, hlen, hel, _⟩
      · rw [hx]
        exact ⟨none, 0, 0, [], [], rfl, Nat.le_refl _, by decide, rfl, rfl, by simp [K.nil], Rd.nil _ _ _, by simp⟩
      · rw [hsz] at hel
        have hget : ∀ i, i < len → ∃ y z, w.cells? base (a.add (i * e.size)) e.size = some y ∧ elems[i]? = some z ∧ DataW.trod enc P w base spare held n u y = some z := fun i hi => by
          have h4 := hel i hi
          rw [List.getElem?_eq_getElem (by omega)] at h4
          cases hc : w.cells? base (a.add (i * e.size)) e.size with
          | none => rw [hc] at h4; simp at h4
          | some y => rw [hc] at h4; simp at h4; exact ⟨y, _, rfl, List.getElem?_eq_getElem (by omega), h4⟩
        have hsome : ∀ (i : Nat) (x : List Value), ((List.range len).map fun i => (w.cells? base (a.add (i * e.size)) e.size).getD [])[i]? = some x → w.cells? base (a.add (i * e.size)) e.size = some x ∧ x.length = e.size ∧ ∃ z, elems[i]? = some z ∧ FitB w e x (K.one z.1) := fun i x hx => by
          have hi : i < len := by have := (List.getElem?_eq_some_iff.1 hx).1; simpa using this
          obtain ⟨y, z, hy, hz, ht⟩ := hget i hi
          rw [List.getElem?_map, List.getElem?_range hi] at hx
          simp only [Option.map_some, hy, Option.getD_some, Option.some.injEq] at hx
          subst hx
          exact ⟨hy, (World.cells?_some hy).2.1, z, hz, ih.1 u h1 n y z ht⟩
        have hmem : ∀ x ∈ (List.range len).map (fun i => (w.cells? base (a.add (i * e.size)) e.size).getD []), x.length = e.size := fun x hx => by
          obtain ⟨i, hi⟩ := List.getElem?_of_mem hx
          exact (hsome i x hi).2.1
        refine ⟨some a, len, cap, _, elems.map fun x => K.one x.1, rfl, hl, hm, by simp, by simp [hlen], ?_, rows_read h0 (by simp) (fun i x hx => (hsome i x hx).1) hmem, ?_⟩
        · rw [hx]
          simp only [K.slice, K.map_sum]
          omega
        · intro i x k hx hk
          obtain ⟨_, h5, z, hz, h6⟩ := hsome i x hx
          rw [List.getElem?_map, hz] at hk
          simp at hk
          subst hk
          exact ⟨h5, h6⟩
    · cases h
  | unit =>
    refine ⟨fun t h => by simp [tyOk] at h, fun off fl h cs ys hl _ _ => ?_⟩
    show cs.drop off = []
    exact List.drop_of_length_le (by simp only [Ty.size] at hl; omega)
  | cons a b iha ihb =>
    refine ⟨fun t h => by simp [tyOk] at h, fun off fl h cs ys hl hyl hf => ?_⟩
    cases fl with
    | nil => simp [tyOk] at h
    | cons p fl =>
      cases ys with
      | nil => simp at hyl
      | cons y ys =>
        obtain ⟨o, t⟩ := p
        simp only [tyOk, Bool.and_eq_true] at h
        obtain ⟨⟨⟨h1, h2⟩, h3⟩, h4⟩ := h
        have ho := Nat.eq_of_beq_eq_true h1
        subst ho
        simp only [Ty.size] at hl
        have hsz := sizeIs_ok h3
        obtain ⟨n, hx⟩ := hf 0 o t y rfl rfl
        rw [hsz] at hx
        refine ⟨(cs.drop o).take a.size, cs.drop (o + a.size), K.one y.1, (ys.map fun x => K.one x.1).sum, ?_, by simp; omega, by simp, iha.1 t h2 n _ y hx, ?_⟩
        · rw [← List.drop_drop, List.take_append_drop]
        · exact ihb.2 (o + a.size) fl h4 cs ys (by omega) (by simpa using hyl) (fun i o' t' y' h' g' => hf (i + 1) o' t' y' (by simpa using h') (by simpa using g'))
  | struct p ih =>
    refine ⟨fun t h fuel cs x hd => ?_, fun _ _ h => by simp [tyOk] at h⟩
    simp only [tyOk] at h
    split at h
    · rename_i fl hfl
      simp only [Bool.and_eq_true] at h
      obtain ⟨h1, h2⟩ := h
      obtain ⟨fs, hu, hmap⟩ := E.fld_ok _ _ hfl
      obtain ⟨xs, n, _, hx, hl, hxl, hfs⟩ := DataW.trod_struct hu hd
      rw [sizeIs_ok h2] at hl
      have := ih.2 0 fl h1 cs xs (by omega) (by rw [hxl, ← hmap]; simp) (fun i o t' y h' g' => by
        rw [← hmap, List.getElem?_map] at h'
        cases hf : fs.toList[i]? with
        | none => rw [hf] at h'; cases h'
        | some f =>
          rw [hf] at h'
          cases h'
          have hf' : fs[i]? = some f := by simpa using hf
          have h5 := hfs i f hf'
          rw [g'] at h5
          exact ⟨n, h5⟩)
      rw [hx]
      refine FitB.mono (ty := p) (by simpa using this) ?_
      rw [K.agg, K.map_sum]
      omega
    · cases h
  | array n e ih =>
    refine ⟨fun t h fuel cs x hd => ?_, fun _ _ h => by simp [tyOk] at h⟩
    simp only [tyOk] at h
    split at h
    · rename_i m u hu
      simp only [Bool.and_eq_true] at h
      obtain ⟨⟨⟨h1, h2⟩, h3⟩, h4⟩ := h
      have hm := Nat.eq_of_beq_eq_true h1
      subst hm
      obtain ⟨xs, q, _, hx, hl, hxl, hel⟩ := DataW.trod_array (E.und_ok _ _ hu) hd
      rw [sizeIs_ok h4] at hl
      rw [sizeIs_ok h3] at hel
      refine ⟨(List.range m).map fun i => (cs.drop (i * e.size)).take e.size, xs.map fun x => K.one x.1, (take_drop_chunks m cs hl).symm, by simp, by simp [hxl], ?_, fun i y k hy hk => ?_⟩
      · rw [hx, K.agg, K.map_sum]
        omega
      · have hi' : i < m := by have := (List.getElem?_eq_some_iff.1 hy).1; simpa using this
        rw [List.getElem?_map, List.getElem?_range hi'] at hy
        simp at hy
        subst hy
        have h5 := hel i hi'
        rw [List.getElem?_map, ← h5] at hk
        cases ht : DataW.trod enc P w base spare held q u ((cs.drop (i * e.size)).take e.size) with
        | none => rw [ht] at hk; simp at hk
        | some z =>
          rw [ht] at hk
          simp at hk
          subst hk
          refine ⟨?_, ih.1 u h2 q _ _ ht⟩
          have : (i + 1) * e.size ≤ m * e.size := Nat.mul_le_mul_right _ hi'
          rw [Nat.succ_mul] at this
          simp; omega
    · cases h
/-- An argument that reads as data and holds so much. -/
def ReadsB (P : Program) (w : World) (base : Nat) (t : TypeId) (v : Value) (m : Nat) : Prop :=
  ∃ (H : Type) (enc : TypeId × Value → H) (d : DataW H) (ps : List MemPlace) (K : Bulk H), DataW.Trod enc P w 0 (fun _ => true) true t v d ps ∧ Value.okWide P w .any base t v ∧ K.one d ≤ m
theorem ReadsB.fit {t : TypeId} {v : Value} {m : Nat} (E : Env P) (h : ReadsB P w base t v m) (ty : Ty) (hok : tyOk E ty (.at t) = true) : FitB w ty v.cells.toList m := by
  obtain ⟨H, enc, d, ps, K, ⟨fuel, hf⟩, _, hm⟩ := h
  exact FitB.mono ((fitb_of_trod E K ty).1 t hok fuel _ _ hf) hm
theorem ReadsB.slice {t e : TypeId} {v : Value} {m : Nat} (E : Env P) (h : ReadsB P w base t v m) (ht : E.und t = some (.slice e)) : ∃ A n c, v = .slice A n c := by
  obtain ⟨_, _, _, _, _, _, hv, _⟩ := h
  exact okWide_slice (E.und_ok _ _ ht) hv
theorem FitB.bytes {A : Option Addr} {n c m : Nat} (h : FitB w (.slice (.int .u8)) [.slice A n c] m) : ∃ l, Rd w A n 1 (bv l) ∧ n ≤ c ∧ c ≤ maxLen ∧ n + 1 ≤ m := by
  obtain ⟨A', n', c', xs, ms, hv, h1, h2, h3, h4, h5, h6, h7⟩ := h
  cases hv
  have hn : n ≤ ms.sum := by
    rw [← h4]
    have key : ∀ (xs : List (List Value)) (ms : List Nat), xs.length = ms.length → (∀ (i : Nat) (x : List Value) (k : Nat), xs[i]? = some x → ms[i]? = some k → 1 ≤ k) → ms.length ≤ ms.sum := by
      intro xs
      induction xs with
      | nil => intro ms hl _; cases ms <;> simp at hl ⊢
      | cons x xs ih =>
        intro ms hl hk
        cases ms with
        | nil => simp
        | cons k ms =>
          have := ih ms (by simpa using hl) (fun i x k a b => hk (i + 1) x k (by simpa using a) (by simpa using b))
          have := hk 0 x k rfl rfl
          simp
          omega
    exact key xs ms (by omega) (fun i x k a b => (h7 i x k a b).2.1)
  have h8 : ∀ x ∈ xs, x.length = 1 ∧ Fit w (.int .u8) x := fun x hx => by
    obtain ⟨i, hi⟩ := List.getElem?_of_mem hx
    have hlt := (List.getElem?_eq_some_iff.1 hi).1
    have := h7 i x ms[i] hi (List.getElem?_eq_getElem (by omega))
    exact ⟨this.1, this.2.2⟩
  obtain ⟨l, hl, h9, h10⟩ := Fit.bytes (w := w) (A := A) (n := n) (c := c) ⟨A, n, c, xs, rfl, h1, h2, h3, h6, h8⟩
  exact ⟨l, hl, h9, h10, by omega⟩
end
end Go.Proofs.Eng

/- An argument that is a row, opened element by element. -/
namespace Go.Proofs.Eng
open Go.RowKit Go.WideShapes
set_option linter.unusedSimpArgs false
set_option linter.unusedVariables false
theorem rows_of {α : Type} {g : α → List Value} {Q : α → Prop} {w : World} {e : Ty} {M : Nat} (h : ∀ (x : List Value) (k : Nat), k ≤ M → FitB w e x k → 1 ≤ k ∧ ∃ a, x = g a ∧ Q a) :
    ∀ (xs : List (List Value)) (ms : List Nat), xs.length = ms.length → ms.sum ≤ M → (∀ (i : Nat) (x : List Value) (k : Nat), xs[i]? = some x → ms[i]? = some k → x.length = e.size ∧ FitB w e x k) → ∃ l : List α, rowV g l = xs.flatten ∧ (∀ a ∈ l, Q a) ∧ l.length = xs.length ∧ xs.length ≤ ms.sum
  | [], [], _, _, _ => ⟨[], rfl, fun a ha => (by cases ha), rfl, Nat.le_refl _⟩
  | [], _ :: _, hl, _, _ => by simp at hl
  | _ :: _, [], hl, _, _ => by simp at hl
  | x :: xs, k :: ms, hl, hs, hk => by
    simp only [List.sum_cons] at hs
    obtain ⟨l, h1, h2, h3, h4⟩ := rows_of h xs ms (by simpa using hl) (by omega) (fun i x k a b => hk (i + 1) x k (by simpa using a) (by simpa using b))
    obtain ⟨h5, a, rfl, ha⟩ := h x k (by omega) (hk 0 x k rfl rfl).2
    exact ⟨a :: l, by rw [rowV_cons, h1]; simp, fun b hb => by
      rcases List.mem_cons.1 hb with rfl | hb
      · exact ha
      · exact h2 b hb, by simp [h3], by simp only [List.length_cons, List.sum_cons]; omega⟩
/-- A row inside an argument. -/
theorem FitB.row {α : Type} {g : α → List Value} {Q : α → Prop} {w : World} {e : Ty} {M k : Nat} (h : ∀ (x : List Value) (k : Nat), k ≤ M → FitB w e x k → 1 ≤ k ∧ ∃ a, x = g a ∧ Q a) {x : List Value} (hx : FitB w (.slice e) x k) (hk : k ≤ M) :
    1 ≤ k ∧ ∃ (A : Option Addr) (n c : Nat) (l : List α), x = [.slice A n c] ∧ n ≤ c ∧ c ≤ maxLen ∧ n < k ∧ l.length = n ∧ Rd w A n e.size (rowV g l) ∧ ∀ a ∈ l, Q a := by
  obtain ⟨A, n, c, xs, ms, h1, h2, h3, h4, h5, h6, h7, h8⟩ := hx
  obtain ⟨l, g1, g2, g3, g4⟩ := rows_of h xs ms (by omega) (by omega) h8
  exact ⟨by omega, A, n, c, l, h1, h2, h3, by omega, by omega, by rw [g1]; exact h7, g2⟩
end Go.Proofs.Eng

/- Four results. -/
namespace Go.Proofs.Eng
open Go.RowKit
set_option linter.unusedSimpArgs false
set_option linter.unusedVariables false
set_option linter.unusedSectionVars false
section
variable {P : Program} {fn : Func} {n : Nat} {st : Slots} {k : List Item} {w : World} {Φ : Value → World → Prop} {dd : Bool}
theorem T_ret4 {t1 t2 t3 t4 : Tmp} {v1 v2 v3 v4 : Value} (hr : fn.results = #[.tmp t1, .tmp t2, .tmp t3, .tmp t4]) (h1 : look st t1 = some v1) (h2 : look st t2 = some v2) (h3 : look st t3 = some v3) (h4 : look st t4 = some v4)
    (hR : Φ (.tuple #[v1, v2, v3, v4]) w) : T P fn (RR Φ) ⟨dd, []⟩ n st (.code .ret :: k) w := T_ret rfl (fun a ha => by
  have e1 := ha.get _ _ h1
  have e2 := ha.get _ _ h2
  have e3 := ha.get _ _ h3
  have e4 := ha.get _ _ h4
  simp only [Array.getD_eq_getD_getElem?] at e1 e2 e3 e4
  simp [results, hr, e1, e2, e3, e4]) hR
end
end Go.Proofs.Eng

/- A story of a scheduler, as an argument. -/
namespace Go.Proofs.YtgdbckjkeofoaaaGreat
open Go.RowKit Go.Proofs.Eng Go.Proofs.Foot Go.Proofs.Locks Go.Proofs.Sched
set_option linter.unusedSimpArgs false
set_option linter.unusedVariables false set_option maxRecDepth 10000
attribute [local irreducible] T TL LV TH TA
structure AD where
  kd : Int
  by_ : Int
  A : Option Addr
  n : Nat
  c : Nat
  B : Option Addr
  m : Nat
  d : Nat
  r : List Tx
  k : List Tx
def ad0 : AD := ⟨0, 0, none, 0, 0, none, 0, 0, [], []⟩
def adV (x : AD) : List Value := [.int .i64 x.kd, .int .i64 x.by_, .slice x.A x.n x.c, .slice x.B x.m x.d]
theorem adV_len (x : AD) : (adV x).length = 4 := rfl
def i64ok (z : Int) : Prop := -9223372036854775808 ≤ z ∧ z ≤ 9223372036854775807
structure AdOk (w : World) (x : AD) : Prop where
  ra : Rd w x.A x.n 1 (sv x.r)
  rb : Rd w x.B x.m 1 (sv x.k)
  nc : x.n ≤ 1048576 ∧ x.m ≤ 1048576
  kd : i64ok x.kd
  bd : i64ok x.by_
  sr : ∀ y ∈ x.r, y.length ≤ 1048576
  sk : ∀ y ∈ x.k, y.length ≤ 1048576
theorem AdOk.be {w w' : World} {x : AD} (h : AdOk w x) (e : Ext w w') : AdOk w' x := { h with ra := h.ra.be e, rb := h.rb.be e }
abbrev tyFt : Ty := .struct (.cons (.slice .str) (.cons (.slice .str) .unit))
abbrev tyAct15 : Ty := .struct (.cons (.int .i64) (.cons (.int .i64) (.cons tyFt .unit)))
abbrev tyStory15 : Ty := .struct (.cons (.int .i64) (.cons (.int .i64) (.cons (.slice .str) (.cons (.int .i64) (.cons (.slice tyAct15) .unit)))))
theorem rowV_sv (l : List Tx) : rowV (fun t : Tx => [Value.string (ofL t)]) l = sv l := by simp [rowV, sv, List.flatten_eq_flatMap, List.flatMap_map, ← List.map_eq_flatMap]
theorem strs_of {w : World} {M k : Nat} {x : List Value} (hk : k ≤ M) (h : FitB w (.slice .str) x k) : ∃ A n c l, x = [.slice A n c] ∧ Rd w A n 1 (sv l) ∧ l.length = n ∧ n ≤ c ∧ c ≤ 9223372036854775807 ∧ n + 1 ≤ k ∧ ∀ y ∈ l, y.length ≤ M := by
  obtain ⟨_, A', n', c', l, hv, g1, g2, g3, g4, g5, g6⟩ := FitB.row (g := fun t : Tx => [Value.string (ofL t)]) (Q := fun t => t.length ≤ M) (M := M) (fun x k hk hx => by
    obtain ⟨S, rfl, h1, h2⟩ := hx
    have : S.data.toList.length = S.size := Array.length_toList
    exact ⟨by omega, S.data.toList, rfl, by omega⟩) h hk
  unfold maxLen at g2
  rw [rowV_sv] at g5
  exact ⟨A', n', c', l, hv, g5, g4, g1, g2, by omega, g6⟩
theorem act15_of {w : World} (x : List Value) (k : Nat) (hk : k ≤ 1048576) (h : FitB w tyAct15 x k) : 1 ≤ k ∧ ∃ a : AD, x = adV a ∧ AdOk w a := by
  obtain ⟨x1, y1, p, q, rfl, h1, h2, ⟨h3, kd, rfl, f1⟩, x2, y2, p2, q2, rfl, h4, h5, ⟨h6, by_, rfl, f2⟩, x3, y3, p3, q3, rfl, h8, h9, h10, hz⟩ := h
  have hz : y3 = [] := hz
  subst hz
  obtain ⟨u1, v1, s1, t1, rfl, g1, g2, hA, u2, v2, s2, t2, rfl, g3, g4, hB, hz2⟩ := h10
  have hz2 : v2 = [] := hz2
  subst hz2
  obtain ⟨A, n, c, r, rfl, a1, a2, a3, a4, a5, a6⟩ := strs_of (M := 1048576) (by omega) hA
  obtain ⟨B, m, d, k', rfl, b1, b2, b3, b4, b5, b6⟩ := strs_of (M := 1048576) (by omega) hB
  exact ⟨by omega, ⟨kd, by_, A, n, c, B, m, d, r, k'⟩, rfl, a1, b1, ⟨by simp only; omega, by simp only; omega⟩, f1, f2, a6, b6⟩
theorem agg_5 {v a b c d e : Value} (h : v.cells.toList = [a, b, c, d, e]) : v = .agg #[a, b, c, d, e] := by
  cases v with
  | agg cs =>
    have e : cs.toList = [a, b, c, d, e] := h
    congr
    exact Array.toList_inj.1 (by simpa using e)
  | _ => simp [Value.cells] at h
theorem story15_in {w : World} {base : Nat} {v : Value} (h : ReadsB Tryz.prog w base 25 v 1048576) :
    ∃ (a b wn : Int) (KA : Option Addr) (kn kc : Nat) (ks : List Tx) (A : Option Addr) (n c : Nat) (l : List AD), v = .agg #[.int .i64 a, .int .i64 b, .slice KA kn kc, .int .i64 wn, .slice A n c] ∧ i64ok a ∧ i64ok b ∧ i64ok wn ∧ Rd w KA kn 1 (sv ks) ∧ kn ≤ 1048576 ∧ (∀ y ∈ ks, y.length ≤ 1048576) ∧ Rd w A n 4 (rowV adV l) ∧ l.length = n ∧ (∀ x ∈ l, AdOk w x) ∧ n ≤ 1048576 := by
  obtain ⟨x1, y1, p1, q1, h1, -, h2, ⟨_, a, rfl, fa⟩, x2, y2, p2, q2, rfl, -, h5, ⟨_, b, rfl, fb⟩, x3, y3, p3, q3, rfl, -, h8, hk, x4, y4, p4, q4, rfl, -, h9, ⟨_, wn, rfl, fd⟩, x5, y5, p5, q5, rfl, -, h10, hs, hz⟩ := h.fit TE tyStory15 (by decide +kernel)
  have hz : y5 = [] := hz
  subst hz
  obtain ⟨KA, kn, kc, ks, rfl, a1, a2, a3, a4, a5, a6⟩ := strs_of (M := 1048576) (by omega) hk
  obtain ⟨_, A, n, c, l, rfl, g1, g2, g3, g4, g5, g6⟩ := FitB.row (g := adV) (Q := AdOk w) (M := 1048576) act15_of hs (by omega)
  exact ⟨a, b, wn, KA, kn, kc, ks, A, n, c, l, agg_5 h1, fa, fb, fd, a1, by omega, a6, g5, g4, g6, by omega⟩
def totD (l : List AD) (i : Nat) : Nat := ((l.take i).map fun x => x.n + x.m).sum
theorem totD_succ (l : List AD) (i : Nat) (hi : i < l.length) : totD l (i + 1) = totD l i + ((l.getD i ad0).n + (l.getD i ad0).m) := by
  unfold totD
  rw [List.take_succ_eq_append_getElem hi, List.map_append, List.sum_append]
  simp only [List.map_cons, List.map_nil, List.sum_cons, List.sum_nil, Nat.add_zero]
  rw [List.getD_eq_getElem?_getD, List.getElem?_eq_getElem hi]
  rfl
theorem totD_mem {l : List AD} {n : Nat} (hl : l.length = n) : ∀ x ∈ l, x.n + x.m ≤ totD l n := by
  unfold totD
  rw [List.take_of_length_le (by omega)]
  clear hl
  induction l with
  | nil => intro x hx; cases hx
  | cons y l ih =>
    intro x hx
    rw [List.map_cons, List.sum_cons]
    rcases List.mem_cons.1 hx with rfl | hx
    · omega
    · have := ih x hx; omega
set_option maxHeartbeats 3200000
theorem long_c15 (a b wn : Int) (KA : Option Addr) (kn kc : Nat) (A : Option Addr) (n c : Nat) (l : List AD) (w : World) (hr : Rd w A n 4 (rowV adV l)) (hl : l.length = n) (hm : ∀ x ∈ l, AdOk w x) (hn : n ≤ 1048576) :
    Ret Tryz.prog 6 [.agg #[.int .i64 a, .int .i64 b, .slice KA kn kc, .int .i64 wn, .slice A n c]] w (fun v w' => (v = .bool true ∨ v = .bool false ∧ n ≤ 200 ∧ kn ≤ 200 ∧ ∀ x ∈ l, x.n + x.m ≤ 3000) ∧ Ext w w') := by
  refine ret_T (n := 45) Tryz.func6 rfl rfl ?_
  repeat (first | refine T_seq ?_ | refine T_region ?_)
  refine TL_box (hk := ?_); intro b1 w1 e1 h1 h1' k1
  replace k1 : Blk w1 b1 25 [.int .i64 a, .int .i64 b, .slice KA kn kc, .int .i64 wn, .slice A n c] := k1
  have hr1 := hr.be e1
  have hbD : b1 ∉ ([] : List Nat) := by simp
  have hAD : Off A ([] : List Nat) := .nil _
  repeat (first | refine T_seq ?_ | refine T_region ?_ | refine T_block ?_ | refine TL_nil ?_ | refine TL_assign (hk := ?_))
  refine T_loop (ι := Nat) (fun i => [(4, .int .i64 (i : Int)), (3, .int .i64 ((totD l i : Nat) : Int)), (1, .pointer (some ⟨b1, 0, none⟩))]) (fun i w' => Ext w1 w' ∧ i ≤ n ∧ totD l i ≤ i * 2097152) (fun i => n - i) 0 (.c rfl (.c rfl (.c rfl (.n)))) ⟨Mod.refl _ _, Nat.zero_le _, by simp [totD]⟩ ?_
  rintro i w2 ⟨e2, hi, ht⟩ ih
  have k2 := k1.be e2
  have hr2 := hr1.be e2
  by_cases hlt : i < n
  · have hA : A ≠ none := by obtain ⟨_, _, hq, _⟩ := hr2.2 (by omega); rw [hq]; simp
    have hv2 : (rowV adV l)[i * 4 + 2]? = some (.slice (l.getD i ad0).A (l.getD i ad0).n (l.getD i ad0).c) := rowV_at adV_len l i 2 ad0 (by omega) (by omega)
    have hv3 : (rowV adV l)[i * 4 + 3]? = some (.slice (l.getD i ad0).B (l.getD i ad0).m (l.getD i ad0).d) := rowV_at adV_len l i 3 ad0 (by omega) (by omega)
    have hsu := totD_succ l i (by omega)
    have hb := (hm _ (show l.getD i ad0 ∈ l from getD_in (by omega))).nc
    generalize l.getD i ad0 = x at hv2 hv3 hsu hb
    have hmul : (i + 1) * 2097152 = i * 2097152 + 2097152 := Nat.succ_mul _ _
    have hmul2 : i * 2097152 ≤ 1048576 * 2097152 := Nat.mul_le_mul_right _ (by omega)
    have hc : ((totD l i : Nat) : Int) + (x.n : Int) + (x.m : Int) = ((totD l (i + 1) : Nat) : Int) := by omega
    repeat (first | refine T_seq ?_ | refine T_region ?_ | refine T_cond_true rfl ?_ | refine T_block ?_ | refine T_skip ?_ | refine TL_lt_t (hk := ?_) | refine TL_nil ?_ | refine TL_move (hk := ?_) | refine TL_load TE (hk := ?_) | refine TL_fieldAddr TE (hk := ?_) | refine TL_len TE (hk := ?_))
    refine T_region_any TE.mixed ([] : List Nat) ?_; intro w3 e3 z3
    have k3 := k2.be e3
    have hr3 := hr2.be e3
    (refine TA_take 0 rfl (by kernel_rfl) (by kernel_rfl) (by kernel_rfl) ?_; (repeat (first | refine TL_add (hk := ?_) | refine TL_move (hk := ?_) | refine TLP_load TE (hk := ?_) | refine TLP_load_rd TE (hk := ?_) | refine TL_fieldAddr TE (hk := ?_) | refine TL_fieldAddr_e TE (hk := ?_) | refine TL_indexAddrn TE (hk := ?_) | refine TL_len TE (hk := ?_))); refine TL_nil_p ?_); (refine TA_take 1 rfl (by kernel_rfl) (by kernel_rfl) (by kernel_rfl) ?_; (repeat (first | refine TL_add (hk := ?_) | refine TL_move (hk := ?_) | refine TLP_load TE (hk := ?_) | refine TLP_load_rd TE (hk := ?_) | refine TL_fieldAddr TE (hk := ?_) | refine TL_fieldAddr_e TE (hk := ?_) | refine TL_indexAddrn TE (hk := ?_) | refine TL_len TE (hk := ?_))); refine TL_nil_p ?_); (refine TA_take 2 rfl (by kernel_rfl) (by kernel_rfl) (by kernel_rfl) ?_; (repeat (first | refine TL_add (hk := ?_) | refine TL_move (hk := ?_) | refine TLP_load TE (hk := ?_) | refine TLP_load_rd TE (hk := ?_) | refine TL_fieldAddr TE (hk := ?_) | refine TL_fieldAddr_e TE (hk := ?_) | refine TL_indexAddrn TE (hk := ?_) | refine TL_len TE (hk := ?_))); refine TL_nil_p ?_); (refine TA_take 3 rfl (by kernel_rfl) (by kernel_rfl) (by kernel_rfl) ?_; (repeat (first | refine TL_add (hk := ?_) | refine TL_move (hk := ?_) | refine TLP_load TE (hk := ?_) | refine TLP_load_rd TE (hk := ?_) | refine TL_fieldAddr TE (hk := ?_) | refine TL_fieldAddr_e TE (hk := ?_) | refine TL_indexAddrn TE (hk := ?_) | refine TL_len TE (hk := ?_))); refine TL_nil_p ?_); (refine TA_take 4 rfl (by kernel_rfl) (by kernel_rfl) (by kernel_rfl) ?_; (repeat (first | refine TL_add (hk := ?_) | refine TL_move (hk := ?_) | refine TLP_load TE (hk := ?_) | refine TLP_load_rd TE (hk := ?_) | refine TL_fieldAddr TE (hk := ?_) | refine TL_fieldAddr_e TE (hk := ?_) | refine TL_indexAddrn TE (hk := ?_) | refine TL_len TE (hk := ?_))); refine TL_nil_p ?_); (refine TA_take 5 rfl (by kernel_rfl) (by kernel_rfl) (by kernel_rfl) ?_; (repeat (first | refine TL_add (hk := ?_) | refine TL_move (hk := ?_) | refine TLP_load TE (hk := ?_) | refine TLP_load_rd TE (hk := ?_) | refine TL_fieldAddr TE (hk := ?_) | refine TL_fieldAddr_e TE (hk := ?_) | refine TL_indexAddrn TE (hk := ?_) | refine TL_len TE (hk := ?_))); refine TL_nil_p ?_); (refine TA_take 6 rfl (by kernel_rfl) (by kernel_rfl) (by kernel_rfl) ?_; (repeat (first | refine TL_add (hk := ?_) | refine TL_move (hk := ?_) | refine TLP_load TE (hk := ?_) | refine TLP_load_rd TE (hk := ?_) | refine TL_fieldAddr TE (hk := ?_) | refine TL_fieldAddr_e TE (hk := ?_) | refine TL_indexAddrn TE (hk := ?_) | refine TL_len TE (hk := ?_))); refine TL_nil_p ?_); (refine TA_take 7 rfl (by kernel_rfl) (by kernel_rfl) (by kernel_rfl) ?_; (repeat (first | refine TL_add (hk := ?_) | refine TL_move (hk := ?_) | refine TLP_load TE (hk := ?_) | refine TLP_load_rd TE (hk := ?_) | refine TL_fieldAddr TE (hk := ?_) | refine TL_fieldAddr_e TE (hk := ?_) | refine TL_indexAddrn TE (hk := ?_) | refine TL_len TE (hk := ?_))); refine TL_nil_p ?_); (refine TA_take 8 rfl (by kernel_rfl) (by kernel_rfl) (by kernel_rfl) ?_; (repeat (first | refine TL_add (hk := ?_) | refine TL_move (hk := ?_) | refine TLP_load TE (hk := ?_) | refine TLP_load_rd TE (hk := ?_) | refine TL_fieldAddr TE (hk := ?_) | refine TL_fieldAddr_e TE (hk := ?_) | refine TL_indexAddrn TE (hk := ?_) | refine TL_len TE (hk := ?_))); refine TL_nil_p ?_); (refine TA_take 9 rfl (by kernel_rfl) (by kernel_rfl) (by kernel_rfl) ?_; (repeat (first | refine TL_add (hk := ?_) | refine TL_move (hk := ?_) | refine TLP_load TE (hk := ?_) | refine TLP_load_rd TE (hk := ?_) | refine TL_fieldAddr TE (hk := ?_) | refine TL_fieldAddr_e TE (hk := ?_) | refine TL_indexAddrn TE (hk := ?_) | refine TL_len TE (hk := ?_))); refine TL_nil_p ?_); (refine TA_take 10 rfl (by kernel_rfl) (by kernel_rfl) (by kernel_rfl) ?_; (repeat (first | refine TL_add (hk := ?_) | refine TL_move (hk := ?_) | refine TLP_load TE (hk := ?_) | refine TLP_load_rd TE (hk := ?_) | refine TL_fieldAddr TE (hk := ?_) | refine TL_fieldAddr_e TE (hk := ?_) | refine TL_indexAddrn TE (hk := ?_) | refine TL_len TE (hk := ?_))); refine TL_nil_p ?_); (refine TA_take 11 rfl (by kernel_rfl) (by kernel_rfl) (by kernel_rfl) ?_; (repeat (first | refine TL_add (hk := ?_) | refine TL_move (hk := ?_) | refine TLP_load TE (hk := ?_) | refine TLP_load_rd TE (hk := ?_) | refine TL_fieldAddr TE (hk := ?_) | refine TL_fieldAddr_e TE (hk := ?_) | refine TL_indexAddrn TE (hk := ?_) | refine TL_len TE (hk := ?_))); refine TL_nil_p ?_); (refine TA_take 12 rfl (by kernel_rfl) (by kernel_rfl) (by kernel_rfl) ?_; (repeat (first | refine TL_add (hk := ?_) | refine TL_move (hk := ?_) | refine TLP_load TE (hk := ?_) | refine TLP_load_rd TE (hk := ?_) | refine TL_fieldAddr TE (hk := ?_) | refine TL_fieldAddr_e TE (hk := ?_) | refine TL_indexAddrn TE (hk := ?_) | refine TL_len TE (hk := ?_))); refine TL_nil_p ?_); (refine TA_take 13 rfl (by kernel_rfl) (by kernel_rfl) (by kernel_rfl) ?_; (repeat (first | refine TL_add (hk := ?_) | refine TL_move (hk := ?_) | refine TLP_load TE (hk := ?_) | refine TLP_load_rd TE (hk := ?_) | refine TL_fieldAddr TE (hk := ?_) | refine TL_fieldAddr_e TE (hk := ?_) | refine TL_indexAddrn TE (hk := ?_) | refine TL_len TE (hk := ?_))); refine TL_nil_p ?_); (refine TA_take 14 rfl (by kernel_rfl) (by kernel_rfl) (by kernel_rfl) ?_; (repeat (first | refine TL_add (hk := ?_) | refine TL_move (hk := ?_) | refine TLP_load TE (hk := ?_) | refine TLP_load_rd TE (hk := ?_) | refine TL_fieldAddr TE (hk := ?_) | refine TL_fieldAddr_e TE (hk := ?_) | refine TL_indexAddrn TE (hk := ?_) | refine TL_len TE (hk := ?_))); refine TL_nil_p ?_); (refine TA_take 15 rfl (by kernel_rfl) (by kernel_rfl) (by kernel_rfl) ?_; (repeat (first | refine TL_add (hk := ?_) | refine TL_move (hk := ?_) | refine TLP_load TE (hk := ?_) | refine TLP_load_rd TE (hk := ?_) | refine TL_fieldAddr TE (hk := ?_) | refine TL_fieldAddr_e TE (hk := ?_) | refine TL_indexAddrn TE (hk := ?_) | refine TL_len TE (hk := ?_))); refine TL_nil_p ?_); (refine TA_take 16 rfl (by kernel_rfl) (by kernel_rfl) (by kernel_rfl) ?_; (repeat (first | refine TL_add (hk := ?_) | refine TL_move (hk := ?_) | refine TLP_load TE (hk := ?_) | refine TLP_load_rd TE (hk := ?_) | refine TL_fieldAddr TE (hk := ?_) | refine TL_fieldAddr_e TE (hk := ?_) | refine TL_indexAddrn TE (hk := ?_) | refine TL_len TE (hk := ?_))); refine TL_nil_p ?_); (refine TA_take 17 rfl (by kernel_rfl) (by kernel_rfl) (by kernel_rfl) ?_; (repeat (first | refine TL_add (hk := ?_) | refine TL_move (hk := ?_) | refine TLP_load TE (hk := ?_) | refine TLP_load_rd TE (hk := ?_) | refine TL_fieldAddr TE (hk := ?_) | refine TL_fieldAddr_e TE (hk := ?_) | refine TL_indexAddrn TE (hk := ?_) | refine TL_len TE (hk := ?_))); refine TL_nil_p ?_); (refine TA_take 18 rfl (by kernel_rfl) (by kernel_rfl) (by kernel_rfl) ?_; (repeat (first | refine TL_add (hk := ?_) | refine TL_move (hk := ?_) | refine TLP_load TE (hk := ?_) | refine TLP_load_rd TE (hk := ?_) | refine TL_fieldAddr TE (hk := ?_) | refine TL_fieldAddr_e TE (hk := ?_) | refine TL_indexAddrn TE (hk := ?_) | refine TL_len TE (hk := ?_))); refine TL_nil_p ?_)
    rw [hc]
    (refine TA_one 19 rfl (by kernel_rfl) (by kernel_rfl) ?_; (repeat (refine TL_assign (hk := ?_))); refine TL_nil_p ?_)
    refine TA_done (by kernel_rfl) ?_
    repeat (first | refine T_region ?_ | refine T_inBlock ?_ | refine TL_add (hk := ?_) | refine TL_nil ?_ | refine TL_move (hk := ?_) | refine TL_assign (hk := ?_))
    exact ih (i + 1) _ _ (by omega) ⟨e2.ext e3, by omega, by omega⟩ (.c rfl (.c rfl (.c rfl (.n))))
  · have : n = i := by omega
    subst this
    clear ih
    by_cases h40 : 200 < n
    · repeat (first | refine T_seq ?_ | refine T_region ?_ | refine T_cond_false rfl ?_ | refine T_exit rfl ?_ | refine TL_lt_f (hk := ?_) | refine TL_gt_t (hk := ?_) | refine TL_nil ?_ | refine TL_move (hk := ?_) | refine TL_assign (hk := ?_) | refine TL_load TE (hk := ?_) | refine TL_fieldAddr TE (hk := ?_) | refine TL_len TE (hk := ?_) | refine TL_no (hk := ?_) | refine TL_pick_t (hk := ?_))
      exact T_ret1 rfl rfl ⟨.inl rfl, e1.ext e2⟩
    · by_cases h15 : 3000 < totD l n
      · repeat (first | refine T_seq ?_ | refine T_region ?_ | refine T_cond_false rfl ?_ | refine T_exit rfl ?_ | refine TL_lt_f (hk := ?_) | refine TL_gt_t (hk := ?_) | refine TL_gt_f (hk := ?_) | refine TL_nil ?_ | refine TL_move (hk := ?_) | refine TL_assign (hk := ?_) | refine TL_load TE (hk := ?_) | refine TL_fieldAddr TE (hk := ?_) | refine TL_len TE (hk := ?_) | refine TL_yes (hk := ?_) | refine TL_no (hk := ?_) | refine TL_pick_t (hk := ?_) | refine TL_pick_f (hk := ?_))
        exact T_ret1 rfl rfl ⟨.inl rfl, e1.ext e2⟩
      · by_cases h20 : 200 < kn
        · repeat (first | refine T_seq ?_ | refine T_region ?_ | refine T_cond_false rfl ?_ | refine T_exit rfl ?_ | refine TL_lt_f (hk := ?_) | refine TL_gt_t (hk := ?_) | refine TL_gt_f (hk := ?_) | refine TL_nil ?_ | refine TL_move (hk := ?_) | refine TL_assign (hk := ?_) | refine TL_load TE (hk := ?_) | refine TL_fieldAddr TE (hk := ?_) | refine TL_len TE (hk := ?_) | refine TL_yes (hk := ?_) | refine TL_pick_f (hk := ?_))
          exact T_ret1 rfl rfl ⟨.inl rfl, e1.ext e2⟩
        · repeat (first | refine T_seq ?_ | refine T_region ?_ | refine T_cond_false rfl ?_ | refine T_exit rfl ?_ | refine TL_lt_f (hk := ?_) | refine TL_gt_f (hk := ?_) | refine TL_nil ?_ | refine TL_move (hk := ?_) | refine TL_assign (hk := ?_) | refine TL_load TE (hk := ?_) | refine TL_fieldAddr TE (hk := ?_) | refine TL_len TE (hk := ?_) | refine TL_yes (hk := ?_) | refine TL_pick_f (hk := ?_))
          exact T_ret1 rfl rfl ⟨.inr ⟨rfl, by omega, by omega, fun x hx => Nat.le_trans (totD_mem hl x hx) (by omega)⟩, e1.ext e2⟩
end Go.Proofs.YtgdbckjkeofoaaaGreat

namespace Go.Proofs.YtgdbckjkeofoaaaGreat
open Go.RowKit Go.Proofs.Eng Go.Proofs.Foot Go.Proofs.Locks Go.Proofs.Sched
set_option linter.unusedSimpArgs false
set_option linter.unusedVariables false set_option maxRecDepth 10000
attribute [local irreducible] T TL LV TH TA
set_option maxHeartbeats 3200000
theorem StNewBad_c (a b : Int) (w : World) (h : ¬ ((1 ≤ a ∧ a ≤ 64) ∧ 1 ≤ b ∧ b ≤ 4096)) : Ret Tryz.prog 26 [.int .i64 a, .int .i64 b] w (fun v w' => v = .tuple #[.pointer none, .int .i64 2] ∧ Ext w w') := by
  refine ret_T (n := 40) Tryz.func26 rfl rfl ?_
  by_cases q1 : a < 1
  · repeat (first | refine T_seq ?_ | refine T_region ?_ | refine T_cond_true rfl ?_ | refine TL_lt_t (hk := ?_) | refine TL_nil ?_ | refine TL_move (hk := ?_) | refine TL_assign (hk := ?_) | refine TL_no (hk := ?_) | refine TL_pick_t (hk := ?_))
    exact T_ret2 rfl rfl rfl ⟨rfl, Mod.refl _ _⟩
  by_cases q2 : 64 < a
  · repeat (first | refine T_seq ?_ | refine T_region ?_ | refine T_cond_true rfl ?_ | refine TL_lt_f (hk := ?_) | refine TL_gt_t (hk := ?_) | refine TL_nil ?_ | refine TL_move (hk := ?_) | refine TL_assign (hk := ?_) | refine TL_yes (hk := ?_) | refine TL_no (hk := ?_) | refine TL_pick_t (hk := ?_) | refine TL_pick_f (hk := ?_))
    exact T_ret2 rfl rfl rfl ⟨rfl, Mod.refl _ _⟩
  by_cases q3 : b < 1
  · repeat (first | refine T_seq ?_ | refine T_region ?_ | refine T_cond_true rfl ?_ | refine TL_lt_t (hk := ?_) | refine TL_lt_f (hk := ?_) | refine TL_gt_f (hk := ?_) | refine TL_nil ?_ | refine TL_move (hk := ?_) | refine TL_assign (hk := ?_) | refine TL_yes (hk := ?_) | refine TL_no (hk := ?_) | refine TL_pick_t (hk := ?_) | refine TL_pick_f (hk := ?_))
    exact T_ret2 rfl rfl rfl ⟨rfl, Mod.refl _ _⟩
  by_cases q4 : 4096 < b
  · repeat (first | refine T_seq ?_ | refine T_region ?_ | refine T_cond_true rfl ?_ | refine TL_lt_f (hk := ?_) | refine TL_gt_t (hk := ?_) | refine TL_gt_f (hk := ?_) | refine TL_nil ?_ | refine TL_move (hk := ?_) | refine TL_assign (hk := ?_) | refine TL_yes (hk := ?_) | refine TL_pick_f (hk := ?_))
    exact T_ret2 rfl rfl rfl ⟨rfl, Mod.refl _ _⟩
  · exact absurd ⟨by omega, by omega⟩ h
theorem ScNewBad_c (z : Int) (b : Nat) (w : World) (h : ¬ (1 ≤ z ∧ z ≤ 4096)) : Ret Tryz.prog 30 [.int .i64 z, pB b] w (fun v w' => v = .tuple #[.pointer none, .int .i64 2] ∧ Ext w w') := by
  refine ret_T (n := 21) Tryz.func30 rfl rfl ?_
  by_cases q1 : z < 1
  · repeat (first | refine T_seq ?_ | refine T_region ?_ | refine T_cond_true rfl ?_ | refine TL_lt_t (hk := ?_) | refine TL_nil ?_ | refine TL_move (hk := ?_) | refine TL_assign (hk := ?_) | refine TL_no (hk := ?_) | refine TL_pick_t (hk := ?_))
    exact T_ret2 rfl rfl rfl ⟨rfl, Mod.refl _ _⟩
  by_cases q2 : 4096 < z
  · repeat (first | refine T_seq ?_ | refine T_region ?_ | refine T_cond_true rfl ?_ | refine TL_lt_f (hk := ?_) | refine TL_gt_t (hk := ?_) | refine TL_nil ?_ | refine TL_move (hk := ?_) | refine TL_assign (hk := ?_) | refine TL_yes (hk := ?_) | refine TL_no (hk := ?_) | refine TL_pick_t (hk := ?_) | refine TL_pick_f (hk := ?_))
    exact T_ret2 rfl rfl rfl ⟨rfl, Mod.refl _ _⟩
  · exact absurd ⟨by omega, by omega⟩ h
theorem R15New_c (z : Int) (b : Nat) (w : World) : Ret Tryz.prog 31 [.int .i64 z, pB b] w (fun v w' => Ext w w' ∧ ((1 ≤ z ∧ z ≤ 4096) ∧ (∃ y, v = .tuple #[pB y, .int .i64 0]) ∨ ¬ (1 ≤ z ∧ z ≤ 4096) ∧ v = .tuple #[.pointer none, .int .i64 2])) := by
  refine ret_T (n := 20) Tryz.func31 rfl rfl ?_
  by_cases q1 : z < 1
  · repeat (first | refine T_seq ?_ | refine T_region ?_ | refine T_cond_true rfl ?_ | refine TL_lt_t (hk := ?_) | refine TL_nil ?_ | refine TL_move (hk := ?_) | refine TL_assign (hk := ?_) | refine TL_no (hk := ?_) | refine TL_pick_t (hk := ?_))
    exact T_ret2 rfl rfl rfl ⟨Mod.refl _ _, .inr ⟨by omega, rfl⟩⟩
  by_cases q2 : 4096 < z
  · repeat (first | refine T_seq ?_ | refine T_region ?_ | refine T_cond_true rfl ?_ | refine TL_lt_f (hk := ?_) | refine TL_gt_t (hk := ?_) | refine TL_nil ?_ | refine TL_move (hk := ?_) | refine TL_assign (hk := ?_) | refine TL_yes (hk := ?_) | refine TL_no (hk := ?_) | refine TL_pick_t (hk := ?_) | refine TL_pick_f (hk := ?_))
    exact T_ret2 rfl rfl rfl ⟨Mod.refl _ _, .inr ⟨by omega, rfl⟩⟩
  · repeat (first | refine T_seq ?_ | refine T_region ?_ | refine T_cond_false rfl ?_ | refine T_skip ?_ | refine TL_lt_f (hk := ?_) | refine TL_gt_f (hk := ?_) | refine TL_pnil_f TE (hk := ?_) | refine TL_nil ?_ | refine TL_move (hk := ?_) | refine TL_assign (hk := ?_) | refine TL_yes (hk := ?_) | refine TL_pick_f (hk := ?_) | refine TL_build TE (hk := ?_))
    refine TL_box (hk := ?_); intro b1 w1 e1 h1 h1' k1
    repeat (first | refine TL_nil ?_ | refine TL_assign (hk := ?_))
    exact T_ret2 rfl rfl rfl ⟨e1, .inl ⟨by omega, b1, rfl⟩⟩
/-- What is made: a scheduler, or none; it is as the document has it. -/
def MadeP (w w' : World) (wn : Int) (X : Value) : Prop := X = .pointer none ∨ ∃ bs m h g f S, X = pB m.p ∧ w.heap.size ≤ bs ∧ SchedM w' bs m h g f (newSS wn.toNat S) ∧ SI 0 (newSS wn.toNat S) ∧ SR (newSS wn.toNat S) ∧ (wn.toNat : Int) = wn ∧ ∀ b, oA h g f b ≠ 0 → bs ≤ b
end Go.Proofs.YtgdbckjkeofoaaaGreat

namespace Go.Proofs.YtgdbckjkeofoaaaGreat
open Go.RowKit Go.Proofs.Eng Go.Proofs.Foot Go.Proofs.Locks Go.Proofs.Sched
set_option linter.unusedSimpArgs false
set_option linter.unusedVariables false set_option maxRecDepth 10000
attribute [local irreducible] T TL LV TH TA
set_option maxHeartbeats 3200000
/-- What is made: a scheduler, or none; it is as the document has it. -/
def okM (a b wn : Int) : Prop := ((1 ≤ a ∧ a ≤ 64) ∧ 1 ≤ b ∧ b ≤ 4096) ∧ 1 ≤ wn ∧ wn ≤ 4096
def S0E (a b : Int) (ks : List Tx) : StE := (claimE (newSt a.toNat b.toNat) (setT ks)).1
def MadeQ (w w' : World) (a b wn : Int) (ks : List Tx) (X X2 : Value) : Prop := X = .pointer none ∧ ¬ okM a b wn ∨ okM a b wn ∧ ∃ bs m h g f, X = pB m.p ∧ X2 = pB m.sm.sb ∧ w.heap.size ≤ bs ∧ SchedM w' bs m h g f (newSS wn.toNat (S0E a b ks)) ∧ SI 0 (newSS wn.toNat (S0E a b ks)) ∧ SR (newSS wn.toNat (S0E a b ks)) ∧ (wn.toNat : Int) = wn
end Go.Proofs.YtgdbckjkeofoaaaGreat

namespace Go.Proofs.YtgdbckjkeofoaaaGreat
open Go.RowKit Go.Proofs.Eng Go.Proofs.Foot Go.Proofs.Locks Go.Proofs.Sched
set_option linter.unusedSimpArgs false
set_option linter.unusedVariables false set_option maxRecDepth 10000
attribute [local irreducible] T TL LV TH TA
set_option maxHeartbeats 3200000
theorem R15New2_c (z : Int) (b : Nat) (w : World) : Ret Tryz.prog 31 [.int .i64 z, pB b] w (fun v w' => Ext w w' ∧ ((1 ≤ z ∧ z ≤ 4096) ∧ (∃ y, v = .tuple #[pB y, .int .i64 0] ∧ w.heap.size ≤ y ∧ Blk w' y 59 [.int .i64 z, pB b, sL (none, 0, 0)]) ∨ ¬ (1 ≤ z ∧ z ≤ 4096) ∧ v = .tuple #[.pointer none, .int .i64 2])) := by
  refine ret_T (n := 20) Tryz.func31 rfl rfl ?_
  by_cases q1 : z < 1
  · repeat (first | refine T_seq ?_ | refine T_region ?_ | refine T_cond_true rfl ?_ | refine TL_lt_t (hk := ?_) | refine TL_nil ?_ | refine TL_move (hk := ?_) | refine TL_assign (hk := ?_) | refine TL_no (hk := ?_) | refine TL_pick_t (hk := ?_))
    exact T_ret2 rfl rfl rfl ⟨Mod.refl _ _, .inr ⟨by omega, rfl⟩⟩
  by_cases q2 : 4096 < z
  · repeat (first | refine T_seq ?_ | refine T_region ?_ | refine T_cond_true rfl ?_ | refine TL_lt_f (hk := ?_) | refine TL_gt_t (hk := ?_) | refine TL_nil ?_ | refine TL_move (hk := ?_) | refine TL_assign (hk := ?_) | refine TL_yes (hk := ?_) | refine TL_no (hk := ?_) | refine TL_pick_t (hk := ?_) | refine TL_pick_f (hk := ?_))
    exact T_ret2 rfl rfl rfl ⟨Mod.refl _ _, .inr ⟨by omega, rfl⟩⟩
  · repeat (first | refine T_seq ?_ | refine T_region ?_ | refine T_cond_false rfl ?_ | refine T_skip ?_ | refine TL_lt_f (hk := ?_) | refine TL_gt_f (hk := ?_) | refine TL_pnil_f TE (hk := ?_) | refine TL_nil ?_ | refine TL_move (hk := ?_) | refine TL_assign (hk := ?_) | refine TL_yes (hk := ?_) | refine TL_pick_f (hk := ?_) | refine TL_build TE (hk := ?_))
    refine TL_box (hk := ?_); intro b1 w1 e1 h1 h1' k1
    repeat (first | refine TL_nil ?_ | refine TL_assign (hk := ?_))
    exact T_ret2 rfl rfl rfl ⟨e1, .inl ⟨by omega, b1, rfl, by omega, k1⟩⟩
theorem ScNew2_c {base : Nat} {ms : StM} {g : Nat → Nat} {S : StE} (n : Nat) (w : World) (h : StoreM w base ms g S) (hn : 1 ≤ n ∧ n ≤ 4096) :
    Ret Tryz.prog 30 [.int .i64 (n : Int), pB ms.sb] w (fun v w' => ∃ m hh f, v = .tuple #[pB m.p, .int .i64 0] ∧ m.sm = ms ∧ Ext w w' ∧ SchedM w' base m hh g f (newSS n S) ∧ ∀ b, oA hh g f b ≠ 0 → g b ≠ 0 ∨ w.heap.size ≤ b) := by
  obtain ⟨n1, n2⟩ := hn
  have hbs := (h.old ms.sb (by rw [h.gb]; decide))
  refine ret_T (n := 21) Tryz.func30 rfl rfl ?_
  repeat (first | refine T_seq ?_ | refine T_region ?_ | refine T_cond_false rfl ?_ | refine T_skip ?_ | refine TL_lt_f (hk := ?_) | refine TL_gt_f (hk := ?_) | refine TL_pnil_f TE (hk := ?_) | refine TL_nil ?_ | refine TL_move (hk := ?_) | refine TL_assign (hk := ?_) | refine TL_yes (hk := ?_) | refine TL_pick_f (hk := ?_))
  refine TL_call TE (hc := KNew_c w) (hk := ?_)
  rintro _ w1 ⟨mt, ft, rfl, e1, h1⟩
  have z1 := e1.size
  repeat (refine TL_build TE (hk := ?_))
  refine TL_box (hk := ?_); intro b2 w2 e2 h2 h2' k2
  have z2 := e2.size
  replace k2 : Blk w2 b2 77 [.int .i64 (n : Int), pB ms.sb, pT mt.p, sL (none, 0, 0), .int .i64 ((0 : Nat) : Int)] := k2
  have hft : ∀ b, ow ft b ≠ 0 → w.heap.size ≤ b ∧ b < w1.heap.size := fun b q => h1.old b q
  have M2 : SchedM w2 base ⟨b2, (none, 0, 0), [], ms, mt⟩ (fun x => if x = b2 then 1 else 0) g ft (newSS n S) :=
    { blk := k2
      eo := Own.nil _ _ _ _
      ee := rfl
      ek := fun x hx => by cases hx
      st := h.ext (e1.ext e2)
      tb := (h1.ext e2).weaken (by omega)
      hp := by simp
      he := fun b q => by simp [blkL] at q
      old := fun x q => by
        by_cases e : x = b2
        · omega
        · simp only [e, if_false] at q; exact absurd rfl q
      d1 := fun x => by
        by_cases e : x = b2
        · right
          by_cases y : g x = 0
          · exact y
          · have := (h.old x y).2; omega
        · left; simp [e]
      d2 := fun x => by
        by_cases e : x = b2
        · right
          by_cases y : ow ft x = 0
          · exact y
          · have := (hft x y).2; omega
        · left; simp [e]
      d3 := fun x => by
        by_cases y : g x = 0
        · exact .inl y
        · right
          by_cases z : ow ft x = 0
          · exact z
          · have := (h.old x y).2; have := (hft x z).1; omega }
  repeat (first | refine TL_nil ?_ | refine TL_assign (hk := ?_))
  exact T_ret2 rfl rfl rfl ⟨_, _, _, rfl, rfl, e1.ext e2, M2, fun b q => by
    by_cases q1 : g b = 0
    · right
      by_cases q2 : b = b2
      · omega
      · refine (hft b (fun q3 => q ?_)).1
        unfold oA
        rw [q1, q3]
        simp [q2]
    · exact .inl q1⟩
theorem claim_valid {S : StE} {ks : List Tx} (h : (claimE S ks).2 = 0) : ks.all validT = true := by
  unfold claimE at h
  split at h
  · cases h
  · rename_i q
    rw [List.all_eq_true]
    intro x hx
    cases hv : validT x with
    | true => rfl
    | false => exact absurd (List.any_eq_true.2 ⟨x, hx, by simp [hv]⟩) q
def dG (sb y : Nat) (x : SL) : Nat → Nat := fun b => if b = sb then 1 else if b = y then 3 else if b ∈ blkL x.1 then 2 else 0
theorem DocM.start {w : World} {base sb y P r win : Nat} {x : SL} {S : StE} {l : List Tx} (hs : Blk w sb 89 [.int .i64 (P : Int), .int .i64 (r : Int), sL x]) (so : Own w base 108 4 x.1 x.2.1 x.2.2 (rowV itV l)) (yk : Blk w y 59 [.int .i64 (win : Int), pB sb, sL (none, 0, 0)]) (ds : DS P r S l) (hne : sb ≠ y) (hx : ∀ b ∈ blkL x.1, b ≠ sb ∧ b ≠ y) (h1 : base ≤ sb) (h2 : base ≤ y) (p6 : P ≤ 64) (r4 : 1 ≤ r ∧ r ≤ 4096) (wn : 1 ≤ win ∧ win ≤ 4096) : DocM w base ⟨y, sb, P, r⟩ x (none, 0, 0) [] (dG sb y x) win S l [] :=
  { sk := hs
    so := so
    yk := yk
    eo := Own.nil _ _ _ _
    ee := rfl
    ek := fun z hz => (by cases hz)
    ds := ds
    g1 := if_pos rfl
    g2 := fun b hb => by unfold dG; rw [if_neg (hx b hb).1, if_neg (hx b hb).2, if_pos hb]
    g3 := by show dG sb y x y = 3; unfold dG; rw [if_neg (fun q => hne q.symm), if_pos rfl]
    g4 := fun b hb => (by cases hb)
    old := fun b hb => by
      unfold dG at hb
      by_cases q : b = sb
      · rw [q]; exact ⟨h1, hs.lt⟩
      · rw [if_neg q] at hb
        by_cases q2 : b = y
        · rw [q2]; exact ⟨h2, yk.lt⟩
        · rw [if_neg q2] at hb
          by_cases q3 : b ∈ blkL x.1
          · exact so.bl b q3
          · rw [if_neg q3] at hb; exact absurd rfl hb
    p6 := p6
    r4 := r4
    wn := wn }
def MadeD (w w' : World) (a b wn : Int) (ks : List Tx) (X X2 X3 : Value) : Prop := X = .pointer none ∨ ∃ bs m h g f A x l gd, X = pB m.p ∧ X2 = pB m.sm.sb ∧ X3 = pB A.y ∧ w.heap.size ≤ bs ∧ SchedM w' bs m h g f (newSS wn.toNat (S0E a b ks)) ∧ SI 0 (newSS wn.toNat (S0E a b ks)) ∧ SR (newSS wn.toNat (S0E a b ks)) ∧ DocM w' bs A x (none, 0, 0) [] gd wn.toNat (S0E a b ks) l [] ∧ KL l 0 ∧ ∀ b, oA h g f b = 0 ∨ gd b = 0
theorem made3_c15 (a b wn : Int) (KA : Option Addr) (kn kc : Nat) (ks : List Tx) (A : Option Addr) (n c : Nat) (w : World) (hk : Rd w KA kn 1 (sv ks)) (hkn : kn ≤ 200) (hkl : ∀ y ∈ ks, y.length ≤ 1048576) :
    Ret Tryz.prog 7 [.agg #[.int .i64 a, .int .i64 b, .slice KA kn kc, .int .i64 wn, .slice A n c]] w (fun v w' => ∃ X X2 X3, v = .tuple #[X, X2, X3, .bool true] ∧ Ext w w' ∧ MadeD w w' a b wn ks X X2 X3) := by
  have hkl0 : ks.length = kn := by have := hk.1; rw [sv_length] at this; omega
  refine ret_T (n := 88) Tryz.func7 rfl rfl ?_
  repeat (first | refine T_seq ?_ | refine T_region ?_)
  refine TL_box (hk := ?_); intro b1 w1 e1 h1 h1' k1
  replace k1 : Blk w1 b1 25 [.int .i64 a, .int .i64 b, .slice KA kn kc, .int .i64 wn, .slice A n c] := k1
  have z1 := e1.size
  by_cases hg : (1 ≤ a ∧ a ≤ 64) ∧ 1 ≤ b ∧ b ≤ 4096
  case neg =>
    repeat (first | refine T_seq ?_ | refine T_region ?_ | refine TL_nil ?_ | refine TL_assign (hk := ?_) | refine TL_load TE (hk := ?_) | refine TL_fieldAddr TE (hk := ?_))
    refine TL_call TE (hc := StNewBad_c a b w1 hg) (hk := ?_)
    rintro _ w2 ⟨rfl, e2⟩
    have k2 := k1.be e2
    clear k1
    repeat (first | refine T_seq ?_ | refine T_region ?_ | refine TL_nil ?_ | refine TL_move (hk := ?_) | refine TL_assign (hk := ?_) | refine TL_load TE (hk := ?_) | refine TL_fieldAddr TE (hk := ?_) | refine TL_extract (hk := ?_))
    refine TL_call TE (hc := RStNew_c a b w2) (hk := ?_)
    rintro _ w3 ⟨e3, ⟨hg2, _⟩ | ⟨_, rfl⟩⟩
    · exact absurd hg2 hg
    repeat (first | refine T_seq ?_ | refine T_region ?_ | refine TL_nil ?_ | refine TL_move (hk := ?_) | refine TL_assign (hk := ?_) | refine TL_extract (hk := ?_))
    refine TL_call TE (hc := num_c15 2 w3) (hk := ?_)
    rintro _ w4 ⟨rfl, e4⟩
    repeat (first | refine T_seq ?_ | refine T_region ?_ | refine T_cond_true rfl ?_ | refine TL_ne_t (hk := ?_) | refine TL_ne_f (hk := ?_) | refine TL_nil ?_ | refine TL_move (hk := ?_) | refine TL_yes (hk := ?_) | refine TL_no (hk := ?_) | refine TL_pick_t (hk := ?_) | refine TL_pick_f (hk := ?_))
    refine TL_call TE (hc := num_c15 2 w4) (hk := ?_)
    rintro _ w5 ⟨rfl, e5⟩
    repeat (first | refine TL_eq_t (hk := ?_) | refine TL_nil ?_ | refine TL_move (hk := ?_) | refine TL_assign (hk := ?_))
    exact T_ret4 rfl rfl rfl rfl rfl ⟨_, _, _, rfl, (((e1.ext e2).ext e3).ext e4).ext e5, .inl rfl⟩
  obtain ⟨P, rfl⟩ := Int.eq_ofNat_of_zero_le (show 0 ≤ a by omega)
  obtain ⟨r, rfl⟩ := Int.eq_ofNat_of_zero_le (show 0 ≤ b by omega)
  have hP : 1 ≤ P ∧ P ≤ 64 := by omega
  have hR : 1 ≤ r ∧ r ≤ 4096 := by omega
  repeat (first | refine T_seq ?_ | refine T_region ?_ | refine TL_nil ?_ | refine TL_assign (hk := ?_) | refine TL_load TE (hk := ?_) | refine TL_fieldAddr TE (hk := ?_))
  refine TL_call TE (hc := StNew_c P r w1 hP hR) (hk := ?_)
  rintro _ w2 ⟨ms, g2, rfl, e2, M2⟩
  have k2 := k1.be e2
  clear k1
  repeat (first | refine T_seq ?_ | refine T_region ?_ | refine TL_nil ?_ | refine TL_move (hk := ?_) | refine TL_assign (hk := ?_) | refine TL_load TE (hk := ?_) | refine TL_fieldAddr TE (hk := ?_) | refine TL_extract (hk := ?_))
  refine TL_call TE (hc := RStNew_c (P : Int) (r : Int) w2) (hk := ?_)
  rintro _ w3 ⟨e3, h3⟩
  obtain ⟨_, b3, rfl, hb3, kb3⟩ := h3.resolve_right (fun q => q.1 hg)
  have hb3l := kb3.lt
  have z2 := e2.size
  have k3 := k2.be e3
  have M3 := M2.ext e3
  clear k2
  repeat (first | refine T_seq ?_ | refine T_region ?_ | refine TL_nil ?_ | refine TL_move (hk := ?_) | refine TL_assign (hk := ?_) | refine TL_extract (hk := ?_))
  refine TL_call TE (hc := num_c15 0 w3) (hk := ?_)
  rintro _ w4 ⟨rfl, e4⟩
  have k4 := k3.be e4
  have M4 := M3.ext e4
  have kb4 := kb3.be e4
  have E4 := ((e1.ext e2).ext e3).ext e4
  clear k3 kb3
  repeat (first | refine T_seq ?_ | refine T_region ?_ | refine T_cond_false rfl ?_ | refine T_skip ?_ | refine TL_ne_f (hk := ?_) | refine TL_pnil_f TE (hk := ?_) | refine TL_nil ?_ | refine TL_move (hk := ?_) | refine TL_load TE (hk := ?_) | refine TL_fieldAddr TE (hk := ?_) | refine TL_yes (hk := ?_) | refine TL_pick_f (hk := ?_))
  refine TL_call TE (hc := Set_c KA kn kc ks w4 (hk.be E4) (by omega)) (hk := ?_)
  rintro _ w5 ⟨SA, sc, rfl, e5, oS5⟩
  have k5 := k4.be e5
  have M5 := M4.ext e5
  have kb5 := kb4.be e5
  have hsl := setT_len ks
  obtain ⟨Q, hQ⟩ : ∃ Q, setT ks = Q := ⟨_, rfl⟩
  rw [hQ] at oS5 hsl ⊢
  have hQm : ∀ y ∈ Q, y.length ≤ 9223372036854775807 := fun y hy => by
    rw [← hQ, set_mem] at hy
    have := hkl y hy; omega
  clear k4 kb4
  repeat (first | refine T_seq ?_ | refine T_region ?_ | refine TL_nil ?_ | refine TL_move (hk := ?_) | refine TL_assign (hk := ?_))
  refine TL_buildSlice0 TE (hk := ?_); intro b6 w6 e6 h6 h6' k6
  have o6 : Own w6 w5.heap.size 9 1 (some ⟨b6, 0, none⟩) 0 0 [] := Own.of_blk k6 h6 rfl (by decide)
  have z6 := e6.size
  have hs6 := (oS5.be e6).rd
  repeat (refine TL_move (hk := ?_))
  refine TL_append TE (ho := o6) (hr := hs6) (h1 := sv_one _) (hk := ?_); intro A7 c7 w7 o7 m7 n7
  rw [List.nil_append] at o7
  have E57 : Ext w5 w7 := e6.own m7 o6.hi
  have M7 := M5.ext E57
  have k7 := k5.be E57
  have kb7 := kb5.be E57
  have oS7 := oS5.be E57
  have z57 := E57.size
  clear k5 kb5 k6 hs6
  have hql : Q.length ≤ 200 := by omega
  have hCl : (newSt P r).C.length = P := by simp [newSt]
  have hCz : ∀ c ∈ (newSt P r).C, c.length ≤ 0 := fun c hc => by
    simp only [newSt] at hc
    rw [(List.mem_replicate.1 hc).2]; simp
  have hgz : ∀ u, w5.heap.size ≤ u → g2 u = 0 := fun u hu => M5.new0 hu
  have cC := Claim_c A7 (0 + Q.length) c7 Q w7 M7 (by omega) (by omega) hR.2 (fun c hc => by have := hCz c hc; omega) o7.rd (by omega) hQm (fun u hu => hgz u (o7.bl u hu).1)
  --
  refine TL_call TE (hc := cC) (hk := ?_)
  rintro _ w8 ⟨rfl, M8, t8⟩
  obtain ⟨C8, hC8⟩ : ∃ C8, (claimE (newSt P r) Q).2 = C8 := ⟨_, rfl⟩
  have hb3g : g2 b3 = 0 := M2.new0 hb3
  have z45 := (e4.ext e5).size
  have hb3s := kb7.lt
  have kb8 : Blk w8 b3 89 [.int .i64 (P : Int), .int .i64 (r : Int), .slice none 0 0] := by
    obtain ⟨⟨S, q1, q2⟩, _, _⟩ := t8
    exact kb7.mod q1 (fun q => q2 _ q hb3g)
  have hb1g : g2 b1 = 0 := by
    by_cases y : g2 b1 = 0
    · exact y
    · have := (M2.old b1 y).1; omega
  have k8 : Blk w8 b1 25 [.int .i64 (P : Int), .int .i64 (r : Int), .slice KA kn kc, .int .i64 wn, .slice A n c] := by
    obtain ⟨⟨S, q1, q2⟩, _, _⟩ := t8
    exact k7.mod q1 (fun q => q2 _ q hb1g)
  have rS8 : Rd w8 SA Q.length 1 (sv Q) := by
    obtain ⟨⟨S, q1, q2⟩, _, _⟩ := t8
    exact oS7.rd.mod q1 (off_ofL fun u hu q => q2 _ q (M4.new0 (oS5.bl u hu).1))
  have E8 : Ext w w8 := t8.ext0 ((E4.ext e5).ext E57) (fun u q => by have := (M2.old u q).1; omega)
  clear kb7 k7 oS7 cC
  --
  refine TL_call TE (hc := num_c15 ((claimE (newSt P r) Q).2 : Int) w8) (hk := ?_)
  rintro _ w9 ⟨rfl, e9⟩
  have M9 := M8.ext e9
  have k9 := k8.be e9
  have kb9 := kb8.be e9
  have E9 := E8.ext e9
  clear k8 kb8
  have hb3A : b3 ∉ blkL SA := fun q => by
    have h1 := (oS5.bl b3 q).1
    have h2 := e4.size
    have h3 := hb3
    have hlt := kb9.lt
    have := (M2.old ms.sb (by rw [M2.gb]; decide)).2
    omega
  have z9 := E9.size
  have z29 : w1.heap.size ≤ w9.heap.size := by have := kb9.lt; have := e2.size; omega
  have cR := RClaim_c b3 P r (none, 0, 0) [] (newSt P r) w9.heap.size SA Q.length sc Q w9 (DS.start hP.1) kb9 (Own.nil _ _ _ _) (Nat.le_refl _) (by simp [blkL]) hP.2 hR (rS8.be e9) (by omega) (by simp) hQm (by simp) hb3A
  repeat (refine TL_move (hk := ?_))
  refine TL_call TE (hc := cR) (hk := ?_)
  rintro _ w10 ⟨rfl, hcR⟩
  have m10 : Eng.Mod [b3] w9 w10 := by
    rcases hcR with ⟨-, e⟩ | ⟨-, m, -⟩
    · exact e.mono (fun b hb => by cases hb)
    · exact m
  have hDoc : ∃ (x : SL) (l : List Tx), Blk w10 b3 89 [.int .i64 (P : Int), .int .i64 (r : Int), sL x] ∧ Own w10 w1.heap.size 108 4 x.1 x.2.1 x.2.2 (rowV itV l) ∧ (∀ u ∈ blkL x.1, w9.heap.size ≤ u) ∧ DS P r (claimE (newSt P r) Q).1 l ∧ KL l 0 := by
    rcases hcR with ⟨hc, e⟩ | ⟨hc, m, x', hb', ho', hn'⟩
    · exact ⟨(none, 0, 0), [], kb9.be e, Own.nil _ _ _ _, fun u hu => (by cases hu), by rw [claim_same hc]; exact DS.start hP.1, ⟨by simp, fun k hk => by cases hk⟩⟩
    · refine ⟨x', _, hb', Own.weaken ho' z29, fun u hu => (hn' u hu).elim (fun q => by cases q) id, (DS.start hP.1).claim Q hc, ?_⟩
      have hv : Q.all validT = true := claim_valid hc
      refine ⟨?_, fun k hk => ?_⟩
      · have := foldK_len Q []
        simp only [List.length_nil] at this
        omega
      · rcases foldK_mem Q [] k hk with q | q
        · exact valid_len (List.all_eq_true.1 hv k q)
        · cases q
  obtain ⟨x10, l10, kx10, ox10, nx10, ds10, kl10⟩ := hDoc
  have M10 := M9.mod m10 (fun u hu => by rw [List.mem_singleton.1 hu]; exact hb3g)
  have hb13 : b1 ∉ [b3] := by simp; omega
  have k10 := k9.mod m10 hb13
  have E10 : Ext w w10 := Mod.step E9 m10 (fun u hu => .inr (by rw [List.mem_singleton.1 hu]; have := e2.size; omega))
  clear k9 cR
  have hbas : w.heap.size ≤ w1.heap.size := z1
  have hcl := claim_cl (S := newSt P r) (ks := Q) (B := 0) hCz
  have hS0 : S0E (P : Int) (r : Int) ks = (claimE (newSt P r) Q).1 := by
    unfold S0E
    rw [hQ, show ((P : Nat) : Int).toNat = P by omega, show ((r : Nat) : Int).toNat = r by omega]
  obtain ⟨S', hS'⟩ : ∃ S', (claimE (newSt P r) Q).1 = S' := ⟨_, rfl⟩
  rw [hS'] at hS0
  rw [hS'] at M10 hcl ds10
  by_cases hw : 1 ≤ wn ∧ wn ≤ 4096
  · obtain ⟨W, rfl⟩ := Int.eq_ofNat_of_zero_le (show 0 ≤ wn by omega)
    have hW : 1 ≤ W ∧ W ≤ 4096 := by omega
    repeat (first | refine T_seq ?_ | refine T_region ?_ | refine T_cond_false rfl ?_ | refine T_skip ?_ | refine TL_ne_f (hk := ?_) | refine TL_nil ?_ | refine TL_move (hk := ?_) | refine TL_load TE (hk := ?_) | refine TL_fieldAddr TE (hk := ?_))
    refine TL_call TE (hc := ScNew2_c W w10 M10 hW) (hk := ?_)
    rintro _ w11 ⟨m11, h11, f11, rfl, hm11, e11, M11, o11⟩
    have k11 := k10.be e11
    clear k10
    repeat (first | refine T_seq ?_ | refine T_region ?_ | refine TL_nil ?_ | refine TL_move (hk := ?_) | refine TL_assign (hk := ?_) | refine TL_load TE (hk := ?_) | refine TL_fieldAddr TE (hk := ?_) | refine TL_extract (hk := ?_))
    refine TL_call TE (hc := R15New2_c (W : Int) b3 w11) (hk := ?_)
    rintro _ w12 ⟨e12, h12⟩
    obtain ⟨_, y12, rfl, hy12, ky12⟩ := h12.resolve_right (fun q => q.1 hw)
    repeat (first | refine T_seq ?_ | refine T_region ?_ | refine TL_nil ?_ | refine TL_move (hk := ?_) | refine TL_assign (hk := ?_) | refine TL_extract (hk := ?_))
    refine TL_call TE (hc := num_c15 0 w12) (hk := ?_)
    rintro _ w13 ⟨rfl, e13⟩
    have hWn : ((W : Nat) : Int).toNat = W := by omega
    have E1013 := (e11.ext e12).ext e13
    have z1011 := e11.size
    have z910 := m10.size
    have z12 := e2.size
    have hlt9 := kb9.lt
    have hb3l : w1.heap.size ≤ b3 := by omega
    have hold := fun u (hu : oA h11 g2 f11 u ≠ 0) => (M11.oold hu).2
    have hmine := o11
    repeat (first | refine TL_eq_t (hk := ?_) | refine TL_pnil_f TE (hk := ?_) | refine TL_beq TE (hk := ?_) | refine TL_nil ?_ | refine TL_move (hk := ?_) | refine TL_assign (hk := ?_) | refine TL_yes (hk := ?_) | refine TL_pick_t (hk := ?_))
    refine T_ret4 rfl rfl rfl rfl rfl ⟨_, _, _, rfl, ((E10.ext e11).ext e12).ext e13, .inr ⟨w1.heap.size, m11, h11, g2, f11, ⟨y12, b3, P, r⟩, x10, l10, dG b3 y12 x10, rfl, by rw [hm11], rfl, z1, ?_, ?_, ?_, ?_, kl10, ?_⟩⟩
    · rw [hWn, hS0]; exact (M11.ext e12).ext e13
    · rw [hWn, hS0]; exact newSS_si hW (by rw [hcl.1, hCl]; exact hP) (by rw [hcl.2.1]; exact hR.2) (fun c hc => by have := hcl.2.2 c hc; omega)
    · rw [hWn, hS0]; exact SJ.start W hW.1 S'
    · rw [hWn, hS0]
      exact DocM.start (kx10.be E1013) (ox10.be E1013) (ky12.be e13) ds10 (by omega) (fun u hu => by have h1 := nx10 u hu; have h2 := (ox10.bl u hu).2; omega) hb3l (by omega) hP.2 hR hW
    · intro u
      by_cases q : dG b3 y12 x10 u = 0
      · exact .inr q
      · left
        have hz : g2 u = 0 ∧ (u < w10.heap.size ∨ w11.heap.size ≤ u) := by
          unfold dG at q
          by_cases q1 : u = b3
          · rw [q1]; exact ⟨hb3g, by omega⟩
          · rw [if_neg q1] at q
            by_cases q2 : u = y12
            · exact ⟨by
                by_cases y : g2 u = 0
                · exact y
                · have := (M10.old u y).2; omega, by omega⟩
            · rw [if_neg q2] at q
              by_cases q3 : u ∈ blkL x10.1
              · have := nx10 u q3
                have := (ox10.bl u q3).2
                exact ⟨M9.new0 (by omega), by omega⟩
              · rw [if_neg q3] at q; exact absurd rfl q
        by_cases y : oA h11 g2 f11 u = 0
        · exact y
        · rcases hmine u y with z | z
          · exact absurd hz.1 z
          · have := hold u y; omega
  · repeat (first | refine T_seq ?_ | refine T_region ?_ | refine T_cond_false rfl ?_ | refine T_skip ?_ | refine TL_ne_f (hk := ?_) | refine TL_nil ?_ | refine TL_move (hk := ?_) | refine TL_load TE (hk := ?_) | refine TL_fieldAddr TE (hk := ?_))
    refine TL_call TE (hc := ScNewBad_c wn ms.sb w10 hw) (hk := ?_)
    rintro _ w11 ⟨rfl, e11⟩
    have k11 := k10.be e11
    clear k10
    repeat (first | refine T_seq ?_ | refine T_region ?_ | refine TL_nil ?_ | refine TL_move (hk := ?_) | refine TL_assign (hk := ?_) | refine TL_load TE (hk := ?_) | refine TL_fieldAddr TE (hk := ?_) | refine TL_extract (hk := ?_))
    refine TL_call TE (hc := R15New_c wn b3 w11) (hk := ?_)
    rintro _ w12 ⟨e12, ⟨hg2, _⟩ | ⟨_, rfl⟩⟩
    · exact absurd hg2 hw
    repeat (first | refine T_seq ?_ | refine T_region ?_ | refine TL_nil ?_ | refine TL_move (hk := ?_) | refine TL_assign (hk := ?_) | refine TL_extract (hk := ?_))
    refine TL_call TE (hc := num_c15 2 w12) (hk := ?_)
    rintro _ w13 ⟨rfl, e13⟩
    repeat (first | refine TL_eq_t (hk := ?_) | refine TL_pnil_t TE (hk := ?_) | refine TL_beq TE (hk := ?_) | refine TL_nil ?_ | refine TL_move (hk := ?_) | refine TL_assign (hk := ?_) | refine TL_yes (hk := ?_) | refine TL_pick_t (hk := ?_))
    exact T_ret4 rfl rfl rfl rfl rfl ⟨_, _, _, rfl, ((E10.ext e11).ext e12).ext e13, .inl rfl⟩
end Go.Proofs.YtgdbckjkeofoaaaGreat

namespace Go.Proofs.YtgdbckjkeofoaaaGreat
open Go.RowKit Go.Proofs.Eng Go.Proofs.Foot Go.Proofs.Locks Go.Proofs.Sched
set_option linter.unusedSimpArgs false
set_option linter.unusedVariables false set_option maxRecDepth 10000
attribute [local irreducible] T TL LV TH TA
set_option maxHeartbeats 3200000
theorem win_lockL : ∀ (f : Nat) (s : SS), (lockL f s).win = s.win
  | 0, s => rfl
  | f + 1, s => by
    unfold lockL
    split
    · rw [win_lockL f]; unfold lockS; simp only; split <;> rfl
    · rfl
theorem win_lock (s : SS) : (lockE s).win = s.win := win_lockL _ _
theorem win_add (s : SS) (q : Int) (r k : List Tx) : (addE s q r k).1.win = s.win := by
  unfold addE
  split
  · rfl
  split
  · rfl
  split
  · rfl
  · rw [win_lock]
theorem win_take (s : SS) : (takeS s).1.win = s.win := by unfold takeS; split <;> rfl
theorem win_done (s : SS) (q : Int) : (doneE s q).1.win = s.win := by
  unfold doneE
  split
  · rfl
  · rw [win_lock]
/-- A footprint in a row of the statement's. -/
structure FR where
  A : Option Addr
  n : Nat
  c : Nat
  B : Option Addr
  m : Nat
  d : Nat
  r : List Tx
  k : List Tx
def fr0 : FR := ⟨none, 0, 0, none, 0, 0, [], []⟩
def frV (x : FR) : List Value := [.slice x.A x.n x.c, .slice x.B x.m x.d]
theorem frV_len (x : FR) : (frV x).length = 2 := rfl
structure FootsM (w0 w : World) (base : Nat) (qo : Nat → Nat) (y : SL) (fs : List FR) : Prop where
  o : Own w base 35 2 y.1 y.2.1 y.2.2 (rowV frV fs)
  z : ∀ b ∈ blkL y.1, qo b = 0
  g : ∀ x ∈ fs, Rd w0 x.A x.n 1 (sv x.r) ∧ Rd w0 x.B x.m 1 (sv x.k) ∧ x.n ≤ 3000 ∧ x.m ≤ 3000
structure TS5 (w0 w : World) (bs p N : Nat) (m : SM) (h g : Nat → Nat) (f : Nat → Ow) (s : SS) : Prop where
  e : Ext w0 w
  hp : m.p = p
  M : SchedM w bs m h g f s
  I : SI N s
  R : SR s
  hb : w0.heap.size ≤ bs
section
variable {w0 w w' : World} {base bs p N N' : Nat} {m m' : SM} {h h' g g' : Nat → Nat} {f f' : Nat → Ow} {s s' : SS} {o o' : Nat → Nat} {y : SL} {fs : List FR}
theorem FootsM.len (F : FootsM w0 w base o y fs) : fs.length = y.2.1 := by
  have := F.o.len
  rw [rowV_len frV_len] at this
  omega
theorem FootsM.tn (F : FootsM w0 w base o y fs) (t : Tn o o' w w') : FootsM w0 w' base o' y fs := by
  obtain ⟨h1, h2⟩ := F.o.tn t F.z
  exact ⟨h1, h2, F.g⟩
theorem FootsM.ext (F : FootsM w0 w base o y fs) (e : Ext w w') : FootsM w0 w' base o y fs := ⟨F.o.be e, F.z, F.g⟩
theorem TS5.ext (T0 : TS5 w0 w bs p N m h g f s) (e : Ext w w') : TS5 w0 w' bs p N m h g f s := ⟨T0.e.ext e, T0.hp, T0.M.ext e, T0.I, T0.R, T0.hb⟩
theorem TS5.turn (T0 : TS5 w0 w bs p N m h g f s) (hp : m'.p = m.p) (M : SchedM w' bs m' h' g' f' s') (t : Tn (oA h g f) (oA h' g' f') w w') (I : SI N' s') (R : SR s') : TS5 w0 w' bs p N' m' h' g' f' s' :=
  ⟨t.ext0 T0.e (fun b q => by have := (T0.M.oold q).1; have := T0.hb; omega), hp.trans T0.hp, M, I, R, T0.hb⟩
def fB (E : List EnE) (i : Nat) : Bool := (List.range i).all fun k => decide (stE E k = 5 ∨ stE E k = 6)
def lB (z : Nat) : Bool := !decide (z = 5 ∨ z = 6)
def onB (z : Nat) : Bool := decide (z = 3 ∨ z = 4 ∨ z = 5)
end
end Go.Proofs.YtgdbckjkeofoaaaGreat

namespace Go.Proofs.YtgdbckjkeofoaaaGreat
open Go.RowKit Go.Proofs.Eng Go.Proofs.Foot Go.Proofs.Locks Go.Proofs.Sched
set_option linter.unusedSimpArgs false
set_option linter.unusedVariables false set_option maxRecDepth 10000
attribute [local irreducible] T TL LV TH TA
set_option maxHeartbeats 3200000
/-- What stands at an act's end. -/
def PlayO (w0 w' : World) (bs p N W : Nat) (y : SL) : Prop := ∃ m h g f s fs, TS5 w0 w' bs p N m h g f s ∧ FootsM w0 w' w0.heap.size (oA h g f) y fs ∧ s.E.map ftE = fs.map (fun x => (x.r, x.k)) ∧ s.win = W
end Go.Proofs.YtgdbckjkeofoaaaGreat

/- Who is taken: the statement's list. -/
namespace Go.Proofs.YtgdbckjkeofoaaaGreat
open Go.RowKit Go.Proofs.Eng Go.Proofs.Foot Go.Proofs.Locks Go.Proofs.Sched
set_option linter.unusedSimpArgs false
set_option linter.unusedVariables false set_option maxRecDepth 10000
attribute [local irreducible] T TL LV TH TA
structure TkI (s : SS) (tk : List Nat) : Prop where
  nd : tk.Nodup
  t4 : ∀ q ∈ tk, q < s.E.length ∧ stE s.E q = 4
  al : ∀ i, i < s.E.length → stE s.E i = 4 → i ∈ tk
section
variable {s s' : SS} {tk : List Nat} {q : Nat}
theorem TkI.start (n : Nat) (S0 : StE) : TkI (newSS n S0) [] := ⟨List.nodup_nil, (fun q h => by cases h), fun i h => by simp [newSS] at h⟩
theorem TkI.add {r k : List Tx} (T0 : TkI s tk) (h : StepE (s.E ++ [⟨r, k, 1⟩]) s'.E) : TkI s' tk := by
  have hl : s'.E.length = s.E.length + 1 := by rw [h.1]; simp
  refine ⟨T0.nd, fun q hq => ?_, fun i hi h4 => ?_⟩
  · obtain ⟨h1, h2⟩ := T0.t4 q hq
    have := (h.2 q (by simp; omega)).1 (by rw [st_app h1]; omega)
    rw [st_app h1] at this
    exact ⟨by omega, by omega⟩
  · have h2 := h.2 i (by simp; omega)
    by_cases e : i < s.E.length
    · rw [st_app e] at h2
      refine T0.al i e ?_
      by_cases g : 3 ≤ stE s.E i
      · have := h2.1 g; omega
      · have := h2.2 (by omega); omega
    · have e2 : i = s.E.length := by omega
      subst e2
      rw [st_new] at h2
      have := h2.2 (by simp)
      omega
theorem TkI.take (T0 : TkI s tk) (hq : q < s.E.length) (h3 : stE s.E q = 3) (hE : s'.E = setSt s.E q 4) : (∀ tk', tk'.Perm (q :: tk) → TkI s' tk') := fun tk' hp => by
  have hn : q ∉ tk := fun h => by have := (T0.t4 q h).2; omega
  refine ⟨hp.nodup_iff.2 (List.nodup_cons.2 ⟨hn, T0.nd⟩), fun z hz => ?_, fun i hi h4 => ?_⟩
  · rw [hE, setSt_len, st_set hq]
    rcases List.mem_cons.1 (hp.mem_iff.1 hz) with e | e
    · rw [if_pos e]; exact ⟨by omega, rfl⟩
    · have := T0.t4 z e
      by_cases e2 : z = q
      · rw [if_pos e2]; exact ⟨this.1, rfl⟩
      · rw [if_neg e2]; exact this
  · rw [hE, setSt_len] at hi
    rw [hE, st_set hq] at h4
    refine hp.mem_iff.2 ?_
    by_cases e : i = q
    · rw [e]; simp
    · rw [if_neg e] at h4
      exact List.mem_cons_of_mem _ (T0.al i hi h4)
theorem TkI.done (T0 : TkI s (q :: tk)) (h : StepE (setSt s.E q 5) s'.E) : TkI s' tk := by
  obtain ⟨hq, hq4⟩ := T0.t4 q (by simp)
  have hnd := List.nodup_cons.1 T0.nd
  have hl : s'.E.length = s.E.length := by rw [h.1, setSt_len]
  refine ⟨hnd.2, fun z hz => ?_, fun i hi h4 => ?_⟩
  · obtain ⟨h1, h2⟩ := T0.t4 z (by simp [hz])
    have hne : z ≠ q := fun e => hnd.1 (by rw [← e]; exact hz)
    have := (h.2 z (by rw [setSt_len]; exact h1)).1 (by rw [st_set hq, if_neg hne]; omega)
    rw [st_set hq, if_neg hne] at this
    exact ⟨by omega, by omega⟩
  · have h2 := h.2 i (by rw [setSt_len]; omega)
    rw [st_set hq] at h2
    by_cases e : i = q
    · rw [if_pos e] at h2
      have := h2.1 (by omega)
      omega
    · rw [if_neg e] at h2
      have h5 : i ∈ q :: tk := T0.al i (by omega) (by
        by_cases g : 3 ≤ stE s.E i
        · have := h2.1 g; omega
        · have := h2.2 (by omega); omega)
      rcases List.mem_cons.1 h5 with e2 | e2
      · exact absurd e2 e
      · exact e2
end
end Go.Proofs.YtgdbckjkeofoaaaGreat

/- What is left of a division, whatever the sign. -/
namespace Go.Proofs.Eng
open Go.RowKit
set_option linter.unusedSimpArgs false
set_option linter.unusedVariables false
set_option linter.unusedSectionVars false
section
variable {q : Qm} {P : Program} {fn : Func} {R : Ending → World → Prop} {M : Md} {n : Nat} {st : Slots} {k : List Item} {w : World} {ops rest : List Oper}
  {d : Nat} {ty : TypeId} {ps : String} {af : Array Edge} {X Y : Operand} {t t2 : TypeId} {K : IntKind} {x y : Int}
end
end Go.Proofs.Eng

/- A stretch of an own row: what is cut off its front, what is laid behind it. -/
namespace Go.Proofs.Eng
open Go.RowKit
set_option linter.unusedSimpArgs false
set_option linter.unusedVariables false
set_option linter.unusedSectionVars false
def Seg (w : World) (base : Nat) (e : TypeId) (s : Nat) (A : Option Addr) (n c : Nat) (xs : List Value) : Prop :=
  xs.length = n * s ∧ ((A = none ∧ n = 0 ∧ c = 0) ∨ ∃ g o cur, A = some ⟨g, o, none⟩ ∧ base ≤ g ∧ w.heap[g]? = some (.cells cur e (0, 0)) ∧ n ≤ c ∧ c ≤ maxLen ∧ o + c * s ≤ cur.size ∧ (cur.toList.drop o).take (n * s) = xs)
section
variable {w w' : World} {base s n c : Nat} {e : TypeId} {A : Option Addr} {xs : List Value}
theorem Seg.nil (w : World) (base : Nat) (e : TypeId) (s : Nat) : Seg w base e s none 0 0 [] := ⟨by simp, .inl ⟨rfl, rfl, rfl⟩⟩
theorem Seg.len (h : Seg w base e s A n c xs) : xs.length = n * s := h.1
theorem Seg.cap (h : Seg w base e s A n c xs) : n ≤ c ∧ c ≤ maxLen := by
  obtain ⟨_, ⟨_, h0, h1⟩ | ⟨g, o, cur, _, _, _, hnc, hcm, _⟩⟩ := h
  · subst h0 h1; exact ⟨Nat.le_refl _, by decide⟩
  · exact ⟨hnc, hcm⟩
theorem Seg.hi (h : Seg w base e s A n c xs) : Hi A base := fun ad ea => by
  obtain ⟨_, ⟨h0, _⟩ | ⟨g, o, cur, h0, hg, _⟩⟩ := h
  · rw [h0] at ea; cases ea
  · rw [h0] at ea; cases ea; exact hg
theorem Seg.lo (h : Seg w base e s A n c xs) : Lo A w.heap.size := fun ad ea => by
  obtain ⟨_, ⟨h0, _⟩ | ⟨g, o, cur, h0, hg, hh, _⟩⟩ := h
  · rw [h0] at ea; cases ea
  · rw [h0] at ea; cases ea; exact heap_lt hh
theorem Seg.mod {S : List Nat} (h : Seg w base e s A n c xs) (hm : Mod S w w') (hS : Off A S) : Seg w' base e s A n c xs := by
  obtain ⟨hl, h | ⟨g, o, cur, rfl, hg, hh, r⟩⟩ := h
  · exact ⟨hl, .inl h⟩
  · exact ⟨hl, .inr ⟨g, o, cur, rfl, hg, by rw [hm.block g (heap_lt hh) (hS _ rfl)]; exact hh, r⟩⟩
theorem Seg.ext (h : Seg w base e s A n c xs) (hm : Ext w w') : Seg w' base e s A n c xs := h.mod hm (.nil A)
theorem Seg.be (hm : Ext w w') (h : Seg w base e s A n c xs) : Seg w' base e s A n c xs := h.ext hm
theorem Seg.weaken {base' : Nat} (h : Seg w base e s A n c xs) (hb : base' ≤ base) : Seg w base' e s A n c xs := by
  obtain ⟨hl, h | ⟨g, o, cur, h1, hg, r⟩⟩ := h
  · exact ⟨hl, .inl h⟩
  · exact ⟨hl, .inr ⟨g, o, cur, h1, by omega, r⟩⟩
theorem Seg.rd (h : Seg w base e s A n c xs) : Rd w A n s xs := by
  obtain ⟨hl, ⟨_, h0, _⟩ | ⟨g, o, cur, rfl, hg, hh, hnc, hcm, hcs, htk⟩⟩ := h
  · exact ⟨hl, fun hn => by omega⟩
  · refine ⟨hl, fun hn => ⟨g, o, rfl, heap_lt hh, fun j u hu => ?_⟩⟩
    rw [← htk] at hu
    rw [List.getElem?_take] at hu
    split at hu
    · rw [List.getElem?_drop] at hu
      simp only [World.cell?, hh]
      simpa using hu
    · cases hu
theorem Seg.cut {l : Nat} (h : Seg w base e s A n c xs) (hl : l ≤ n) : Seg w base e s (cutA A c l s) (n - l) (c - l) (xs.drop (l * s)) := by
  have hlen : (xs.drop (l * s)).length = (n - l) * s := by rw [List.length_drop, h.1, Nat.sub_mul]
  obtain ⟨hx, ⟨rfl, h0, h1⟩ | ⟨g, o, cur, rfl, hg, hh, hnc, hcm, hcs, htk⟩⟩ := h
  · refine ⟨hlen, .inl ⟨?_, by omega, by omega⟩⟩
    unfold cutA; split <;> rfl
  · refine ⟨hlen, .inr ?_⟩
    by_cases hcl : c = l
    · refine ⟨g, o, cur, by simp [cutA, hcl], hg, hh, by omega, by omega, by simp [hcl]; omega, ?_⟩
      have : n - l = 0 := by omega
      rw [this, Nat.zero_mul, List.take_zero, List.drop_of_length_le]
      rw [hx]
      exact Nat.mul_le_mul_right _ (by omega)
    · refine ⟨g, o + l * s, cur, ?_, hg, hh, by omega, by omega, ?_, ?_⟩
      · simp only [cutA, hcl, if_false, Option.map_some, Addr.add]
        by_cases h0 : l * s = 0 <;> simp [h0]
      · rw [Nat.add_assoc, ← Nat.add_mul, show l + (c - l) = c by omega]
        exact hcs
      · rw [← htk, List.drop_take, List.drop_drop]
        congr 1
        rw [Nat.sub_mul]
end
section
variable {q : Qm} {P : Program} {fn : Func} {R : Ending → World → Prop} {M : Md} {n : Nat} {st : Slots} {k : List Item} {w : World} {ops rest : List Oper}
  {d : Nat} {ty : TypeId} {ps : String} {af : Array Edge} {X Y : Operand} {t e : TypeId} {by_ s base m c m2 c2 : Nat} {z : Value} {A A2 : Option Addr} {xs ys : List Value}
end
end Go.Proofs.Eng

namespace Go.Proofs.YtgdbckjkeofoaaaGreat
open Go.RowKit Go.Proofs.Eng Go.Proofs.Foot Go.Proofs.Locks Go.Proofs.Sched
set_option linter.unusedSimpArgs false
set_option linter.unusedVariables false set_option maxRecDepth 10000
attribute [local irreducible] T TL LV TH TA
set_option maxHeartbeats 6400000
/-- The statement's list of those taken. -/
structure TkM (w0 w : World) (o : Nat → Nat) (y : SL) (tk : List Nat) : Prop where
  sg : Seg w w0.heap.size 2 1 y.1 y.2.1 y.2.2 (nzV tk)
  zz : ∀ b ∈ blkL y.1, o b = 0
section
variable {w0 w w' : World} {o o' : Nat → Nat} {y : SL} {tk : List Nat}
theorem TkM.len (K : TkM w0 w o y tk) : y.2.1 = tk.length := by
  have := K.sg.len
  rw [nzV_len] at this
  omega
theorem TkM.tn (K : TkM w0 w o y tk) (t : Tn o o' w w') : TkM w0 w' o' y tk := by
  obtain ⟨⟨S, m1, s1⟩, n1, z1⟩ := id t
  exact ⟨K.sg.mod m1 (off_ofL fun b q q' => s1 b q' (K.zz b q)), fun b q => t.old (K.zz b q) (Lo.mem K.sg.lo b q)⟩
theorem TkM.ext (K : TkM w0 w o y tk) (e : Ext w w') : TkM w0 w' o y tk := K.tn (Tn.ext e)
end
/-- What stands while a scheduler is worked off. -/
def EndP (w0 w : World) (bs p n : Nat) (S0 : StE) (sm : StM) (FT : List (List Tx × List Tx)) (y : SL) (tk : List Nat) (Q : SS → Prop) : Prop :=
  ∃ m h g f s, TS5 w0 w bs p n m h g f s ∧ m.sm = sm ∧ SC S0 s ∧ TkI s tk ∧ TkM w0 w (oA h g f) y tk ∧ s.E.length = n ∧ s.E.map ftE = FT.take n ∧ Q s
section
variable {w0 w w' : World} {bs p n : Nat} {S0 : StE} {sm : StM} {FT : List (List Tx × List Tx)} {y : SL} {tk : List Nat} {Q Q' : SS → Prop}
theorem EndP.ext (h : EndP w0 w bs p n S0 sm FT y tk Q) (e : Ext w w') : EndP w0 w' bs p n S0 sm FT y tk Q := by
  obtain ⟨m, h, g, f, s, a1, a2, a3, a4, a5, a6, a7, a8⟩ := h
  exact ⟨m, h, g, f, s, a1.ext e, a2, a3, a4, a5.ext e, a6, a7, a8⟩
/-- taken = append(taken, q) -/
theorem TkM.push {m : SM} {h g : Nat → Nat} {f : Nat → Ow} {s : SS} (T0 : TS5 w0 w bs p n m h g f s) (K : TkM w0 w (oA h g f) y tk) (q : Nat) {A9 : Option Addr} {c9 : Nat} {w9 : World} (o9 : Seg w9 w0.heap.size 2 1 A9 (y.2.1 + 1) c9 (nzV (tk ++ [q]))) (m9 : Eng.Mod (blkL y.1) w w9) (n9 : Near y.1 A9 w) :
    TS5 w0 w9 bs p n m h g f s ∧ TkM w0 w9 (oA h g f) (A9, y.2.1 + 1, c9) (tk ++ [q]) := by
  refine ⟨⟨T0.e.step m9 (fun b q => .inr (Hi.mem K.sg.hi b q)), T0.hp, T0.M.mod m9 K.zz, T0.I, T0.R, T0.hb⟩, o9, fun b q => ?_⟩
  rcases Near.mem n9 b q with q | q
  · exact K.zz b q
  · exact T0.M.new0 q
end
end Go.Proofs.YtgdbckjkeofoaaaGreat

namespace Go.Proofs.YtgdbckjkeofoaaaGreat
open Go.RowKit Go.Proofs.Eng Go.Proofs.Foot Go.Proofs.Locks Go.Proofs.Sched
set_option linter.unusedSimpArgs false
set_option linter.unusedVariables false set_option maxRecDepth 10000
attribute [local irreducible] T TL LV TH TA
set_option maxHeartbeats 6400000
def endL (S0 : StE) (W : List (List Tx)) : List Nat := (List.range W.length).map fun i => if codeC S0 W i = 5 then 6 else 5
structure FrOk (w : World) (x : FR) : Prop where
  ra : Rd w x.A x.n 1 (sv x.r)
  rb : Rd w x.B x.m 1 (sv x.k)
  nm : x.n ≤ 64 ∧ x.m ≤ 64
  no : normF x.r x.k = ((x.r, x.k), 0)
  sr : ∀ y, y ∈ x.r ∨ y ∈ x.k → y.length ≤ 1048576
theorem allU_len {s : StE} {B : Nat} (h : ∀ c ∈ s.C, c.length ≤ B) : ∀ q, (allU s q).length ≤ q * B
  | 0 => by unfold allU; simp
  | q + 1 => by
    have ih := allU_len h q
    rw [Nat.succ_mul]
    by_cases hq : q < s.C.length
    · rw [allU_succ _ _ hq, List.length_append, List.length_map]
      have := h _ (getD_in (d := ([] : CL)) hq)
      omega
    · have : allU s (q + 1) = allU s q := by
        unfold allU
        rw [List.take_of_length_le (by omega), List.take_of_length_le (by omega)]
      rw [this]; omega
end Go.Proofs.YtgdbckjkeofoaaaGreat

/- What is asked of both, in plain words. -/
namespace Go.Proofs.YtgdbckjkeofoaaaGreat
open Go.RowKit Go.Proofs.Eng Go.Proofs.Foot Go.Proofs.Locks Go.Proofs.Sched
set_option linter.unusedSimpArgs false
set_option linter.unusedVariables false set_option maxRecDepth 10000
attribute [local irreducible] T TL LV TH TA
theorem nod_perm : ∀ {l m : List Tx}, l.Nodup → (∀ x ∈ l, x ∈ m) → m.length ≤ l.length → m.Perm l
  | [], m, _, _, h => by
    have : m = [] := List.length_eq_zero_iff.1 (by simpa using h)
    rw [this]
  | x :: l, m, hn, hs, hl => by
    rw [List.nodup_cons] at hn
    have hx : x ∈ m := hs x List.mem_cons_self
    have h1 := List.perm_cons_erase hx
    have h2 : (m.erase x).length = m.length - 1 := List.length_erase_of_mem hx
    refine h1.trans (List.Perm.cons x (nod_perm hn.2 (fun y hy => ?_) (by rw [h2]; simp only [List.length_cons] at hl; omega)))
    exact (List.mem_erase_of_ne (fun q => hn.1 (by rw [← q]; exact hy))).2 (hs y (List.mem_cons_of_mem _ hy))
theorem mget_in0 {c : CL} {k : Tx} {v : Int} (h : mget c k = some v) : (k, v) ∈ c := by
  induction c with
  | nil => simp [mget] at h
  | cons p c ih =>
    unfold mget at h
    split at h
    · rename_i q
      have : p = (k, v) := by
        cases h
        first | (rw [← q]; done) | (cases p; simp_all)
      rw [this]; exact List.mem_cons_self
    · exact List.mem_cons_of_mem _ (ih h)
theorem cnt_succ (f : Tx → Nat) (i : Nat) : ∀ l : List Tx, (l.filter fun k => decide (f k < i + 1)).length = (l.filter fun k => decide (f k < i)).length + (l.filter fun k => decide (f k = i)).length
  | [] => rfl
  | k :: l => by
    have ih := cnt_succ f i l
    simp only [List.filter_cons]
    by_cases h1 : f k < i
    · rw [if_pos (by simp; omega), if_pos (by simpa using h1), if_neg (by simp; omega)]
      simp only [List.length_cons]; omega
    · by_cases h2 : f k = i
      · rw [if_pos (by simp; omega), if_neg (by simpa using h1), if_pos (by simpa using h2)]
        simp only [List.length_cons]; omega
      · rw [if_neg (by simp; omega), if_neg (by simpa using h1), if_neg (by simpa using h2)]
        exact ih
theorem DS.keys {P r : Nat} {S : StE} {l : List Tx} (D : DS P r S l) : keysS S = l := by
  have d0 := D.d0
  have hcl := d0.cl
  have hlen : ∀ i, i ≤ P → (allU S i).length = (l.filter fun k => decide (partT k P < i)).length := fun i => by
    induction i with
    | zero => intro _; rw [List.filter_eq_nil_iff.2 (fun k _ => by simp)]; rfl
    | succ i ih =>
      intro hi
      rw [allU_succ _ _ (by omega), List.length_append, List.length_map, ih (by omega), d0.ct i (by omega), cnt_succ]
  have hall : (allU S S.C.length).length = l.length := by
    rw [hcl, hlen P (Nat.le_refl _), List.filter_eq_self.2 (fun k _ => by simpa using partT_lt k d0.pp)]
  have hnd : l.Nodup := d0.ri.imp (fun {a b} q e => by rw [e] at q; exact List.lt_irrefl _ q)
  have hsub : ∀ x ∈ l, x ∈ allU S S.C.length := fun x hx => by
    have h1 := (d0.hs x).1 hx
    unfold hasE at h1
    have hp := partT_lt x d0.pp
    have h2 : ∃ v, mget (S.C.getD (partT x S.C.length) []) x = some v := by
      cases hm : mget (S.C.getD (partT x S.C.length) []) x with
      | some v => exact ⟨v, rfl⟩
      | none => exfalso; unfold ofE at h1; rw [hm] at h1; simp at h1
    obtain ⟨v, h2⟩ := h2
    have h3 := mget_in0 h2
    unfold allU
    rw [List.take_of_length_le (Nat.le_refl _), List.mem_flatten]
    exact ⟨(S.C.getD (partT x S.C.length) []).map (·.1), List.mem_map.2 ⟨_, getD_in (by rw [hcl]; exact hp), rfl⟩, List.mem_map.2 ⟨(x, v), h3, rfl⟩⟩
  have hperm := nod_perm hnd hsub (by omega)
  unfold keysS
  exact rises_eq (sort_rises (hperm.nodup_iff.2 hnd)) d0.ri (fun t => by
    rw [(List.mergeSort_perm _ _).mem_iff, hperm.mem_iff])
theorem left_eq {E : List EnE} (h : ∀ i, i < E.length → 1 ≤ stE E i ∧ stE E i ≤ 6) : ((withS E [1, 2, 3, 4]).length : Int) = (E.length : Int) - ((withS E [5]).length : Int) - ((withS E [6]).length : Int) := by
  have : ∀ j, j ≤ E.length → (withU E [1, 2, 3, 4] j).length + (withU E [5] j).length + (withU E [6] j).length = j := fun j => by
    induction j with
    | zero => intro _; rfl
    | succ j ih =>
      intro hj
      have h1 := ih (by omega)
      have h2 := h j (by omega)
      rw [withU_succ, withU_succ, withU_succ, List.length_append, List.length_append, List.length_append]
      have hs : (E.getD j en0).st = stE E j := rfl
      rw [hs]
      generalize stE E j = z at h2
      have h3 : z = 1 ∨ z = 2 ∨ z = 3 ∨ z = 4 ∨ z = 5 ∨ z = 6 := by omega
      rcases h3 with rfl | rfl | rfl | rfl | rfl | rfl <;> simp <;> omega
  have h1 := this E.length (Nat.le_refl _)
  have h2 : ∀ l, withU E l E.length = withS E l := fun l => rfl
  rw [h2, h2, h2] at h1
  omega
theorem waits_eq {s : SS} (J : SJ s) {i : Nat} (h2 : stE s.E i = 2) : waitsE s.t (i : Int) = (waitD s.E i i).map fun k : Nat => (k : Int) := by
  have hi : i < s.E.length := by
    rcases Nat.lt_or_ge i s.E.length with q | q
    · exact q
    · have := st_out q; omega
  have hn := (J.a1 i hi).2 (by omega)
  obtain ⟨g1, g2⟩ := fly_get (E := s.E) s.nxt hn (fly_of (by omega))
  rw [← J.a3] at g1 g2
  unfold aheadE at g2
  unfold waitsE
  rw [g1]
  simp only
  rw [g2]
  unfold flyL waitD
  rw [List.filter_map, List.map_map, List.filter_filter]
  show List.map (fun k : Nat => (k : Int)) _ = _
  congr 1
  refine List.filter_congr fun k _ => ?_
  show (clB s.E i k && flyB (stE s.E k)) = _
  rw [Bool.and_comm]
end Go.Proofs.YtgdbckjkeofoaaaGreat

namespace Go.Proofs.YtgdbckjkeofoaaaGreat
open Go.RowKit Go.Proofs.Eng Go.Proofs.Foot Go.Proofs.Locks Go.Proofs.Sched
set_option linter.unusedSimpArgs false
set_option linter.unusedVariables false set_option maxRecDepth 10000
attribute [local irreducible] T TL LV TH TA
set_option maxHeartbeats 6400000
theorem nzV_iv (l : List Nat) : nzV l = iv (l.map fun k : Nat => (k : Int)) := by simp [nzV, iv, kI]
/-- Both schedulers, side by side. -/
structure B5 (w0 w : World) (bs p sb N : Nat) (m : SM) (h g : Nat → Nat) (f : Nat → Ow) (A : DA) (x L : SL) (es : List EV) (gd : Nat → Nat) (l : List Tx) (s : SS) : Prop where
  T0 : TS5 w0 w bs p N m h g f s
  sb : m.sm.sb = sb
  D : DocM w bs A x L es gd s.win s.S l s.E
  kl : KL l s.nxt
  nf : NF s.E
  d : ∀ b, oA h g f b = 0 ∨ gd b = 0
section
variable {w0 w : World} {bs p sb N : Nat} {m : SM} {h g : Nat → Nat} {f : Nat → Ow} {A : DA} {x L : SL} {es : List EV} {gd : Nat → Nat} {l : List Tx} {s : SS}
theorem asks_c15 (B : B5 w0 w bs p sb N m h g f A x L es gd l s) (hN : N ≤ 201) : Ret Tryz.prog 25 [pB p, pB sb, pB A.y] w (fun v w' => v = .bool true ∧ Ext w w') := by
  have M := B.T0.M
  have I := B.T0.I
  have R := B.T0.R
  have hp := B.T0.hp
  have hsb := B.sb
  have D := B.D
  have hen := I.en
  obtain ⟨hel, hes⟩ := D.el
  have hkeys := D.ds.keys
  have hleft := left_eq R.a2
  have hfly := fly_all R.toSJ
  have hnl := I.nl
  have hkl := B.kl.nl
  clear B
  subst hsb
  subst hp
  refine ret_T (n := 96) Tryz.func25 rfl rfl ?_
  repeat (first | refine T_seq ?_ | refine T_region ?_ | refine T_block ?_ | refine TL_nil ?_ | refine TL_assign (hk := ?_))
  refine T_loop (ι := Int) (fun q => [(7, .int .i64 q), (0, pB m.p), (1, pB m.sm.sb), (2, pB A.y)]) (fun q w' => -1 ≤ q ∧ q ≤ s.E.length + 1 ∧ Ext w w') (fun q => (s.E.length + 1 - q).toNat) (-1) (.c rfl (.c rfl (.c rfl (.c rfl (.n))))) ⟨by omega, by omega, Mod.refl _ _⟩ ?_
  rintro q w1 ⟨hq1, hq2, e1⟩ ih
  have M1 := M.ext e1
  have D1 := D.ext e1
  have hyk1 := D1.yk
  by_cases hlt : q ≤ (s.E.length : Int)
  · have hst : (if q < 0 ∨ (s.E.length : Int) ≤ q then 0 else stE s.E q.toNat) = stS s q := rfl
    repeat (first | refine T_seq ?_ | refine T_region ?_ | refine T_cond_true rfl ?_ | refine T_block ?_ | refine T_skip ?_ | refine TL_le_t (hk := ?_) | refine TL_nil ?_ | refine TL_move (hk := ?_) | refine TL_load TE (hk := ?_) | refine TL_fieldAddr TE (hk := ?_) | refine TL_len TE (hk := ?_) | refine TL_nilCheck (hk := ?_))
    refine TL_call TE (hc := State_c15 q _ M1 I) (hk := ?_)
    rintro _ w2 ⟨rfl, e2⟩
    have M2 := M1.ext e2
    have D2 := D1.ext e2
    have hRS := RState_c15 q w2 D2 (by omega)
    rw [hst] at hRS
    repeat (refine TL_move (hk := ?_))
    refine TL_call TE (hc := hRS) (hk := ?_)
    rintro _ w3 ⟨rfl, rfl⟩
    repeat (first | refine T_seq ?_ | refine T_region ?_ | refine T_cond_false rfl ?_ | refine T_skip ?_ | refine TL_ne_f (hk := ?_) | refine TL_nil ?_ | refine TL_move (hk := ?_) | refine TL_assign (hk := ?_))
    refine TL_call TE (hc := hRS) (hk := ?_)
    rintro _ w4 ⟨rfl, rfl⟩
    by_cases h2 : stS s q = 2
    · have h2' : ((stS s q : Nat) : Int) = 2 := by omega
      have hqq : 0 ≤ q ∧ q < (s.E.length : Int) := by
        unfold stS at h2
        split at h2 <;> omega
      obtain ⟨k, rfl⟩ := Int.eq_ofNat_of_zero_le hqq.1
      have hks : stE s.E k = 2 := by
        unfold stS at h2
        rw [if_neg (by omega)] at h2
        exact h2
      have hwe : waitS s (k : Int) = (waitD s.E k k).map fun j : Nat => (j : Int) := by
        unfold waitS
        rw [if_pos h2, waits_eq R.toSJ hks]
      have hwl := waitD_len s.E k k
      repeat (first | refine T_region ?_ | refine T_cond_true rfl ?_ | refine TL_eq_t (hk := ?_) | refine TL_nil ?_ | refine TL_move (hk := ?_))
      refine TL_call TE (hc := RWaits_c15 k _ D2 (by omega) (by omega)) (hk := ?_)
      rintro _ w5 ⟨y, rfl, e5, o5⟩
      rw [nzV_iv] at o5
      have hyl := o5.len
      rw [iv_len, List.length_map] at hyl
      repeat (first | refine T_seq ?_ | refine T_region ?_ | refine TL_nil ?_ | refine TL_move (hk := ?_) | refine TL_assign (hk := ?_))
      refine TL_call TE (hc := Waits_c15 (k : Int) _ (M2.ext e5) I) (hk := ?_)
      rintro _ w6 ⟨y6, rfl, e6, o6⟩
      have hyl6 := o6.len
      rw [hwe, iv_len, List.length_map] at hyl6
      repeat (refine TL_move (hk := ?_))
      refine TL_call TE (hc := RSame_c y6.1 y.1 y6.2.1 y6.2.2 y.2.1 y.2.2 _ _ w6 o6.rd (o5.be e6).rd hwe (by omega)) (hk := ?_)
      rintro _ w7 ⟨rfl, e7⟩
      repeat (first | refine T_region ?_ | refine T_cond_false rfl ?_ | refine T_inBlock ?_ | refine T_skip ?_ | refine TL_add (hk := ?_) | refine TL_nil ?_ | refine TL_move (hk := ?_) | refine TL_assign (hk := ?_) | refine TL_not (hk := ?_))
      exact ih ((k : Int) + 1) _ _ (by omega) ⟨by omega, by omega, ((((e1.ext e2).ext e5).ext e6).ext e7)⟩ (.c rfl (.c rfl (.c rfl (.c rfl (.n)))))
    · have h2' : ¬ ((stS s q : Nat) : Int) = 2 := by omega
      have hwe : waitS s q = [] := by unfold waitS; rw [if_neg h2]
      repeat (first | refine T_seq ?_ | refine T_region ?_ | refine T_cond_false rfl ?_ | refine T_skip ?_ | refine TL_eq_f (hk := ?_) | refine TL_nil ?_ | refine TL_move (hk := ?_))
      refine TL_call TE (hc := Waits_c15 q _ M2 I) (hk := ?_)
      rintro _ w6 ⟨y6, rfl, e6, o6⟩
      have hyl6 := o6.len
      rw [hwe, iv_len, List.length_nil] at hyl6
      have o5 : Own w6 w6.heap.size 2 1 none 0 0 (iv []) := Own.nil _ _ _ _
      repeat (refine TL_move (hk := ?_))
      refine TL_call TE (hc := RSame_c y6.1 none y6.2.1 y6.2.2 0 0 _ _ w6 o6.rd o5.rd hwe (by omega)) (hk := ?_)
      rintro _ w7 ⟨rfl, e7⟩
      repeat (first | refine T_region ?_ | refine T_cond_false rfl ?_ | refine T_inBlock ?_ | refine T_skip ?_ | refine TL_add (hk := ?_) | refine TL_nil ?_ | refine TL_move (hk := ?_) | refine TL_assign (hk := ?_) | refine TL_not (hk := ?_))
      exact ih (q + 1) _ _ (by omega) ⟨by omega, by omega, (((e1.ext e2).ext e6).ext e7)⟩ (.c rfl (.c rfl (.c rfl (.c rfl (.n)))))
  · clear ih
    repeat (first | refine T_seq ?_ | refine T_region ?_ | refine T_cond_false rfl ?_ | refine T_exit rfl ?_ | refine TL_le_f (hk := ?_) | refine TL_nil ?_ | refine TL_move (hk := ?_) | refine TL_load TE (hk := ?_) | refine TL_fieldAddr TE (hk := ?_) | refine TL_len TE (hk := ?_) | refine TL_nilCheck (hk := ?_))
    refine TL_call TE (hc := Ready_c15 _ M1 I) (hk := ?_)
    rintro _ w2 ⟨yr, rfl, e2, or2⟩
    have E2 := e1.ext e2
    have z1 := e1.size
    have hrl := or2.len
    rw [nzV_len] at hrl
    have hw3 : (withS s.E [3]).length ≤ s.E.length := withU_len s.E [3] s.E.length
    have hw6 : (withS s.E [6]).length ≤ s.E.length := withU_len s.E [6] s.E.length
    have hyD : A.y ∉ ([] : List Nat) := by simp
    have hRL := fun w' (D' : DocM w' bs A x L es gd s.win s.S l s.E) => RLeft_c w' D' (by omega)
    rw [← hleft] at hRL
    have hRF := fun w' (D' : DocM w' bs A x L es gd s.win s.S l s.E) => RFlying_c w' D' (by omega)
    rw [hfly] at hRF
    repeat (first | refine T_seq ?_ | refine TL_nil ?_ | refine TL_assign (hk := ?_))
    refine T_region_any TE.mixed ([] : List Nat) ?_; intro w3 e3 z3
    have E3 := E2.ext e3
    have M3 := M.ext E3
    have D3 := D.ext E3
    have hyk3 := D3.yk
    (refine TA_take 0 rfl (by kernel_rfl) (by kernel_rfl) (by kernel_rfl) ?_; (repeat (refine TL_move (hk := ?_))); refine TL_nil_p ?_); (refine TA_take 1 rfl (by kernel_rfl) (by kernel_rfl) (by kernel_rfl) ?_; (repeat (refine TL_move (hk := ?_))); refine TL_nil_p ?_)
    refine TA_one 2 rfl (by kernel_rfl) (by kernel_rfl) ?_; (try refine TL_yes (hk := ?_)); refine TL_call TE (hc := (With_c 3 _ D3 (by omega) (by decide))) (hq := (by rintro _ w' ⟨y, rfl, e, o⟩; exact e)) (hk := ?_)
    rintro _ w4 ⟨y4, rfl, e4, o4⟩
    have h4l := o4.len
    rw [nzV_len] at h4l
    have orr := (or2.be e3).be e4
    refine TL_nil_p ?_
    refine TA_one 3 rfl (by kernel_rfl) (by kernel_rfl) ?_; (try refine TL_yes (hk := ?_)); refine TL_call TE (hc := (RSame_c yr.1 y4.1 yr.2.1 yr.2.2 y4.2.1 y4.2.2 _ _ w4 (by have := orr.rd; rw [nzV_iv] at this; exact this) (by have := o4.rd; rw [nzV_iv] at this; exact this) rfl (by omega))) (hq := (by rintro _ w' ⟨rfl, e⟩; exact e4.ext e)) (hk := ?_)
    rintro _ w5 ⟨rfl, e5⟩
    refine TL_nil_p ?_
    have E5 := e4.ext e5
    (refine TA_take 4 rfl (by kernel_rfl) (by kernel_rfl) (by kernel_rfl) ?_; (repeat (first | refine TL_move (hk := ?_) | refine TL_yes (hk := ?_) | refine TL_not (hk := ?_))); refine TL_nil_p ?_); (refine TA_take 5 rfl (by kernel_rfl) (by kernel_rfl) (by kernel_rfl) ?_; (repeat (first | refine TL_move (hk := ?_) | refine TL_yes (hk := ?_) | refine TL_not (hk := ?_))); refine TL_nil_p ?_); (refine TA_take 6 rfl (by kernel_rfl) (by kernel_rfl) (by kernel_rfl) ?_; (repeat (first | refine TL_move (hk := ?_) | refine TL_yes (hk := ?_) | refine TL_not (hk := ?_))); refine TL_nil_p ?_); (refine TA_take 8 rfl (by kernel_rfl) (by kernel_rfl) (by kernel_rfl) ?_; (repeat (first | refine TL_move (hk := ?_) | refine TL_yes (hk := ?_) | refine TL_not (hk := ?_))); refine TL_nil_p ?_)
    refine TA_one 7 rfl (by kernel_rfl) (by kernel_rfl) ?_; (try refine TL_yes (hk := ?_)); refine TL_call TE (hc := (Full_c15 _ (M3.ext E5) I)) (hq := (by rintro _ w' ⟨y, rfl, e, o⟩; exact E5.ext e)) (hk := ?_)
    rintro _ w6 ⟨y6, rfl, e6, o6⟩
    refine TL_nil_p ?_
    have E6 := E5.ext e6
    refine TA_one 9 rfl (by kernel_rfl) (by kernel_rfl) ?_; (try refine TL_yes (hk := ?_)); refine TL_call TE (hc := (With_c 6 _ (D3.ext E6) (by omega) (by decide))) (hq := (by rintro _ w' ⟨y, rfl, e, o⟩; exact E6.ext e)) (hk := ?_)
    rintro _ w7 ⟨y7, rfl, e7, o7⟩
    refine TL_nil_p ?_
    have E7 := E6.ext e7
    have h6l := o6.len
    rw [nzV_len] at h6l
    refine TA_one 10 rfl (by kernel_rfl) (by kernel_rfl) ?_; (try refine TL_yes (hk := ?_)); refine TL_call TE (hc := (RSame_c y6.1 y7.1 y6.2.1 y6.2.2 y7.2.1 y7.2.2 _ _ w7 (by have := (o6.be e7).rd; rw [nzV_iv] at this; exact this) (by have := o7.rd; rw [nzV_iv] at this; exact this) rfl (by omega))) (hq := (by rintro _ w' ⟨rfl, e⟩; exact E7.ext e)) (hk := ?_)
    rintro _ w8 ⟨rfl, e8⟩
    refine TL_nil_p ?_
    have E8 := E7.ext e8
    have hyk8 := (D3.ext E8).yk
    (refine TA_take 11 rfl (by kernel_rfl) (by kernel_rfl) (by kernel_rfl) ?_; (repeat (first | refine TL_move (hk := ?_) | refine TLP_load TE (hk := ?_) | refine TL_fieldAddr TE (hk := ?_) | refine TL_len TE (hk := ?_) | refine TL_yes (hk := ?_) | refine TL_pick_f (hk := ?_) | refine TL_nilCheck (hk := ?_) | refine TL_not (hk := ?_))); refine TL_nil_p ?_); (refine TA_take 12 rfl (by kernel_rfl) (by kernel_rfl) (by kernel_rfl) ?_; (repeat (first | refine TL_move (hk := ?_) | refine TLP_load TE (hk := ?_) | refine TL_fieldAddr TE (hk := ?_) | refine TL_len TE (hk := ?_) | refine TL_yes (hk := ?_) | refine TL_pick_f (hk := ?_) | refine TL_nilCheck (hk := ?_) | refine TL_not (hk := ?_))); refine TL_nil_p ?_); (refine TA_take 13 rfl (by kernel_rfl) (by kernel_rfl) (by kernel_rfl) ?_; (repeat (first | refine TL_move (hk := ?_) | refine TLP_load TE (hk := ?_) | refine TL_fieldAddr TE (hk := ?_) | refine TL_len TE (hk := ?_) | refine TL_yes (hk := ?_) | refine TL_pick_f (hk := ?_) | refine TL_nilCheck (hk := ?_) | refine TL_not (hk := ?_))); refine TL_nil_p ?_); (refine TA_take 14 rfl (by kernel_rfl) (by kernel_rfl) (by kernel_rfl) ?_; (repeat (first | refine TL_move (hk := ?_) | refine TLP_load TE (hk := ?_) | refine TL_fieldAddr TE (hk := ?_) | refine TL_len TE (hk := ?_) | refine TL_yes (hk := ?_) | refine TL_pick_f (hk := ?_) | refine TL_nilCheck (hk := ?_) | refine TL_not (hk := ?_))); refine TL_nil_p ?_); (refine TA_take 16 rfl (by kernel_rfl) (by kernel_rfl) (by kernel_rfl) ?_; (repeat (first | refine TL_move (hk := ?_) | refine TLP_load TE (hk := ?_) | refine TL_fieldAddr TE (hk := ?_) | refine TL_len TE (hk := ?_) | refine TL_yes (hk := ?_) | refine TL_pick_f (hk := ?_) | refine TL_nilCheck (hk := ?_) | refine TL_not (hk := ?_))); refine TL_nil_p ?_); (refine TA_take 17 rfl (by kernel_rfl) (by kernel_rfl) (by kernel_rfl) ?_; (repeat (first | refine TL_move (hk := ?_) | refine TLP_load TE (hk := ?_) | refine TL_fieldAddr TE (hk := ?_) | refine TL_len TE (hk := ?_) | refine TL_yes (hk := ?_) | refine TL_pick_f (hk := ?_) | refine TL_nilCheck (hk := ?_) | refine TL_not (hk := ?_))); refine TL_nil_p ?_); (refine TA_take 18 rfl (by kernel_rfl) (by kernel_rfl) (by kernel_rfl) ?_; (repeat (first | refine TL_move (hk := ?_) | refine TLP_load TE (hk := ?_) | refine TL_fieldAddr TE (hk := ?_) | refine TL_len TE (hk := ?_) | refine TL_yes (hk := ?_) | refine TL_pick_f (hk := ?_) | refine TL_nilCheck (hk := ?_) | refine TL_not (hk := ?_))); refine TL_nil_p ?_); (refine TA_take 19 rfl (by kernel_rfl) (by kernel_rfl) (by kernel_rfl) ?_; (repeat (first | refine TL_move (hk := ?_) | refine TLP_load TE (hk := ?_) | refine TL_fieldAddr TE (hk := ?_) | refine TL_len TE (hk := ?_) | refine TL_yes (hk := ?_) | refine TL_pick_f (hk := ?_) | refine TL_nilCheck (hk := ?_) | refine TL_not (hk := ?_))); refine TL_nil_p ?_); (refine TA_take 20 rfl (by kernel_rfl) (by kernel_rfl) (by kernel_rfl) ?_; (repeat (first | refine TL_move (hk := ?_) | refine TLP_load TE (hk := ?_) | refine TL_fieldAddr TE (hk := ?_) | refine TL_len TE (hk := ?_) | refine TL_yes (hk := ?_) | refine TL_pick_f (hk := ?_) | refine TL_nilCheck (hk := ?_) | refine TL_not (hk := ?_))); refine TL_nil_p ?_)
    refine TA_one 15 rfl (by kernel_rfl) (by kernel_rfl) ?_; (try refine TL_yes (hk := ?_)); refine TL_call TE (hc := (Next_c15 _ (M3.ext E8))) (hq := (by rintro _ w' ⟨rfl, e⟩; exact E8.ext e)) (hk := ?_)
    rintro _ w9 ⟨rfl, e9⟩
    rw [← hel]
    refine TL_nil_p ?_
    have E9 := E8.ext e9
    (refine TA_take 21 rfl (by kernel_rfl) (by kernel_rfl) (by kernel_rfl) ?_; (repeat (first | refine TL_ne_f (hk := ?_) | refine TL_move (hk := ?_) | refine TL_yes (hk := ?_) | refine TL_pick_f (hk := ?_))); refine TL_nil_p ?_); (refine TA_take 22 rfl (by kernel_rfl) (by kernel_rfl) (by kernel_rfl) ?_; (repeat (first | refine TL_ne_f (hk := ?_) | refine TL_move (hk := ?_) | refine TL_yes (hk := ?_) | refine TL_pick_f (hk := ?_))); refine TL_nil_p ?_); (refine TA_take 23 rfl (by kernel_rfl) (by kernel_rfl) (by kernel_rfl) ?_; (repeat (first | refine TL_ne_f (hk := ?_) | refine TL_move (hk := ?_) | refine TL_yes (hk := ?_) | refine TL_pick_f (hk := ?_))); refine TL_nil_p ?_); (refine TA_take 24 rfl (by kernel_rfl) (by kernel_rfl) (by kernel_rfl) ?_; (repeat (first | refine TL_ne_f (hk := ?_) | refine TL_move (hk := ?_) | refine TL_yes (hk := ?_) | refine TL_pick_f (hk := ?_))); refine TL_nil_p ?_); (refine TA_take 26 rfl (by kernel_rfl) (by kernel_rfl) (by kernel_rfl) ?_; (repeat (first | refine TL_ne_f (hk := ?_) | refine TL_move (hk := ?_) | refine TL_yes (hk := ?_) | refine TL_pick_f (hk := ?_))); refine TL_nil_p ?_)
    refine TA_one 25 rfl (by kernel_rfl) (by kernel_rfl) ?_; (try refine TL_yes (hk := ?_)); refine TL_call TE (hc := (Left_c15 _ (M3.ext E9) I)) (hq := (by rintro _ w' ⟨rfl, e⟩; exact E9.ext e)) (hk := ?_)
    rintro _ w10 ⟨rfl, e10⟩
    refine TL_nil_p ?_
    have E10 := E9.ext e10
    refine TA_one 27 rfl (by kernel_rfl) (by kernel_rfl) ?_; (try refine TL_yes (hk := ?_)); refine TL_call TE (hc := (hRL _ (D3.ext E10))) (hq := (by rintro _ w' ⟨rfl, e⟩; exact E10.ext e)) (hk := ?_)
    rintro _ w11 ⟨rfl, e11⟩
    refine TL_nil_p ?_
    have E11 := E10.ext e11
    (refine TA_take 28 rfl (by kernel_rfl) (by kernel_rfl) (by kernel_rfl) ?_; (repeat (first | refine TL_ne_f (hk := ?_) | refine TL_move (hk := ?_) | refine TL_yes (hk := ?_) | refine TL_pick_f (hk := ?_))); refine TL_nil_p ?_); (refine TA_take 29 rfl (by kernel_rfl) (by kernel_rfl) (by kernel_rfl) ?_; (repeat (first | refine TL_ne_f (hk := ?_) | refine TL_move (hk := ?_) | refine TL_yes (hk := ?_) | refine TL_pick_f (hk := ?_))); refine TL_nil_p ?_); (refine TA_take 30 rfl (by kernel_rfl) (by kernel_rfl) (by kernel_rfl) ?_; (repeat (first | refine TL_ne_f (hk := ?_) | refine TL_move (hk := ?_) | refine TL_yes (hk := ?_) | refine TL_pick_f (hk := ?_))); refine TL_nil_p ?_); (refine TA_take 31 rfl (by kernel_rfl) (by kernel_rfl) (by kernel_rfl) ?_; (repeat (first | refine TL_ne_f (hk := ?_) | refine TL_move (hk := ?_) | refine TL_yes (hk := ?_) | refine TL_pick_f (hk := ?_))); refine TL_nil_p ?_); (refine TA_take 33 rfl (by kernel_rfl) (by kernel_rfl) (by kernel_rfl) ?_; (repeat (first | refine TL_ne_f (hk := ?_) | refine TL_move (hk := ?_) | refine TL_yes (hk := ?_) | refine TL_pick_f (hk := ?_))); refine TL_nil_p ?_)
    refine TA_one 32 rfl (by kernel_rfl) (by kernel_rfl) ?_; (try refine TL_yes (hk := ?_)); refine TL_call TE (hc := (Flying_c _ (M3.ext E11))) (hq := (by rintro _ w' ⟨rfl, e⟩; exact E11.ext e)) (hk := ?_)
    rintro _ w12 ⟨rfl, e12⟩
    refine TL_nil_p ?_
    have E12 := E11.ext e12
    refine TA_one 34 rfl (by kernel_rfl) (by kernel_rfl) ?_; (try refine TL_yes (hk := ?_)); refine TL_call TE (hc := (hRF _ (D3.ext E12))) (hq := (by rintro _ w' ⟨rfl, rfl⟩; exact E12)) (hk := ?_)
    rintro _ w13 ⟨rfl, rfl⟩
    refine TL_nil_p ?_
    (refine TA_one 35 rfl (by kernel_rfl) (by kernel_rfl) ?_; (repeat (first | refine TL_ne_f (hk := ?_) | refine TL_yes (hk := ?_) | refine TL_pick_f (hk := ?_))); refine TL_nil_p ?_); (refine TA_one 36 rfl (by kernel_rfl) (by kernel_rfl) ?_; (repeat (first | refine TL_ne_f (hk := ?_) | refine TL_yes (hk := ?_) | refine TL_pick_f (hk := ?_))); refine TL_nil_p ?_)
    refine TA_done (by kernel_rfl) ?_
    have E13 := E3.ext E12
    have o13 := (or2.be e3).be E12
    have hw2 : w.heap.size ≤ w1.heap.size := z1
    have o13' : Own w13 w.heap.size 2 1 yr.1 yr.2.1 yr.2.2 (nzV (withS s.E [3])) := Own.weaken o13 hw2
    repeat (first | refine T_seq ?_ | refine T_region ?_ | refine T_cond_false rfl ?_ | refine T_block ?_ | refine T_skip ?_ | refine TL_nil ?_ | refine TL_assign (hk := ?_))
    refine T_loop (ι := Nat) (fun i => [(10, .int .i64 (i : Int)), (9, sL yr), (0, pB m.p), (1, pB m.sm.sb), (2, pB A.y)]) (fun i w' => i ≤ yr.2.1 ∧ Ext w w' ∧ ∃ xs, xs.length = yr.2.1 ∧ Own w' w.heap.size 2 1 yr.1 yr.2.1 yr.2.2 xs) (fun i => yr.2.1 - i) 0 (.c rfl (.c rfl (.c rfl (.c rfl (.c rfl (.n)))))) ⟨Nat.zero_le _, E13, _, by rw [nzV_len]; omega, o13'⟩ ?_
    rintro i w14 ⟨hi, e14, xs, hxl, o14⟩ ih
    by_cases hlt2 : i < yr.2.1
    · have hr := o14.rd
      have hA : yr.1 ≠ none := by obtain ⟨_, _, hq, _⟩ := hr.2 (by omega); rw [hq]; simp
      repeat (first | refine T_seq ?_ | refine T_region ?_ | refine T_cond_true rfl ?_ | refine T_block ?_ | refine T_skip ?_ | refine TL_lt_t (hk := ?_) | refine TL_nil ?_ | refine TL_move (hk := ?_) | refine TL_indexAddr1n TE (hk := ?_) | refine TL_len TE (hk := ?_))
      refine TL_store_own TE (ho := o14) (hj := by omega) (hk := ?_); intro w15 m15 z15 o15
      repeat (first | refine T_region ?_ | refine T_inBlock ?_ | refine TL_add (hk := ?_) | refine TL_nil ?_ | refine TL_move (hk := ?_) | refine TL_assign (hk := ?_))
      exact ih (i + 1) _ _ (by omega) ⟨by omega, e14.own m15 o14.hi, _, by rw [List.length_set]; exact hxl, o15⟩ (.c rfl (.c rfl (.c rfl (.c rfl (.c rfl (.n))))))
    · clear ih
      have M14 := M.ext e14
      have D14 := D.ext e14
      have hyk14 := D14.yk
      have hal : (allU s.S s.S.C.length).length ≤ 10000000000 := by
        have h1 := allU_len (s := s.S) (B := 50000 + 50000 * s.nxt) I.cl s.S.C.length
        have h2 : s.S.C.length * (50000 + 50000 * s.nxt) ≤ 64 * (50000 + 50000 * s.nxt) := Nat.mul_le_mul_right _ I.c1.2
        omega
      have hxlen : l.length = x.2.1 := by have := D14.so.len; rw [rowV_len itV_len] at this; omega
      repeat (first | refine T_seq ?_ | refine T_region ?_ | refine T_cond_false rfl ?_ | refine T_exit rfl ?_ | refine TL_lt_f (hk := ?_) | refine TL_nil ?_ | refine TL_move (hk := ?_) | refine TL_len TE (hk := ?_))
      refine T_region_any TE.mixed ([] : List Nat) ?_; intro w16 e16 z16
      have D16 := D14.ext e16
      have hyk16 := D16.yk
      (refine TA_take 0 rfl (by kernel_rfl) (by kernel_rfl) (by kernel_rfl) ?_; (repeat (first | refine TL_move (hk := ?_) | refine TLP_load TE (hk := ?_) | refine TL_fieldAddr TE (hk := ?_) | refine TL_nilCheck (hk := ?_))); refine TL_nil_p ?_); (refine TA_take 2 rfl (by kernel_rfl) (by kernel_rfl) (by kernel_rfl) ?_; (repeat (first | refine TL_move (hk := ?_) | refine TLP_load TE (hk := ?_) | refine TL_fieldAddr TE (hk := ?_) | refine TL_nilCheck (hk := ?_))); refine TL_nil_p ?_); (refine TA_take 3 rfl (by kernel_rfl) (by kernel_rfl) (by kernel_rfl) ?_; (repeat (first | refine TL_move (hk := ?_) | refine TLP_load TE (hk := ?_) | refine TL_fieldAddr TE (hk := ?_) | refine TL_nilCheck (hk := ?_))); refine TL_nil_p ?_); (refine TA_take 4 rfl (by kernel_rfl) (by kernel_rfl) (by kernel_rfl) ?_; (repeat (first | refine TL_move (hk := ?_) | refine TLP_load TE (hk := ?_) | refine TL_fieldAddr TE (hk := ?_) | refine TL_nilCheck (hk := ?_))); refine TL_nil_p ?_); (refine TA_take 5 rfl (by kernel_rfl) (by kernel_rfl) (by kernel_rfl) ?_; (repeat (first | refine TL_move (hk := ?_) | refine TLP_load TE (hk := ?_) | refine TL_fieldAddr TE (hk := ?_) | refine TL_nilCheck (hk := ?_))); refine TL_nil_p ?_)
      refine TA_one 1 rfl (by kernel_rfl) (by kernel_rfl) ?_; (try refine TL_yes (hk := ?_)); refine TL_call TE (hc := (Keys_c15 _ (M14.ext e16).st hal I.c1.2)) (hq := (by rintro _ w' ⟨y, rfl, e, o⟩; exact e)) (hk := ?_)
      rintro _ w17 ⟨y17, rfl, e17, o17⟩
      have h17 := o17.len
      rw [hkeys, sv_length] at h17
      refine TL_nil_p ?_
      have D17 := D16.ext e17
      refine TA_one 6 rfl (by kernel_rfl) (by kernel_rfl) ?_; (try refine TL_yes (hk := ?_)); refine TL_call TE (hc := (RKeys_c A.sb (A.P : Int) (A.r : Int) x l _ D17.sk D17.so.rd (by omega))) (hq := (by rintro _ w' ⟨y, rfl, e, o⟩; exact e17.ext e)) (hk := ?_)
      rintro _ w18 ⟨y18, rfl, e18, o18⟩
      have h18 := o18.len
      rw [sv_length] at h18
      refine TL_nil_p ?_
      refine TA_one 7 rfl (by kernel_rfl) (by kernel_rfl) ?_; (try refine TL_yes (hk := ?_)); refine TL_call TE (hc := (Texts_c y17.1 y18.1 y17.2.1 y18.2.1 y17.2.2 y18.2.2 _ _ w18 (o17.be e18).rd o18.rd (by omega) (by omega))) (hq := (by rintro _ w' ⟨rfl, e⟩; exact (e17.ext e18).ext e)) (hk := ?_)
      rintro _ w19 ⟨rfl, e19⟩
      rw [decide_eq_true hkeys]
      refine TL_nil_p ?_
      (refine TA_one 8 rfl (by kernel_rfl) (by kernel_rfl) ?_; (repeat (refine TL_assign (hk := ?_))); refine TL_nil_p ?_)
      refine TA_done (by kernel_rfl) ?_
      --
      exact T_ret1 rfl rfl ⟨rfl, (((e14.ext e16).ext e17).ext e18).ext e19⟩
end
end Go.Proofs.YtgdbckjkeofoaaaGreat

namespace Go.Proofs.YtgdbckjkeofoaaaGreat
open Go.RowKit Go.Proofs.Eng Go.Proofs.Foot Go.Proofs.Locks Go.Proofs.Sched
set_option linter.unusedSimpArgs false
set_option linter.unusedVariables false set_option maxRecDepth 10000
attribute [local irreducible] T TL LV TH TA
set_option maxHeartbeats 3200000
theorem own2_c15 (A B : Option Addr) (n c m d : Nat) (r k : List Tx) (w : World) (h : Rd w A n 1 (sv r)) (g : Rd w B m 1 (sv k)) (hn : n ≤ 50000) (hm : m ≤ 50000) :
    Ret Tryz.prog 10 [.agg #[.slice A n c, .slice B m d]] w (fun v w' => ∃ A' c' B' d', v = .agg #[.slice A' n c', .slice B' m d'] ∧ Own w' w.heap.size 9 1 A' n c' (sv r) ∧ Own w' w.heap.size 9 1 B' m d' (sv k) ∧ (∀ u ∈ blkL A', u ∉ blkL B') ∧ Ext w w') := by
  refine ret_T (n := 12) Tryz.func10 rfl rfl ?_
  repeat (first | refine T_seq ?_ | refine T_region ?_)
  refine TL_box (hk := ?_); intro b1 w1 e1 h1 h1' k1
  replace k1 : Blk w1 b1 35 [.slice A n c, .slice B m d] := k1
  --
  refine TL_alloc TE (hk := ?_); intro b2 w2 e2 h2 h2' k2
  have k12 := k1.be e2
  have z1 := e1.size
  have z2 := e2.size
  repeat (first | refine T_seq ?_ | refine TL_nil ?_)
  refine T_region_anyz TE.mixed ([] : List Nat) (some 9) ?_; intro w3 e3 z3
  have k13 := k12.be e3
  have k23 := k2.be e3
  have e03 := (e1.ext e2).ext e3
  have hA3 := h.be e03
  have hB3 := g.be e03
  have hbD : b1 ∉ ([] : List Nat) := by simp
  have z03 := e03.size
  clear k1 k12 k2 h g
  (refine TA_take 1 rfl (by kernel_rfl) (by kernel_rfl) (by kernel_rfl) ?_; (repeat (first | refine TLP_load TE (hk := ?_) | refine TL_fieldAddr TE (hk := ?_))); refine TL_nil_p ?_); (refine TA_take 2 rfl (by kernel_rfl) (by kernel_rfl) (by kernel_rfl) ?_; (repeat (first | refine TLP_load TE (hk := ?_) | refine TL_fieldAddr TE (hk := ?_))); refine TL_nil_p ?_); (refine TA_take 5 rfl (by kernel_rfl) (by kernel_rfl) (by kernel_rfl) ?_; (repeat (first | refine TLP_load TE (hk := ?_) | refine TL_fieldAddr TE (hk := ?_))); refine TL_nil_p ?_); (refine TA_take 6 rfl (by kernel_rfl) (by kernel_rfl) (by kernel_rfl) ?_; (repeat (first | refine TLP_load TE (hk := ?_) | refine TL_fieldAddr TE (hk := ?_))); refine TL_nil_p ?_)
  refine TA_two 0 4 rfl rfl (by kernel_rfl) (by kernel_rfl) ?_ ?_
  · refine TL_buildSlice0 TE (hf := rfl) (hq := fun w' h => Ext.un ((Mod.refl [] w3).ext h)) (hk := ?_); intro bX wX eX qX qX' kX
    have oX : Own wX w3.heap.size 9 1 (some ⟨bX, 0, none⟩) 0 0 [] := Own.of_blk kX qX rfl (by decide)
    have zX0 := (Mod.refl [] w3).size
    have EX := (Mod.refl [] w3).ext eX
    have zX := eX.size
    have hbX : ∀ u ∈ blkL (some (⟨bX, 0, none⟩ : Addr)), w3.heap.size ≤ u := fun u hu => by simp [blkL] at hu; omega
    have hqX := fun w' (m : Eng.Mod (blkL (some (⟨bX, 0, none⟩ : Addr))) wX w') => Mod.step EX m (fun u hu => .inr (hbX u hu))
    refine TL_nil_p ?_
    refine TA_two 3 4 rfl rfl (by kernel_rfl) (by kernel_rfl) ?_ ?_
    · refine TL_append TE (ho := oX) (hr := hA3.be EX) (h1 := sv_one _) (hf := rfl) (hq := fun w' m => Ext.un (Mod.step EX m (fun u hu => .inr (hbX u hu)))) (hk := ?_); intro AX cX vX pX mX nX
      rw [List.nil_append] at pX
      have FX : Ext w3 vX := Mod.step EX mX (fun u hu => .inr (hbX u hu))
      have yX := mX.size
      have rX := pX
      have lX : ∀ u ∈ blkL AX, u < vX.heap.size := fun u hu => (pX.bl u hu).2
      refine TL_nil_p ?_
      refine TA_one 4 rfl (by kernel_rfl) (by kernel_rfl) ?_
      refine TL_buildSlice0 TE (hf := rfl) (hq := fun w' h => Ext.un (FX.ext h)) (hk := ?_); intro bY wY eY qY qY' kY
      have oY : Own wY vX.heap.size 9 1 (some ⟨bY, 0, none⟩) 0 0 [] := Own.of_blk kY qY rfl (by decide)
      have zY0 := FX.size
      have EY := FX.ext eY
      have zY := eY.size
      have hbY : ∀ u ∈ blkL (some (⟨bY, 0, none⟩ : Addr)), w3.heap.size ≤ u := fun u hu => by simp [blkL] at hu; omega
      have hqY := fun w' (m : Eng.Mod (blkL (some (⟨bY, 0, none⟩ : Addr))) wY w') => Mod.step EY m (fun u hu => .inr (hbY u hu))
      replace rX := rX.be eY
      have dX : ∀ u ∈ blkL AX, u ≠ bY := fun u hu e => by have := lX u hu; omega
      refine TL_nil_p ?_
      refine TA_one 7 rfl (by kernel_rfl) (by kernel_rfl) ?_
      refine TL_append TE (ho := oY) (hr := hB3.be EY) (h1 := sv_one _) (hf := rfl) (hq := fun w' m => Ext.un (Mod.step EY m (fun u hu => .inr (hbY u hu)))) (hk := ?_); intro AY cY vY pY mY nY
      rw [List.nil_append] at pY
      have FY : Ext w3 vY := Mod.step EY mY (fun u hu => .inr (hbY u hu))
      have yY := mY.size
      have rY := pY
      have lY : ∀ u ∈ blkL AY, u < vY.heap.size := fun u hu => (pY.bl u hu).2
      replace rX := rX.modL mY (fun u hu hu2 => by simp [blkL] at hu2; exact dX u hu hu2)
      have hdis : ∀ u ∈ blkL AX, u ∉ blkL AY := fun u hu q => by
        rcases Near.mem nY u q with a | a
        · simp [blkL] at a; exact dX u hu a
        · have := lX u hu; omega
      refine TL_nil_p ?_
      (refine TA_take 8 rfl (by kernel_rfl) (by kernel_rfl) (by kernel_rfl) ?_; (repeat (refine TL_build TE (hk := ?_))); refine TL_nil_p ?_)
      refine TA_one 9 rfl (by kernel_rfl) (by kernel_rfl) ?_
      refine TL_storea TE (vs := [.slice AX (0 + n) cX, .slice AY (0 + m) cY]) (hb := k23.be FY) (hf := rfl) (hq := fun _ _ _ => trivial) (hk := ?_); intro w9 m9 z9 k9
      refine TL_nil_z (by kernel_rfl) ?_
      have z8 := FY.size
      have rX9 := rX.modL m9 (fun u hu hu2 => by rw [List.mem_singleton] at hu2; have := (pX.bl u hu).1; omega)
      have rY9 := rY.modL m9 (fun u hu hu2 => by rw [List.mem_singleton] at hu2; have := (pY.bl u hu).1; omega)
      --
      refine T_retA1 TE (vs := [.slice AX (0 + n) cX, .slice AY (0 + m) cY]) (o := 0) rfl rfl rfl rfl k9 rfl (Nat.succ_pos _) ⟨AX, cX, AY, cY, by rw [Nat.zero_add, Nat.zero_add], by rw [← Nat.zero_add n]; exact Own.weaken rX9 (by omega), by rw [← Nat.zero_add m]; exact Own.weaken rY9 (by omega), hdis, Mod.step (e03.ext FY) m9 (fun u hu => .inr (by rw [List.mem_singleton.1 hu]; omega))⟩
    · refine TL_buildSlice0 TE (hf := rfl) (hq := fun w' h => Ext.un (EX.ext h)) (hk := ?_); intro bY wY eY qY qY' kY
      have oY : Own wY wX.heap.size 9 1 (some ⟨bY, 0, none⟩) 0 0 [] := Own.of_blk kY qY rfl (by decide)
      have zY0 := EX.size
      have EY := EX.ext eY
      have zY := eY.size
      have hbY : ∀ u ∈ blkL (some (⟨bY, 0, none⟩ : Addr)), w3.heap.size ≤ u := fun u hu => by simp [blkL] at hu; omega
      have hqY := fun w' (m : Eng.Mod (blkL (some (⟨bY, 0, none⟩ : Addr))) wY w') => Mod.step EY m (fun u hu => .inr (hbY u hu))
      replace oX := oX.be eY
      refine TL_nil_p ?_
      refine TA_one 3 rfl (by kernel_rfl) (by kernel_rfl) ?_
      refine TL_append TE (ho := oX) (hr := hA3.be EY) (h1 := sv_one _) (hf := rfl) (hq := fun w' m => Ext.un (Mod.step EY m (fun u hu => .inr (hbX u hu)))) (hk := ?_); intro AX cX vX pX mX nX
      rw [List.nil_append] at pX
      have FX : Ext w3 vX := Mod.step EY mX (fun u hu => .inr (hbX u hu))
      have yX := mX.size
      have rX := pX
      have lX : ∀ u ∈ blkL AX, u < vX.heap.size := fun u hu => (pX.bl u hu).2
      have dX : ∀ u ∈ blkL AX, u ≠ bY := fun u hu e => by
        rcases Near.mem nX u hu with a | a
        · simp [blkL] at a; omega
        · omega
      replace oY := oY.modL mX (fun u hu hu2 => by simp [blkL] at hu hu2; omega)
      refine TL_nil_p ?_
      refine TA_one 7 rfl (by kernel_rfl) (by kernel_rfl) ?_
      refine TL_append TE (ho := oY) (hr := hB3.be FX) (h1 := sv_one _) (hf := rfl) (hq := fun w' m => Ext.un (Mod.step FX m (fun u hu => .inr (hbY u hu)))) (hk := ?_); intro AY cY vY pY mY nY
      rw [List.nil_append] at pY
      have FY : Ext w3 vY := Mod.step FX mY (fun u hu => .inr (hbY u hu))
      have yY := mY.size
      have rY := pY
      have lY : ∀ u ∈ blkL AY, u < vY.heap.size := fun u hu => (pY.bl u hu).2
      replace rX := rX.modL mY (fun u hu hu2 => by simp [blkL] at hu2; exact dX u hu hu2)
      have hdis : ∀ u ∈ blkL AX, u ∉ blkL AY := fun u hu q => by
        rcases Near.mem nY u q with a | a
        · simp [blkL] at a; exact dX u hu a
        · have := lX u hu; omega
      refine TL_nil_p ?_
      (refine TA_take 8 rfl (by kernel_rfl) (by kernel_rfl) (by kernel_rfl) ?_; (repeat (refine TL_build TE (hk := ?_))); refine TL_nil_p ?_)
      refine TA_one 9 rfl (by kernel_rfl) (by kernel_rfl) ?_
      refine TL_storea TE (vs := [.slice AX (0 + n) cX, .slice AY (0 + m) cY]) (hb := k23.be FY) (hf := rfl) (hq := fun _ _ _ => trivial) (hk := ?_); intro w9 m9 z9 k9
      refine TL_nil_z (by kernel_rfl) ?_
      have z8 := FY.size
      have rX9 := rX.modL m9 (fun u hu hu2 => by rw [List.mem_singleton] at hu2; have := (pX.bl u hu).1; omega)
      have rY9 := rY.modL m9 (fun u hu hu2 => by rw [List.mem_singleton] at hu2; have := (pY.bl u hu).1; omega)
      --
      refine T_retA1 TE (vs := [.slice AX (0 + n) cX, .slice AY (0 + m) cY]) (o := 0) rfl rfl rfl rfl k9 rfl (Nat.succ_pos _) ⟨AX, cX, AY, cY, by rw [Nat.zero_add, Nat.zero_add], by rw [← Nat.zero_add n]; exact Own.weaken rX9 (by omega), by rw [← Nat.zero_add m]; exact Own.weaken rY9 (by omega), hdis, Mod.step (e03.ext FY) m9 (fun u hu => .inr (by rw [List.mem_singleton.1 hu]; omega))⟩
  · refine TL_buildSlice0 TE (hf := rfl) (hq := fun w' h => Ext.un ((Mod.refl [] w3).ext h)) (hk := ?_); intro bY wY eY qY qY' kY
    have oY : Own wY w3.heap.size 9 1 (some ⟨bY, 0, none⟩) 0 0 [] := Own.of_blk kY qY rfl (by decide)
    have zY0 := (Mod.refl [] w3).size
    have EY := (Mod.refl [] w3).ext eY
    have zY := eY.size
    have hbY : ∀ u ∈ blkL (some (⟨bY, 0, none⟩ : Addr)), w3.heap.size ≤ u := fun u hu => by simp [blkL] at hu; omega
    have hqY := fun w' (m : Eng.Mod (blkL (some (⟨bY, 0, none⟩ : Addr))) wY w') => Mod.step EY m (fun u hu => .inr (hbY u hu))
    refine TL_nil_p ?_
    refine TA_one 0 rfl (by kernel_rfl) (by kernel_rfl) ?_
    refine TL_buildSlice0 TE (hf := rfl) (hq := fun w' h => Ext.un (EY.ext h)) (hk := ?_); intro bX wX eX qX qX' kX
    have oX : Own wX wY.heap.size 9 1 (some ⟨bX, 0, none⟩) 0 0 [] := Own.of_blk kX qX rfl (by decide)
    have zX0 := EY.size
    have EX := EY.ext eX
    have zX := eX.size
    have hbX : ∀ u ∈ blkL (some (⟨bX, 0, none⟩ : Addr)), w3.heap.size ≤ u := fun u hu => by simp [blkL] at hu; omega
    have hqX := fun w' (m : Eng.Mod (blkL (some (⟨bX, 0, none⟩ : Addr))) wX w') => Mod.step EX m (fun u hu => .inr (hbX u hu))
    replace oY := oY.be eX
    refine TL_nil_p ?_
    refine TA_one 3 rfl (by kernel_rfl) (by kernel_rfl) ?_
    refine TL_append TE (ho := oX) (hr := hA3.be EX) (h1 := sv_one _) (hf := rfl) (hq := fun w' m => Ext.un (Mod.step EX m (fun u hu => .inr (hbX u hu)))) (hk := ?_); intro AX cX vX pX mX nX
    rw [List.nil_append] at pX
    have FX : Ext w3 vX := Mod.step EX mX (fun u hu => .inr (hbX u hu))
    have yX := mX.size
    have rX := pX
    have lX : ∀ u ∈ blkL AX, u < vX.heap.size := fun u hu => (pX.bl u hu).2
    have dX : ∀ u ∈ blkL AX, u ≠ bY := fun u hu e => by
      rcases Near.mem nX u hu with a | a
      · simp [blkL] at a; omega
      · omega
    replace oY := oY.modL mX (fun u hu hu2 => by simp [blkL] at hu hu2; omega)
    refine TL_nil_p ?_
    refine TA_one 7 rfl (by kernel_rfl) (by kernel_rfl) ?_
    refine TL_append TE (ho := oY) (hr := hB3.be FX) (h1 := sv_one _) (hf := rfl) (hq := fun w' m => Ext.un (Mod.step FX m (fun u hu => .inr (hbY u hu)))) (hk := ?_); intro AY cY vY pY mY nY
    rw [List.nil_append] at pY
    have FY : Ext w3 vY := Mod.step FX mY (fun u hu => .inr (hbY u hu))
    have yY := mY.size
    have rY := pY
    have lY : ∀ u ∈ blkL AY, u < vY.heap.size := fun u hu => (pY.bl u hu).2
    replace rX := rX.modL mY (fun u hu hu2 => by simp [blkL] at hu2; exact dX u hu hu2)
    have hdis : ∀ u ∈ blkL AX, u ∉ blkL AY := fun u hu q => by
      rcases Near.mem nY u q with a | a
      · simp [blkL] at a; exact dX u hu a
      · have := lX u hu; omega
    refine TL_nil_p ?_
    (refine TA_take 8 rfl (by kernel_rfl) (by kernel_rfl) (by kernel_rfl) ?_; (repeat (refine TL_build TE (hk := ?_))); refine TL_nil_p ?_)
    refine TA_one 9 rfl (by kernel_rfl) (by kernel_rfl) ?_
    refine TL_storea TE (vs := [.slice AX (0 + n) cX, .slice AY (0 + m) cY]) (hb := k23.be FY) (hf := rfl) (hq := fun _ _ _ => trivial) (hk := ?_); intro w9 m9 z9 k9
    refine TL_nil_z (by kernel_rfl) ?_
    have z8 := FY.size
    have rX9 := rX.modL m9 (fun u hu hu2 => by rw [List.mem_singleton] at hu2; have := (pX.bl u hu).1; omega)
    have rY9 := rY.modL m9 (fun u hu hu2 => by rw [List.mem_singleton] at hu2; have := (pY.bl u hu).1; omega)
    --
    refine T_retA1 TE (vs := [.slice AX (0 + n) cX, .slice AY (0 + m) cY]) (o := 0) rfl rfl rfl rfl k9 rfl (Nat.succ_pos _) ⟨AX, cX, AY, cY, by rw [Nat.zero_add, Nat.zero_add], by rw [← Nat.zero_add n]; exact Own.weaken rX9 (by omega), by rw [← Nat.zero_add m]; exact Own.weaken rY9 (by omega), hdis, Mod.step (e03.ext FY) m9 (fun u hu => .inr (by rw [List.mem_singleton.1 hu]; omega))⟩
end Go.Proofs.YtgdbckjkeofoaaaGreat

namespace Go.Proofs.YtgdbckjkeofoaaaGreat
open Go.RowKit Go.Proofs.Eng Go.Proofs.Foot Go.Proofs.Locks Go.Proofs.Sched
set_option linter.unusedSimpArgs false
set_option linter.unusedVariables false set_option maxRecDepth 10000
attribute [local irreducible] T TL LV TH TA
set_option maxHeartbeats 6400000
theorem spoil_c15 (A B : Option Addr) (n c m d base : Nat) (xs ys : List Value) (w : World) (oA : Own w base 9 1 A n c xs) (oB : Own w base 9 1 B m d ys) (dis : ∀ u ∈ blkL A, u ∉ blkL B) (hb : base ≤ w.heap.size) (hn : n ≤ 50000) (hm : m ≤ 50000) :
    Ret Tryz.prog 22 [.agg #[.slice A n c, .slice B m d]] w (fun v w' => Eng.Mod (blkL A ++ blkL B) w w') := by
  have dis' : ∀ u ∈ blkL B, u ∉ blkL A := fun u hu q => dis u q hu
  have hxl : xs.length = n := by have := oA.len; omega
  have hyl : ys.length = m := by have := oB.len; omega
  refine ret_T (n := 26) Tryz.func22 rfl rfl ?_
  repeat (first | refine T_seq ?_ | refine T_region ?_)
  refine TL_box (hk := ?_); intro b1 w1 e1 h1 h1' k1
  replace k1 : Blk w1 b1 35 [.slice A n c, .slice B m d] := k1
  have hbA : b1 ∉ blkL A := fun q => by have := (oA.bl b1 q).2; omega
  have hbB : b1 ∉ blkL B := fun q => by have := (oB.bl b1 q).2; omega
  have m1 : Eng.Mod (blkL A ++ blkL B) w w1 := e1.mono (fun b hb => by cases hb)
  repeat (first | refine T_seq ?_ | refine T_region ?_ | refine T_block ?_ | refine TL_nil ?_ | refine TL_assign (hk := ?_))
  refine T_loop (ι := Nat) (fun i => [(2, .int .i64 (i : Int)), (1, .pointer (some ⟨b1, 0, none⟩))]) (fun i w' => i ≤ n ∧ Eng.Mod (blkL A ++ blkL B) w w' ∧ Blk w' b1 35 [.slice A n c, .slice B m d] ∧ (∃ xs, xs.length = n ∧ Own w' base 9 1 A n c xs) ∧ ∃ ys, ys.length = m ∧ Own w' base 9 1 B m d ys) (fun i => n - i) 0 (.c rfl (.c rfl (.n))) ⟨Nat.zero_le _, m1, k1, ⟨xs, hxl, oA.be e1⟩, ys, hyl, oB.be e1⟩ ?_
  clear m1 k1 oA oB hxl hyl xs ys
  rintro i w2 ⟨hi, m2, k2, ⟨xs, hxl, oA⟩, ys, hyl, oB⟩ ih
  by_cases hlt : i < n
  · have hr := oA.rd
    have hA : A ≠ none := by obtain ⟨_, _, hq, _⟩ := hr.2 (by omega); rw [hq]; simp
    repeat (first | refine T_seq ?_ | refine T_region ?_ | refine T_cond_true rfl ?_ | refine T_block ?_ | refine T_skip ?_ | refine TL_lt_t (hk := ?_) | refine TL_nil ?_ | refine TL_move (hk := ?_) | refine TL_load TE (hk := ?_) | refine TL_fieldAddr TE (hk := ?_) | refine TL_indexAddr1n TE (hk := ?_) | refine TL_len TE (hk := ?_))
    refine TL_store_own TE (ho := oA) (hj := by omega) (hk := ?_); intro w3 m3 z3 o3
    repeat (first | refine T_region ?_ | refine T_inBlock ?_ | refine TL_add (hk := ?_) | refine TL_nil ?_ | refine TL_move (hk := ?_) | refine TL_assign (hk := ?_))
    exact ih (i + 1) _ _ (by omega) ⟨by omega, m2.step m3 (fun u hu => .inl (List.mem_append_left _ hu)), k2.mod m3 hbA, ⟨_, by rw [List.length_set]; exact hxl, o3⟩, ys, hyl, oB.modL m3 dis'⟩ (.c rfl (.c rfl (.n)))
  · clear ih
    repeat (first | refine T_seq ?_ | refine T_region ?_ | refine T_cond_false rfl ?_ | refine T_block ?_ | refine T_exit rfl ?_ | refine TL_lt_f (hk := ?_) | refine TL_nil ?_ | refine TL_move (hk := ?_) | refine TL_assign (hk := ?_) | refine TL_load TE (hk := ?_) | refine TL_fieldAddr TE (hk := ?_) | refine TL_len TE (hk := ?_))
    refine T_loop (ι := Nat) (fun i => [(3, .int .i64 (i : Int)), (1, .pointer (some ⟨b1, 0, none⟩))]) (fun i w' => i ≤ m ∧ Eng.Mod (blkL A ++ blkL B) w w' ∧ Blk w' b1 35 [.slice A n c, .slice B m d] ∧ ∃ ys, ys.length = m ∧ Own w' base 9 1 B m d ys) (fun i => m - i) 0 (.c rfl (.c rfl (.n))) ⟨Nat.zero_le _, m2, k2, ys, hyl, oB⟩ ?_
    clear m2 k2 oA oB hxl hyl
    rintro j w2 ⟨hj, m2, k2, ys, hyl, oB⟩ ih
    by_cases hlt2 : j < m
    · have hr := oB.rd
      have hB : B ≠ none := by obtain ⟨_, _, hq, _⟩ := hr.2 (by omega); rw [hq]; simp
      repeat (first | refine T_seq ?_ | refine T_region ?_ | refine T_cond_true rfl ?_ | refine T_block ?_ | refine T_skip ?_ | refine TL_lt_t (hk := ?_) | refine TL_nil ?_ | refine TL_move (hk := ?_) | refine TL_load TE (hk := ?_) | refine TL_fieldAddr TE (hk := ?_) | refine TL_indexAddr1n TE (hk := ?_) | refine TL_len TE (hk := ?_))
      refine TL_store_own TE (ho := oB) (hj := by omega) (hk := ?_); intro w3 m3 z3 o3
      repeat (first | refine T_region ?_ | refine T_inBlock ?_ | refine TL_add (hk := ?_) | refine TL_nil ?_ | refine TL_move (hk := ?_) | refine TL_assign (hk := ?_))
      exact ih (j + 1) _ _ (by omega) ⟨by omega, m2.step m3 (fun u hu => .inl (List.mem_append_right _ hu)), k2.mod m3 hbB, _, by rw [List.length_set]; exact hyl, o3⟩ (.c rfl (.c rfl (.n)))
    · clear ih
      repeat (first | refine T_seq ?_ | refine T_region ?_ | refine T_cond_false rfl ?_ | refine T_exit rfl ?_ | refine TL_lt_f (hk := ?_) | refine TL_nil ?_ | refine TL_move (hk := ?_) | refine TL_load TE (hk := ?_) | refine TL_fieldAddr TE (hk := ?_) | refine TL_len TE (hk := ?_))
      exact T_end0 rfl m2
def ownD (w : World) (o gd : Nat → Nat) : List Nat := ownB w o ++ ownB w gd
theorem ownD_mem {w : World} {o gd : Nat → Nat} {b : Nat} (h : b ∈ ownD w o gd) : o b ≠ 0 ∨ gd b ≠ 0 := (List.mem_append.1 h).elim (fun q => .inl (ownB_mem q)) (fun q => .inr (ownB_mem q))
theorem ownD_a {w w2 : World} {o gd : Nat → Nat} (z : w2.heap.size = w.heap.size) : ∀ b, b < w2.heap.size → o b ≠ 0 → b ∈ ownD w o gd := fun b h q => List.mem_append_left _ (ownB_in z b h q)
theorem ownD_b {w w2 : World} {o gd : Nat → Nat} (z : w2.heap.size = w.heap.size) : ∀ b, b < w2.heap.size → gd b ≠ 0 → b ∈ ownD w o gd := fun b h q => List.mem_append_right _ (ownB_in z b h q)
section
variable {w0 w w1 w1' w2 w' : World} {bs p sb N N' : Nat} {m m' : SM} {h h' g g' : Nat → Nat} {f f' : Nat → Ow} {A : DA} {x x' L L' : SL} {es es' : List EV} {gd gd' : Nat → Nat} {l l' : List Tx} {s s' : SS}
theorem B5.ext (B : B5 w0 w bs p sb N m h g f A x L es gd l s) (e : Ext w w') : B5 w0 w' bs p sb N m h g f A x L es gd l s :=
  ⟨B.T0.ext e, B.sb, B.D.ext e, B.kl, B.nf, B.d⟩
theorem B5.up (B : B5 w0 w bs p sb N m h g f A x L es gd l s) (hN : N ≤ N') (h1 : N' ≤ 1000) : B5 w0 w bs p sb N' m h g f A x L es gd l s :=
  ⟨{ B.T0 with I := B.T0.I.mono hN h1 }, B.sb, B.D, B.kl, B.nf, B.d⟩
theorem B5.modz {Z : List Nat} (B : B5 w0 w bs p sb N m h g f A x L es gd l s) (hm : Eng.Mod Z w w') (hz : ∀ b ∈ Z, oA h g f b = 0 ∧ gd b = 0 ∧ w0.heap.size ≤ b) : B5 w0 w' bs p sb N m h g f A x L es gd l s :=
  ⟨⟨B.T0.e.step hm (fun b q => .inr (hz b q).2.2), B.T0.hp, B.T0.M.mod hm (fun b q => (hz b q).1), B.T0.I, B.T0.R, B.T0.hb⟩, B.sb, B.D.mod hm (fun b q => (hz b q).2.1), B.kl, B.nf, B.d⟩
theorem B5.step (B : B5 w0 w bs p sb N m h g f A x L es gd l s) (hp : m'.p = m.p) (hsm : m'.sm = m.sm) (M' : SchedM w1 bs m' h' g' f' s') (I' : SI N' s') (R' : SR s') (t1 : Tn (oA h g f) (oA h' g' f') w w1) (e : Ext w1 w1') (hw : s'.win = s.win) (D' : DocM w2 bs A x' L' es' gd' s.win s'.S l' s'.E) (kl' : KL l' s'.nxt) (nf' : NF s'.E) (t2 : Tn gd gd' w1' w2) : B5 w0 w2 bs p sb N' m' h' g' f' A x' L' es' gd' l' s' := by
  have d1 := (B.D.tn t1 B.d).2
  have M1 := M'.ext e
  have hb := B.T0.hb
  have e1 : Ext w0 w1' := (t1.ext0 B.T0.e (fun b q => by have := (B.T0.M.oold q).1; omega)).ext e
  have e2 : Ext w0 w2 := t2.ext0 e1 (fun b q => by have := (B.D.old b q).1; omega)
  obtain ⟨⟨S, m2, s2⟩, n2, z2⟩ := t2
  refine ⟨⟨e2, hp.trans B.T0.hp, M1.mod m2 (fun b q => (d1 b).resolve_right (s2 b q)), I', R', hb⟩, by rw [hsm]; exact B.sb, by rw [hw]; exact D', kl', nf', fun b => ?_⟩
  by_cases q : gd' b = 0
  · exact .inr q
  · left
    rcases n2 b q with y | y
    · exact (d1 b).resolve_right y
    · by_cases u : oA h' g' f' b = 0
      · exact u
      · have := (M1.oold u).2; omega
end
section
variable {base : Nat} {a : DA} {x L : SL} {es : List EV} {g : Nat → Nat} {l : List Tx} {s : SS}
theorem RTake2_c (w : World) (D : DocM w base a x L es g s.win s.S l s.E) (hn : s.E.length ≤ 1000) : Ret Tryz.prog 23 [pB a.y] w (fun v w' => (match (takeS s).2 with
      | none => v = .tuple #[.int .i64 0, .bool false]
      | some q => v = .tuple #[.int .i64 (q : Int), .bool true]) ∧ ∃ es', DocM w' base a x L es' g s.win (takeS s).1.S l (takeS s).1.E ∧ (takeS s).1.nxt = s.nxt ∧ Tn g g w w') := by
  have c := RTake_c w D hn
  unfold takeS
  cases hW : withS s.E [3] with
  | nil =>
    rw [hW] at c
    refine c.mono ?_
    rintro v w' ⟨rfl, rfl⟩
    exact ⟨rfl, es, D, rfl, Tn.refl _ _⟩
  | cons q t =>
    rw [hW] at c
    refine c.mono ?_
    rintro v w' ⟨rfl, es', D', t'⟩
    exact ⟨rfl, es', D', rfl, t'⟩
end
end Go.Proofs.YtgdbckjkeofoaaaGreat

namespace Go.Proofs.YtgdbckjkeofoaaaGreat
open Go.RowKit Go.Proofs.Eng Go.Proofs.Foot Go.Proofs.Locks Go.Proofs.Sched
set_option linter.unusedSimpArgs false
set_option linter.unusedVariables false set_option maxRecDepth 10000
attribute [local irreducible] T TL LV TH TA
set_option maxHeartbeats 6400000
/-- What stands at an act's end. -/
def PlayD (w0 w' : World) (bs p sb N : Nat) (A : DA) : Prop := ∃ m h g f x L es gd l s, B5 w0 w' bs p sb N m h g f A x L es gd l s
theorem nf_ft2 {D E : List EnE} (hf : D.map ftE = E.map ftE) (h : NF E) : NF D :=
  NF_ft (by have := congrArg List.length hf; rwa [List.length_map, List.length_map] at this) hf h
theorem SchedPlays_c (v0 : Value) (w : World) {base : Nat} (hM : 1048576 ≤ 1048576) (hv : ReadsB Tryz.prog w base 25 v0 1048576) :
    Ret Tryz.prog 5 [v0] w (fun v w' => v = .bool true ∧ Ext w w') := by
  obtain ⟨a, b, wn, KA, kn, kc, ks, A, n, c, l, rfl, ha, hb, hwn, hK, hkn, hkl, hA, hl, hall, hnm⟩ := story15_in hv
  clear hv hM
  refine ret_T (n := 119) Tryz.func5 rfl rfl ?_
  repeat (first | refine T_seq ?_ | refine T_region ?_)
  refine TL_box (hk := ?_); intro b1 w1 e1 h1 h1' k1
  replace k1 : Blk w1 b1 25 [.int .i64 a, .int .i64 b, .slice KA kn kc, .int .i64 wn, .slice A n c] := k1
  have hA1 := hA.be e1
  have hK1 := hK.be e1
  have hall1 : ∀ x ∈ l, AdOk w1 x := fun x hx => (hall x hx).be e1
  repeat (first | refine T_seq ?_ | refine T_region ?_ | refine TL_nil ?_ | refine TL_assign (hk := ?_))
  refine TL_loadb TE (cs := [.int .i64 a, .int .i64 b, .slice KA kn kc, .int .i64 wn, .slice A n c]) (o := 0) rfl rfl k1 rfl rfl (Nat.succ_pos _) (hk := ?_)
  --
  refine TL_call TE (hc := long_c15 a b wn KA kn kc A n c l _ hA1 hl hall1 hnm) (hk := ?_)
  rintro _ w2 ⟨rfl | ⟨rfl, hn, hkn2, hx2⟩, e2⟩
  · repeat (first | refine T_seq ?_ | refine T_region ?_ | refine T_cond_true rfl ?_ | refine TL_nil ?_ | refine TL_assign (hk := ?_))
    exact T_ret1 rfl rfl ⟨rfl, e1.ext e2⟩
  have k2 := k1.be e2
  have E2 := e1.ext e2
  have hA2 := hA1.be e2
  have hK2 := hK1.be e2
  have hall2 : ∀ x ∈ l, AdOk w2 x := fun x hx => (hall1 x hx).be e2
  clear hA hall hA1 hall1 k1 hK hK1
  repeat (first | refine T_seq ?_ | refine T_region ?_ | refine T_cond_false rfl ?_ | refine T_skip ?_ | refine TL_nil ?_)
  refine TL_loadb TE (cs := [.int .i64 a, .int .i64 b, .slice KA kn kc, .int .i64 wn, .slice A n c]) (o := 0) rfl rfl k2 rfl rfl (Nat.succ_pos _) (hk := ?_)
  --
  refine TL_call TE (hc := made3_c15 a b wn KA kn kc ks A n c w2 hK2 hkn2 hkl) (hk := ?_)
  rintro _ w3 ⟨X, X2, X3, rfl, e3, rfl | ⟨bs, m3, h3, g3, f3, AD, x3, l3, gd3, rfl, rfl, rfl, hbs, M3, I3, R3, D3, kl3, d3⟩⟩
  · repeat (first | refine T_seq ?_ | refine T_region ?_ | refine T_cond_true rfl ?_ | refine TL_pnil_t TE (hk := ?_) | refine TL_nil ?_ | refine TL_move (hk := ?_) | refine TL_assign (hk := ?_) | refine TL_yes (hk := ?_) | refine TL_pick_f (hk := ?_) | refine TL_extract (hk := ?_) | refine TL_not (hk := ?_))
    refine TL_call TE (hc := live_c15 w3) (hk := ?_)
    rintro _ w4 ⟨rfl, e4⟩
    repeat (first | refine TL_nil ?_ | refine TL_assign (hk := ?_) | refine TL_pick_t (hk := ?_))
    exact T_ret1 rfl rfl ⟨rfl, (E2.ext e3).ext e4⟩
  obtain ⟨p, hp⟩ : ∃ p, m3.p = p := ⟨_, rfl⟩
  obtain ⟨sb, hsb⟩ : ∃ sb, m3.sm.sb = sb := ⟨_, rfl⟩
  have B3 : B5 w2 w3 bs p sb 0 m3 h3 g3 f3 AD x3 (none, 0, 0) [] gd3 l3 (newSS wn.toNat (S0E a b ks)) := ⟨⟨e3, hp, M3, I3, R3, hbs⟩, hsb, D3, kl3, (fun k hk => by cases hk), d3⟩
  rw [hp, hsb]
  clear hp hsb M3 I3 R3 D3 kl3 d3
  repeat (first | refine T_seq ?_ | refine T_region ?_ | refine T_cond_false rfl ?_ | refine T_block ?_ | refine T_skip ?_ | refine TL_pnil_f TE (hk := ?_) | refine TL_nil ?_ | refine TL_move (hk := ?_) | refine TL_assign (hk := ?_) | refine TL_yes (hk := ?_) | refine TL_pick_f (hk := ?_) | refine TL_extract (hk := ?_) | refine TL_not (hk := ?_))
  refine T_loop (ι := Nat) (fun j => [(7, .int .i64 (j : Int)), (3, pB p), (4, pB sb), (5, pB AD.y), (1, .pointer (some ⟨b1, 0, none⟩))]) (fun j w' => j ≤ n ∧ PlayD w2 w' bs p sb j AD) (fun j => n - j) 0 (.c rfl (.c rfl (.c rfl (.c rfl (.c rfl (.n)))))) ⟨Nat.zero_le _, m3, h3, g3, f3, _, _, _, _, _, _, B3⟩ ?_
  clear B3 e3
  rintro i w5 ⟨hi, m5, h5, g5, f5, x5, L5, es5, gd5, l5, s5, B⟩ ih
  have k5 := k2.be B.T0.e
  by_cases hlt : i < n
  · have h1 := hA2.be B.T0.e
    have hAn : A ≠ none := by obtain ⟨_, _, hq, _⟩ := h1.2 (by omega); rw [hq]; simp
    have t1 := rowV_elem adV_len l i ad0 (by omega)
    have hmem : l.getD i ad0 ∈ l := getD_in (by omega)
    have hxo := hall2 _ hmem
    have hxn := hx2 _ hmem
    obtain ⟨x, hx⟩ : ∃ x, l.getD i ad0 = x := ⟨_, rfl⟩
    rw [hx] at t1 hxo hxn
    repeat (first | refine T_seq ?_ | refine T_region ?_ | refine T_cond_true rfl ?_ | refine T_block ?_ | refine T_skip ?_ | refine TL_lt_t (hk := ?_) | refine TL_nil ?_ | refine TL_move (hk := ?_) | refine TL_load TE (hk := ?_) | refine TL_fieldAddr TE (hk := ?_) | refine TL_indexAddrn TE (hk := ?_) | refine TL_len TE (hk := ?_))
    refine TL_loada TE (cs := adV x) (hx := rfl) (ht := rfl) (hi := rfl) (hr := h1) (hc := t1) (h0 := Nat.succ_pos _) (hk := ?_)
    --
    refine TL_alloc TE (hk := ?_); intro b6 w6 e6 h6 h6' k6
    --
    refine TL_storea TE (hk := ?_); intro w7 m7 z7 k7
    have z6 := e6.size
    have e57 : Ext w5 w7 := Mod.step e6 m7 (by simp; omega)
    replace k7 : Blk w7 b6 37 (adV x) := k7
    unfold adV at k7
    have hb6 : oA h5 g5 f5 b6 = 0 := B.T0.M.new0 (by omega)
    have hb6g : gd5 b6 = 0 := by
      by_cases y : gd5 b6 = 0
      · exact y
      · have := (B.D.old b6 y).2; omega
    have B7 := B.ext e57
    have hp7 := B7.T0.hp
    have hen := B7.T0.I.en
    have hnb := B7.T0.I.nb
    have hel := B7.D.el.1
    have hkd1 := hxo.kd.1
    have hkd2 := hxo.kd.2
    clear k5 h1 B k6 e6 m7
    repeat (refine TL_nil ?_)
    refine T_seq ?_
    refine T_join (ι := Unit) (fun _ => [(7, .int .i64 (i : Int)), (3, pB p), (4, pB sb), (5, pB AD.y), (1, .pointer (some ⟨b1, 0, none⟩))]) (fun _ w' => PlayD w2 w' bs p sb (i + 1) AD) (fun kk join => ?_) ?_
    · clear ih
      by_cases q1 : x.kd = 1
      · have E7 := B7.T0.e
        repeat (first | refine T_seq ?_ | refine T_region ?_ | refine T_cond_true rfl ?_ | refine T_block ?_ | refine TL_eq_t (hk := ?_) | refine TL_nil ?_ | refine TL_assign (hk := ?_) | refine TL_load TE (hk := ?_) | refine TL_fieldAddr TE (hk := ?_))
        refine TL_loadb TE (cs := [.slice x.A x.n x.c, .slice x.B x.m x.d]) (o := 2) rfl rfl k7 rfl rfl (Nat.succ_pos _) (hk := ?_)
        --
        refine TL_call TE (hc := own2_c15 x.A x.B x.n x.c x.m x.d x.r x.k w7 (hxo.ra.be E7) (hxo.rb.be E7) (by omega) (by omega)) (hk := ?_)
        rintro _ w8 ⟨A8, c8, B8, d8, rfl, r8, s8, dis8, e8⟩
        have Bb8 := B7.ext e8
        have k8 := k7.be e8
        have hrA : ∀ u ∈ blkL A8, w7.heap.size ≤ u := fun u hu => (r8.bl u hu).1
        have hrB : ∀ u ∈ blkL B8, w7.heap.size ≤ u := fun u hu => (s8.bl u hu).1
        have hz8 : ∀ u, w7.heap.size ≤ u → oA h5 g5 f5 u = 0 ∧ gd5 u = 0 := fun u hu => ⟨B7.T0.M.new0 hu, by
          by_cases y : gd5 u = 0
          · exact y
          · have := (B7.D.old u y).2; omega⟩
        clear B7 k7
        --
        refine TL_alloc TE (hk := ?_); intro b9 w9 e9 h9 h9' k9
        --
        refine TL_storea TE (hk := ?_); intro w10 m10 z10 k10
        replace k10 : Blk w10 b9 35 [.slice A8 x.n c8, .slice B8 x.m d8] := k10
        have z8 := e8.size
        have z9 := e9.size
        have e810 : Ext w8 w10 := Mod.step e9 m10 (by simp; omega)
        have hb9 := hz8 b9 (by omega)
        have Bb10 := Bb8.ext e810
        have k610 := k8.be e810
        have r10 := r8.be e810
        have s10 := s8.be e810
        clear Bb8 k8 r8 s8 k9 m10
        have hyk10 := Bb10.D.yk
        have hyD0 : AD.y ∉ ([] : List Nat) := by simp
        have hb6D0 : b6 ∉ ([] : List Nat) := by simp
        repeat (first | refine T_seq ?_ | refine TL_nil ?_)
        refine T_region_any TE.mixed ([] : List Nat) ?_; intro w11 e11 z11
        have Bb11 := Bb10.ext e11
        have k611 := k610.be e11
        have k911 := k10.be e11
        have r11 := r10.be e11
        have s11 := s10.be e11
        have hyk11 := Bb11.D.yk
        (refine TA_take 0 rfl (by kernel_rfl) (by kernel_rfl) (by kernel_rfl) ?_; (repeat (first | refine TL_move (hk := ?_) | refine TLP_load TE (hk := ?_) | refine TL_fieldAddr TE (hk := ?_) | refine TL_len TE (hk := ?_) | refine TL_nilCheck (hk := ?_))); refine TL_nil_p ?_); (refine TA_take 1 rfl (by kernel_rfl) (by kernel_rfl) (by kernel_rfl) ?_; (repeat (first | refine TL_move (hk := ?_) | refine TLP_load TE (hk := ?_) | refine TL_fieldAddr TE (hk := ?_) | refine TL_len TE (hk := ?_) | refine TL_nilCheck (hk := ?_))); refine TL_nil_p ?_); (refine TA_take 2 rfl (by kernel_rfl) (by kernel_rfl) (by kernel_rfl) ?_; (repeat (first | refine TL_move (hk := ?_) | refine TLP_load TE (hk := ?_) | refine TL_fieldAddr TE (hk := ?_) | refine TL_len TE (hk := ?_) | refine TL_nilCheck (hk := ?_))); refine TL_nil_p ?_); (refine TA_take 3 rfl (by kernel_rfl) (by kernel_rfl) (by kernel_rfl) ?_; (repeat (first | refine TL_move (hk := ?_) | refine TLP_load TE (hk := ?_) | refine TL_fieldAddr TE (hk := ?_) | refine TL_len TE (hk := ?_) | refine TL_nilCheck (hk := ?_))); refine TL_nil_p ?_); (refine TA_take 4 rfl (by kernel_rfl) (by kernel_rfl) (by kernel_rfl) ?_; (repeat (first | refine TL_move (hk := ?_) | refine TLP_load TE (hk := ?_) | refine TL_fieldAddr TE (hk := ?_) | refine TL_len TE (hk := ?_) | refine TL_nilCheck (hk := ?_))); refine TL_nil_p ?_); (refine TA_take 5 rfl (by kernel_rfl) (by kernel_rfl) (by kernel_rfl) ?_; (repeat (first | refine TL_move (hk := ?_) | refine TLP_load TE (hk := ?_) | refine TL_fieldAddr TE (hk := ?_) | refine TL_len TE (hk := ?_) | refine TL_nilCheck (hk := ?_))); refine TL_nil_p ?_); (refine TA_take 6 rfl (by kernel_rfl) (by kernel_rfl) (by kernel_rfl) ?_; (repeat (first | refine TL_move (hk := ?_) | refine TLP_load TE (hk := ?_) | refine TL_fieldAddr TE (hk := ?_) | refine TL_len TE (hk := ?_) | refine TL_nilCheck (hk := ?_))); refine TL_nil_p ?_)
        refine TA_one 7 rfl (by kernel_rfl) (by kernel_rfl) ?_
        refine TL_add_wrap (hk := ?_)
        refine TL_nil_p ?_
        (refine TA_one 8 rfl (by kernel_rfl) (by kernel_rfl) ?_; (repeat (refine TL_assign (hk := ?_))); refine TL_nil_p ?_)
        refine TA_done (by kernel_rfl) ?_
        obtain ⟨q, hq⟩ : ∃ q, IntKind.i64.wrap (((L5.2.1 : Nat) : Int) + x.by_) = q := ⟨_, rfl⟩
        rw [hq]
        clear Bb10 k610 k10 r10 s10 hyk10
        have hD6 : b6 ∉ ownD w11 (oA h5 g5 f5) gd5 := fun hb => by
          rcases ownD_mem hb with y | y
          · exact y hb6
          · exact y hb6g
        have hD9 : b9 ∉ ownD w11 (oA h5 g5 f5) gd5 := fun hb => by
          rcases ownD_mem hb with y | y
          · exact y hb9.1
          · exact y hb9.2
        repeat (refine T_seq ?_)
        refine T_region_any TE.mixed (ownD w11 (oA h5 g5 f5) gd5) ?_; intro w12 e12 z12
        have Bb12 := Bb11.ext e12
        have k612 := k611.be e12
        have k912 := k911.be e12
        have r12 := r11.be e12
        have s12 := s11.be e12
        clear Bb11 k611 k911 r11 s11 hyk11
        have hsr : Short x.r := fun j hj => by have := hxo.sr _ (getD_in (d := []) hj); omega
        have hsk : Short x.k := fun j hj => by have := hxo.sk _ (getD_in (d := []) hj); omega
        have cA := Add_c15 q A8 B8 x.n c8 x.m d8 x.r x.k w12 Bb12.T0.M Bb12.T0.I (by omega) r12.rd s12.rd (by omega) (by omega) hsr hsk
        rw [hp7] at cA
        obtain ⟨R9, ra1, ra2⟩ := add_sr Bb12.T0.R (by omega) q x.r x.k
        have hw9 := win_add s5 q x.r x.k
        (refine TA_take 0 rfl (by kernel_rfl) (by kernel_rfl) (by kernel_rfl) ?_; (repeat (refine TL_move (hk := ?_))); refine TL_nil_p ?_); (refine TA_take 1 rfl (by kernel_rfl) (by kernel_rfl) (by kernel_rfl) ?_; (repeat (refine TL_move (hk := ?_))); refine TL_nil_p ?_)
        refine TA_take 2 rfl (by kernel_rfl) (by kernel_rfl) (by kernel_rfl) ?_
        refine TLP_loadb TE (cs := [.slice A8 x.n c8, .slice B8 x.m d8]) (o := 0) (hb := k912) (hD := hD9) (hk := ?_)
        refine TL_nil_p ?_
        (refine TA_take 5 rfl (by kernel_rfl) (by kernel_rfl) (by kernel_rfl) ?_; (repeat (first | refine TL_move (hk := ?_) | refine TL_fieldAddr TE (hk := ?_))); refine TL_nil_p ?_); (refine TA_take 6 rfl (by kernel_rfl) (by kernel_rfl) (by kernel_rfl) ?_; (repeat (first | refine TL_move (hk := ?_) | refine TL_fieldAddr TE (hk := ?_))); refine TL_nil_p ?_); (refine TA_take 7 rfl (by kernel_rfl) (by kernel_rfl) (by kernel_rfl) ?_; (repeat (first | refine TL_move (hk := ?_) | refine TL_fieldAddr TE (hk := ?_))); refine TL_nil_p ?_)
        refine TA_take 8 rfl (by kernel_rfl) (by kernel_rfl) (by kernel_rfl) ?_
        refine TLP_loadb TE (cs := [.slice x.A x.n x.c, .slice x.B x.m x.d]) (o := 2) (hb := k612) (hD := hD6) (hk := ?_)
        refine TL_nil_p ?_
        refine TA_one 3 rfl (by kernel_rfl) (by kernel_rfl) ?_; (try refine TL_yes (hk := ?_)); refine TL_call TE (hc := cA) (hq := (by rintro _ w' ⟨rfl, m', h', g', f', _, _, _, t', _⟩; exact t'.inD (Mod.refl _ _) (ownD_a z12))) (hk := ?_)
        rintro _ w13 ⟨rfl, m13, h13, g13, f13, hp13, M13, I13, t13, hsm13⟩
        have M1 := t13.inD (Mod.refl _ _) (ownD_a (gd := gd5) z12)
        refine TL_nil_p ?_
        refine TA_one 4 rfl (by kernel_rfl) (by kernel_rfl) ?_; (try refine TL_yes (hk := ?_)); refine TL_call TE (hc := (num_c15 (addE s5 q x.r x.k).2 w13)) (hq := (by rintro _ w' ⟨rfl, e⟩; exact M1.ext e)) (hk := ?_)
        rintro _ w14 ⟨rfl, e14⟩
        have M2 := M1.ext e14
        have D13 := (Bb12.D.tn t13 Bb12.d).1.ext e14
        have E214 : Ext w2 w14 := (t13.ext0 Bb12.T0.e (fun b q => by have := (Bb12.T0.M.oold q).1; omega)).ext e14
        have cR := RAdd_c q x.A x.B x.n x.c x.m x.d x.r x.k w14 D13 Bb12.T0.R Bb12.nf Bb12.kl (by omega) (hxo.ra.be E214) (hxo.rb.be E214) (by omega) (by omega) hsr hsk
        refine TL_nil_p ?_
        refine TA_one 9 rfl (by kernel_rfl) (by kernel_rfl) ?_; (try refine TL_yes (hk := ?_)); refine TL_call TE (hc := cR) (hq := (by rintro _ w' ⟨rfl, x', L', es', g', l', _, _, _, t'⟩; exact t'.inD M2 (ownD_b z12))) (hk := ?_)
        rintro _ w15 ⟨rfl, x15, L15, es15, gd15, l15, D15, kl15, nf15, t15⟩
        have M3 := t15.inD M2 (ownD_b (o := oA h5 g5 f5) z12)
        have B15 := Bb12.step (hp13.trans hp7.symm) hsm13 M13 I13 R9 t13 e14 hw9 D15 kl15 nf15 t15
        obtain ⟨r13, zr13⟩ := r12.tn t13 (fun b hb => (hz8 b (hrA b hb)).1)
        obtain ⟨s13, zs13⟩ := s12.tn t13 (fun b hb => (hz8 b (hrB b hb)).1)
        obtain ⟨r15, zr15⟩ := (r13.be e14).tn t15 (fun b hb => (hz8 b (hrA b hb)).2)
        obtain ⟨s15, zs15⟩ := (s13.be e14).tn t15 (fun b hb => (hz8 b (hrB b hb)).2)
        have k915 := k912.mod M3 hD9
        refine TL_nil_p ?_
        (refine TA_take 10 rfl (by kernel_rfl) (by kernel_rfl) (by kernel_rfl) ?_; (repeat (first | refine TL_ne_f (hk := ?_) | refine TL_move (hk := ?_))); refine TL_nil_p ?_); (refine TA_take 11 rfl (by kernel_rfl) (by kernel_rfl) (by kernel_rfl) ?_; (repeat (first | refine TL_ne_f (hk := ?_) | refine TL_move (hk := ?_))); refine TL_nil_p ?_)
        refine TA_take 12 rfl (by kernel_rfl) (by kernel_rfl) (by kernel_rfl) ?_
        refine TL_yes (hk := ?_)
        refine TLP_loadb TE (cs := [.slice A8 x.n c8, .slice B8 x.m d8]) (o := 0) (hb := k912) (hD := hD9) (hk := ?_)
        refine TL_nil_p ?_
        (refine TA_take 13 rfl (by kernel_rfl) (by kernel_rfl) (by kernel_rfl) ?_; (repeat (first | refine TL_fieldAddr TE (hk := ?_) | refine TL_yes (hk := ?_))); refine TL_nil_p ?_)
        refine TA_take 14 rfl (by kernel_rfl) (by kernel_rfl) (by kernel_rfl) ?_
        refine TL_yes (hk := ?_)
        refine TLP_loadb TE (cs := [.slice x.A x.n x.c, .slice x.B x.m x.d]) (o := 2) (hb := k612) (hD := hD6) (hk := ?_)
        refine TL_nil_p ?_
        refine TA_one 15 rfl (by kernel_rfl) (by kernel_rfl) ?_; (try refine TL_yes (hk := ?_)); refine TL_call TE (hc := (Same_c A8 B8 x.A x.B x.n x.m x.n x.m c8 d8 x.c x.d x.r x.k x.r x.k w15 r15.rd s15.rd (hxo.ra.be B15.T0.e) (hxo.rb.be B15.T0.e) (by omega) (by omega) (by omega) (by omega))) (hq := (by rintro _ w' ⟨rfl, e⟩; exact M3.ext e)) (hk := ?_)
        rintro _ w16 ⟨rfl, e16⟩
        rw [decide_eq_true (⟨rfl, rfl⟩ : x.r = x.r ∧ x.k = x.k)]
        refine TL_nil_p ?_
        (refine TA_one 16 rfl (by kernel_rfl) (by kernel_rfl) ?_; (repeat (first | refine TL_yes (hk := ?_) | refine TL_pick_f (hk := ?_) | refine TL_not (hk := ?_))); refine TL_nil_p ?_); (refine TA_one 17 rfl (by kernel_rfl) (by kernel_rfl) ?_; (repeat (first | refine TL_yes (hk := ?_) | refine TL_pick_f (hk := ?_) | refine TL_not (hk := ?_))); refine TL_nil_p ?_)
        refine TA_done (by kernel_rfl) ?_
        have B16 := B15.ext e16
        have k916 := k915.be e16
        have r16 := r15.be e16
        have s16 := s15.be e16
        have hbw : w7.heap.size ≤ w16.heap.size := by have := M3.size; have := e16.size; have := e12.size; have := e11.size; have := e810.size; omega
        have hw27 := E7.size
        clear cA cR D13 D15 M13 M1 M2 M3 r15 s15 r13 s13 r12 s12 k912 k612 k915 B15 Bb12
        repeat (first | refine T_region ?_ | refine T_cond_false rfl ?_ | refine T_skip ?_)
        refine TL_loadb TE (cs := [.slice A8 x.n c8, .slice B8 x.m d8]) (o := 0) rfl rfl k916 rfl rfl (Nat.succ_pos _) (hk := ?_)
        --
        refine TL_call TE (hc := spoil_c15 A8 B8 x.n c8 x.m d8 w7.heap.size _ _ w16 r16 s16 dis8 hbw (by omega) (by omega)) (hk := ?_)
        rintro _ w17 m17
        have B17 := B16.modz m17 (fun u hu => by
          rcases List.mem_append.1 hu with y | y
          · exact ⟨zr13 u y, zr15 u y, by have := hrA u y; omega⟩
          · exact ⟨zs13 u y, zs15 u y, by have := hrB u y; omega⟩)
        repeat (first | refine T_inBlock ?_ | refine TL_nil ?_)
        exact T.sub (join () w17 ⟨m13, h13, g13, f13, x15, L15, es15, gd15, l15, _, B17⟩) (.c rfl (.c rfl (.c rfl (.c rfl (.c rfl (.n))))))
      by_cases q2 : x.kd = 2
      · have cT := Take_c15 w7 B7.T0.M B7.T0.I
        rw [hp7] at cT
        obtain ⟨R8, hft⟩ := take_sr B7.T0.R
        have hw8 := win_take s5
        repeat (first | refine T_seq ?_ | refine T_region ?_ | refine T_cond_true rfl ?_ | refine T_cond_false rfl ?_ | refine T_block ?_ | refine TL_eq_t (hk := ?_) | refine TL_eq_f (hk := ?_) | refine TL_nil ?_ | refine TL_move (hk := ?_) | refine TL_assign (hk := ?_) | refine TL_load TE (hk := ?_) | refine TL_fieldAddr TE (hk := ?_))
        refine TL_call TE (hc := cT) (hk := ?_)
        rintro _ w8 ⟨hv, m8, hp8, M8, I8, t8, hsm8⟩
        have D8 := (B7.D.tn t8 B7.d).1
        have cT2 := RTake2_c w8 D8 (by omega)
        have I9 := I8.mono (Nat.le_succ i) (by omega)
        have nf8 := nf_ft2 hft B7.nf
        cases hT : (takeS s5).2 with
        | none =>
          rw [hT] at hv cT2
          simp only at hv cT2
          subst hv
          repeat (first | refine T_seq ?_ | refine T_region ?_ | refine TL_nil ?_ | refine TL_move (hk := ?_) | refine TL_assign (hk := ?_) | refine TL_extract (hk := ?_))
          refine TL_call TE (hc := cT2) (hk := ?_)
          rintro _ w9 ⟨rfl, es9, D9, hn9, t9⟩
          have B9 := B7.step (hp8.trans hp7.symm) hsm8 M8 I9 R8 t8 (Mod.refl _ _) hw8 D9 (by rw [hn9]; exact B7.kl) nf8 t9
          repeat (first | refine T_seq ?_ | refine T_region ?_ | refine T_cond_false rfl ?_ | refine T_inBlock ?_ | refine T_skip ?_ | refine TL_ne_f (hk := ?_) | refine TL_bne TE (hk := ?_) | refine TL_nil ?_ | refine TL_move (hk := ?_) | refine TL_assign (hk := ?_) | refine TL_yes (hk := ?_) | refine TL_pick_f (hk := ?_) | refine TL_extract (hk := ?_))
          exact T.sub (join () w9 ⟨_, _, _, _, _, _, _, _, _, _, B9⟩) (.c rfl (.c rfl (.c rfl (.c rfl (.c rfl (.n))))))
        | some r =>
          rw [hT] at hv cT2
          simp only at hv cT2
          subst hv
          repeat (first | refine T_seq ?_ | refine T_region ?_ | refine TL_nil ?_ | refine TL_move (hk := ?_) | refine TL_assign (hk := ?_) | refine TL_extract (hk := ?_))
          refine TL_call TE (hc := cT2) (hk := ?_)
          rintro _ w9 ⟨rfl, es9, D9, hn9, t9⟩
          have B9 := B7.step (hp8.trans hp7.symm) hsm8 M8 I9 R8 t8 (Mod.refl _ _) hw8 D9 (by rw [hn9]; exact B7.kl) nf8 t9
          repeat (first | refine T_seq ?_ | refine T_region ?_ | refine T_cond_false rfl ?_ | refine T_inBlock ?_ | refine T_skip ?_ | refine TL_ne_f (hk := ?_) | refine TL_bne TE (hk := ?_) | refine TL_nil ?_ | refine TL_move (hk := ?_) | refine TL_assign (hk := ?_) | refine TL_yes (hk := ?_) | refine TL_pick_f (hk := ?_) | refine TL_extract (hk := ?_))
          exact T.sub (join () w9 ⟨_, _, _, _, _, _, _, _, _, _, B9⟩) (.c rfl (.c rfl (.c rfl (.c rfl (.c rfl (.n))))))
      by_cases q3 : x.kd = 3
      · obtain ⟨R8, hft⟩ := done_sr B7.T0.R (by omega) x.by_
        have hw8 := win_done s5 x.by_
        have nf8 := nf_ft2 hft B7.nf
        have hD6 : b6 ∉ ownD w7 (oA h5 g5 f5) gd5 := fun hb => by
          rcases ownD_mem hb with y | y
          · exact y hb6
          · exact y hb6g
        repeat (first | refine T_seq ?_ | refine T_region ?_ | refine T_cond_true rfl ?_ | refine T_cond_false rfl ?_ | refine T_block ?_ | refine TL_eq_t (hk := ?_) | refine TL_eq_f (hk := ?_) | refine TL_nil ?_ | refine TL_assign (hk := ?_) | refine TL_load TE (hk := ?_) | refine TL_fieldAddr TE (hk := ?_))
        refine T_region_any TE.mixed (ownD w7 (oA h5 g5 f5) gd5) ?_; intro w8 e8 z8
        have Bb8 := B7.ext e8
        have k8 := k7.be e8
        have cD := Done_c15 x.by_ w8 Bb8.T0.M Bb8.T0.I
        rw [hp7] at cD
        (refine TA_take 0 rfl (by kernel_rfl) (by kernel_rfl) (by kernel_rfl) ?_; (repeat (first | refine TL_move (hk := ?_) | refine TLP_load TE (hk := ?_) | refine TL_fieldAddr TE (hk := ?_))); refine TL_nil_p ?_); (refine TA_take 1 rfl (by kernel_rfl) (by kernel_rfl) (by kernel_rfl) ?_; (repeat (first | refine TL_move (hk := ?_) | refine TLP_load TE (hk := ?_) | refine TL_fieldAddr TE (hk := ?_))); refine TL_nil_p ?_); (refine TA_take 2 rfl (by kernel_rfl) (by kernel_rfl) (by kernel_rfl) ?_; (repeat (first | refine TL_move (hk := ?_) | refine TLP_load TE (hk := ?_) | refine TL_fieldAddr TE (hk := ?_))); refine TL_nil_p ?_); (refine TA_take 5 rfl (by kernel_rfl) (by kernel_rfl) (by kernel_rfl) ?_; (repeat (first | refine TL_move (hk := ?_) | refine TLP_load TE (hk := ?_) | refine TL_fieldAddr TE (hk := ?_))); refine TL_nil_p ?_); (refine TA_take 6 rfl (by kernel_rfl) (by kernel_rfl) (by kernel_rfl) ?_; (repeat (first | refine TL_move (hk := ?_) | refine TLP_load TE (hk := ?_) | refine TL_fieldAddr TE (hk := ?_))); refine TL_nil_p ?_); (refine TA_take 7 rfl (by kernel_rfl) (by kernel_rfl) (by kernel_rfl) ?_; (repeat (first | refine TL_move (hk := ?_) | refine TLP_load TE (hk := ?_) | refine TL_fieldAddr TE (hk := ?_))); refine TL_nil_p ?_)
        refine TA_one 3 rfl (by kernel_rfl) (by kernel_rfl) ?_; (try refine TL_yes (hk := ?_)); refine TL_call TE (hc := cD) (hq := (by rintro _ w' ⟨rfl, m', g', f', _, _, _, t', _⟩; exact t'.inD (Mod.refl _ _) (ownD_a z8))) (hk := ?_)
        rintro _ w9 ⟨rfl, m9, g9, f9, hp9, M9, I9, t9, hsm9⟩
        have M1 := t9.inD (Mod.refl _ _) (ownD_a (gd := gd5) z8)
        refine TL_nil_p ?_
        refine TA_one 4 rfl (by kernel_rfl) (by kernel_rfl) ?_; (try refine TL_yes (hk := ?_)); refine TL_call TE (hc := (num_c15 ((doneE s5 x.by_).2 : Int) w9)) (hq := (by rintro _ w' ⟨rfl, e⟩; exact M1.ext e)) (hk := ?_)
        rintro _ w10 ⟨rfl, e10⟩
        have M2 := M1.ext e10
        have D10 := (Bb8.D.tn t9 Bb8.d).1.ext e10
        have cR := RDone_c x.by_ w10 D10 Bb8.T0.R Bb8.nf Bb8.kl (by omega)
        refine TL_nil_p ?_
        refine TA_one 8 rfl (by kernel_rfl) (by kernel_rfl) ?_; (try refine TL_yes (hk := ?_)); refine TL_call TE (hc := cR) (hq := (by rintro _ w' ⟨rfl, x', es', g', l', _, _, t'⟩; exact t'.inD M2 (ownD_b z8))) (hk := ?_)
        rintro _ w11 ⟨rfl, x11, es11, gd11, l11, D11, kl11, t11⟩
        have B11 := Bb8.step (hp9.trans hp7.symm) hsm9 M9 (I9.mono (Nat.le_succ i) (by omega)) R8 t9 e10 hw8 D11 kl11 nf8 t11
        refine TL_nil_p ?_
        (refine TA_one 9 rfl (by kernel_rfl) (by kernel_rfl) ?_; (repeat (refine TL_ne_f (hk := ?_))); refine TL_nil_p ?_)
        refine TA_done (by kernel_rfl) ?_
        repeat (first | refine T_cond_false rfl ?_ | refine T_inBlock ?_ | refine T_skip ?_)
        exact T.sub (join () w11 ⟨_, _, _, _, _, _, _, _, _, _, B11⟩) (.c rfl (.c rfl (.c rfl (.c rfl (.c rfl (.n))))))
      · repeat (first | refine T_seq ?_ | refine T_region ?_ | refine T_cond_false rfl ?_ | refine T_block ?_ | refine T_inBlock ?_ | refine T_skip ?_ | refine TL_eq_f (hk := ?_) | refine TL_nil ?_ | refine TL_assign (hk := ?_) | refine TL_load TE (hk := ?_) | refine TL_fieldAddr TE (hk := ?_))
        exact T.sub (join () w7 ⟨_, _, _, _, _, _, _, _, _, _, B7.up (Nat.le_succ i) (by omega)⟩) (.c rfl (.c rfl (.c rfl (.c rfl (.c rfl (.n))))))
    clear B7 k7 hen hnb hel hb6 hb6g hp7
    rintro _ w8 ⟨m8, h8, g8, f8, x8, L8, es8, gd8, l8, s8, B8⟩
    have k8 := k2.be B8.T0.e
    repeat (first | refine T_seq ?_ | refine T_region ?_ | refine TL_move (hk := ?_))
    refine TL_call TE (hc := asks_c15 B8 (by omega)) (hk := ?_)
    rintro _ w9 ⟨rfl, e9⟩
    repeat (first | refine T_region ?_ | refine T_cond_false rfl ?_ | refine T_inBlock ?_ | refine T_skip ?_ | refine TL_add (hk := ?_) | refine TL_nil ?_ | refine TL_move (hk := ?_) | refine TL_assign (hk := ?_) | refine TL_not (hk := ?_))
    exact ih (i + 1) w9 _ (by omega) ⟨by omega, m8, h8, g8, f8, x8, L8, es8, gd8, l8, s8, B8.ext e9⟩ (.c rfl (.c rfl (.c rfl (.c rfl (.c rfl (.n))))))
  · clear ih
    have : n = i := by omega
    subst this
    have e5 := B.T0.e
    repeat (first | refine T_seq ?_ | refine T_region ?_ | refine T_cond_false rfl ?_ | refine T_exit rfl ?_ | refine TL_lt_f (hk := ?_) | refine TL_nil ?_ | refine TL_move (hk := ?_) | refine TL_load TE (hk := ?_) | refine TL_fieldAddr TE (hk := ?_) | refine TL_len TE (hk := ?_))
    refine TL_call TE (hc := live_c15 _) (hk := ?_)
    rintro _ w6 ⟨rfl, e6⟩
    repeat (first | refine TL_nil ?_ | refine TL_assign (hk := ?_))
    exact T_ret1 rfl rfl ⟨rfl, (E2.ext e5).ext e6⟩
end Go.Proofs.YtgdbckjkeofoaaaGreat
