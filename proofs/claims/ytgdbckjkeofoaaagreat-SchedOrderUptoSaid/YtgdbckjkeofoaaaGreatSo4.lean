import Derived.Test.YtgdbckjkeofoaaaGreatSo3
/- Parts: SD1 SD2 KLaw3 SKLaw4 SLaw1 SW9 Eng10 Eng29 Eng35 SAct SW10 SLaw2 SFLaw FW14 FW15 SW11 SW12. -/
namespace Go.Proofs.YtgdbckjkeofoaaaGreat
open Go.RowKit Go.Proofs.Eng Go.Proofs.Foot Go.Proofs.Locks Go.Proofs.Sched
set_option linter.unusedSimpArgs false
set_option linter.unusedVariables false set_option maxRecDepth 10000
attribute [local irreducible] T TL LV TH TA
set_option maxHeartbeats 3200000
def itV (k : Tx) : List Value := [.string (ofL k), .int .i64 0, .int .i64 0, .string ⟨#[]⟩]
theorem itV_len (k : Tx) : (itV k).length = 4 := rfl
theorem itV_one : ∀ x, ∀ u ∈ itV x, u.oneCell' = true := by
  intro x u hu
  simp [itV] at hu
  rcases hu with rfl | rfl | rfl <;> rfl
theorem RStNew_c (a r : Int) (w : World) : Ret Tryz.prog 17 [.int .i64 a, .int .i64 r] w (fun v w' => Ext w w' ∧ (((1 ≤ a ∧ a ≤ 64) ∧ 1 ≤ r ∧ r ≤ 4096) ∧ (∃ b, v = .tuple #[pB b, .int .i64 0] ∧ w.heap.size ≤ b ∧ Blk w' b 89 [.int .i64 a, .int .i64 r, sL (none, 0, 0)]) ∨ ¬ ((1 ≤ a ∧ a ≤ 64) ∧ 1 ≤ r ∧ r ≤ 4096) ∧ v = .tuple #[.pointer none, .int .i64 2])) := by
  refine ret_T (n := 24) Tryz.func17 rfl rfl ?_
  by_cases q1 : a < 1
  · repeat (first | refine T_seq ?_ | refine T_region ?_ | refine T_cond_true rfl ?_ | refine TL_lt_t (hk := ?_) | refine TL_nil ?_ | refine TL_move (hk := ?_) | refine TL_assign (hk := ?_) | refine TL_no (hk := ?_) | refine TL_pick_t (hk := ?_))
    exact T_ret2 rfl rfl rfl ⟨Mod.refl _ _, .inr ⟨by omega, rfl⟩⟩
  by_cases q2 : 64 < a
  · repeat (first | refine T_seq ?_ | refine T_region ?_ | refine T_cond_true rfl ?_ | refine TL_lt_f (hk := ?_) | refine TL_gt_t (hk := ?_) | refine TL_nil ?_ | refine TL_move (hk := ?_) | refine TL_assign (hk := ?_) | refine TL_yes (hk := ?_) | refine TL_no (hk := ?_) | refine TL_pick_t (hk := ?_) | refine TL_pick_f (hk := ?_))
    exact T_ret2 rfl rfl rfl ⟨Mod.refl _ _, .inr ⟨by omega, rfl⟩⟩
  by_cases q3 : r < 1
  · repeat (first | refine T_seq ?_ | refine T_region ?_ | refine T_cond_true rfl ?_ | refine TL_lt_t (hk := ?_) | refine TL_lt_f (hk := ?_) | refine TL_gt_f (hk := ?_) | refine TL_nil ?_ | refine TL_move (hk := ?_) | refine TL_assign (hk := ?_) | refine TL_yes (hk := ?_) | refine TL_no (hk := ?_) | refine TL_pick_t (hk := ?_) | refine TL_pick_f (hk := ?_))
    exact T_ret2 rfl rfl rfl ⟨Mod.refl _ _, .inr ⟨by omega, rfl⟩⟩
  by_cases q4 : 4096 < r
  · repeat (first | refine T_seq ?_ | refine T_region ?_ | refine T_cond_true rfl ?_ | refine TL_lt_f (hk := ?_) | refine TL_gt_t (hk := ?_) | refine TL_gt_f (hk := ?_) | refine TL_nil ?_ | refine TL_move (hk := ?_) | refine TL_assign (hk := ?_) | refine TL_yes (hk := ?_) | refine TL_pick_f (hk := ?_))
    exact T_ret2 rfl rfl rfl ⟨Mod.refl _ _, .inr ⟨by omega, rfl⟩⟩
  · repeat (first | refine T_seq ?_ | refine T_region ?_ | refine T_cond_false rfl ?_ | refine T_skip ?_ | refine TL_lt_f (hk := ?_) | refine TL_gt_f (hk := ?_) | refine TL_nil ?_ | refine TL_move (hk := ?_) | refine TL_assign (hk := ?_) | refine TL_yes (hk := ?_) | refine TL_pick_f (hk := ?_) | refine TL_build TE (hk := ?_))
    refine TL_box (hk := ?_); intro b1 w1 e1 h1 h1' k1
    repeat (first | refine TL_nil ?_ | refine TL_assign (hk := ?_))
    exact T_ret2 rfl rfl rfl ⟨e1, .inl ⟨by omega, b1, rfl, h1, k1⟩⟩
theorem at_c15 (b : Nat) (a r : Int) (x : SL) (l : List Tx) (k : Tx) (w : World) (hb : Blk w b 89 [.int .i64 a, .int .i64 r, sL x]) (hr : Rd w x.1 x.2.1 4 (rowV itV l)) (hn : x.2.1 ≤ 1000000) :
    Ret Tryz.prog 64 [pB b, .string (ofL k)] w (fun v w' => ∃ (p : Nat) (t : Bool), v = .tuple #[.int .i64 (p : Int), .bool t] ∧ p ≤ x.2.1 ∧ (x.2.1 = 0 → t = false) ∧ Ext w w') := by
  have hl : l.length = x.2.1 := by have := hr.1; rw [rowV_len itV_len] at this; omega
  have hbD : b ∉ ([] : List Nat) := by simp
  have hxD : Off x.1 ([] : List Nat) := .nil _
  refine ret_T (n := 54) Tryz.func64 rfl rfl ?_
  repeat (first | refine T_seq ?_ | refine T_region ?_ | refine TL_nil ?_ | refine TL_assign (hk := ?_))
  refine T_region_any TE.mixed ([] : List Nat) ?_; intro w1 e1 z1
  have hb1 := hb.be e1
  (refine TA_take 0 rfl (by kernel_rfl) (by kernel_rfl) (by kernel_rfl) ?_; (repeat (first | refine TL_move (hk := ?_) | refine TL_assign (hk := ?_) | refine TLP_load TE (hk := ?_) | refine TL_fieldAddr TE (hk := ?_) | refine TL_len TE (hk := ?_) | refine TL_nilCheck (hk := ?_))); refine TL_nil_p ?_); (refine TA_take 1 rfl (by kernel_rfl) (by kernel_rfl) (by kernel_rfl) ?_; (repeat (first | refine TL_move (hk := ?_) | refine TL_assign (hk := ?_) | refine TLP_load TE (hk := ?_) | refine TL_fieldAddr TE (hk := ?_) | refine TL_len TE (hk := ?_) | refine TL_nilCheck (hk := ?_))); refine TL_nil_p ?_); (refine TA_take 2 rfl (by kernel_rfl) (by kernel_rfl) (by kernel_rfl) ?_; (repeat (first | refine TL_move (hk := ?_) | refine TL_assign (hk := ?_) | refine TLP_load TE (hk := ?_) | refine TL_fieldAddr TE (hk := ?_) | refine TL_len TE (hk := ?_) | refine TL_nilCheck (hk := ?_))); refine TL_nil_p ?_); (refine TA_take 3 rfl (by kernel_rfl) (by kernel_rfl) (by kernel_rfl) ?_; (repeat (first | refine TL_move (hk := ?_) | refine TL_assign (hk := ?_) | refine TLP_load TE (hk := ?_) | refine TL_fieldAddr TE (hk := ?_) | refine TL_len TE (hk := ?_) | refine TL_nilCheck (hk := ?_))); refine TL_nil_p ?_); (refine TA_take 4 rfl (by kernel_rfl) (by kernel_rfl) (by kernel_rfl) ?_; (repeat (first | refine TL_move (hk := ?_) | refine TL_assign (hk := ?_) | refine TLP_load TE (hk := ?_) | refine TL_fieldAddr TE (hk := ?_) | refine TL_len TE (hk := ?_) | refine TL_nilCheck (hk := ?_))); refine TL_nil_p ?_); (refine TA_take 5 rfl (by kernel_rfl) (by kernel_rfl) (by kernel_rfl) ?_; (repeat (first | refine TL_move (hk := ?_) | refine TL_assign (hk := ?_) | refine TLP_load TE (hk := ?_) | refine TL_fieldAddr TE (hk := ?_) | refine TL_len TE (hk := ?_) | refine TL_nilCheck (hk := ?_))); refine TL_nil_p ?_)
  (refine TA_one 6 rfl (by kernel_rfl) (by kernel_rfl) ?_; (repeat (refine TL_assign (hk := ?_))); refine TL_nil_p ?_)
  refine TA_done (by kernel_rfl) ?_
  repeat (first | refine T_seq ?_ | refine T_block ?_)
  refine T_loop (ι := Nat × Nat) (fun i => [(6, .int .i64 (i.1 : Int)), (7, .int .i64 (i.2 : Int)), (0, pB b), (1, .string (ofL k))]) (fun i w' => Ext w w' ∧ i.1 ≤ i.2 ∧ i.2 ≤ x.2.1) (fun i => i.2 - i.1) (0, x.2.1) (.c rfl (.c rfl (.c rfl (.c rfl (.n))))) ⟨e1, Nat.zero_le _, Nat.le_refl _⟩ ?_
  rintro ⟨lo, hi⟩ w2 ⟨e2, h1, h2⟩ ih
  simp only at h1 h2 ih ⊢
  have hb2 := hb.be e2
  have hr2 := hr.be e2
  clear hb1
  by_cases hlt : lo < hi
  · have hA : x.1 ≠ none := by obtain ⟨_, _, hq, _⟩ := hr2.2 (by omega); rw [hq]; simp
    have hmc : ((lo : Int) + (hi : Int)) / 2 = (((lo + hi) / 2 : Nat) : Int) := by omega
    obtain ⟨mid, hmid⟩ : ∃ mid, (lo + hi) / 2 = mid := ⟨_, rfl⟩
    rw [hmid] at hmc
    have hm1 : lo ≤ mid ∧ mid < hi := by omega
    have hv : (rowV itV l)[mid * 4 + 0]? = some (.string (ofL (l.getD mid []))) := rowV_at itV_len l mid 0 [] (by omega) (by omega)
    obtain ⟨y, hy⟩ : ∃ y, l.getD mid [] = y := ⟨_, rfl⟩
    rw [hy] at hv
    by_cases hc : y < k
    · repeat (first | refine T_seq ?_ | refine T_region ?_ | refine T_cond_true rfl ?_ | refine T_block ?_ | refine T_skip ?_ | refine TL_add (hk := ?_) | refine TL_quo (hk := ?_) | refine TL_lt_t (hk := ?_) | refine TL_nil ?_ | refine TL_move (hk := ?_) | refine TL_assign (hk := ?_) | refine TL_load TE (hk := ?_) | refine TL_fieldAddr TE (hk := ?_) | refine TL_fieldAddr_e TE (hk := ?_) | refine TL_indexAddr TE (hk := ?_) | refine TL_nilCheck (hk := ?_))
      rw [hmc]
      repeat (first | refine T_region ?_ | refine T_cond_true rfl ?_ | refine T_inBlock ?_ | refine TL_add (hk := ?_) | refine TL_slt_t (hk := ?_) | refine TL_nil ?_ | refine TL_move (hk := ?_) | refine TL_assign (hk := ?_) | refine TL_load_rd TE (hk := ?_))
      exact ih (mid + 1, hi) _ _ (by simp only; omega) ⟨e2, by simp only; omega, h2⟩ (.c rfl (.c rfl (.c rfl (.c rfl (.n)))))
    · repeat (first | refine T_seq ?_ | refine T_region ?_ | refine T_cond_true rfl ?_ | refine T_block ?_ | refine T_skip ?_ | refine TL_add (hk := ?_) | refine TL_quo (hk := ?_) | refine TL_lt_t (hk := ?_) | refine TL_nil ?_ | refine TL_move (hk := ?_) | refine TL_assign (hk := ?_) | refine TL_load TE (hk := ?_) | refine TL_fieldAddr TE (hk := ?_) | refine TL_fieldAddr_e TE (hk := ?_) | refine TL_indexAddr TE (hk := ?_) | refine TL_nilCheck (hk := ?_))
      rw [hmc]
      repeat (first | refine T_region ?_ | refine T_cond_false rfl ?_ | refine T_inBlock ?_ | refine TL_slt_f (hk := ?_) | refine TL_nil ?_ | refine TL_move (hk := ?_) | refine TL_assign (hk := ?_) | refine TL_load_rd TE (hk := ?_))
      exact ih (lo, mid) _ _ (by simp only; omega) ⟨e2, by simp only; omega, by simp only; omega⟩ (.c rfl (.c rfl (.c rfl (.c rfl (.n)))))
  · clear ih
    have he : lo = hi := by omega
    subst he
    by_cases hln : lo < x.2.1
    · have hA : x.1 ≠ none := by obtain ⟨_, _, hq, _⟩ := hr2.2 (by omega); rw [hq]; simp
      have hv : (rowV itV l)[lo * 4 + 0]? = some (.string (ofL (l.getD lo []))) := rowV_at itV_len l lo 0 [] (by omega) (by omega)
      obtain ⟨y, hy⟩ : ∃ y, l.getD lo [] = y := ⟨_, rfl⟩
      rw [hy] at hv
      by_cases hc : y = k
      · have hc' : ofL y = ofL k := by rw [hc]
        repeat (first | refine T_seq ?_ | refine T_region ?_ | refine T_cond_false rfl ?_ | refine T_exit rfl ?_ | refine TL_lt_f (hk := ?_) | refine TL_nil ?_ | refine TL_move (hk := ?_))
        refine T_region_any TE.mixed ([] : List Nat) ?_; intro w3 e3 z3
        have hb3 := hb2.be e3
        have hr3 := hr2.be e3
        (refine TA_take 0 rfl (by kernel_rfl) (by kernel_rfl) (by kernel_rfl) ?_; (repeat (first | refine TL_lt_t (hk := ?_) | refine TL_seq_t (hk := ?_) | refine TL_move (hk := ?_) | refine TL_assign (hk := ?_) | refine TLP_load TE (hk := ?_) | refine TLP_load_rd TE (hk := ?_) | refine TL_fieldAddr TE (hk := ?_) | refine TL_fieldAddr_e TE (hk := ?_) | refine TL_indexAddrn TE (hk := ?_) | refine TL_len TE (hk := ?_) | refine TL_yes (hk := ?_) | refine TL_pick_t (hk := ?_) | refine TL_nilCheck (hk := ?_))); refine TL_nil_p ?_); (refine TA_take 1 rfl (by kernel_rfl) (by kernel_rfl) (by kernel_rfl) ?_; (repeat (first | refine TL_lt_t (hk := ?_) | refine TL_seq_t (hk := ?_) | refine TL_move (hk := ?_) | refine TL_assign (hk := ?_) | refine TLP_load TE (hk := ?_) | refine TLP_load_rd TE (hk := ?_) | refine TL_fieldAddr TE (hk := ?_) | refine TL_fieldAddr_e TE (hk := ?_) | refine TL_indexAddrn TE (hk := ?_) | refine TL_len TE (hk := ?_) | refine TL_yes (hk := ?_) | refine TL_pick_t (hk := ?_) | refine TL_nilCheck (hk := ?_))); refine TL_nil_p ?_); (refine TA_take 2 rfl (by kernel_rfl) (by kernel_rfl) (by kernel_rfl) ?_; (repeat (first | refine TL_lt_t (hk := ?_) | refine TL_seq_t (hk := ?_) | refine TL_move (hk := ?_) | refine TL_assign (hk := ?_) | refine TLP_load TE (hk := ?_) | refine TLP_load_rd TE (hk := ?_) | refine TL_fieldAddr TE (hk := ?_) | refine TL_fieldAddr_e TE (hk := ?_) | refine TL_indexAddrn TE (hk := ?_) | refine TL_len TE (hk := ?_) | refine TL_yes (hk := ?_) | refine TL_pick_t (hk := ?_) | refine TL_nilCheck (hk := ?_))); refine TL_nil_p ?_); (refine TA_take 3 rfl (by kernel_rfl) (by kernel_rfl) (by kernel_rfl) ?_; (repeat (first | refine TL_lt_t (hk := ?_) | refine TL_seq_t (hk := ?_) | refine TL_move (hk := ?_) | refine TL_assign (hk := ?_) | refine TLP_load TE (hk := ?_) | refine TLP_load_rd TE (hk := ?_) | refine TL_fieldAddr TE (hk := ?_) | refine TL_fieldAddr_e TE (hk := ?_) | refine TL_indexAddrn TE (hk := ?_) | refine TL_len TE (hk := ?_) | refine TL_yes (hk := ?_) | refine TL_pick_t (hk := ?_) | refine TL_nilCheck (hk := ?_))); refine TL_nil_p ?_); (refine TA_take 4 rfl (by kernel_rfl) (by kernel_rfl) (by kernel_rfl) ?_; (repeat (first | refine TL_lt_t (hk := ?_) | refine TL_seq_t (hk := ?_) | refine TL_move (hk := ?_) | refine TL_assign (hk := ?_) | refine TLP_load TE (hk := ?_) | refine TLP_load_rd TE (hk := ?_) | refine TL_fieldAddr TE (hk := ?_) | refine TL_fieldAddr_e TE (hk := ?_) | refine TL_indexAddrn TE (hk := ?_) | refine TL_len TE (hk := ?_) | refine TL_yes (hk := ?_) | refine TL_pick_t (hk := ?_) | refine TL_nilCheck (hk := ?_))); refine TL_nil_p ?_); (refine TA_take 5 rfl (by kernel_rfl) (by kernel_rfl) (by kernel_rfl) ?_; (repeat (first | refine TL_lt_t (hk := ?_) | refine TL_seq_t (hk := ?_) | refine TL_move (hk := ?_) | refine TL_assign (hk := ?_) | refine TLP_load TE (hk := ?_) | refine TLP_load_rd TE (hk := ?_) | refine TL_fieldAddr TE (hk := ?_) | refine TL_fieldAddr_e TE (hk := ?_) | refine TL_indexAddrn TE (hk := ?_) | refine TL_len TE (hk := ?_) | refine TL_yes (hk := ?_) | refine TL_pick_t (hk := ?_) | refine TL_nilCheck (hk := ?_))); refine TL_nil_p ?_); (refine TA_take 6 rfl (by kernel_rfl) (by kernel_rfl) (by kernel_rfl) ?_; (repeat (first | refine TL_lt_t (hk := ?_) | refine TL_seq_t (hk := ?_) | refine TL_move (hk := ?_) | refine TL_assign (hk := ?_) | refine TLP_load TE (hk := ?_) | refine TLP_load_rd TE (hk := ?_) | refine TL_fieldAddr TE (hk := ?_) | refine TL_fieldAddr_e TE (hk := ?_) | refine TL_indexAddrn TE (hk := ?_) | refine TL_len TE (hk := ?_) | refine TL_yes (hk := ?_) | refine TL_pick_t (hk := ?_) | refine TL_nilCheck (hk := ?_))); refine TL_nil_p ?_); (refine TA_take 7 rfl (by kernel_rfl) (by kernel_rfl) (by kernel_rfl) ?_; (repeat (first | refine TL_lt_t (hk := ?_) | refine TL_seq_t (hk := ?_) | refine TL_move (hk := ?_) | refine TL_assign (hk := ?_) | refine TLP_load TE (hk := ?_) | refine TLP_load_rd TE (hk := ?_) | refine TL_fieldAddr TE (hk := ?_) | refine TL_fieldAddr_e TE (hk := ?_) | refine TL_indexAddrn TE (hk := ?_) | refine TL_len TE (hk := ?_) | refine TL_yes (hk := ?_) | refine TL_pick_t (hk := ?_) | refine TL_nilCheck (hk := ?_))); refine TL_nil_p ?_); (refine TA_take 8 rfl (by kernel_rfl) (by kernel_rfl) (by kernel_rfl) ?_; (repeat (first | refine TL_lt_t (hk := ?_) | refine TL_seq_t (hk := ?_) | refine TL_move (hk := ?_) | refine TL_assign (hk := ?_) | refine TLP_load TE (hk := ?_) | refine TLP_load_rd TE (hk := ?_) | refine TL_fieldAddr TE (hk := ?_) | refine TL_fieldAddr_e TE (hk := ?_) | refine TL_indexAddrn TE (hk := ?_) | refine TL_len TE (hk := ?_) | refine TL_yes (hk := ?_) | refine TL_pick_t (hk := ?_) | refine TL_nilCheck (hk := ?_))); refine TL_nil_p ?_); (refine TA_take 9 rfl (by kernel_rfl) (by kernel_rfl) (by kernel_rfl) ?_; (repeat (first | refine TL_lt_t (hk := ?_) | refine TL_seq_t (hk := ?_) | refine TL_move (hk := ?_) | refine TL_assign (hk := ?_) | refine TLP_load TE (hk := ?_) | refine TLP_load_rd TE (hk := ?_) | refine TL_fieldAddr TE (hk := ?_) | refine TL_fieldAddr_e TE (hk := ?_) | refine TL_indexAddrn TE (hk := ?_) | refine TL_len TE (hk := ?_) | refine TL_yes (hk := ?_) | refine TL_pick_t (hk := ?_) | refine TL_nilCheck (hk := ?_))); refine TL_nil_p ?_); (refine TA_take 10 rfl (by kernel_rfl) (by kernel_rfl) (by kernel_rfl) ?_; (repeat (first | refine TL_lt_t (hk := ?_) | refine TL_seq_t (hk := ?_) | refine TL_move (hk := ?_) | refine TL_assign (hk := ?_) | refine TLP_load TE (hk := ?_) | refine TLP_load_rd TE (hk := ?_) | refine TL_fieldAddr TE (hk := ?_) | refine TL_fieldAddr_e TE (hk := ?_) | refine TL_indexAddrn TE (hk := ?_) | refine TL_len TE (hk := ?_) | refine TL_yes (hk := ?_) | refine TL_pick_t (hk := ?_) | refine TL_nilCheck (hk := ?_))); refine TL_nil_p ?_); (refine TA_take 11 rfl (by kernel_rfl) (by kernel_rfl) (by kernel_rfl) ?_; (repeat (first | refine TL_lt_t (hk := ?_) | refine TL_seq_t (hk := ?_) | refine TL_move (hk := ?_) | refine TL_assign (hk := ?_) | refine TLP_load TE (hk := ?_) | refine TLP_load_rd TE (hk := ?_) | refine TL_fieldAddr TE (hk := ?_) | refine TL_fieldAddr_e TE (hk := ?_) | refine TL_indexAddrn TE (hk := ?_) | refine TL_len TE (hk := ?_) | refine TL_yes (hk := ?_) | refine TL_pick_t (hk := ?_) | refine TL_nilCheck (hk := ?_))); refine TL_nil_p ?_); (refine TA_take 12 rfl (by kernel_rfl) (by kernel_rfl) (by kernel_rfl) ?_; (repeat (first | refine TL_lt_t (hk := ?_) | refine TL_seq_t (hk := ?_) | refine TL_move (hk := ?_) | refine TL_assign (hk := ?_) | refine TLP_load TE (hk := ?_) | refine TLP_load_rd TE (hk := ?_) | refine TL_fieldAddr TE (hk := ?_) | refine TL_fieldAddr_e TE (hk := ?_) | refine TL_indexAddrn TE (hk := ?_) | refine TL_len TE (hk := ?_) | refine TL_yes (hk := ?_) | refine TL_pick_t (hk := ?_) | refine TL_nilCheck (hk := ?_))); refine TL_nil_p ?_); (refine TA_take 13 rfl (by kernel_rfl) (by kernel_rfl) (by kernel_rfl) ?_; (repeat (first | refine TL_lt_t (hk := ?_) | refine TL_seq_t (hk := ?_) | refine TL_move (hk := ?_) | refine TL_assign (hk := ?_) | refine TLP_load TE (hk := ?_) | refine TLP_load_rd TE (hk := ?_) | refine TL_fieldAddr TE (hk := ?_) | refine TL_fieldAddr_e TE (hk := ?_) | refine TL_indexAddrn TE (hk := ?_) | refine TL_len TE (hk := ?_) | refine TL_yes (hk := ?_) | refine TL_pick_t (hk := ?_) | refine TL_nilCheck (hk := ?_))); refine TL_nil_p ?_); (refine TA_take 14 rfl (by kernel_rfl) (by kernel_rfl) (by kernel_rfl) ?_; (repeat (first | refine TL_lt_t (hk := ?_) | refine TL_seq_t (hk := ?_) | refine TL_move (hk := ?_) | refine TL_assign (hk := ?_) | refine TLP_load TE (hk := ?_) | refine TLP_load_rd TE (hk := ?_) | refine TL_fieldAddr TE (hk := ?_) | refine TL_fieldAddr_e TE (hk := ?_) | refine TL_indexAddrn TE (hk := ?_) | refine TL_len TE (hk := ?_) | refine TL_yes (hk := ?_) | refine TL_pick_t (hk := ?_) | refine TL_nilCheck (hk := ?_))); refine TL_nil_p ?_); (refine TA_take 15 rfl (by kernel_rfl) (by kernel_rfl) (by kernel_rfl) ?_; (repeat (first | refine TL_lt_t (hk := ?_) | refine TL_seq_t (hk := ?_) | refine TL_move (hk := ?_) | refine TL_assign (hk := ?_) | refine TLP_load TE (hk := ?_) | refine TLP_load_rd TE (hk := ?_) | refine TL_fieldAddr TE (hk := ?_) | refine TL_fieldAddr_e TE (hk := ?_) | refine TL_indexAddrn TE (hk := ?_) | refine TL_len TE (hk := ?_) | refine TL_yes (hk := ?_) | refine TL_pick_t (hk := ?_) | refine TL_nilCheck (hk := ?_))); refine TL_nil_p ?_); (refine TA_take 16 rfl (by kernel_rfl) (by kernel_rfl) (by kernel_rfl) ?_; (repeat (first | refine TL_lt_t (hk := ?_) | refine TL_seq_t (hk := ?_) | refine TL_move (hk := ?_) | refine TL_assign (hk := ?_) | refine TLP_load TE (hk := ?_) | refine TLP_load_rd TE (hk := ?_) | refine TL_fieldAddr TE (hk := ?_) | refine TL_fieldAddr_e TE (hk := ?_) | refine TL_indexAddrn TE (hk := ?_) | refine TL_len TE (hk := ?_) | refine TL_yes (hk := ?_) | refine TL_pick_t (hk := ?_) | refine TL_nilCheck (hk := ?_))); refine TL_nil_p ?_); (refine TA_take 17 rfl (by kernel_rfl) (by kernel_rfl) (by kernel_rfl) ?_; (repeat (first | refine TL_lt_t (hk := ?_) | refine TL_seq_t (hk := ?_) | refine TL_move (hk := ?_) | refine TL_assign (hk := ?_) | refine TLP_load TE (hk := ?_) | refine TLP_load_rd TE (hk := ?_) | refine TL_fieldAddr TE (hk := ?_) | refine TL_fieldAddr_e TE (hk := ?_) | refine TL_indexAddrn TE (hk := ?_) | refine TL_len TE (hk := ?_) | refine TL_yes (hk := ?_) | refine TL_pick_t (hk := ?_) | refine TL_nilCheck (hk := ?_))); refine TL_nil_p ?_); (refine TA_take 18 rfl (by kernel_rfl) (by kernel_rfl) (by kernel_rfl) ?_; (repeat (first | refine TL_lt_t (hk := ?_) | refine TL_seq_t (hk := ?_) | refine TL_move (hk := ?_) | refine TL_assign (hk := ?_) | refine TLP_load TE (hk := ?_) | refine TLP_load_rd TE (hk := ?_) | refine TL_fieldAddr TE (hk := ?_) | refine TL_fieldAddr_e TE (hk := ?_) | refine TL_indexAddrn TE (hk := ?_) | refine TL_len TE (hk := ?_) | refine TL_yes (hk := ?_) | refine TL_pick_t (hk := ?_) | refine TL_nilCheck (hk := ?_))); refine TL_nil_p ?_); (refine TA_take 19 rfl (by kernel_rfl) (by kernel_rfl) (by kernel_rfl) ?_; (repeat (first | refine TL_lt_t (hk := ?_) | refine TL_seq_t (hk := ?_) | refine TL_move (hk := ?_) | refine TL_assign (hk := ?_) | refine TLP_load TE (hk := ?_) | refine TLP_load_rd TE (hk := ?_) | refine TL_fieldAddr TE (hk := ?_) | refine TL_fieldAddr_e TE (hk := ?_) | refine TL_indexAddrn TE (hk := ?_) | refine TL_len TE (hk := ?_) | refine TL_yes (hk := ?_) | refine TL_pick_t (hk := ?_) | refine TL_nilCheck (hk := ?_))); refine TL_nil_p ?_); (refine TA_take 20 rfl (by kernel_rfl) (by kernel_rfl) (by kernel_rfl) ?_; (repeat (first | refine TL_lt_t (hk := ?_) | refine TL_seq_t (hk := ?_) | refine TL_move (hk := ?_) | refine TL_assign (hk := ?_) | refine TLP_load TE (hk := ?_) | refine TLP_load_rd TE (hk := ?_) | refine TL_fieldAddr TE (hk := ?_) | refine TL_fieldAddr_e TE (hk := ?_) | refine TL_indexAddrn TE (hk := ?_) | refine TL_len TE (hk := ?_) | refine TL_yes (hk := ?_) | refine TL_pick_t (hk := ?_) | refine TL_nilCheck (hk := ?_))); refine TL_nil_p ?_)
        (refine TA_one 21 rfl (by kernel_rfl) (by kernel_rfl) ?_; (repeat (refine TL_assign (hk := ?_))); refine TL_nil_p ?_)
        refine TA_done (by kernel_rfl) ?_
        --
        exact T_ret2 rfl rfl rfl ⟨lo, true, rfl, h2, fun q => by omega, e2.ext e3⟩
      · have hc' : ¬ ofL y = ofL k := fun h => hc (ofL_inj h)
        repeat (first | refine T_seq ?_ | refine T_region ?_ | refine T_cond_false rfl ?_ | refine T_exit rfl ?_ | refine TL_lt_f (hk := ?_) | refine TL_nil ?_ | refine TL_move (hk := ?_))
        refine T_region_any TE.mixed ([] : List Nat) ?_; intro w3 e3 z3
        have hb3 := hb2.be e3
        have hr3 := hr2.be e3
        (refine TA_take 0 rfl (by kernel_rfl) (by kernel_rfl) (by kernel_rfl) ?_; (repeat (first | refine TL_lt_t (hk := ?_) | refine TL_seq_f (hk := ?_) | refine TL_move (hk := ?_) | refine TL_assign (hk := ?_) | refine TLP_load TE (hk := ?_) | refine TLP_load_rd TE (hk := ?_) | refine TL_fieldAddr TE (hk := ?_) | refine TL_fieldAddr_e TE (hk := ?_) | refine TL_indexAddrn TE (hk := ?_) | refine TL_len TE (hk := ?_) | refine TL_yes (hk := ?_) | refine TL_pick_t (hk := ?_) | refine TL_nilCheck (hk := ?_))); refine TL_nil_p ?_); (refine TA_take 1 rfl (by kernel_rfl) (by kernel_rfl) (by kernel_rfl) ?_; (repeat (first | refine TL_lt_t (hk := ?_) | refine TL_seq_f (hk := ?_) | refine TL_move (hk := ?_) | refine TL_assign (hk := ?_) | refine TLP_load TE (hk := ?_) | refine TLP_load_rd TE (hk := ?_) | refine TL_fieldAddr TE (hk := ?_) | refine TL_fieldAddr_e TE (hk := ?_) | refine TL_indexAddrn TE (hk := ?_) | refine TL_len TE (hk := ?_) | refine TL_yes (hk := ?_) | refine TL_pick_t (hk := ?_) | refine TL_nilCheck (hk := ?_))); refine TL_nil_p ?_); (refine TA_take 2 rfl (by kernel_rfl) (by kernel_rfl) (by kernel_rfl) ?_; (repeat (first | refine TL_lt_t (hk := ?_) | refine TL_seq_f (hk := ?_) | refine TL_move (hk := ?_) | refine TL_assign (hk := ?_) | refine TLP_load TE (hk := ?_) | refine TLP_load_rd TE (hk := ?_) | refine TL_fieldAddr TE (hk := ?_) | refine TL_fieldAddr_e TE (hk := ?_) | refine TL_indexAddrn TE (hk := ?_) | refine TL_len TE (hk := ?_) | refine TL_yes (hk := ?_) | refine TL_pick_t (hk := ?_) | refine TL_nilCheck (hk := ?_))); refine TL_nil_p ?_); (refine TA_take 3 rfl (by kernel_rfl) (by kernel_rfl) (by kernel_rfl) ?_; (repeat (first | refine TL_lt_t (hk := ?_) | refine TL_seq_f (hk := ?_) | refine TL_move (hk := ?_) | refine TL_assign (hk := ?_) | refine TLP_load TE (hk := ?_) | refine TLP_load_rd TE (hk := ?_) | refine TL_fieldAddr TE (hk := ?_) | refine TL_fieldAddr_e TE (hk := ?_) | refine TL_indexAddrn TE (hk := ?_) | refine TL_len TE (hk := ?_) | refine TL_yes (hk := ?_) | refine TL_pick_t (hk := ?_) | refine TL_nilCheck (hk := ?_))); refine TL_nil_p ?_); (refine TA_take 4 rfl (by kernel_rfl) (by kernel_rfl) (by kernel_rfl) ?_; (repeat (first | refine TL_lt_t (hk := ?_) | refine TL_seq_f (hk := ?_) | refine TL_move (hk := ?_) | refine TL_assign (hk := ?_) | refine TLP_load TE (hk := ?_) | refine TLP_load_rd TE (hk := ?_) | refine TL_fieldAddr TE (hk := ?_) | refine TL_fieldAddr_e TE (hk := ?_) | refine TL_indexAddrn TE (hk := ?_) | refine TL_len TE (hk := ?_) | refine TL_yes (hk := ?_) | refine TL_pick_t (hk := ?_) | refine TL_nilCheck (hk := ?_))); refine TL_nil_p ?_); (refine TA_take 5 rfl (by kernel_rfl) (by kernel_rfl) (by kernel_rfl) ?_; (repeat (first | refine TL_lt_t (hk := ?_) | refine TL_seq_f (hk := ?_) | refine TL_move (hk := ?_) | refine TL_assign (hk := ?_) | refine TLP_load TE (hk := ?_) | refine TLP_load_rd TE (hk := ?_) | refine TL_fieldAddr TE (hk := ?_) | refine TL_fieldAddr_e TE (hk := ?_) | refine TL_indexAddrn TE (hk := ?_) | refine TL_len TE (hk := ?_) | refine TL_yes (hk := ?_) | refine TL_pick_t (hk := ?_) | refine TL_nilCheck (hk := ?_))); refine TL_nil_p ?_); (refine TA_take 6 rfl (by kernel_rfl) (by kernel_rfl) (by kernel_rfl) ?_; (repeat (first | refine TL_lt_t (hk := ?_) | refine TL_seq_f (hk := ?_) | refine TL_move (hk := ?_) | refine TL_assign (hk := ?_) | refine TLP_load TE (hk := ?_) | refine TLP_load_rd TE (hk := ?_) | refine TL_fieldAddr TE (hk := ?_) | refine TL_fieldAddr_e TE (hk := ?_) | refine TL_indexAddrn TE (hk := ?_) | refine TL_len TE (hk := ?_) | refine TL_yes (hk := ?_) | refine TL_pick_t (hk := ?_) | refine TL_nilCheck (hk := ?_))); refine TL_nil_p ?_); (refine TA_take 7 rfl (by kernel_rfl) (by kernel_rfl) (by kernel_rfl) ?_; (repeat (first | refine TL_lt_t (hk := ?_) | refine TL_seq_f (hk := ?_) | refine TL_move (hk := ?_) | refine TL_assign (hk := ?_) | refine TLP_load TE (hk := ?_) | refine TLP_load_rd TE (hk := ?_) | refine TL_fieldAddr TE (hk := ?_) | refine TL_fieldAddr_e TE (hk := ?_) | refine TL_indexAddrn TE (hk := ?_) | refine TL_len TE (hk := ?_) | refine TL_yes (hk := ?_) | refine TL_pick_t (hk := ?_) | refine TL_nilCheck (hk := ?_))); refine TL_nil_p ?_); (refine TA_take 8 rfl (by kernel_rfl) (by kernel_rfl) (by kernel_rfl) ?_; (repeat (first | refine TL_lt_t (hk := ?_) | refine TL_seq_f (hk := ?_) | refine TL_move (hk := ?_) | refine TL_assign (hk := ?_) | refine TLP_load TE (hk := ?_) | refine TLP_load_rd TE (hk := ?_) | refine TL_fieldAddr TE (hk := ?_) | refine TL_fieldAddr_e TE (hk := ?_) | refine TL_indexAddrn TE (hk := ?_) | refine TL_len TE (hk := ?_) | refine TL_yes (hk := ?_) | refine TL_pick_t (hk := ?_) | refine TL_nilCheck (hk := ?_))); refine TL_nil_p ?_); (refine TA_take 9 rfl (by kernel_rfl) (by kernel_rfl) (by kernel_rfl) ?_; (repeat (first | refine TL_lt_t (hk := ?_) | refine TL_seq_f (hk := ?_) | refine TL_move (hk := ?_) | refine TL_assign (hk := ?_) | refine TLP_load TE (hk := ?_) | refine TLP_load_rd TE (hk := ?_) | refine TL_fieldAddr TE (hk := ?_) | refine TL_fieldAddr_e TE (hk := ?_) | refine TL_indexAddrn TE (hk := ?_) | refine TL_len TE (hk := ?_) | refine TL_yes (hk := ?_) | refine TL_pick_t (hk := ?_) | refine TL_nilCheck (hk := ?_))); refine TL_nil_p ?_); (refine TA_take 10 rfl (by kernel_rfl) (by kernel_rfl) (by kernel_rfl) ?_; (repeat (first | refine TL_lt_t (hk := ?_) | refine TL_seq_f (hk := ?_) | refine TL_move (hk := ?_) | refine TL_assign (hk := ?_) | refine TLP_load TE (hk := ?_) | refine TLP_load_rd TE (hk := ?_) | refine TL_fieldAddr TE (hk := ?_) | refine TL_fieldAddr_e TE (hk := ?_) | refine TL_indexAddrn TE (hk := ?_) | refine TL_len TE (hk := ?_) | refine TL_yes (hk := ?_) | refine TL_pick_t (hk := ?_) | refine TL_nilCheck (hk := ?_))); refine TL_nil_p ?_); (refine TA_take 11 rfl (by kernel_rfl) (by kernel_rfl) (by kernel_rfl) ?_; (repeat (first | refine TL_lt_t (hk := ?_) | refine TL_seq_f (hk := ?_) | refine TL_move (hk := ?_) | refine TL_assign (hk := ?_) | refine TLP_load TE (hk := ?_) | refine TLP_load_rd TE (hk := ?_) | refine TL_fieldAddr TE (hk := ?_) | refine TL_fieldAddr_e TE (hk := ?_) | refine TL_indexAddrn TE (hk := ?_) | refine TL_len TE (hk := ?_) | refine TL_yes (hk := ?_) | refine TL_pick_t (hk := ?_) | refine TL_nilCheck (hk := ?_))); refine TL_nil_p ?_); (refine TA_take 12 rfl (by kernel_rfl) (by kernel_rfl) (by kernel_rfl) ?_; (repeat (first | refine TL_lt_t (hk := ?_) | refine TL_seq_f (hk := ?_) | refine TL_move (hk := ?_) | refine TL_assign (hk := ?_) | refine TLP_load TE (hk := ?_) | refine TLP_load_rd TE (hk := ?_) | refine TL_fieldAddr TE (hk := ?_) | refine TL_fieldAddr_e TE (hk := ?_) | refine TL_indexAddrn TE (hk := ?_) | refine TL_len TE (hk := ?_) | refine TL_yes (hk := ?_) | refine TL_pick_t (hk := ?_) | refine TL_nilCheck (hk := ?_))); refine TL_nil_p ?_); (refine TA_take 13 rfl (by kernel_rfl) (by kernel_rfl) (by kernel_rfl) ?_; (repeat (first | refine TL_lt_t (hk := ?_) | refine TL_seq_f (hk := ?_) | refine TL_move (hk := ?_) | refine TL_assign (hk := ?_) | refine TLP_load TE (hk := ?_) | refine TLP_load_rd TE (hk := ?_) | refine TL_fieldAddr TE (hk := ?_) | refine TL_fieldAddr_e TE (hk := ?_) | refine TL_indexAddrn TE (hk := ?_) | refine TL_len TE (hk := ?_) | refine TL_yes (hk := ?_) | refine TL_pick_t (hk := ?_) | refine TL_nilCheck (hk := ?_))); refine TL_nil_p ?_); (refine TA_take 14 rfl (by kernel_rfl) (by kernel_rfl) (by kernel_rfl) ?_; (repeat (first | refine TL_lt_t (hk := ?_) | refine TL_seq_f (hk := ?_) | refine TL_move (hk := ?_) | refine TL_assign (hk := ?_) | refine TLP_load TE (hk := ?_) | refine TLP_load_rd TE (hk := ?_) | refine TL_fieldAddr TE (hk := ?_) | refine TL_fieldAddr_e TE (hk := ?_) | refine TL_indexAddrn TE (hk := ?_) | refine TL_len TE (hk := ?_) | refine TL_yes (hk := ?_) | refine TL_pick_t (hk := ?_) | refine TL_nilCheck (hk := ?_))); refine TL_nil_p ?_); (refine TA_take 15 rfl (by kernel_rfl) (by kernel_rfl) (by kernel_rfl) ?_; (repeat (first | refine TL_lt_t (hk := ?_) | refine TL_seq_f (hk := ?_) | refine TL_move (hk := ?_) | refine TL_assign (hk := ?_) | refine TLP_load TE (hk := ?_) | refine TLP_load_rd TE (hk := ?_) | refine TL_fieldAddr TE (hk := ?_) | refine TL_fieldAddr_e TE (hk := ?_) | refine TL_indexAddrn TE (hk := ?_) | refine TL_len TE (hk := ?_) | refine TL_yes (hk := ?_) | refine TL_pick_t (hk := ?_) | refine TL_nilCheck (hk := ?_))); refine TL_nil_p ?_); (refine TA_take 16 rfl (by kernel_rfl) (by kernel_rfl) (by kernel_rfl) ?_; (repeat (first | refine TL_lt_t (hk := ?_) | refine TL_seq_f (hk := ?_) | refine TL_move (hk := ?_) | refine TL_assign (hk := ?_) | refine TLP_load TE (hk := ?_) | refine TLP_load_rd TE (hk := ?_) | refine TL_fieldAddr TE (hk := ?_) | refine TL_fieldAddr_e TE (hk := ?_) | refine TL_indexAddrn TE (hk := ?_) | refine TL_len TE (hk := ?_) | refine TL_yes (hk := ?_) | refine TL_pick_t (hk := ?_) | refine TL_nilCheck (hk := ?_))); refine TL_nil_p ?_); (refine TA_take 17 rfl (by kernel_rfl) (by kernel_rfl) (by kernel_rfl) ?_; (repeat (first | refine TL_lt_t (hk := ?_) | refine TL_seq_f (hk := ?_) | refine TL_move (hk := ?_) | refine TL_assign (hk := ?_) | refine TLP_load TE (hk := ?_) | refine TLP_load_rd TE (hk := ?_) | refine TL_fieldAddr TE (hk := ?_) | refine TL_fieldAddr_e TE (hk := ?_) | refine TL_indexAddrn TE (hk := ?_) | refine TL_len TE (hk := ?_) | refine TL_yes (hk := ?_) | refine TL_pick_t (hk := ?_) | refine TL_nilCheck (hk := ?_))); refine TL_nil_p ?_); (refine TA_take 18 rfl (by kernel_rfl) (by kernel_rfl) (by kernel_rfl) ?_; (repeat (first | refine TL_lt_t (hk := ?_) | refine TL_seq_f (hk := ?_) | refine TL_move (hk := ?_) | refine TL_assign (hk := ?_) | refine TLP_load TE (hk := ?_) | refine TLP_load_rd TE (hk := ?_) | refine TL_fieldAddr TE (hk := ?_) | refine TL_fieldAddr_e TE (hk := ?_) | refine TL_indexAddrn TE (hk := ?_) | refine TL_len TE (hk := ?_) | refine TL_yes (hk := ?_) | refine TL_pick_t (hk := ?_) | refine TL_nilCheck (hk := ?_))); refine TL_nil_p ?_); (refine TA_take 19 rfl (by kernel_rfl) (by kernel_rfl) (by kernel_rfl) ?_; (repeat (first | refine TL_lt_t (hk := ?_) | refine TL_seq_f (hk := ?_) | refine TL_move (hk := ?_) | refine TL_assign (hk := ?_) | refine TLP_load TE (hk := ?_) | refine TLP_load_rd TE (hk := ?_) | refine TL_fieldAddr TE (hk := ?_) | refine TL_fieldAddr_e TE (hk := ?_) | refine TL_indexAddrn TE (hk := ?_) | refine TL_len TE (hk := ?_) | refine TL_yes (hk := ?_) | refine TL_pick_t (hk := ?_) | refine TL_nilCheck (hk := ?_))); refine TL_nil_p ?_); (refine TA_take 20 rfl (by kernel_rfl) (by kernel_rfl) (by kernel_rfl) ?_; (repeat (first | refine TL_lt_t (hk := ?_) | refine TL_seq_f (hk := ?_) | refine TL_move (hk := ?_) | refine TL_assign (hk := ?_) | refine TLP_load TE (hk := ?_) | refine TLP_load_rd TE (hk := ?_) | refine TL_fieldAddr TE (hk := ?_) | refine TL_fieldAddr_e TE (hk := ?_) | refine TL_indexAddrn TE (hk := ?_) | refine TL_len TE (hk := ?_) | refine TL_yes (hk := ?_) | refine TL_pick_t (hk := ?_) | refine TL_nilCheck (hk := ?_))); refine TL_nil_p ?_)
        (refine TA_one 21 rfl (by kernel_rfl) (by kernel_rfl) ?_; (repeat (refine TL_assign (hk := ?_))); refine TL_nil_p ?_)
        refine TA_done (by kernel_rfl) ?_
        --
        exact T_ret2 rfl rfl rfl ⟨lo, false, rfl, h2, fun q => by omega, e2.ext e3⟩
    · repeat (first | refine T_seq ?_ | refine T_region ?_ | refine T_cond_false rfl ?_ | refine T_exit rfl ?_ | refine TL_lt_f (hk := ?_) | refine TL_nil ?_ | refine TL_move (hk := ?_))
      refine T_region_any TE.mixed ([] : List Nat) ?_; intro w3 e3 z3
      have hb3 := hb2.be e3
      (refine TA_take 0 rfl (by kernel_rfl) (by kernel_rfl) (by kernel_rfl) ?_; (repeat (first | refine TL_lt_f (hk := ?_) | refine TL_move (hk := ?_) | refine TL_assign (hk := ?_) | refine TLP_load TE (hk := ?_) | refine TL_fieldAddr TE (hk := ?_) | refine TL_len TE (hk := ?_) | refine TL_no (hk := ?_) | refine TL_pick_f (hk := ?_) | refine TL_nilCheck (hk := ?_))); refine TL_nil_p ?_); (refine TA_take 1 rfl (by kernel_rfl) (by kernel_rfl) (by kernel_rfl) ?_; (repeat (first | refine TL_lt_f (hk := ?_) | refine TL_move (hk := ?_) | refine TL_assign (hk := ?_) | refine TLP_load TE (hk := ?_) | refine TL_fieldAddr TE (hk := ?_) | refine TL_len TE (hk := ?_) | refine TL_no (hk := ?_) | refine TL_pick_f (hk := ?_) | refine TL_nilCheck (hk := ?_))); refine TL_nil_p ?_); (refine TA_take 2 rfl (by kernel_rfl) (by kernel_rfl) (by kernel_rfl) ?_; (repeat (first | refine TL_lt_f (hk := ?_) | refine TL_move (hk := ?_) | refine TL_assign (hk := ?_) | refine TLP_load TE (hk := ?_) | refine TL_fieldAddr TE (hk := ?_) | refine TL_len TE (hk := ?_) | refine TL_no (hk := ?_) | refine TL_pick_f (hk := ?_) | refine TL_nilCheck (hk := ?_))); refine TL_nil_p ?_); (refine TA_take 3 rfl (by kernel_rfl) (by kernel_rfl) (by kernel_rfl) ?_; (repeat (first | refine TL_lt_f (hk := ?_) | refine TL_move (hk := ?_) | refine TL_assign (hk := ?_) | refine TLP_load TE (hk := ?_) | refine TL_fieldAddr TE (hk := ?_) | refine TL_len TE (hk := ?_) | refine TL_no (hk := ?_) | refine TL_pick_f (hk := ?_) | refine TL_nilCheck (hk := ?_))); refine TL_nil_p ?_); (refine TA_take 4 rfl (by kernel_rfl) (by kernel_rfl) (by kernel_rfl) ?_; (repeat (first | refine TL_lt_f (hk := ?_) | refine TL_move (hk := ?_) | refine TL_assign (hk := ?_) | refine TLP_load TE (hk := ?_) | refine TL_fieldAddr TE (hk := ?_) | refine TL_len TE (hk := ?_) | refine TL_no (hk := ?_) | refine TL_pick_f (hk := ?_) | refine TL_nilCheck (hk := ?_))); refine TL_nil_p ?_); (refine TA_take 5 rfl (by kernel_rfl) (by kernel_rfl) (by kernel_rfl) ?_; (repeat (first | refine TL_lt_f (hk := ?_) | refine TL_move (hk := ?_) | refine TL_assign (hk := ?_) | refine TLP_load TE (hk := ?_) | refine TL_fieldAddr TE (hk := ?_) | refine TL_len TE (hk := ?_) | refine TL_no (hk := ?_) | refine TL_pick_f (hk := ?_) | refine TL_nilCheck (hk := ?_))); refine TL_nil_p ?_); (refine TA_take 6 rfl (by kernel_rfl) (by kernel_rfl) (by kernel_rfl) ?_; (repeat (first | refine TL_lt_f (hk := ?_) | refine TL_move (hk := ?_) | refine TL_assign (hk := ?_) | refine TLP_load TE (hk := ?_) | refine TL_fieldAddr TE (hk := ?_) | refine TL_len TE (hk := ?_) | refine TL_no (hk := ?_) | refine TL_pick_f (hk := ?_) | refine TL_nilCheck (hk := ?_))); refine TL_nil_p ?_); (refine TA_take 7 rfl (by kernel_rfl) (by kernel_rfl) (by kernel_rfl) ?_; (repeat (first | refine TL_lt_f (hk := ?_) | refine TL_move (hk := ?_) | refine TL_assign (hk := ?_) | refine TLP_load TE (hk := ?_) | refine TL_fieldAddr TE (hk := ?_) | refine TL_len TE (hk := ?_) | refine TL_no (hk := ?_) | refine TL_pick_f (hk := ?_) | refine TL_nilCheck (hk := ?_))); refine TL_nil_p ?_); (refine TA_take 8 rfl (by kernel_rfl) (by kernel_rfl) (by kernel_rfl) ?_; (repeat (first | refine TL_lt_f (hk := ?_) | refine TL_move (hk := ?_) | refine TL_assign (hk := ?_) | refine TLP_load TE (hk := ?_) | refine TL_fieldAddr TE (hk := ?_) | refine TL_len TE (hk := ?_) | refine TL_no (hk := ?_) | refine TL_pick_f (hk := ?_) | refine TL_nilCheck (hk := ?_))); refine TL_nil_p ?_); (refine TA_take 9 rfl (by kernel_rfl) (by kernel_rfl) (by kernel_rfl) ?_; (repeat (first | refine TL_lt_f (hk := ?_) | refine TL_move (hk := ?_) | refine TL_assign (hk := ?_) | refine TLP_load TE (hk := ?_) | refine TL_fieldAddr TE (hk := ?_) | refine TL_len TE (hk := ?_) | refine TL_no (hk := ?_) | refine TL_pick_f (hk := ?_) | refine TL_nilCheck (hk := ?_))); refine TL_nil_p ?_); (refine TA_take 10 rfl (by kernel_rfl) (by kernel_rfl) (by kernel_rfl) ?_; (repeat (first | refine TL_lt_f (hk := ?_) | refine TL_move (hk := ?_) | refine TL_assign (hk := ?_) | refine TLP_load TE (hk := ?_) | refine TL_fieldAddr TE (hk := ?_) | refine TL_len TE (hk := ?_) | refine TL_no (hk := ?_) | refine TL_pick_f (hk := ?_) | refine TL_nilCheck (hk := ?_))); refine TL_nil_p ?_); (refine TA_take 11 rfl (by kernel_rfl) (by kernel_rfl) (by kernel_rfl) ?_; (repeat (first | refine TL_lt_f (hk := ?_) | refine TL_move (hk := ?_) | refine TL_assign (hk := ?_) | refine TLP_load TE (hk := ?_) | refine TL_fieldAddr TE (hk := ?_) | refine TL_len TE (hk := ?_) | refine TL_no (hk := ?_) | refine TL_pick_f (hk := ?_) | refine TL_nilCheck (hk := ?_))); refine TL_nil_p ?_); (refine TA_take 12 rfl (by kernel_rfl) (by kernel_rfl) (by kernel_rfl) ?_; (repeat (first | refine TL_lt_f (hk := ?_) | refine TL_move (hk := ?_) | refine TL_assign (hk := ?_) | refine TLP_load TE (hk := ?_) | refine TL_fieldAddr TE (hk := ?_) | refine TL_len TE (hk := ?_) | refine TL_no (hk := ?_) | refine TL_pick_f (hk := ?_) | refine TL_nilCheck (hk := ?_))); refine TL_nil_p ?_); (refine TA_take 13 rfl (by kernel_rfl) (by kernel_rfl) (by kernel_rfl) ?_; (repeat (first | refine TL_lt_f (hk := ?_) | refine TL_move (hk := ?_) | refine TL_assign (hk := ?_) | refine TLP_load TE (hk := ?_) | refine TL_fieldAddr TE (hk := ?_) | refine TL_len TE (hk := ?_) | refine TL_no (hk := ?_) | refine TL_pick_f (hk := ?_) | refine TL_nilCheck (hk := ?_))); refine TL_nil_p ?_); (refine TA_take 14 rfl (by kernel_rfl) (by kernel_rfl) (by kernel_rfl) ?_; (repeat (first | refine TL_lt_f (hk := ?_) | refine TL_move (hk := ?_) | refine TL_assign (hk := ?_) | refine TLP_load TE (hk := ?_) | refine TL_fieldAddr TE (hk := ?_) | refine TL_len TE (hk := ?_) | refine TL_no (hk := ?_) | refine TL_pick_f (hk := ?_) | refine TL_nilCheck (hk := ?_))); refine TL_nil_p ?_); (refine TA_take 15 rfl (by kernel_rfl) (by kernel_rfl) (by kernel_rfl) ?_; (repeat (first | refine TL_lt_f (hk := ?_) | refine TL_move (hk := ?_) | refine TL_assign (hk := ?_) | refine TLP_load TE (hk := ?_) | refine TL_fieldAddr TE (hk := ?_) | refine TL_len TE (hk := ?_) | refine TL_no (hk := ?_) | refine TL_pick_f (hk := ?_) | refine TL_nilCheck (hk := ?_))); refine TL_nil_p ?_); (refine TA_take 16 rfl (by kernel_rfl) (by kernel_rfl) (by kernel_rfl) ?_; (repeat (first | refine TL_lt_f (hk := ?_) | refine TL_move (hk := ?_) | refine TL_assign (hk := ?_) | refine TLP_load TE (hk := ?_) | refine TL_fieldAddr TE (hk := ?_) | refine TL_len TE (hk := ?_) | refine TL_no (hk := ?_) | refine TL_pick_f (hk := ?_) | refine TL_nilCheck (hk := ?_))); refine TL_nil_p ?_); (refine TA_take 17 rfl (by kernel_rfl) (by kernel_rfl) (by kernel_rfl) ?_; (repeat (first | refine TL_lt_f (hk := ?_) | refine TL_move (hk := ?_) | refine TL_assign (hk := ?_) | refine TLP_load TE (hk := ?_) | refine TL_fieldAddr TE (hk := ?_) | refine TL_len TE (hk := ?_) | refine TL_no (hk := ?_) | refine TL_pick_f (hk := ?_) | refine TL_nilCheck (hk := ?_))); refine TL_nil_p ?_); (refine TA_take 18 rfl (by kernel_rfl) (by kernel_rfl) (by kernel_rfl) ?_; (repeat (first | refine TL_lt_f (hk := ?_) | refine TL_move (hk := ?_) | refine TL_assign (hk := ?_) | refine TLP_load TE (hk := ?_) | refine TL_fieldAddr TE (hk := ?_) | refine TL_len TE (hk := ?_) | refine TL_no (hk := ?_) | refine TL_pick_f (hk := ?_) | refine TL_nilCheck (hk := ?_))); refine TL_nil_p ?_); (refine TA_take 19 rfl (by kernel_rfl) (by kernel_rfl) (by kernel_rfl) ?_; (repeat (first | refine TL_lt_f (hk := ?_) | refine TL_move (hk := ?_) | refine TL_assign (hk := ?_) | refine TLP_load TE (hk := ?_) | refine TL_fieldAddr TE (hk := ?_) | refine TL_len TE (hk := ?_) | refine TL_no (hk := ?_) | refine TL_pick_f (hk := ?_) | refine TL_nilCheck (hk := ?_))); refine TL_nil_p ?_); (refine TA_take 20 rfl (by kernel_rfl) (by kernel_rfl) (by kernel_rfl) ?_; (repeat (first | refine TL_lt_f (hk := ?_) | refine TL_move (hk := ?_) | refine TL_assign (hk := ?_) | refine TLP_load TE (hk := ?_) | refine TL_fieldAddr TE (hk := ?_) | refine TL_len TE (hk := ?_) | refine TL_no (hk := ?_) | refine TL_pick_f (hk := ?_) | refine TL_nilCheck (hk := ?_))); refine TL_nil_p ?_)
      (refine TA_one 21 rfl (by kernel_rfl) (by kernel_rfl) ?_; (repeat (refine TL_assign (hk := ?_))); refine TL_nil_p ?_)
      refine TA_done (by kernel_rfl) ?_
      --
      exact T_ret2 rfl rfl rfl ⟨lo, false, rfl, h2, fun q => rfl, e2.ext e3⟩
end Go.Proofs.YtgdbckjkeofoaaaGreat

namespace Go.Proofs.YtgdbckjkeofoaaaGreat
open Go.RowKit Go.Proofs.Eng Go.Proofs.Foot Go.Proofs.Locks Go.Proofs.Sched
set_option linter.unusedSimpArgs false
set_option linter.unusedVariables false set_option maxRecDepth 10000
attribute [local irreducible] T TL LV TH TA
set_option maxHeartbeats 3200000
theorem RClaimed0_c (b : Nat) (a r : Int) (k : Tx) (w : World) (hb : Blk w b 89 [.int .i64 a, .int .i64 r, sL (none, 0, 0)]) :
    Ret Tryz.prog 63 [pB b, .string (ofL k)] w (fun v w' => v = .bool false ∧ Ext w w') := by
  refine ret_T (n := 14) Tryz.func63 rfl rfl ?_
  repeat (first | refine T_seq ?_ | refine T_region ?_ | refine TL_nil ?_ | refine TL_move (hk := ?_) | refine TL_assign (hk := ?_))
  refine TL_call TE (hc := at_c15 b a r (none, 0, 0) [] k w hb (Rd.nil _ _ _) (Nat.zero_le _)) (hk := ?_)
  rintro _ w1 ⟨p, t, rfl, hp, ht, e1⟩
  have ht := ht rfl
  subst ht
  repeat (first | refine T_seq ?_ | refine T_region ?_ | refine TL_nil ?_ | refine TL_move (hk := ?_) | refine TL_assign (hk := ?_) | refine TL_extract (hk := ?_))
  exact T_ret1 rfl rfl ⟨rfl, e1⟩
theorem has0 (P r : Nat) (k : Tx) : hasE (newSt P r).C k = false := by
  unfold hasE ofE newSt
  simp only [List.length_replicate]
  have : (List.replicate P ([] : CL)).getD (partT k P) [] = [] := by
    rw [List.getD_eq_getElem?_getD, List.getElem?_replicate]
    split <;> rfl
  rw [this]
  rfl
theorem full0 (P r : Nat) (ks : List Tx) (p : Nat) (hr : 1 ≤ r) : fullB (newSt P r) ks p = decide (r < moreN (newSt P r).C ks p) := by
  unfold fullB
  have : (newSt P r).C.getD p [] = [] := by
    unfold newSt
    rw [List.getD_eq_getElem?_getD, List.getElem?_replicate]
    split <;> rfl
  rw [this]
  have h2 : (newSt P r).room = r := rfl
  rw [h2, List.length_nil, Nat.zero_add]
  by_cases h : r < moreN (newSt P r).C ks p
  · have : 0 < moreN (newSt P r).C ks p := by omega
    simp [h, this]
  · simp [h]
theorem RClaim0_c (b P r : Nat) (A : Option Addr) (n c : Nat) (ks : List Tx) (w : World) (hb : Blk w b 89 [.int .i64 (P : Int), .int .i64 (r : Int), sL (none, 0, 0)]) (hP : 1 ≤ P ∧ P ≤ 64) (hR : 1 ≤ r ∧ r ≤ 4096) (rd : Rd w A n 1 (sv ks)) (hn : n ≤ 50000) (hk : ∀ k ∈ ks, k.length ≤ 9223372036854775807) (hA : b ∉ blkL A) :
    Ret Tryz.prog 29 [pB b, .slice A n c] w (fun v w' => v = .int .i64 ((claimE (newSt P r) ks).2 : Int) ∧ Eng.Mod [b] w w') := by
  have hl : ks.length = n := by have := rd.1; rw [sv_length] at this; omega
  have hgk : ∀ i, i < n → (ks.getD i []).length ≤ 9223372036854775807 := fun i hi => hk _ (txs_mem (by omega))
  have hCl : (newSt P r).C.length = P := by simp [newSt]
  have hbs := hb.lt
  unfold claimE
  refine ret_T (n := 160) Tryz.func29 rfl rfl ?_
  repeat (first | refine T_seq ?_ | refine T_region ?_ | refine T_block ?_ | refine TL_nil ?_ | refine TL_assign (hk := ?_))
  refine T_loop (ι := Nat) (fun i => [(5, .int .i64 (i : Int)), (0, pB b), (1, .slice A n c)]) (fun i w' => Ext w w' ∧ i ≤ n ∧ ∀ j, j < i → validT (ks.getD j []) = true) (fun i => n - i) 0 (.c rfl (.c rfl (.c rfl (.n)))) ⟨Mod.refl _ _, Nat.zero_le _, fun j h => absurd h (by omega)⟩ ?_
  rintro i w1 ⟨e1, hi, hu⟩ ih
  have rd1 := rd.be e1
  by_cases hlt : i < n
  · have hA1 : A ≠ none := by obtain ⟨_, _, hq, _⟩ := rd1.2 (by omega); rw [hq]; simp
    have hkk := hgk i hlt
    have hmem := txs_mem (l := ks) (i := i) (by omega)
    obtain ⟨key, hkey⟩ : ∃ key, ks.getD i [] = key := ⟨_, rfl⟩
    rw [hkey] at hkk hmem
    repeat (first | refine T_seq ?_ | refine T_region ?_ | refine T_cond_true rfl ?_ | refine T_block ?_ | refine T_skip ?_ | refine TL_lt_t (hk := ?_) | refine TL_nil ?_ | refine TL_move (hk := ?_) | refine TL_indexAddr1n TE (hk := ?_) | refine TL_len TE (hk := ?_) | refine TL_load_s TE (hk := ?_))
    rw [hkey]
    --
    refine TL_call TE (hc := RValid_c key hkk _) (hk := ?_)
    rintro _ _ ⟨rfl, rfl⟩
    cases hv : validT key with
    | true =>
      repeat (first | refine T_region ?_ | refine T_cond_false rfl ?_ | refine T_inBlock ?_ | refine T_skip ?_ | refine TL_add (hk := ?_) | refine TL_nil ?_ | refine TL_move (hk := ?_) | refine TL_assign (hk := ?_) | refine TL_not (hk := ?_))
      exact ih (i + 1) _ _ (by omega) ⟨e1, by omega, fun j hj => by
        by_cases q : j = i
        · rw [q, hkey]; exact hv
        · exact hu j (by omega)⟩ (.c rfl (.c rfl (.c rfl (.n))))
    | false =>
      have hany : ks.any (fun k => !validT k) = true := List.any_eq_true.2 ⟨key, hmem, by simp [hv]⟩
      rw [if_pos hany]
      clear ih
      repeat (first | refine T_seq ?_ | refine T_region ?_ | refine T_cond_true rfl ?_ | refine TL_nil ?_ | refine TL_assign (hk := ?_) | refine TL_not (hk := ?_))
      exact T_ret1 rfl rfl ⟨rfl, Ext.un e1⟩
  clear ih
  have hany : ks.any (fun k => !validT k) = false := by
    rw [List.any_eq_false]
    intro k hk2
    obtain ⟨j, hj, rfl⟩ := List.mem_iff_getElem.1 hk2
    have := hu j (by omega)
    rw [List.getD_eq_getElem?_getD, List.getElem?_eq_getElem hj] at this
    simpa using this
  rw [if_neg (by rw [hany]; simp)]
  clear hu hany
  repeat (first | refine T_seq ?_ | refine T_region ?_ | refine T_cond_false rfl ?_ | refine T_block ?_ | refine T_exit rfl ?_ | refine TL_lt_f (hk := ?_) | refine TL_nil ?_ | refine TL_move (hk := ?_) | refine TL_assign (hk := ?_) | refine TL_len TE (hk := ?_))
  refine T_loop (ι := Nat) (fun i => [(6, .int .i64 (i : Int)), (0, pB b), (1, .slice A n c)]) (fun i w' => 1 ≤ i ∧ (i ≤ n ∨ i = 1) ∧ Ext w w' ∧ ∀ j, j + 1 < i → ks.getD j [] < ks.getD (j + 1) []) (fun i => n - i) 1 (.c rfl (.c rfl (.c rfl (.n)))) ⟨Nat.le_refl _, .inr rfl, e1, fun j hj => absurd hj (by omega)⟩ ?_
  clear rd1 e1
  rintro i w2 ⟨hi1, hi2, e2, hu⟩ ih
  have rd2 := rd.be e2
  by_cases hlt2 : i < n
  · have hA2 : A ≠ none := by obtain ⟨_, _, hq, _⟩ := rd2.2 (by omega); rw [hq]; simp
    have hic : ((i : Int) - 1) = ((i - 1 : Nat) : Int) := by omega
    have hAD : Off A ([] : List Nat) := .nil _
    obtain ⟨x, hx⟩ : ∃ x, ks.getD i [] = x := ⟨_, rfl⟩
    obtain ⟨y, hy⟩ : ∃ x, ks.getD (i - 1) [] = x := ⟨_, rfl⟩
    by_cases hle : x ≤ y
    · have hr : riseB ks = false := rise_no (j := i - 1) (by omega) (by rw [hy, show i - 1 + 1 = i by omega, hx]; exact List.not_lt.2 hle)
      rw [hr, if_pos rfl]
      clear ih
      repeat (first | refine T_seq ?_ | refine T_region ?_ | refine T_cond_true rfl ?_ | refine T_block ?_ | refine T_skip ?_ | refine TL_lt_t (hk := ?_) | refine TL_nil ?_ | refine TL_move (hk := ?_) | refine TL_len TE (hk := ?_))
      refine T_region_any TE.mixed ([] : List Nat) ?_; intro w3 e3 z3
      have rd3 := rd2.be e3
      (refine TA_take 0 rfl (by kernel_rfl) (by kernel_rfl) (by kernel_rfl) ?_; (repeat (first | refine TL_sub (hk := ?_) | refine TL_move (hk := ?_))); refine TL_nil_p ?_); (refine TA_take 1 rfl (by kernel_rfl) (by kernel_rfl) (by kernel_rfl) ?_; (repeat (first | refine TL_sub (hk := ?_) | refine TL_move (hk := ?_))); refine TL_nil_p ?_); (refine TA_take 2 rfl (by kernel_rfl) (by kernel_rfl) (by kernel_rfl) ?_; (repeat (first | refine TL_sub (hk := ?_) | refine TL_move (hk := ?_))); refine TL_nil_p ?_)
      rw [hic]
      (refine TA_take 3 rfl (by kernel_rfl) (by kernel_rfl) (by kernel_rfl) ?_; (repeat (first | refine TL_move (hk := ?_) | refine TLP_load_s TE (hk := ?_) | refine TL_indexAddr1n TE (hk := ?_))); refine TL_nil_p ?_); (refine TA_take 4 rfl (by kernel_rfl) (by kernel_rfl) (by kernel_rfl) ?_; (repeat (first | refine TL_move (hk := ?_) | refine TLP_load_s TE (hk := ?_) | refine TL_indexAddr1n TE (hk := ?_))); refine TL_nil_p ?_); (refine TA_take 5 rfl (by kernel_rfl) (by kernel_rfl) (by kernel_rfl) ?_; (repeat (first | refine TL_move (hk := ?_) | refine TLP_load_s TE (hk := ?_) | refine TL_indexAddr1n TE (hk := ?_))); refine TL_nil_p ?_); (refine TA_take 6 rfl (by kernel_rfl) (by kernel_rfl) (by kernel_rfl) ?_; (repeat (first | refine TL_move (hk := ?_) | refine TLP_load_s TE (hk := ?_) | refine TL_indexAddr1n TE (hk := ?_))); refine TL_nil_p ?_); (refine TA_take 7 rfl (by kernel_rfl) (by kernel_rfl) (by kernel_rfl) ?_; (repeat (first | refine TL_move (hk := ?_) | refine TLP_load_s TE (hk := ?_) | refine TL_indexAddr1n TE (hk := ?_))); refine TL_nil_p ?_); (refine TA_take 8 rfl (by kernel_rfl) (by kernel_rfl) (by kernel_rfl) ?_; (repeat (first | refine TL_move (hk := ?_) | refine TLP_load_s TE (hk := ?_) | refine TL_indexAddr1n TE (hk := ?_))); refine TL_nil_p ?_)
      rw [hx, hy]
      (refine TA_one 9 rfl (by kernel_rfl) (by kernel_rfl) ?_; (repeat (refine TL_sge_t (hk := ?_))); refine TL_nil_p ?_)
      refine TA_done (by kernel_rfl) ?_
      repeat (first | refine T_seq ?_ | refine T_region ?_ | refine T_cond_true rfl ?_ | refine TL_nil ?_ | refine TL_assign (hk := ?_))
      exact T_ret1 rfl rfl ⟨rfl, Ext.un (e2.ext e3)⟩
    · repeat (first | refine T_seq ?_ | refine T_region ?_ | refine T_cond_true rfl ?_ | refine T_block ?_ | refine T_skip ?_ | refine TL_lt_t (hk := ?_) | refine TL_nil ?_ | refine TL_move (hk := ?_) | refine TL_len TE (hk := ?_))
      refine T_region_any TE.mixed ([] : List Nat) ?_; intro w3 e3 z3
      have rd3 := rd2.be e3
      (refine TA_take 0 rfl (by kernel_rfl) (by kernel_rfl) (by kernel_rfl) ?_; (repeat (first | refine TL_sub (hk := ?_) | refine TL_move (hk := ?_))); refine TL_nil_p ?_); (refine TA_take 1 rfl (by kernel_rfl) (by kernel_rfl) (by kernel_rfl) ?_; (repeat (first | refine TL_sub (hk := ?_) | refine TL_move (hk := ?_))); refine TL_nil_p ?_); (refine TA_take 2 rfl (by kernel_rfl) (by kernel_rfl) (by kernel_rfl) ?_; (repeat (first | refine TL_sub (hk := ?_) | refine TL_move (hk := ?_))); refine TL_nil_p ?_)
      rw [hic]
      (refine TA_take 3 rfl (by kernel_rfl) (by kernel_rfl) (by kernel_rfl) ?_; (repeat (first | refine TL_move (hk := ?_) | refine TLP_load_s TE (hk := ?_) | refine TL_indexAddr1n TE (hk := ?_))); refine TL_nil_p ?_); (refine TA_take 4 rfl (by kernel_rfl) (by kernel_rfl) (by kernel_rfl) ?_; (repeat (first | refine TL_move (hk := ?_) | refine TLP_load_s TE (hk := ?_) | refine TL_indexAddr1n TE (hk := ?_))); refine TL_nil_p ?_); (refine TA_take 5 rfl (by kernel_rfl) (by kernel_rfl) (by kernel_rfl) ?_; (repeat (first | refine TL_move (hk := ?_) | refine TLP_load_s TE (hk := ?_) | refine TL_indexAddr1n TE (hk := ?_))); refine TL_nil_p ?_); (refine TA_take 6 rfl (by kernel_rfl) (by kernel_rfl) (by kernel_rfl) ?_; (repeat (first | refine TL_move (hk := ?_) | refine TLP_load_s TE (hk := ?_) | refine TL_indexAddr1n TE (hk := ?_))); refine TL_nil_p ?_); (refine TA_take 7 rfl (by kernel_rfl) (by kernel_rfl) (by kernel_rfl) ?_; (repeat (first | refine TL_move (hk := ?_) | refine TLP_load_s TE (hk := ?_) | refine TL_indexAddr1n TE (hk := ?_))); refine TL_nil_p ?_); (refine TA_take 8 rfl (by kernel_rfl) (by kernel_rfl) (by kernel_rfl) ?_; (repeat (first | refine TL_move (hk := ?_) | refine TLP_load_s TE (hk := ?_) | refine TL_indexAddr1n TE (hk := ?_))); refine TL_nil_p ?_)
      rw [hx, hy]
      (refine TA_one 9 rfl (by kernel_rfl) (by kernel_rfl) ?_; (repeat (refine TL_sge_f (hk := ?_))); refine TL_nil_p ?_)
      refine TA_done (by kernel_rfl) ?_
      repeat (first | refine T_region ?_ | refine T_cond_false rfl ?_ | refine T_inBlock ?_ | refine T_skip ?_ | refine TL_add (hk := ?_) | refine TL_nil ?_ | refine TL_move (hk := ?_) | refine TL_assign (hk := ?_))
      exact ih (i + 1) w3 _ (by omega) ⟨by omega, by omega, e2.ext e3, fun j hj => by
        by_cases q : j + 1 = i
        · subst q
          rw [hx]
          rw [show j + 1 - 1 = j by omega] at hy
          rw [hy]
          exact List.not_le.1 hle
        · exact hu j (by omega)⟩ (.c rfl (.c rfl (.c rfl (.n))))
  clear ih
  have hr : riseB ks = true := rise_yes (fun j hj => hu j (by omega))
  rw [hr, if_neg (by simp)]
  have hb2 := hb.be e2
  clear hu hi1 hi2
  repeat (first | refine T_seq ?_ | refine T_region ?_ | refine T_cond_false rfl ?_ | refine T_exit rfl ?_ | refine TL_lt_f (hk := ?_) | refine TL_nil ?_ | refine TL_move (hk := ?_) | refine TL_load TE (hk := ?_) | refine TL_fieldAddr TE (hk := ?_) | refine TL_len TE (hk := ?_) | refine TL_nilCheck (hk := ?_))
  refine TL_makeSlice TE (m := P) (hk := ?_); intro bM w3 e3 h3 h3' k3
  have hm0 : List.replicate P (Value.int .i64 0) = mvV (newSt P r).C (ks.take 0) := by
    symm
    refine List.eq_replicate_iff.2 ⟨by rw [mvV_len, hCl], fun u hu => ?_⟩
    obtain ⟨p, _, rfl⟩ := List.mem_map.1 hu
    simp [moreN]
  have o3 : Own w3 w2.heap.size 3 1 (some ⟨bM, 0, none⟩) P P (mvV (newSt P r).C (ks.take 0)) := by
    rw [← hm0]
    exact Own.of_blk k3 h3 (by simp) (by unfold maxLen; omega)
  have z3 := e3.size
  have z2 := e2.size
  have hb3 : Blk w3 b 89 [.int .i64 (P : Int), .int .i64 (r : Int), .slice none 0 0] := hb2.be e3
  clear k3 hm0 hb2
  repeat (first | refine T_seq ?_ | refine T_region ?_ | refine T_block ?_ | refine TL_nil ?_ | refine TL_assign (hk := ?_))
  refine T_loop (ι := Unit) (fun _ => [(8, .int .i64 0), (7, .slice (some ⟨bM, 0, none⟩) P P), (0, pB b), (1, .slice A n c)]) (fun _ w' => w' = w3) (fun _ => 0) () (.c rfl (.c rfl (.c rfl (.c rfl (.n))))) rfl ?_
  rintro _ w3' rfl -
  repeat (first | refine T_seq ?_ | refine T_region ?_ | refine T_cond_false rfl ?_ | refine T_block ?_ | refine T_exit rfl ?_ | refine TL_lt_f (hk := ?_) | refine TL_nil ?_ | refine TL_move (hk := ?_) | refine TL_assign (hk := ?_) | refine TL_load TE (hk := ?_) | refine TL_fieldAddr TE (hk := ?_) | refine TL_len TE (hk := ?_) | refine TL_nilCheck (hk := ?_))
  refine T_loop (ι := Nat) (fun i => [(9, .int .i64 (i : Int)), (7, .slice (some ⟨bM, 0, none⟩) P P), (0, pB b), (1, .slice A n c)]) (fun i w' => i ≤ n ∧ Ext w2 w' ∧ Own w' w2.heap.size 3 1 (some ⟨bM, 0, none⟩) P P (mvV (newSt P r).C (ks.take i))) (fun i => n - i) 0 (.c rfl (.c rfl (.c rfl (.c rfl (.n))))) ⟨Nat.zero_le _, e3, o3⟩ ?_
  clear o3 hb3
  rintro i w4 ⟨hi4, e4, o4⟩ ih
  have rd4 := rd2.be e4
  have hb4 := hb.be (e2.ext e4)
  by_cases hlt4 : i < n
  · have hA4 : A ≠ none := by obtain ⟨_, _, hq, _⟩ := rd4.2 (by omega); rw [hq]; simp
    have hkk := hgk i hlt4
    have hset := mvV_set (newSt P r).C ks i (by omega) (has0 P r _) (by rw [hCl]; exact hP.1)
    rw [hCl] at hset
    obtain ⟨key, hkey⟩ : ∃ key, ks.getD i [] = key := ⟨_, rfl⟩
    rw [hkey] at hkk hset
    have hp := partT_lt key hP.1
    have hm1 : (((hashT key : Nat) : Int) % ((P : Nat) : Int)) = ((partT key P : Nat) : Int) := by unfold partT; omega
    have hpv : (if ((P : Nat) : Int) < 1 then 0 else ((hashT key : Nat) : Int) % ((P : Nat) : Int)) = ((partT key P : Nat) : Int) := by
      rw [if_neg (by omega), hm1]
    have hmn : moreN (newSt P r).C (ks.take i) (partT key P) ≤ 50000 := by unfold moreN; exact Nat.le_trans (List.length_filter_le _ _) (by rw [List.length_take]; omega)
    have hv := mvV_get (newSt P r).C (ks.take i) (partT key P) (by rw [hCl]; exact hp)
    have ho4 := mvV_len (newSt P r).C (ks.take i)
    rw [hCl] at ho4
    repeat (first | refine T_seq ?_ | refine T_region ?_ | refine T_cond_true rfl ?_ | refine T_block ?_ | refine T_skip ?_ | refine TL_lt_t (hk := ?_) | refine TL_nil ?_ | refine TL_move (hk := ?_) | refine TL_indexAddr1n TE (hk := ?_) | refine TL_len TE (hk := ?_) | refine TL_load_s TE (hk := ?_))
    rw [hkey]
    --
    refine TL_call TE (hc := RClaimed0_c b (P : Int) (r : Int) key w4 hb4) (hk := ?_)
    rintro _ w5 ⟨rfl, e5⟩
    have o5 := o4.be e5
    have rd5 := rd4.be e5
    have hb5 := hb4.be e5
    have hbD : b ∉ ([] : List Nat) := by simp
    have hAD : Off A ([] : List Nat) := .nil _
    clear rd4 hb4 o4
    repeat (first | refine T_cond_true rfl ?_ | refine TL_nil ?_ | refine TL_not (hk := ?_))
    refine T_region_anyz TE.mixed ([] : List Nat) (some 14) ?_; intro w6 e6 z6
    have o6 := o5.be e6
    have rd6 := rd5.be e6
    have hb6 := hb5.be e6
    have hMD : Off (some (⟨bM, 0, none⟩ : Addr)) ([] : List Nat) := .nil _
    have or6 := o6.rd
    (refine TA_take 0 rfl (by kernel_rfl) (by kernel_rfl) (by kernel_rfl) ?_; (repeat (first | refine TL_move (hk := ?_) | refine TLP_load TE (hk := ?_) | refine TLP_load_s TE (hk := ?_) | refine TL_fieldAddr TE (hk := ?_) | refine TL_indexAddr1n TE (hk := ?_) | refine TL_nilCheck (hk := ?_))); refine TL_nil_p ?_); (refine TA_take 1 rfl (by kernel_rfl) (by kernel_rfl) (by kernel_rfl) ?_; (repeat (first | refine TL_move (hk := ?_) | refine TLP_load TE (hk := ?_) | refine TLP_load_s TE (hk := ?_) | refine TL_fieldAddr TE (hk := ?_) | refine TL_indexAddr1n TE (hk := ?_) | refine TL_nilCheck (hk := ?_))); refine TL_nil_p ?_); (refine TA_take 2 rfl (by kernel_rfl) (by kernel_rfl) (by kernel_rfl) ?_; (repeat (first | refine TL_move (hk := ?_) | refine TLP_load TE (hk := ?_) | refine TLP_load_s TE (hk := ?_) | refine TL_fieldAddr TE (hk := ?_) | refine TL_indexAddr1n TE (hk := ?_) | refine TL_nilCheck (hk := ?_))); refine TL_nil_p ?_); (refine TA_take 3 rfl (by kernel_rfl) (by kernel_rfl) (by kernel_rfl) ?_; (repeat (first | refine TL_move (hk := ?_) | refine TLP_load TE (hk := ?_) | refine TLP_load_s TE (hk := ?_) | refine TL_fieldAddr TE (hk := ?_) | refine TL_indexAddr1n TE (hk := ?_) | refine TL_nilCheck (hk := ?_))); refine TL_nil_p ?_); (refine TA_take 4 rfl (by kernel_rfl) (by kernel_rfl) (by kernel_rfl) ?_; (repeat (first | refine TL_move (hk := ?_) | refine TLP_load TE (hk := ?_) | refine TLP_load_s TE (hk := ?_) | refine TL_fieldAddr TE (hk := ?_) | refine TL_indexAddr1n TE (hk := ?_) | refine TL_nilCheck (hk := ?_))); refine TL_nil_p ?_); (refine TA_take 5 rfl (by kernel_rfl) (by kernel_rfl) (by kernel_rfl) ?_; (repeat (first | refine TL_move (hk := ?_) | refine TLP_load TE (hk := ?_) | refine TLP_load_s TE (hk := ?_) | refine TL_fieldAddr TE (hk := ?_) | refine TL_indexAddr1n TE (hk := ?_) | refine TL_nilCheck (hk := ?_))); refine TL_nil_p ?_); (refine TA_take 6 rfl (by kernel_rfl) (by kernel_rfl) (by kernel_rfl) ?_; (repeat (first | refine TL_move (hk := ?_) | refine TLP_load TE (hk := ?_) | refine TLP_load_s TE (hk := ?_) | refine TL_fieldAddr TE (hk := ?_) | refine TL_indexAddr1n TE (hk := ?_) | refine TL_nilCheck (hk := ?_))); refine TL_nil_p ?_); (refine TA_take 7 rfl (by kernel_rfl) (by kernel_rfl) (by kernel_rfl) ?_; (repeat (first | refine TL_move (hk := ?_) | refine TLP_load TE (hk := ?_) | refine TLP_load_s TE (hk := ?_) | refine TL_fieldAddr TE (hk := ?_) | refine TL_indexAddr1n TE (hk := ?_) | refine TL_nilCheck (hk := ?_))); refine TL_nil_p ?_); (refine TA_take 8 rfl (by kernel_rfl) (by kernel_rfl) (by kernel_rfl) ?_; (repeat (first | refine TL_move (hk := ?_) | refine TLP_load TE (hk := ?_) | refine TLP_load_s TE (hk := ?_) | refine TL_fieldAddr TE (hk := ?_) | refine TL_indexAddr1n TE (hk := ?_) | refine TL_nilCheck (hk := ?_))); refine TL_nil_p ?_)
    rw [hkey]
    refine TA_one 9 rfl (by kernel_rfl) (by kernel_rfl) ?_; (try refine TL_yes (hk := ?_)); refine TL_call TE (hc := (RPartition_c key hkk (P : Int) (by omega) w6)) (hq := (by rintro _ w' ⟨rfl, rfl⟩; exact Mod.refl _ _)) (hk := ?_)
    rintro _ _ ⟨rfl, rfl⟩
    rw [hpv]
    refine TL_nil_p ?_
    (refine TA_take 10 rfl (by kernel_rfl) (by kernel_rfl) (by kernel_rfl) ?_; (repeat (first | refine TL_add (hk := ?_) | refine TLP_load_rd TE (hk := ?_) | refine TL_indexAddr1n TE (hk := ?_))); refine TL_nil_p ?_); (refine TA_take 11 rfl (by kernel_rfl) (by kernel_rfl) (by kernel_rfl) ?_; (repeat (first | refine TL_add (hk := ?_) | refine TLP_load_rd TE (hk := ?_) | refine TL_indexAddr1n TE (hk := ?_))); refine TL_nil_p ?_); (refine TA_take 12 rfl (by kernel_rfl) (by kernel_rfl) (by kernel_rfl) ?_; (repeat (first | refine TL_add (hk := ?_) | refine TLP_load_rd TE (hk := ?_) | refine TL_indexAddr1n TE (hk := ?_))); refine TL_nil_p ?_); (refine TA_take 13 rfl (by kernel_rfl) (by kernel_rfl) (by kernel_rfl) ?_; (repeat (first | refine TL_add (hk := ?_) | refine TLP_load_rd TE (hk := ?_) | refine TL_indexAddr1n TE (hk := ?_))); refine TL_nil_p ?_)
    refine TA_one 14 rfl (by kernel_rfl) (by kernel_rfl) ?_
    refine TL_store_own TE (ho := o6) (hf := rfl) (hq := fun _ _ _ => trivial) (hk := ?_); intro w7 m7 z7 o7
    refine TL_nil_z (by kernel_rfl) ?_
    rw [hset] at o7
    repeat (first | refine T_region ?_ | refine T_inBlock ?_ | refine TL_add (hk := ?_) | refine TL_nil ?_ | refine TL_move (hk := ?_) | refine TL_assign (hk := ?_))
    exact ih (i + 1) w7 _ (by omega) ⟨by omega, ((e4.ext e5).ext e6).own m7 o6.hi, o7⟩ (.c rfl (.c rfl (.c rfl (.c rfl (.n)))))
  clear ih
  have htk : ks.take i = ks := List.take_of_length_le (by omega)
  rw [htk] at o4
  clear htk
  repeat (first | refine T_seq ?_ | refine T_region ?_ | refine T_cond_false rfl ?_ | refine T_block ?_ | refine T_exit rfl ?_ | refine TL_lt_f (hk := ?_) | refine TL_nil ?_ | refine TL_move (hk := ?_) | refine TL_assign (hk := ?_) | refine TL_len TE (hk := ?_))
  refine T_loop (ι := Nat) (fun j => [(10, .int .i64 (j : Int)), (7, .slice (some ⟨bM, 0, none⟩) P P), (0, pB b), (1, .slice A n c)]) (fun j w' => j ≤ P ∧ Ext w4 w' ∧ ∀ p, p < j → fullB (newSt P r) ks p = false) (fun j => P - j) 0 (.c rfl (.c rfl (.c rfl (.c rfl (.n))))) ⟨Nat.zero_le _, Mod.refl _ _, fun p h => absurd h (by omega)⟩ ?_
  rintro j w5 ⟨hj, e5, hu⟩ ih
  have o5 := o4.be e5
  have hb5 := hb4.be e5
  have or5 := o5.rd
  by_cases hltj : j < P
  · have hv := mvV_get (newSt P r).C ks j (by rw [hCl]; exact hltj)
    have hmn : moreN (newSt P r).C ks j ≤ 50000 := by unfold moreN; exact Nat.le_trans (List.length_filter_le _ _) (by omega)
    have hbD : b ∉ ([] : List Nat) := by simp
    have hMD : Off (some (⟨bM, 0, none⟩ : Addr)) ([] : List Nat) := .nil _
    by_cases hful : r < moreN (newSt P r).C ks j
    · have hany : (List.range (newSt P r).C.length).any (fullB (newSt P r) ks) = true := List.any_eq_true.2 ⟨j, List.mem_range.2 (by rw [hCl]; exact hltj), by rw [full0 P r ks j hR.1]; exact decide_eq_true hful⟩
      rw [if_pos hany]
      clear ih
      repeat (first | refine T_seq ?_ | refine T_region ?_ | refine T_cond_true rfl ?_ | refine T_block ?_ | refine T_skip ?_ | refine TL_lt_t (hk := ?_) | refine TL_nil ?_ | refine TL_move (hk := ?_) | refine TL_load TE (hk := ?_) | refine TL_fieldAddr TE (hk := ?_) | refine TL_nilCheck (hk := ?_))
      refine T_region_any TE.mixed ([] : List Nat) ?_; intro w6 e6 z6
      have hb6 := hb5.be e6
      have or6 := or5.be e6
      (refine TA_take 0 rfl (by kernel_rfl) (by kernel_rfl) (by kernel_rfl) ?_; (repeat (first | refine TL_move (hk := ?_) | refine TLP_load TE (hk := ?_) | refine TLP_load_rd TE (hk := ?_) | refine TL_fieldAddr TE (hk := ?_) | refine TL_indexAddr1n TE (hk := ?_) | refine TL_nilCheck (hk := ?_))); refine TL_nil_p ?_); (refine TA_take 1 rfl (by kernel_rfl) (by kernel_rfl) (by kernel_rfl) ?_; (repeat (first | refine TL_move (hk := ?_) | refine TLP_load TE (hk := ?_) | refine TLP_load_rd TE (hk := ?_) | refine TL_fieldAddr TE (hk := ?_) | refine TL_indexAddr1n TE (hk := ?_) | refine TL_nilCheck (hk := ?_))); refine TL_nil_p ?_); (refine TA_take 2 rfl (by kernel_rfl) (by kernel_rfl) (by kernel_rfl) ?_; (repeat (first | refine TL_move (hk := ?_) | refine TLP_load TE (hk := ?_) | refine TLP_load_rd TE (hk := ?_) | refine TL_fieldAddr TE (hk := ?_) | refine TL_indexAddr1n TE (hk := ?_) | refine TL_nilCheck (hk := ?_))); refine TL_nil_p ?_); (refine TA_take 3 rfl (by kernel_rfl) (by kernel_rfl) (by kernel_rfl) ?_; (repeat (first | refine TL_move (hk := ?_) | refine TLP_load TE (hk := ?_) | refine TLP_load_rd TE (hk := ?_) | refine TL_fieldAddr TE (hk := ?_) | refine TL_indexAddr1n TE (hk := ?_) | refine TL_nilCheck (hk := ?_))); refine TL_nil_p ?_); (refine TA_take 4 rfl (by kernel_rfl) (by kernel_rfl) (by kernel_rfl) ?_; (repeat (first | refine TL_move (hk := ?_) | refine TLP_load TE (hk := ?_) | refine TLP_load_rd TE (hk := ?_) | refine TL_fieldAddr TE (hk := ?_) | refine TL_indexAddr1n TE (hk := ?_) | refine TL_nilCheck (hk := ?_))); refine TL_nil_p ?_); (refine TA_take 5 rfl (by kernel_rfl) (by kernel_rfl) (by kernel_rfl) ?_; (repeat (first | refine TL_move (hk := ?_) | refine TLP_load TE (hk := ?_) | refine TLP_load_rd TE (hk := ?_) | refine TL_fieldAddr TE (hk := ?_) | refine TL_indexAddr1n TE (hk := ?_) | refine TL_nilCheck (hk := ?_))); refine TL_nil_p ?_); (refine TA_take 6 rfl (by kernel_rfl) (by kernel_rfl) (by kernel_rfl) ?_; (repeat (first | refine TL_move (hk := ?_) | refine TLP_load TE (hk := ?_) | refine TLP_load_rd TE (hk := ?_) | refine TL_fieldAddr TE (hk := ?_) | refine TL_indexAddr1n TE (hk := ?_) | refine TL_nilCheck (hk := ?_))); refine TL_nil_p ?_); (refine TA_take 7 rfl (by kernel_rfl) (by kernel_rfl) (by kernel_rfl) ?_; (repeat (first | refine TL_move (hk := ?_) | refine TLP_load TE (hk := ?_) | refine TLP_load_rd TE (hk := ?_) | refine TL_fieldAddr TE (hk := ?_) | refine TL_indexAddr1n TE (hk := ?_) | refine TL_nilCheck (hk := ?_))); refine TL_nil_p ?_)
      (refine TA_one 8 rfl (by kernel_rfl) (by kernel_rfl) ?_; (repeat (refine TL_gt_t (hk := ?_))); refine TL_nil_p ?_)
      refine TA_done (by kernel_rfl) ?_
      repeat (first | refine T_seq ?_ | refine T_region ?_ | refine T_cond_true rfl ?_ | refine TL_nil ?_ | refine TL_assign (hk := ?_))
      exact T_ret1 rfl rfl ⟨rfl, Ext.un (((e2.ext e4).ext e5).ext e6)⟩
    · repeat (first | refine T_seq ?_ | refine T_region ?_ | refine T_cond_true rfl ?_ | refine T_block ?_ | refine T_skip ?_ | refine TL_lt_t (hk := ?_) | refine TL_nil ?_ | refine TL_move (hk := ?_) | refine TL_load TE (hk := ?_) | refine TL_fieldAddr TE (hk := ?_) | refine TL_nilCheck (hk := ?_))
      refine T_region_any TE.mixed ([] : List Nat) ?_; intro w6 e6 z6
      have hb6 := hb5.be e6
      have or6 := or5.be e6
      (refine TA_take 0 rfl (by kernel_rfl) (by kernel_rfl) (by kernel_rfl) ?_; (repeat (first | refine TL_move (hk := ?_) | refine TLP_load TE (hk := ?_) | refine TLP_load_rd TE (hk := ?_) | refine TL_fieldAddr TE (hk := ?_) | refine TL_indexAddr1n TE (hk := ?_) | refine TL_nilCheck (hk := ?_))); refine TL_nil_p ?_); (refine TA_take 1 rfl (by kernel_rfl) (by kernel_rfl) (by kernel_rfl) ?_; (repeat (first | refine TL_move (hk := ?_) | refine TLP_load TE (hk := ?_) | refine TLP_load_rd TE (hk := ?_) | refine TL_fieldAddr TE (hk := ?_) | refine TL_indexAddr1n TE (hk := ?_) | refine TL_nilCheck (hk := ?_))); refine TL_nil_p ?_); (refine TA_take 2 rfl (by kernel_rfl) (by kernel_rfl) (by kernel_rfl) ?_; (repeat (first | refine TL_move (hk := ?_) | refine TLP_load TE (hk := ?_) | refine TLP_load_rd TE (hk := ?_) | refine TL_fieldAddr TE (hk := ?_) | refine TL_indexAddr1n TE (hk := ?_) | refine TL_nilCheck (hk := ?_))); refine TL_nil_p ?_); (refine TA_take 3 rfl (by kernel_rfl) (by kernel_rfl) (by kernel_rfl) ?_; (repeat (first | refine TL_move (hk := ?_) | refine TLP_load TE (hk := ?_) | refine TLP_load_rd TE (hk := ?_) | refine TL_fieldAddr TE (hk := ?_) | refine TL_indexAddr1n TE (hk := ?_) | refine TL_nilCheck (hk := ?_))); refine TL_nil_p ?_); (refine TA_take 4 rfl (by kernel_rfl) (by kernel_rfl) (by kernel_rfl) ?_; (repeat (first | refine TL_move (hk := ?_) | refine TLP_load TE (hk := ?_) | refine TLP_load_rd TE (hk := ?_) | refine TL_fieldAddr TE (hk := ?_) | refine TL_indexAddr1n TE (hk := ?_) | refine TL_nilCheck (hk := ?_))); refine TL_nil_p ?_); (refine TA_take 5 rfl (by kernel_rfl) (by kernel_rfl) (by kernel_rfl) ?_; (repeat (first | refine TL_move (hk := ?_) | refine TLP_load TE (hk := ?_) | refine TLP_load_rd TE (hk := ?_) | refine TL_fieldAddr TE (hk := ?_) | refine TL_indexAddr1n TE (hk := ?_) | refine TL_nilCheck (hk := ?_))); refine TL_nil_p ?_); (refine TA_take 6 rfl (by kernel_rfl) (by kernel_rfl) (by kernel_rfl) ?_; (repeat (first | refine TL_move (hk := ?_) | refine TLP_load TE (hk := ?_) | refine TLP_load_rd TE (hk := ?_) | refine TL_fieldAddr TE (hk := ?_) | refine TL_indexAddr1n TE (hk := ?_) | refine TL_nilCheck (hk := ?_))); refine TL_nil_p ?_); (refine TA_take 7 rfl (by kernel_rfl) (by kernel_rfl) (by kernel_rfl) ?_; (repeat (first | refine TL_move (hk := ?_) | refine TLP_load TE (hk := ?_) | refine TLP_load_rd TE (hk := ?_) | refine TL_fieldAddr TE (hk := ?_) | refine TL_indexAddr1n TE (hk := ?_) | refine TL_nilCheck (hk := ?_))); refine TL_nil_p ?_)
      (refine TA_one 8 rfl (by kernel_rfl) (by kernel_rfl) ?_; (repeat (refine TL_gt_f (hk := ?_))); refine TL_nil_p ?_)
      refine TA_done (by kernel_rfl) ?_
      repeat (first | refine T_region ?_ | refine T_cond_false rfl ?_ | refine T_inBlock ?_ | refine T_skip ?_ | refine TL_add (hk := ?_) | refine TL_nil ?_ | refine TL_move (hk := ?_) | refine TL_assign (hk := ?_))
      exact ih (j + 1) w6 _ (by omega) ⟨by omega, e5.ext e6, fun p hp => by
        by_cases q : p = j
        · rw [q, full0 P r ks j hR.1]; exact decide_eq_false hful
        · exact hu p (by omega)⟩ (.c rfl (.c rfl (.c rfl (.c rfl (.n)))))
  clear ih
  have hany : (List.range (newSt P r).C.length).any (fullB (newSt P r) ks) = false := by
    rw [List.any_eq_false]
    intro p hp
    rw [List.mem_range, hCl] at hp
    simp [hu p (by omega)]
  rw [if_neg (by rw [hany]; simp)]
  have E5 := (e2.ext e4).ext e5
  clear hu hany o4 o5 or5 hb4 rd4
  repeat (first | refine T_seq ?_ | refine T_region ?_ | refine T_cond_false rfl ?_ | refine T_block ?_ | refine T_exit rfl ?_ | refine TL_lt_f (hk := ?_) | refine TL_nil ?_ | refine TL_move (hk := ?_) | refine TL_assign (hk := ?_) | refine TL_load TE (hk := ?_) | refine TL_fieldAddr TE (hk := ?_) | refine TL_nilCheck (hk := ?_))
  refine T_loop (ι := Nat) (fun i => [(11, .int .i64 (i : Int)), (7, .slice (some ⟨bM, 0, none⟩) P P), (0, pB b), (1, .slice A n c)]) (fun i w' => i ≤ n ∧ Eng.Mod [b] w w' ∧ ∃ (x : SL) (l : List Tx), Blk w' b 89 [.int .i64 (P : Int), .int .i64 (r : Int), sL x] ∧ Own w' w.heap.size 108 4 x.1 x.2.1 x.2.2 (rowV itV l) ∧ x.2.1 ≤ i) (fun i => n - i) 0 (.c rfl (.c rfl (.c rfl (.c rfl (.n))))) ⟨Nat.zero_le _, Ext.un E5, (none, 0, 0), [], hb5, Own.nil _ _ _ _, Nat.le_refl _⟩ ?_
  clear hb5 E5
  rintro i w9 ⟨hi9, m9, x9, l9, hb9, o9, hx9⟩ ih
  have rd9 := rd.mod m9 (off_ofL fun u q q' => by rw [List.mem_singleton] at q'; subst q'; exact hA q)
  by_cases hlt9 : i < n
  · have hA9 : A ≠ none := by obtain ⟨_, _, hq, _⟩ := rd9.2 (by omega); rw [hq]; simp
    obtain ⟨key, hkey⟩ : ∃ key, ks.getD i [] = key := ⟨_, rfl⟩
    have hl9 : l9.length = x9.2.1 := by have := o9.len; rw [rowV_len itV_len] at this; omega
    have hcap := o9.cap
    repeat (first | refine T_seq ?_ | refine T_region ?_ | refine T_cond_true rfl ?_ | refine T_block ?_ | refine T_skip ?_ | refine TL_lt_t (hk := ?_) | refine TL_nil ?_ | refine TL_move (hk := ?_) | refine TL_indexAddr1n TE (hk := ?_) | refine TL_len TE (hk := ?_) | refine TL_load_s TE (hk := ?_))
    rw [hkey]
    --
    refine TL_call TE (hc := at_c15 b (P : Int) (r : Int) x9 l9 key w9 hb9 o9.rd (by omega)) (hk := ?_)
    rintro _ w9' ⟨p, t, rfl, hp, _, e9⟩
    replace m9 := m9.trans (Ext.un e9)
    replace hb9 := hb9.be e9
    replace o9 := o9.be e9
    replace rd9 := rd9.be e9
    clear e9
    rename_i w9o
    generalize w9' = w9 at *
    cases t with
    | true =>
      repeat (first | refine T_seq ?_ | refine T_region ?_ | refine T_cond_false rfl ?_ | refine T_inBlock ?_ | refine T_skip ?_ | refine TL_add (hk := ?_) | refine TL_nil ?_ | refine TL_move (hk := ?_) | refine TL_assign (hk := ?_) | refine TL_extract (hk := ?_) | refine TL_not (hk := ?_))
      exact ih (i + 1) w9 _ (by omega) ⟨by omega, m9, x9, l9, hb9, o9, by omega⟩ (.c rfl (.c rfl (.c rfl (.c rfl (.n)))))
    | false =>
      have hbD : b ∉ ([] : List Nat) := by simp
      have hAD : Off A ([] : List Nat) := .nil _
      have hxD : Off x9.1 ([] : List Nat) := .nil _
      repeat (first | refine T_seq ?_ | refine T_region ?_ | refine T_cond_true rfl ?_ | refine TL_nil ?_ | refine TL_move (hk := ?_) | refine TL_assign (hk := ?_) | refine TL_extract (hk := ?_) | refine TL_not (hk := ?_))
      refine T_region_anyz TE.mixed ([] : List Nat) (some 25) ?_; intro w10 e10 z10
      have hb10 := hb9.be e10
      have o10 := o9.be e10
      have rd10 := rd9.be e10
      have rtake : Rd w10 x9.1 p 4 (rowV itV (l9.take p)) := by rw [← rowV_take itV_len]; exact o10.rd.take hp
      have rdrop : Rd w10 (cutA x9.1 x9.2.2 p 4) (x9.2.1 - p) 4 (rowV itV (l9.drop p)) := by
        have := Rd.cut (l := p) (h := x9.2.1) o10.rd hp (Nat.le_refl _) hcap.1
        rw [rowV_drop itV_len, List.take_of_length_le (by rw [rowV_len itV_len, List.length_drop, hl9]; exact Nat.le_refl _)] at this
        exact this
      (refine TA_take 0 rfl (by kernel_rfl) (by kernel_rfl) (by kernel_rfl) ?_; (repeat (first | refine TL_move (hk := ?_) | refine TLP_load TE (hk := ?_) | refine TLP_load_s TE (hk := ?_) | refine TL_fieldAddr TE (hk := ?_) | refine TL_indexAddr1n TE (hk := ?_) | refine TL_nilCheck (hk := ?_) | refine TL_slice_hi TE (hk := ?_))); refine TL_nil_p ?_); (refine TA_take 2 rfl (by kernel_rfl) (by kernel_rfl) (by kernel_rfl) ?_; (repeat (first | refine TL_move (hk := ?_) | refine TLP_load TE (hk := ?_) | refine TLP_load_s TE (hk := ?_) | refine TL_fieldAddr TE (hk := ?_) | refine TL_indexAddr1n TE (hk := ?_) | refine TL_nilCheck (hk := ?_) | refine TL_slice_hi TE (hk := ?_))); refine TL_nil_p ?_); (refine TA_take 3 rfl (by kernel_rfl) (by kernel_rfl) (by kernel_rfl) ?_; (repeat (first | refine TL_move (hk := ?_) | refine TLP_load TE (hk := ?_) | refine TLP_load_s TE (hk := ?_) | refine TL_fieldAddr TE (hk := ?_) | refine TL_indexAddr1n TE (hk := ?_) | refine TL_nilCheck (hk := ?_) | refine TL_slice_hi TE (hk := ?_))); refine TL_nil_p ?_); (refine TA_take 4 rfl (by kernel_rfl) (by kernel_rfl) (by kernel_rfl) ?_; (repeat (first | refine TL_move (hk := ?_) | refine TLP_load TE (hk := ?_) | refine TLP_load_s TE (hk := ?_) | refine TL_fieldAddr TE (hk := ?_) | refine TL_indexAddr1n TE (hk := ?_) | refine TL_nilCheck (hk := ?_) | refine TL_slice_hi TE (hk := ?_))); refine TL_nil_p ?_); (refine TA_take 5 rfl (by kernel_rfl) (by kernel_rfl) (by kernel_rfl) ?_; (repeat (first | refine TL_move (hk := ?_) | refine TLP_load TE (hk := ?_) | refine TLP_load_s TE (hk := ?_) | refine TL_fieldAddr TE (hk := ?_) | refine TL_indexAddr1n TE (hk := ?_) | refine TL_nilCheck (hk := ?_) | refine TL_slice_hi TE (hk := ?_))); refine TL_nil_p ?_); (refine TA_take 6 rfl (by kernel_rfl) (by kernel_rfl) (by kernel_rfl) ?_; (repeat (first | refine TL_move (hk := ?_) | refine TLP_load TE (hk := ?_) | refine TLP_load_s TE (hk := ?_) | refine TL_fieldAddr TE (hk := ?_) | refine TL_indexAddr1n TE (hk := ?_) | refine TL_nilCheck (hk := ?_) | refine TL_slice_hi TE (hk := ?_))); refine TL_nil_p ?_); (refine TA_take 7 rfl (by kernel_rfl) (by kernel_rfl) (by kernel_rfl) ?_; (repeat (first | refine TL_move (hk := ?_) | refine TLP_load TE (hk := ?_) | refine TLP_load_s TE (hk := ?_) | refine TL_fieldAddr TE (hk := ?_) | refine TL_indexAddr1n TE (hk := ?_) | refine TL_nilCheck (hk := ?_) | refine TL_slice_hi TE (hk := ?_))); refine TL_nil_p ?_); (refine TA_take 9 rfl (by kernel_rfl) (by kernel_rfl) (by kernel_rfl) ?_; (repeat (first | refine TL_move (hk := ?_) | refine TLP_load TE (hk := ?_) | refine TLP_load_s TE (hk := ?_) | refine TL_fieldAddr TE (hk := ?_) | refine TL_indexAddr1n TE (hk := ?_) | refine TL_nilCheck (hk := ?_) | refine TL_slice_hi TE (hk := ?_))); refine TL_nil_p ?_); (refine TA_take 10 rfl (by kernel_rfl) (by kernel_rfl) (by kernel_rfl) ?_; (repeat (first | refine TL_move (hk := ?_) | refine TLP_load TE (hk := ?_) | refine TLP_load_s TE (hk := ?_) | refine TL_fieldAddr TE (hk := ?_) | refine TL_indexAddr1n TE (hk := ?_) | refine TL_nilCheck (hk := ?_) | refine TL_slice_hi TE (hk := ?_))); refine TL_nil_p ?_); (refine TA_take 11 rfl (by kernel_rfl) (by kernel_rfl) (by kernel_rfl) ?_; (repeat (first | refine TL_move (hk := ?_) | refine TLP_load TE (hk := ?_) | refine TLP_load_s TE (hk := ?_) | refine TL_fieldAddr TE (hk := ?_) | refine TL_indexAddr1n TE (hk := ?_) | refine TL_nilCheck (hk := ?_) | refine TL_slice_hi TE (hk := ?_))); refine TL_nil_p ?_); (refine TA_take 12 rfl (by kernel_rfl) (by kernel_rfl) (by kernel_rfl) ?_; (repeat (first | refine TL_move (hk := ?_) | refine TLP_load TE (hk := ?_) | refine TLP_load_s TE (hk := ?_) | refine TL_fieldAddr TE (hk := ?_) | refine TL_indexAddr1n TE (hk := ?_) | refine TL_nilCheck (hk := ?_) | refine TL_slice_hi TE (hk := ?_))); refine TL_nil_p ?_)
      rw [hkey]
      (refine TA_take 13 rfl (by kernel_rfl) (by kernel_rfl) (by kernel_rfl) ?_; (repeat (first | refine TL_move (hk := ?_) | refine TLP_load TE (hk := ?_) | refine TL_fieldAddr TE (hk := ?_) | refine TL_nilCheck (hk := ?_) | refine TL_slice_lo TE (hk := ?_) | refine TL_build TE (hk := ?_))); refine TL_nil_p ?_); (refine TA_take 16 rfl (by kernel_rfl) (by kernel_rfl) (by kernel_rfl) ?_; (repeat (first | refine TL_move (hk := ?_) | refine TLP_load TE (hk := ?_) | refine TL_fieldAddr TE (hk := ?_) | refine TL_nilCheck (hk := ?_) | refine TL_slice_lo TE (hk := ?_) | refine TL_build TE (hk := ?_))); refine TL_nil_p ?_); (refine TA_take 17 rfl (by kernel_rfl) (by kernel_rfl) (by kernel_rfl) ?_; (repeat (first | refine TL_move (hk := ?_) | refine TLP_load TE (hk := ?_) | refine TL_fieldAddr TE (hk := ?_) | refine TL_nilCheck (hk := ?_) | refine TL_slice_lo TE (hk := ?_) | refine TL_build TE (hk := ?_))); refine TL_nil_p ?_); (refine TA_take 18 rfl (by kernel_rfl) (by kernel_rfl) (by kernel_rfl) ?_; (repeat (first | refine TL_move (hk := ?_) | refine TLP_load TE (hk := ?_) | refine TL_fieldAddr TE (hk := ?_) | refine TL_nilCheck (hk := ?_) | refine TL_slice_lo TE (hk := ?_) | refine TL_build TE (hk := ?_))); refine TL_nil_p ?_); (refine TA_take 19 rfl (by kernel_rfl) (by kernel_rfl) (by kernel_rfl) ?_; (repeat (first | refine TL_move (hk := ?_) | refine TLP_load TE (hk := ?_) | refine TL_fieldAddr TE (hk := ?_) | refine TL_nilCheck (hk := ?_) | refine TL_slice_lo TE (hk := ?_) | refine TL_build TE (hk := ?_))); refine TL_nil_p ?_); (refine TA_take 20 rfl (by kernel_rfl) (by kernel_rfl) (by kernel_rfl) ?_; (repeat (first | refine TL_move (hk := ?_) | refine TLP_load TE (hk := ?_) | refine TL_fieldAddr TE (hk := ?_) | refine TL_nilCheck (hk := ?_) | refine TL_slice_lo TE (hk := ?_) | refine TL_build TE (hk := ?_))); refine TL_nil_p ?_); (refine TA_take 21 rfl (by kernel_rfl) (by kernel_rfl) (by kernel_rfl) ?_; (repeat (first | refine TL_move (hk := ?_) | refine TLP_load TE (hk := ?_) | refine TL_fieldAddr TE (hk := ?_) | refine TL_nilCheck (hk := ?_) | refine TL_slice_lo TE (hk := ?_) | refine TL_build TE (hk := ?_))); refine TL_nil_p ?_)
      refine TA_two 1 14 rfl rfl (by kernel_rfl) (by kernel_rfl) ?_ ?_
      · refine TL_buildSlice0 TE (hf := rfl) (hq := fun w' h => Ext.un (h)) (hk := ?_); intro bA wA eA qA qA' kA
        have oA : Own wA w10.heap.size 108 4 (some ⟨bA, 0, none⟩) 0 0 [] := Own.of_blk kA qA rfl (by decide)
        have EA : Ext w10 wA := eA
        have hiA := oA.hi
        refine TL_nil_p ?_
        refine TA_two 8 14 rfl rfl (by kernel_rfl) (by kernel_rfl) ?_ ?_
        · refine TL_append TE (ho := oA) (hr := rtake.be EA) (h1 := rowV_one itV_one _) (hf := rfl) (hq := fun w' m => Ext.un (EA.own m oA.hi)) (hk := ?_); intro A8 c8 w8 o8 m8 n8
          rw [List.nil_append] at o8
          have E8 := EA.own m8 hiA
          refine TL_nil_p ?_
          refine TA_one 14 rfl (by kernel_rfl) (by kernel_rfl) ?_
          refine TL_buildSliceA TE (hf := rfl) (hq := fun w' h => Ext.un (E8.ext (h))) (hk := ?_); intro bB wB eB qB qB' kB
          replace kB : Blk wB bB 108 (rowV itV [key]) := kB
          have rB : Rd wB (some ⟨bB, 0, none⟩) 1 4 (rowV itV [key]) := Rd.blk kB rfl
          have E15 := E8.ext eB
          have o8 := o8.be eB
          have r14 := rB
          have zA := eA.size
          have z15 := E15.size
          refine TL_nil_p ?_
          refine TA_one 15 rfl (by kernel_rfl) (by kernel_rfl) ?_
          refine TL_append TE (ho := o8) (hr := r14) (h1 := rowV_one itV_one _) (hf := rfl) (hq := fun w' m => Ext.un (E15.own m o8.hi)) (hk := ?_); intro A15 c15 w15 o15 m15 n15
          rw [← rowV_append] at o15
          have E16 := E15.own m15 o8.hi
          have h15 := o15.hi
          have z16 := E16.size
          refine TL_nil_p ?_
          refine TA_one 22 rfl (by kernel_rfl) (by kernel_rfl) ?_
          refine TL_append TE (ho := o15) (hr := rdrop.be E16) (h1 := rowV_one itV_one _) (hf := rfl) (hq := fun w' m => Ext.un (E16.own m o15.hi)) (hk := ?_); intro A22 c22 w22 o22 m22 n22
          rw [← rowV_append] at o22
          have E23 := E16.own m22 o15.hi
          have hb23 := hb10.be E23
          refine TL_nil_p ?_
          (refine TA_one 23 rfl (by kernel_rfl) (by kernel_rfl) ?_; (repeat (first | refine TL_fieldAddr TE (hk := ?_) | refine TL_nilCheck (hk := ?_))); refine TL_nil_p ?_); (refine TA_one 24 rfl (by kernel_rfl) (by kernel_rfl) ?_; (repeat (first | refine TL_fieldAddr TE (hk := ?_) | refine TL_nilCheck (hk := ?_))); refine TL_nil_p ?_)
          refine TA_one 25 rfl (by kernel_rfl) (by kernel_rfl) ?_
          refine TL_store TE (hb := hb23) (hf := rfl) (hq := fun _ _ _ => trivial) (hk := ?_); intro w25 m25 z25 k25
          refine TL_nil_z (by kernel_rfl) ?_
          have z10 := e10.size
          have z9 := m9.size
          have hbl22 : ∀ u ∈ blkL A22, u ∉ [b] := fun u q q' => by
            rw [List.mem_singleton] at q'
            have := (o22.bl u q).1
            have := hb.lt
            omega
          repeat (first | refine T_region ?_ | refine T_inBlock ?_ | refine TL_add (hk := ?_) | refine TL_nil ?_ | refine TL_move (hk := ?_) | refine TL_assign (hk := ?_))
          exact ih (i + 1) w25 _ (by omega) ⟨by omega, ((m9.trans (Ext.un e10)).trans (Ext.un E23)).trans m25, (A22, 0 + p + 1 + (x9.2.1 - p), c22), l9.take p ++ [key] ++ l9.drop p, k25, (Own.weaken (o22.modL m25 hbl22) (by omega)), by simp only; omega⟩ (.c rfl (.c rfl (.c rfl (.c rfl (.n)))))
        · refine TL_buildSliceA TE (hf := rfl) (hq := fun w' h => Ext.un (EA.ext (h))) (hk := ?_); intro bB wB eB qB qB' kB
          replace kB : Blk wB bB 108 (rowV itV [key]) := kB
          have rB : Rd wB (some ⟨bB, 0, none⟩) 1 4 (rowV itV [key]) := Rd.blk kB rfl
          have EB := EA.ext eB
          refine TL_nil_p ?_
          refine TA_one 8 rfl (by kernel_rfl) (by kernel_rfl) ?_
          refine TL_append TE (ho := oA.be eB) (hr := rtake.be EB) (h1 := rowV_one itV_one _) (hf := rfl) (hq := fun w' m => Ext.un (EB.own m oA.hi)) (hk := ?_); intro A8 c8 w8 o8 m8 n8
          rw [List.nil_append] at o8
          have E15 := EB.own m8 hiA
          have zA := eA.size
          have r14 := rB.mod m8 (off_ofL fun u q q' => by
            simp [blkL] at q q'
            omega)
          have z15 := E15.size
          refine TL_nil_p ?_
          refine TA_one 15 rfl (by kernel_rfl) (by kernel_rfl) ?_
          refine TL_append TE (ho := o8) (hr := r14) (h1 := rowV_one itV_one _) (hf := rfl) (hq := fun w' m => Ext.un (E15.own m o8.hi)) (hk := ?_); intro A15 c15 w15 o15 m15 n15
          rw [← rowV_append] at o15
          have E16 := E15.own m15 o8.hi
          have h15 := o15.hi
          have z16 := E16.size
          refine TL_nil_p ?_
          refine TA_one 22 rfl (by kernel_rfl) (by kernel_rfl) ?_
          refine TL_append TE (ho := o15) (hr := rdrop.be E16) (h1 := rowV_one itV_one _) (hf := rfl) (hq := fun w' m => Ext.un (E16.own m o15.hi)) (hk := ?_); intro A22 c22 w22 o22 m22 n22
          rw [← rowV_append] at o22
          have E23 := E16.own m22 o15.hi
          have hb23 := hb10.be E23
          refine TL_nil_p ?_
          (refine TA_one 23 rfl (by kernel_rfl) (by kernel_rfl) ?_; (repeat (first | refine TL_fieldAddr TE (hk := ?_) | refine TL_nilCheck (hk := ?_))); refine TL_nil_p ?_); (refine TA_one 24 rfl (by kernel_rfl) (by kernel_rfl) ?_; (repeat (first | refine TL_fieldAddr TE (hk := ?_) | refine TL_nilCheck (hk := ?_))); refine TL_nil_p ?_)
          refine TA_one 25 rfl (by kernel_rfl) (by kernel_rfl) ?_
          refine TL_store TE (hb := hb23) (hf := rfl) (hq := fun _ _ _ => trivial) (hk := ?_); intro w25 m25 z25 k25
          refine TL_nil_z (by kernel_rfl) ?_
          have z10 := e10.size
          have z9 := m9.size
          have hbl22 : ∀ u ∈ blkL A22, u ∉ [b] := fun u q q' => by
            rw [List.mem_singleton] at q'
            have := (o22.bl u q).1
            have := hb.lt
            omega
          repeat (first | refine T_region ?_ | refine T_inBlock ?_ | refine TL_add (hk := ?_) | refine TL_nil ?_ | refine TL_move (hk := ?_) | refine TL_assign (hk := ?_))
          exact ih (i + 1) w25 _ (by omega) ⟨by omega, ((m9.trans (Ext.un e10)).trans (Ext.un E23)).trans m25, (A22, 0 + p + 1 + (x9.2.1 - p), c22), l9.take p ++ [key] ++ l9.drop p, k25, (Own.weaken (o22.modL m25 hbl22) (by omega)), by simp only; omega⟩ (.c rfl (.c rfl (.c rfl (.c rfl (.n)))))
      · refine TL_buildSliceA TE (hf := rfl) (hq := fun w' h => Ext.un (h)) (hk := ?_); intro bB wB eB qB qB' kB
        replace kB : Blk wB bB 108 (rowV itV [key]) := kB
        have rB : Rd wB (some ⟨bB, 0, none⟩) 1 4 (rowV itV [key]) := Rd.blk kB rfl
        have EB : Ext w10 wB := eB
        refine TL_nil_p ?_
        refine TA_one 1 rfl (by kernel_rfl) (by kernel_rfl) ?_
        refine TL_buildSlice0 TE (hf := rfl) (hq := fun w' h => Ext.un (EB.ext (h))) (hk := ?_); intro bA wA eA qA qA' kA
        have oA : Own wA wB.heap.size 108 4 (some ⟨bA, 0, none⟩) 0 0 [] := Own.of_blk kA qA rfl (by decide)
        have EA := EB.ext eA
        have hiA := oA.hi
        refine TL_nil_p ?_
        refine TA_one 8 rfl (by kernel_rfl) (by kernel_rfl) ?_
        refine TL_append TE (ho := oA) (hr := rtake.be EA) (h1 := rowV_one itV_one _) (hf := rfl) (hq := fun w' m => Ext.un (EB.ext (eA.own m oA.hi))) (hk := ?_); intro A8 c8 w8 o8 m8 n8
        rw [List.nil_append] at o8
        have E15 := EB.ext (eA.own m8 hiA)
        have r14 := (rB.be eA).mod m8 (off_ofL fun u q q' => by
          simp [blkL] at q q'
          omega)
        have zB := eB.size
        have o8 := Own.weaken (base' := w10.heap.size) o8 zB
        have z15 := E15.size
        refine TL_nil_p ?_
        refine TA_one 15 rfl (by kernel_rfl) (by kernel_rfl) ?_
        refine TL_append TE (ho := o8) (hr := r14) (h1 := rowV_one itV_one _) (hf := rfl) (hq := fun w' m => Ext.un (E15.own m o8.hi)) (hk := ?_); intro A15 c15 w15 o15 m15 n15
        rw [← rowV_append] at o15
        have E16 := E15.own m15 o8.hi
        have h15 := o15.hi
        have z16 := E16.size
        refine TL_nil_p ?_
        refine TA_one 22 rfl (by kernel_rfl) (by kernel_rfl) ?_
        refine TL_append TE (ho := o15) (hr := rdrop.be E16) (h1 := rowV_one itV_one _) (hf := rfl) (hq := fun w' m => Ext.un (E16.own m o15.hi)) (hk := ?_); intro A22 c22 w22 o22 m22 n22
        rw [← rowV_append] at o22
        have E23 := E16.own m22 o15.hi
        have hb23 := hb10.be E23
        refine TL_nil_p ?_
        (refine TA_one 23 rfl (by kernel_rfl) (by kernel_rfl) ?_; (repeat (first | refine TL_fieldAddr TE (hk := ?_) | refine TL_nilCheck (hk := ?_))); refine TL_nil_p ?_); (refine TA_one 24 rfl (by kernel_rfl) (by kernel_rfl) ?_; (repeat (first | refine TL_fieldAddr TE (hk := ?_) | refine TL_nilCheck (hk := ?_))); refine TL_nil_p ?_)
        refine TA_one 25 rfl (by kernel_rfl) (by kernel_rfl) ?_
        refine TL_store TE (hb := hb23) (hf := rfl) (hq := fun _ _ _ => trivial) (hk := ?_); intro w25 m25 z25 k25
        refine TL_nil_z (by kernel_rfl) ?_
        have z10 := e10.size
        have z9 := m9.size
        have hbl22 : ∀ u ∈ blkL A22, u ∉ [b] := fun u q q' => by
          rw [List.mem_singleton] at q'
          have := (o22.bl u q).1
          have := hb.lt
          omega
        repeat (first | refine T_region ?_ | refine T_inBlock ?_ | refine TL_add (hk := ?_) | refine TL_nil ?_ | refine TL_move (hk := ?_) | refine TL_assign (hk := ?_))
        exact ih (i + 1) w25 _ (by omega) ⟨by omega, ((m9.trans (Ext.un e10)).trans (Ext.un E23)).trans m25, (A22, 0 + p + 1 + (x9.2.1 - p), c22), l9.take p ++ [key] ++ l9.drop p, k25, (Own.weaken (o22.modL m25 hbl22) (by omega)), by simp only; omega⟩ (.c rfl (.c rfl (.c rfl (.c rfl (.n)))))

  · clear ih
    repeat (first | refine T_seq ?_ | refine T_region ?_ | refine T_cond_false rfl ?_ | refine T_exit rfl ?_ | refine TL_lt_f (hk := ?_) | refine TL_nil ?_ | refine TL_move (hk := ?_) | refine TL_assign (hk := ?_) | refine TL_len TE (hk := ?_))
    exact T_ret1 rfl rfl ⟨rfl, m9⟩
end Go.Proofs.YtgdbckjkeofoaaaGreat

/- Of each queue a beginning is granted; who is ready stays so. -/
namespace Go.Proofs.YtgdbckjkeofoaaaGreat
open Go.RowKit Go.Proofs.Eng Go.Proofs.Foot Go.Proofs.Locks
set_option linter.unusedSimpArgs false
set_option linter.unusedVariables false set_option maxRecDepth 10000
attribute [local irreducible] T TL LV TH TA
structure QueueOk (q : List Akk) (g : Nat) : Prop where
  le : g ≤ q.length
  pos : 0 < q.length → 1 ≤ g
  rd : ∀ i, 1 ≤ i → i < g → (q.getD i ak0).2 = false ∧ (q.getD 0 ak0).2 = false
  wr : ∀ i, g ≤ i → i < q.length → (q.getD i ak0).2 = true ∨ ∃ j, j < i ∧ (q.getD j ak0).2 = true
/-- Who is behind changes nothing. -/
theorem ahead_append {E X : List Ent} {s : Int} {l : List Lk} (h : eget E s = some l) : aheadE (E ++ X) s = aheadE E s ∧ eget (E ++ X) s = some l := by
  constructor
  · obtain ⟨E2, h1, h2⟩ := split_at h
    unfold aheadE at h1 h2 ⊢
    generalize E.takeWhile (fun e => !decide (e.1 = s)) = P at h1 h2
    rw [h1, List.append_assoc, List.cons_append]
    have key : ∀ (P : List Ent) (R : List Ent), (∀ e ∈ P, e.1 ≠ s) → (P ++ (s, l) :: R).takeWhile (fun e => !decide (e.1 = s)) = P := by
      intro P
      induction P with
      | nil => intro R _; simp
      | cons e P ih =>
        intro R hP
        have h0 := hP e List.mem_cons_self
        rw [List.cons_append, List.takeWhile_cons]
        simp only [h0, decide_false, Bool.not_false, if_true]
        rw [ih R (fun x hx => hP x (List.mem_cons_of_mem _ hx))]
    exact key P _ h2
  · rw [show eget (E ++ X) s = (eget E s).or (eget X s) from eget_append E X s, h]
    rfl
end Go.Proofs.YtgdbckjkeofoaaaGreat

/- Rows as the statements keep them. -/
namespace Go.Proofs.YtgdbckjkeofoaaaGreat
open Go.RowKit Go.Proofs.Eng Go.Proofs.Foot Go.Proofs.Locks
set_option linter.unusedSimpArgs false
set_option linter.unusedVariables false set_option maxRecDepth 10000
attribute [local irreducible] T TL LV TH TA
def clash2 (a b : List Lk) : Bool := a.any fun x => b.any fun y => decide (x.1 = y.1) && (x.2 || y.2)
theorem asks_iff {l : List Lk} (hn : (l.map (·.1)).Nodup) {k : Tx} {b : Bool} : asks l k = some b ↔ (k, b) ∈ l := by
  constructor
  · intro h
    unfold asks at h
    rw [Option.map_eq_some_iff] at h
    obtain ⟨x, h1, rfl⟩ := h
    have h2 := List.find?_some h1
    have h3 := List.mem_of_find?_eq_some h1
    simp only [decide_eq_true_eq] at h2
    rw [← h2]
    exact h3
  · intro h
    exact asks_mem hn h
theorem clash2_eq {a b : List Lk} (hn : (a.map (·.1)).Nodup) : clash2 a b = clashL a b := by
  have h1 : clash2 a b = true ↔ clashL a b = true := by
    rw [clashL_iff]
    unfold clash2
    simp only [List.any_eq_true, Bool.and_eq_true, decide_eq_true_eq]
    constructor
    · rintro ⟨x, hx, y, hy, e, h⟩
      exact ⟨y, hy, x.2, (asks_iff hn).2 (by rw [← e]; exact hx), h⟩
    · rintro ⟨y, hy, c, hc, h⟩
      exact ⟨(y.1, c), (asks_iff hn).1 hc, y, hy, rfl, h⟩
  cases h2 : clash2 a b <;> cases h3 : clashL a b <;> simp_all
structure RE where
  s : Int
  A : Option Addr
  n : Nat
  c : Nat
  was : Bool
  l : List Lk
def re0 : RE := ⟨0, none, 0, 0, false, []⟩
def rwV (r : RE) : List Value := [.int .i64 r.s, .slice r.A r.n r.c, .bool r.was]
def entR (r : RE) : Ent := (r.s, r.l)
def aloneB (rs : List RE) (k : Nat) : Bool := (rs.take k).all fun r => !clash2 r.l (rs.getD k re0).l
section
variable {t : LS} {N : Nat} {rs : List RE}
end
end Go.Proofs.YtgdbckjkeofoaaaGreat

/- The scheduler: who flies, who is ready, whatever is done. -/
namespace Go.Proofs.YtgdbckjkeofoaaaGreat
open Go.RowKit Go.Proofs.Eng Go.Proofs.Foot Go.Proofs.Locks Go.Proofs.Sched
set_option linter.unusedSimpArgs false
set_option linter.unusedVariables false set_option maxRecDepth 10000
attribute [local irreducible] T TL LV TH TA
def stE (E : List EnE) (i : Nat) : Nat := (E.getD i en0).st
def flyB (z : Nat) : Bool := decide (z = 2 ∨ z = 3 ∨ z = 4)
def entA (E : List EnE) (i : Nat) : Ent := ((i : Int), locksT (E.getD i en0).rd (E.getD i en0).wr)
def flyL (E : List EnE) (n : Nat) : List Ent := ((List.range n).filter fun i => flyB (stE E i)).map (entA E)
def clB (E : List EnE) (i k : Nat) : Bool := clashL (entA E k).2 (entA E i).2
/-- Nobody who flies ahead clashes with it. -/
def rdyI (E : List EnE) (i : Nat) : Prop := ∀ k, k < i → flyB (stE E k) = true → clB E i k = false
section
variable {E E' : List EnE} {n i k z N : Nat} {s : SS}
theorem st_set (hi : i < E.length) : stE (setSt E i z) k = if k = i then z else stE E k := by
  unfold stE setSt
  rw [getD_set _ _ _ _ _ hi]
  split <;> rfl
theorem ent_set (hi : i < E.length) : entA (setSt E i z) k = entA E k := by
  unfold entA setSt
  rw [getD_set _ _ _ _ _ hi]
  by_cases e : k = i
  · rw [if_pos e, e]
  · rw [if_neg e]
theorem fly_succ (E : List EnE) (n : Nat) : flyL E (n + 1) = flyL E n ++ (if flyB (stE E n) = true then [entA E n] else []) := by
  unfold flyL
  rw [List.range_succ, List.filter_append, List.map_append]
  congr 1
  simp only [List.filter_cons, List.filter_nil]
  split <;> simp
theorem fly_congr (h : ∀ k, k < n → flyB (stE E' k) = flyB (stE E k) ∧ entA E' k = entA E k) : flyL E' n = flyL E n := by
  induction n with
  | zero => rfl
  | succ n ih =>
    rw [fly_succ, fly_succ, ih (fun k hk => h k (by omega)), (h n (by omega)).1, (h n (by omega)).2]
theorem mem_fly {e : Ent} : e ∈ flyL E n ↔ ∃ k, k < n ∧ flyB (stE E k) = true ∧ e = entA E k := by
  unfold flyL
  rw [List.mem_map]
  constructor
  · rintro ⟨k, hk, rfl⟩
    obtain ⟨h1, h2⟩ := List.mem_filter.1 hk
    exact ⟨k, List.mem_range.1 h1, h2, rfl⟩
  · rintro ⟨k, h1, h2, rfl⟩
    exact ⟨k, List.mem_filter.2 ⟨List.mem_range.2 h1, h2⟩, rfl⟩
theorem fly_get : ∀ (n : Nat), i < n → flyB (stE E i) = true → eget (flyL E n) (i : Int) = some (entA E i).2 ∧ aheadE (flyL E n) (i : Int) = flyL E i
  | 0, h, _ => by omega
  | n + 1, h, hf => by
    rw [fly_succ]
    by_cases e : i = n
    · subst e
      rw [if_pos hf]
      have hne : ∀ x ∈ flyL E i, x.1 ≠ (i : Int) := fun x hx => by
        obtain ⟨k, h1, _, rfl⟩ := mem_fly.1 hx
        show (k : Int) ≠ _
        omega
      constructor
      · unfold eget
        rw [List.find?_append, List.find?_eq_none.2 (fun x hx => by simpa using hne x hx)]
        simp [entA]
      · unfold aheadE
        rw [List.takeWhile_append_of_pos (fun x hx => by simpa using hne x hx)]
        simp [entA]
    · obtain ⟨h1, h2⟩ := fly_get n (by omega) hf
      obtain ⟨a1, a2⟩ := ahead_append (X := if flyB (stE E n) = true then [entA E n] else []) h1
      exact ⟨a2, a1.trans h2⟩
structure SJ (s : SS) : Prop where
  nl : s.nxt ≤ s.E.length
  wn : 1 ≤ s.win
  a1 : ∀ i, i < s.E.length → (i < s.nxt ↔ stE s.E i ≠ 1)
  a2 : ∀ i, i < s.E.length → 1 ≤ stE s.E i ∧ stE s.E i ≤ 6
  a3 : s.t.E = flyL s.E s.nxt
  a4 : ∀ i, i < s.E.length → stE s.E i = 3 ∨ stE s.E i = 4 → rdyI s.E i
  a7 : s.t.E.length ≤ s.win
  a8 : ∀ i k, k < i → i < s.E.length → stE s.E i = 5 → stE s.E k ≠ 5 → stE s.E k ≠ 6 → clB s.E i k = false
  a9 : 0 ≤ s.t.nx ∧ s.t.nx ≤ (s.nxt : Int)
  a10 : ∀ i, i < s.E.length → chk none (entA s.E i).2 = 0
structure SR (s : SS) : Prop extends SJ s where
  a5 : ∀ i, i < s.E.length → stE s.E i = 2 → ¬ rdyI s.E i
  a6 : s.nxt < s.E.length → s.win ≤ s.t.E.length
theorem SJ.ready (J : SJ s) {i : Nat} (hi : i < s.nxt) (hf : flyB (stE s.E i) = true) : readyE s.t.E (i : Int) = true ↔ rdyI s.E i := by
  obtain ⟨h1, h2⟩ := fly_get (E := s.E) s.nxt hi hf
  rw [← J.a3] at h1 h2
  rw [ready_iff h1 (chk_nodup (J.a10 i (by have := J.nl; omega))), h2]
  constructor
  · intro h k hk hf
    exact h _ (mem_fly.2 ⟨k, hk, hf, rfl⟩)
  · intro h e he
    obtain ⟨k, h1, h2, rfl⟩ := mem_fly.1 he
    exact h k h1 h2
theorem fly_of {z : Nat} (h : z = 2 ∨ z = 3 ∨ z = 4) : flyB z = true := decide_eq_true h
theorem fly_iff {z : Nat} : flyB z = true ↔ z = 2 ∨ z = 3 ∨ z = 4 := by unfold flyB; rw [decide_eq_true_eq]
theorem rdy_congr (h : ∀ k, k < i → flyB (stE E' k) = true → flyB (stE E k) = true) (he : ∀ k, k ≤ i → entA E' k = entA E k) (hr : rdyI E i) : rdyI E' i := fun k hk hf => by
  have := hr k hk (h k hk hf)
  unfold clB at this ⊢
  rw [he k (by omega), he i (Nat.le_refl _)]
  exact this
theorem SJ.start (n : Nat) (hn : 1 ≤ n) (S : StE) : SR (newSS n S) :=
  { nl := Nat.le_refl _, wn := hn, a1 := (fun i h => by simp [newSS] at h), a2 := (fun i h => by simp [newSS] at h), a3 := rfl, a4 := (fun i h => by simp [newSS] at h), a7 := Nat.zero_le _, a8 := (fun i k _ h => by simp [newSS] at h), a9 := ⟨Int.le_refl _, Int.le_refl _⟩, a10 := (fun i h => by simp [newSS] at h), a5 := (fun i h => by simp [newSS] at h), a6 := (fun h => by simp [newSS] at h) }
/-- One more is looked at. -/
theorem lockS_sj (J : SJ s) (h1 : s.nxt < s.E.length) (h2 : s.t.E.length < s.win) (hnx : (s.nxt : Int) < 9223372036854775807) : SJ (lockS s) ∧ (lockS s).nxt = s.nxt + 1 ∧ (lockS s).E.length = s.E.length := by
  have hst1 : stE s.E s.nxt = 1 := Classical.byContradiction fun q => by
    have := (J.a1 s.nxt h1).2 q
    omega
  have gen : ∀ (z : Nat) (t' : LS) (S' : StE), z = 6 ∨ z = 2 → t'.E = flyL s.E s.nxt ++ (if flyB z = true then [entA s.E s.nxt] else []) → 0 ≤ t'.nx ∧ t'.nx ≤ ((s.nxt + 1 : Nat) : Int) → t'.E.length ≤ s.win → SJ { s with S := S', t := t', E := setSt s.E s.nxt z, nxt := s.nxt + 1 } := fun z t' S' hz ht hn hw => by
    have hs : ∀ k, stE (setSt s.E s.nxt z) k = if k = s.nxt then z else stE s.E k := fun k => st_set h1
    have he : ∀ k, entA (setSt s.E s.nxt z) k = entA s.E k := fun k => ent_set h1
    have hl := setSt_len s.E s.nxt z
    have hlow : ∀ k, k < s.nxt → stE (setSt s.E s.nxt z) k = stE s.E k := fun k hk => by rw [hs, if_neg (by omega)]
    refine ⟨by simp only [hl]; omega, J.wn, fun i hi => ?_, fun i hi => ?_, ?_, fun i hi h => ?_, hw, fun i k hk hi h5 hk5 hk6 => ?_, hn, fun i hi => ?_⟩
    · simp only [hl] at hi ⊢
      rw [hs]
      by_cases e : i = s.nxt
      · rw [if_pos e]; omega
      · rw [if_neg e, ← J.a1 i hi]; omega
    · simp only [hl] at hi ⊢
      rw [hs]
      split
      · omega
      · exact J.a2 i hi
    · simp only
      rw [ht, fly_succ, hs, if_pos rfl, he, fly_congr (E := s.E) (fun k hk => ⟨by rw [hlow k hk], he k⟩)]
    · simp only [hl] at hi h ⊢
      rw [hs] at h
      by_cases e : i = s.nxt
      · rw [if_pos e] at h; omega
      · rw [if_neg e] at h
        have hin := (J.a1 i hi).2 (by omega)
        exact rdy_congr (fun k hk q => by rw [hlow k (by omega)] at q; exact q) (fun k _ => he k) (J.a4 i hi h)
    · simp only [hl] at hi h5 hk5 hk6 ⊢
      rw [hs] at h5 hk5 hk6
      by_cases e : i = s.nxt
      · rw [if_pos e] at h5; omega
      · rw [if_neg e] at h5
        have hin := (J.a1 i hi).2 (by omega)
        rw [if_neg (by omega)] at hk5 hk6
        have := J.a8 i k hk hi h5 hk5 hk6
        unfold clB at this ⊢
        rw [he, he]; exact this
    · simp only [hl] at hi ⊢
      rw [he]; exact J.a10 i hi
  unfold lockS
  simp only
  split
  · refine ⟨gen 6 s.t s.S (.inl rfl) ?_ ⟨J.a9.1, by have := J.a9.2; omega⟩ J.a7, rfl, setSt_len _ _ _⟩
    rw [J.a3]; simp [flyB]
  · have hck := J.a10 s.nxt h1
    have hen : (enqE s.t (s.nxt : Int) (locksT (s.E.getD s.nxt en0).rd (s.E.getD s.nxt en0).wr)).1 = ⟨s.t.E ++ [entA s.E s.nxt], (s.nxt : Int) + 1⟩ := by
      unfold enqE
      have hck2 : chk none (locksT (s.E.getD s.nxt en0).rd (s.E.getD s.nxt en0).wr) = 0 := hck
      rw [if_neg (by have := J.a9; omega), if_neg (fun q => q hck2), bump_lt (by omega) hnx]
      rfl
    rw [hen]
    refine ⟨gen 2 _ _ (.inr rfl) ?_ ⟨by simp only; omega, by simp only; omega⟩ (by simp only [List.length_append, List.length_cons, List.length_nil]; omega), rfl, setSt_len _ _ _⟩
    simp only
    rw [J.a3]; simp [flyB]
theorem lockL_sj : ∀ (f : Nat) (s : SS), SJ s → s.E.length ≤ 1000 → s.E.length - s.nxt ≤ f → SJ (lockL f s) ∧ (lockL f s).E.length = s.E.length ∧ ((lockL f s).nxt < (lockL f s).E.length → (lockL f s).win ≤ (lockL f s).t.E.length)
  | 0, s, J, _, hf => ⟨J, rfl, fun h => by have : (lockL 0 s) = s := rfl; rw [this] at h; omega⟩
  | f + 1, s, J, hl, hf => by
    by_cases h1 : s.nxt < s.E.length
    · by_cases h2 : s.t.E.length < s.win
      · rw [lockL_go h1 h2]
        obtain ⟨J2, n2, l2⟩ := lockS_sj J h1 h2 (by omega)
        obtain ⟨a, b, c⟩ := lockL_sj f (lockS s) J2 (by omega) (by omega)
        exact ⟨a, b.trans l2, c⟩
      · rw [lockL_stop (fun q => h2 q.2)]
        exact ⟨J, rfl, fun _ => by omega⟩
    · rw [lockL_stop (fun q => h1 q.1)]
      exact ⟨J, rfl, fun q => absurd q h1⟩
theorem rdys_st (L : List Int) : ∀ (E : List EnE), (∀ q ∈ L, 0 ≤ q ∧ q < (E.length : Int)) → ∀ k, entA (L.foldl rdyS E) k = entA E k ∧ stE (L.foldl rdyS E) k = if stE E k = 2 ∧ (k : Int) ∈ L then 3 else stE E k := by
  induction L with
  | nil => intro E _ k; simp
  | cons q L ih =>
    intro E h k
    rw [List.foldl_cons]
    have hq := h q (by simp)
    have hqn : q.toNat < E.length := by omega
    have hl : (rdyS E q).length = E.length := by unfold rdyS; split <;> simp [setSt_len]
    obtain ⟨i1, i2⟩ := ih (rdyS E q) (fun z hz => by rw [hl]; exact h z (by simp [hz])) k
    have e1 : entA (rdyS E q) k = entA E k := by unfold rdyS; split <;> simp [ent_set hqn]
    have e2 : stE (rdyS E q) k = if stE E k = 2 ∧ (k : Int) = q then 3 else stE E k := by
      unfold rdyS
      by_cases h2 : (E.getD q.toNat en0).st = 2
      · rw [if_pos h2, st_set hqn]
        by_cases e : k = q.toNat
        · have hk2 : stE E k = 2 := by rw [e]; exact h2
          rw [if_pos e, if_pos ⟨hk2, by omega⟩]
        · rw [if_neg e, if_neg (fun z => e (by omega))]
      · rw [if_neg h2]
        by_cases e : stE E k = 2 ∧ (k : Int) = q
        · exfalso
          apply h2
          have : q.toNat = k := by omega
          rw [this]; exact e.1
        · rw [if_neg e]
    refine ⟨i1.trans e1, ?_⟩
    rw [i2, e2]
    clear i1 i2 e1 e2 ih h hl
    generalize stE E k = z
    by_cases h2 : z = 2 <;> by_cases hkq : (k : Int) = q <;> by_cases hkL : (k : Int) ∈ L <;> simp [h2, hkq, hkL, List.mem_cons]
theorem lockE_sr (J : SJ s) (hl : s.E.length ≤ 1000) : SR (lockE s) ∧ (lockE s).E.length = s.E.length := by
  obtain ⟨J1, l1, h6⟩ := lockL_sj (s.E.length - s.nxt) s J hl (Nat.le_refl _)
  change SJ (lockU s) at J1
  change (lockU s).E.length = _ at l1
  change (lockU s).nxt < (lockU s).E.length → (lockU s).win ≤ (lockU s).t.E.length at h6
  unfold lockE
  generalize lockU s = u at J1 l1 h6
  have hmem : ∀ q : Int, q ∈ readiesE u.t ↔ ∃ k, k < u.nxt ∧ flyB (stE u.E k) = true ∧ q = (k : Int) ∧ rdyI u.E k := fun q => by
    unfold readiesE allE
    rw [List.mem_filter, List.mem_map]
    constructor
    · rintro ⟨⟨e, he, rfl⟩, hr⟩
      rw [J1.a3] at he
      obtain ⟨k, h1, h2, rfl⟩ := mem_fly.1 he
      exact ⟨k, h1, h2, rfl, (J1.ready h1 h2).1 hr⟩
    · rintro ⟨k, h1, h2, rfl, hr⟩
      exact ⟨⟨entA u.E k, by rw [J1.a3]; exact mem_fly.2 ⟨k, h1, h2, rfl⟩, rfl⟩, (J1.ready h1 h2).2 hr⟩
  have hrg : ∀ q ∈ readiesE u.t, 0 ≤ q ∧ q < (u.E.length : Int) := fun q hq => by
    obtain ⟨k, h1, _, rfl, _⟩ := (hmem q).1 hq
    have := J1.nl
    omega
  have hR := rdys_st (readiesE u.t) u.E hrg
  have hL := rdys_len (readiesE u.t) u.E
  generalize (readiesE u.t).foldl rdyS u.E = E' at hR hL
  have hst : ∀ k, stE E' k = if stE u.E k = 2 ∧ (k : Int) ∈ readiesE u.t then 3 else stE u.E k := fun k => (hR k).2
  have hen : ∀ k, entA E' k = entA u.E k := fun k => (hR k).1
  have hfl : ∀ k, flyB (stE E' k) = flyB (stE u.E k) := fun k => by
    rw [hst]
    by_cases e : stE u.E k = 2 ∧ (k : Int) ∈ readiesE u.t
    · rw [if_pos e, e.1]; rfl
    · rw [if_neg e]
  have hrd : ∀ i, rdyI u.E i → rdyI E' i := fun i h => rdy_congr (fun k _ q => by rw [hfl] at q; exact q) (fun k _ => hen k) h
  have hrd' : ∀ i, rdyI E' i → rdyI u.E i := fun i h => rdy_congr (fun k _ q => by rw [hfl]; exact q) (fun k _ => (hen k).symm) h
  have hother : ∀ k z, z ≠ 2 → z ≠ 3 → (stE E' k = z ↔ stE u.E k = z) := fun k z z2 z3 => by
    rw [hst]
    by_cases e : stE u.E k = 2 ∧ (k : Int) ∈ readiesE u.t
    · rw [if_pos e]; omega
    · rw [if_neg e]
  refine ⟨{ nl := by simp only [hL]; exact J1.nl, wn := J1.wn, a1 := fun i hi => ?_, a2 := fun i hi => ?_, a3 := ?_, a4 := fun i hi h => ?_, a7 := J1.a7, a8 := fun i k hk hi h5 k5 k6 => ?_, a9 := J1.a9, a10 := fun i hi => ?_, a5 := fun i hi h => ?_, a6 := fun h => ?_ }, by simp only [hL]; exact l1⟩
  · simp only [hL] at hi ⊢
    rw [J1.a1 i hi]
    exact not_congr (hother i 1 (by omega) (by omega)).symm
  · simp only [hL] at hi ⊢
    have := J1.a2 i hi
    rw [hst]
    split
    · omega
    · exact this
  · simp only
    rw [J1.a3]
    exact (fly_congr (fun k _ => ⟨hfl k, hen k⟩)).symm
  · simp only [hL] at hi h ⊢
    apply hrd
    rw [hst] at h
    by_cases e : stE u.E i = 2 ∧ (i : Int) ∈ readiesE u.t
    · obtain ⟨k, _, _, h3, h4⟩ := (hmem _).1 e.2
      have : i = k := by omega
      rw [this]; exact h4
    · rw [if_neg e] at h
      exact J1.a4 i hi h
  · simp only [hL] at hi h5 k5 k6 ⊢
    have := J1.a8 i k hk hi ((hother i 5 (by omega) (by omega)).1 h5) (fun q => k5 ((hother k 5 (by omega) (by omega)).2 q)) (fun q => k6 ((hother k 6 (by omega) (by omega)).2 q))
    unfold clB at this ⊢
    rw [hen, hen]; exact this
  · simp only [hL] at hi ⊢
    rw [hen]; exact J1.a10 i hi
  · simp only [hL] at hi h ⊢
    intro hr
    have hr := hrd' i hr
    rw [hst] at h
    by_cases e : stE u.E i = 2 ∧ (i : Int) ∈ readiesE u.t
    · rw [if_pos e] at h; omega
    · rw [if_neg e] at h
      refine e ⟨h, (hmem _).2 ⟨i, (J1.a1 i hi).2 (by omega), fly_of (by omega), rfl, hr⟩⟩
  · simp only [hL] at h ⊢
    exact h6 h
/-- The least that is left is ready or taken. -/
theorem SR.first (R : SR s) {i : Nat} (hi : i < s.E.length) (hl : stE s.E i ≠ 5 ∧ stE s.E i ≠ 6) (hb : ∀ k, k < i → stE s.E k = 5 ∨ stE s.E k = 6) : stE s.E i = 3 ∨ stE s.E i = 4 := by
  have h2 := R.a2 i hi
  by_cases e1 : stE s.E i = 1
  · exfalso
    have hn : ¬ i < s.nxt := fun q => (R.a1 i hi).1 q e1
    have hz : s.t.E = [] := by
      rw [R.a3]
      apply List.eq_nil_iff_forall_not_mem.2
      intro e he
      obtain ⟨k, h1, h3, _⟩ := mem_fly.1 he
      have := fly_iff.1 h3
      have := hb k (by omega)
      omega
    have := R.a6 (by omega)
    rw [hz] at this
    have := R.wn
    simp at *
    omega
  · by_cases e2 : stE s.E i = 2
    · exfalso
      refine R.a5 i hi e2 (fun k hk hf => ?_)
      have := fly_iff.1 hf
      have := hb k hk
      omega
    · omega
/-- Of two that clash the one behind is not ready before the one ahead is done. -/
theorem SR.apart (R : SR s) {i k : Nat} (hk : k < i) (hi : i < s.E.length) (ho : stE s.E i = 3 ∨ stE s.E i = 4 ∨ stE s.E i = 5) (hl : stE s.E k ≠ 5 ∧ stE s.E k ≠ 6) : clB s.E i k = false := by
  by_cases h5 : stE s.E i = 5
  · exact R.a8 i k hk hi h5 hl.1 hl.2
  · have hn := (R.a1 i hi).2 (by omega)
    have hk1 := (R.a1 k (by omega)).1 (by omega)
    have hk2 := R.a2 k (by omega)
    exact R.a4 i hi (by omega) k hk (fly_of (by omega))
end
end Go.Proofs.YtgdbckjkeofoaaaGreat

namespace Go.Proofs.YtgdbckjkeofoaaaGreat
open Go.RowKit Go.Proofs.Eng Go.Proofs.Foot Go.Proofs.Locks Go.Proofs.Sched
set_option linter.unusedSimpArgs false
set_option linter.unusedVariables false set_option maxRecDepth 10000
attribute [local irreducible] T TL LV TH TA
set_option maxHeartbeats 3200000
theorem own_c15 (A B : Option Addr) (n c m d : Nat) (r k : List Tx) (w : World) (h : Rd w A n 1 (sv r)) (g : Rd w B m 1 (sv k)) (hn : n ≤ 50000) (hm : m ≤ 50000) :
    Ret Tryz.prog 10 [.agg #[.slice A n c, .slice B m d]] w (fun v w' => ∃ A' c' B' d', v = .agg #[.slice A' n c', .slice B' m d'] ∧ Rd w' A' n 1 (sv r) ∧ Rd w' B' m 1 (sv k) ∧ Ext w w') := by
  refine ret_T (n := 12) Tryz.func10 rfl rfl ?_
  repeat (first | refine T_seq ?_ | refine T_region ?_)
  refine TL_box (hk := ?_); intro b1 w1 e1 h1 h1' k1
  replace k1 : Blk w1 b1 35 [.slice A n c, .slice B m d] := k1
  --
  refine TL_alloc TE (hk := ?_); intro b2 w2 e2 h2 h2' k2
  have k12 := k1.be e2
  have z1 := e1.size
  have z2 := e2.size
  repeat (first | refine T_seq ?_ | refine TL_nil ?_)
  refine T_region_anyz TE.mixed ([] : List Nat) (some 9) ?_; intro w3 e3 z3
  have k13 := k12.be e3
  have k23 := k2.be e3
  have e03 := (e1.ext e2).ext e3
  have hA3 := h.be e03
  have hB3 := g.be e03
  have hbD : b1 ∉ ([] : List Nat) := by simp
  clear k1 k12 k2 h g
  (refine TA_take 1 rfl (by kernel_rfl) (by kernel_rfl) (by kernel_rfl) ?_; (repeat (first | refine TLP_load TE (hk := ?_) | refine TL_fieldAddr TE (hk := ?_))); refine TL_nil_p ?_); (refine TA_take 2 rfl (by kernel_rfl) (by kernel_rfl) (by kernel_rfl) ?_; (repeat (first | refine TLP_load TE (hk := ?_) | refine TL_fieldAddr TE (hk := ?_))); refine TL_nil_p ?_); (refine TA_take 5 rfl (by kernel_rfl) (by kernel_rfl) (by kernel_rfl) ?_; (repeat (first | refine TLP_load TE (hk := ?_) | refine TL_fieldAddr TE (hk := ?_))); refine TL_nil_p ?_); (refine TA_take 6 rfl (by kernel_rfl) (by kernel_rfl) (by kernel_rfl) ?_; (repeat (first | refine TLP_load TE (hk := ?_) | refine TL_fieldAddr TE (hk := ?_))); refine TL_nil_p ?_)
  refine TA_two 0 4 rfl rfl (by kernel_rfl) (by kernel_rfl) ?_ ?_
  · refine TL_buildSlice0 TE (hf := rfl) (hq := fun w' h => Ext.un ((Mod.refl [] w3).ext h)) (hk := ?_); intro bX wX eX qX qX' kX
    have oX : Own wX w3.heap.size 9 1 (some ⟨bX, 0, none⟩) 0 0 [] := Own.of_blk kX qX rfl (by decide)
    have zX0 := (Mod.refl [] w3).size
    have EX := (Mod.refl [] w3).ext eX
    have zX := eX.size
    have hbX : ∀ u ∈ blkL (some (⟨bX, 0, none⟩ : Addr)), w3.heap.size ≤ u := fun u hu => by simp [blkL] at hu; omega
    have hqX := fun w' (m : Eng.Mod (blkL (some (⟨bX, 0, none⟩ : Addr))) wX w') => Mod.step EX m (fun u hu => .inr (hbX u hu))
    refine TL_nil_p ?_
    refine TA_two 3 4 rfl rfl (by kernel_rfl) (by kernel_rfl) ?_ ?_
    · refine TL_append TE (ho := oX) (hr := hA3.be EX) (h1 := sv_one _) (hf := rfl) (hq := fun w' m => Ext.un (Mod.step EX m (fun u hu => .inr (hbX u hu)))) (hk := ?_); intro AX cX vX pX mX nX
      rw [List.nil_append] at pX
      have FX : Ext w3 vX := Mod.step EX mX (fun u hu => .inr (hbX u hu))
      have yX := mX.size
      have rX := pX.rd
      have lX : ∀ u ∈ blkL AX, u < vX.heap.size := fun u hu => (pX.bl u hu).2
      refine TL_nil_p ?_
      refine TA_one 4 rfl (by kernel_rfl) (by kernel_rfl) ?_
      refine TL_buildSlice0 TE (hf := rfl) (hq := fun w' h => Ext.un (FX.ext h)) (hk := ?_); intro bY wY eY qY qY' kY
      have oY : Own wY vX.heap.size 9 1 (some ⟨bY, 0, none⟩) 0 0 [] := Own.of_blk kY qY rfl (by decide)
      have zY0 := FX.size
      have EY := FX.ext eY
      have zY := eY.size
      have hbY : ∀ u ∈ blkL (some (⟨bY, 0, none⟩ : Addr)), w3.heap.size ≤ u := fun u hu => by simp [blkL] at hu; omega
      have hqY := fun w' (m : Eng.Mod (blkL (some (⟨bY, 0, none⟩ : Addr))) wY w') => Mod.step EY m (fun u hu => .inr (hbY u hu))
      replace rX := rX.be eY
      have dX : ∀ u ∈ blkL AX, u ≠ bY := fun u hu e => by have := lX u hu; omega
      refine TL_nil_p ?_
      refine TA_one 7 rfl (by kernel_rfl) (by kernel_rfl) ?_
      refine TL_append TE (ho := oY) (hr := hB3.be EY) (h1 := sv_one _) (hf := rfl) (hq := fun w' m => Ext.un (Mod.step EY m (fun u hu => .inr (hbY u hu)))) (hk := ?_); intro AY cY vY pY mY nY
      rw [List.nil_append] at pY
      have FY : Ext w3 vY := Mod.step EY mY (fun u hu => .inr (hbY u hu))
      have yY := mY.size
      have rY := pY.rd
      have lY : ∀ u ∈ blkL AY, u < vY.heap.size := fun u hu => (pY.bl u hu).2
      replace rX := rX.mod mY (off_ofL fun u hu hu2 => by simp [blkL] at hu2; exact dX u hu hu2)
      refine TL_nil_p ?_
      (refine TA_take 8 rfl (by kernel_rfl) (by kernel_rfl) (by kernel_rfl) ?_; (repeat (refine TL_build TE (hk := ?_))); refine TL_nil_p ?_)
      refine TA_one 9 rfl (by kernel_rfl) (by kernel_rfl) ?_
      refine TL_storea TE (vs := [.slice AX (0 + n) cX, .slice AY (0 + m) cY]) (hb := k23.be FY) (hf := rfl) (hq := fun _ _ _ => trivial) (hk := ?_); intro w9 m9 z9 k9
      refine TL_nil_z (by kernel_rfl) ?_
      have z8 := FY.size
      have rX9 := rX.mod m9 (off_ofL fun u hu hu2 => by rw [List.mem_singleton] at hu2; have := (pX.bl u hu).1; omega)
      have rY9 := rY.mod m9 (off_ofL fun u hu hu2 => by rw [List.mem_singleton] at hu2; have := (pY.bl u hu).1; omega)
      --
      refine T_retA1 TE (vs := [.slice AX (0 + n) cX, .slice AY (0 + m) cY]) (o := 0) rfl rfl rfl rfl k9 rfl (Nat.succ_pos _) ⟨AX, cX, AY, cY, by rw [Nat.zero_add, Nat.zero_add], by rw [← Nat.zero_add n]; exact rX9, by rw [← Nat.zero_add m]; exact rY9, Mod.step (e03.ext FY) m9 (fun u hu => .inr (by rw [List.mem_singleton.1 hu]; omega))⟩
    · refine TL_buildSlice0 TE (hf := rfl) (hq := fun w' h => Ext.un (EX.ext h)) (hk := ?_); intro bY wY eY qY qY' kY
      have oY : Own wY wX.heap.size 9 1 (some ⟨bY, 0, none⟩) 0 0 [] := Own.of_blk kY qY rfl (by decide)
      have zY0 := EX.size
      have EY := EX.ext eY
      have zY := eY.size
      have hbY : ∀ u ∈ blkL (some (⟨bY, 0, none⟩ : Addr)), w3.heap.size ≤ u := fun u hu => by simp [blkL] at hu; omega
      have hqY := fun w' (m : Eng.Mod (blkL (some (⟨bY, 0, none⟩ : Addr))) wY w') => Mod.step EY m (fun u hu => .inr (hbY u hu))
      replace oX := oX.be eY
      refine TL_nil_p ?_
      refine TA_one 3 rfl (by kernel_rfl) (by kernel_rfl) ?_
      refine TL_append TE (ho := oX) (hr := hA3.be EY) (h1 := sv_one _) (hf := rfl) (hq := fun w' m => Ext.un (Mod.step EY m (fun u hu => .inr (hbX u hu)))) (hk := ?_); intro AX cX vX pX mX nX
      rw [List.nil_append] at pX
      have FX : Ext w3 vX := Mod.step EY mX (fun u hu => .inr (hbX u hu))
      have yX := mX.size
      have rX := pX.rd
      have lX : ∀ u ∈ blkL AX, u < vX.heap.size := fun u hu => (pX.bl u hu).2
      have dX : ∀ u ∈ blkL AX, u ≠ bY := fun u hu e => by
        rcases Near.mem nX u hu with a | a
        · simp [blkL] at a; omega
        · omega
      replace oY := oY.modL mX (fun u hu hu2 => by simp [blkL] at hu hu2; omega)
      refine TL_nil_p ?_
      refine TA_one 7 rfl (by kernel_rfl) (by kernel_rfl) ?_
      refine TL_append TE (ho := oY) (hr := hB3.be FX) (h1 := sv_one _) (hf := rfl) (hq := fun w' m => Ext.un (Mod.step FX m (fun u hu => .inr (hbY u hu)))) (hk := ?_); intro AY cY vY pY mY nY
      rw [List.nil_append] at pY
      have FY : Ext w3 vY := Mod.step FX mY (fun u hu => .inr (hbY u hu))
      have yY := mY.size
      have rY := pY.rd
      have lY : ∀ u ∈ blkL AY, u < vY.heap.size := fun u hu => (pY.bl u hu).2
      replace rX := rX.mod mY (off_ofL fun u hu hu2 => by simp [blkL] at hu2; exact dX u hu hu2)
      refine TL_nil_p ?_
      (refine TA_take 8 rfl (by kernel_rfl) (by kernel_rfl) (by kernel_rfl) ?_; (repeat (refine TL_build TE (hk := ?_))); refine TL_nil_p ?_)
      refine TA_one 9 rfl (by kernel_rfl) (by kernel_rfl) ?_
      refine TL_storea TE (vs := [.slice AX (0 + n) cX, .slice AY (0 + m) cY]) (hb := k23.be FY) (hf := rfl) (hq := fun _ _ _ => trivial) (hk := ?_); intro w9 m9 z9 k9
      refine TL_nil_z (by kernel_rfl) ?_
      have z8 := FY.size
      have rX9 := rX.mod m9 (off_ofL fun u hu hu2 => by rw [List.mem_singleton] at hu2; have := (pX.bl u hu).1; omega)
      have rY9 := rY.mod m9 (off_ofL fun u hu hu2 => by rw [List.mem_singleton] at hu2; have := (pY.bl u hu).1; omega)
      --
      refine T_retA1 TE (vs := [.slice AX (0 + n) cX, .slice AY (0 + m) cY]) (o := 0) rfl rfl rfl rfl k9 rfl (Nat.succ_pos _) ⟨AX, cX, AY, cY, by rw [Nat.zero_add, Nat.zero_add], by rw [← Nat.zero_add n]; exact rX9, by rw [← Nat.zero_add m]; exact rY9, Mod.step (e03.ext FY) m9 (fun u hu => .inr (by rw [List.mem_singleton.1 hu]; omega))⟩
  · refine TL_buildSlice0 TE (hf := rfl) (hq := fun w' h => Ext.un ((Mod.refl [] w3).ext h)) (hk := ?_); intro bY wY eY qY qY' kY
    have oY : Own wY w3.heap.size 9 1 (some ⟨bY, 0, none⟩) 0 0 [] := Own.of_blk kY qY rfl (by decide)
    have zY0 := (Mod.refl [] w3).size
    have EY := (Mod.refl [] w3).ext eY
    have zY := eY.size
    have hbY : ∀ u ∈ blkL (some (⟨bY, 0, none⟩ : Addr)), w3.heap.size ≤ u := fun u hu => by simp [blkL] at hu; omega
    have hqY := fun w' (m : Eng.Mod (blkL (some (⟨bY, 0, none⟩ : Addr))) wY w') => Mod.step EY m (fun u hu => .inr (hbY u hu))
    refine TL_nil_p ?_
    refine TA_one 0 rfl (by kernel_rfl) (by kernel_rfl) ?_
    refine TL_buildSlice0 TE (hf := rfl) (hq := fun w' h => Ext.un (EY.ext h)) (hk := ?_); intro bX wX eX qX qX' kX
    have oX : Own wX wY.heap.size 9 1 (some ⟨bX, 0, none⟩) 0 0 [] := Own.of_blk kX qX rfl (by decide)
    have zX0 := EY.size
    have EX := EY.ext eX
    have zX := eX.size
    have hbX : ∀ u ∈ blkL (some (⟨bX, 0, none⟩ : Addr)), w3.heap.size ≤ u := fun u hu => by simp [blkL] at hu; omega
    have hqX := fun w' (m : Eng.Mod (blkL (some (⟨bX, 0, none⟩ : Addr))) wX w') => Mod.step EX m (fun u hu => .inr (hbX u hu))
    replace oY := oY.be eX
    refine TL_nil_p ?_
    refine TA_one 3 rfl (by kernel_rfl) (by kernel_rfl) ?_
    refine TL_append TE (ho := oX) (hr := hA3.be EX) (h1 := sv_one _) (hf := rfl) (hq := fun w' m => Ext.un (Mod.step EX m (fun u hu => .inr (hbX u hu)))) (hk := ?_); intro AX cX vX pX mX nX
    rw [List.nil_append] at pX
    have FX : Ext w3 vX := Mod.step EX mX (fun u hu => .inr (hbX u hu))
    have yX := mX.size
    have rX := pX.rd
    have lX : ∀ u ∈ blkL AX, u < vX.heap.size := fun u hu => (pX.bl u hu).2
    have dX : ∀ u ∈ blkL AX, u ≠ bY := fun u hu e => by
      rcases Near.mem nX u hu with a | a
      · simp [blkL] at a; omega
      · omega
    replace oY := oY.modL mX (fun u hu hu2 => by simp [blkL] at hu hu2; omega)
    refine TL_nil_p ?_
    refine TA_one 7 rfl (by kernel_rfl) (by kernel_rfl) ?_
    refine TL_append TE (ho := oY) (hr := hB3.be FX) (h1 := sv_one _) (hf := rfl) (hq := fun w' m => Ext.un (Mod.step FX m (fun u hu => .inr (hbY u hu)))) (hk := ?_); intro AY cY vY pY mY nY
    rw [List.nil_append] at pY
    have FY : Ext w3 vY := Mod.step FX mY (fun u hu => .inr (hbY u hu))
    have yY := mY.size
    have rY := pY.rd
    have lY : ∀ u ∈ blkL AY, u < vY.heap.size := fun u hu => (pY.bl u hu).2
    replace rX := rX.mod mY (off_ofL fun u hu hu2 => by simp [blkL] at hu2; exact dX u hu hu2)
    refine TL_nil_p ?_
    (refine TA_take 8 rfl (by kernel_rfl) (by kernel_rfl) (by kernel_rfl) ?_; (repeat (refine TL_build TE (hk := ?_))); refine TL_nil_p ?_)
    refine TA_one 9 rfl (by kernel_rfl) (by kernel_rfl) ?_
    refine TL_storea TE (vs := [.slice AX (0 + n) cX, .slice AY (0 + m) cY]) (hb := k23.be FY) (hf := rfl) (hq := fun _ _ _ => trivial) (hk := ?_); intro w9 m9 z9 k9
    refine TL_nil_z (by kernel_rfl) ?_
    have z8 := FY.size
    have rX9 := rX.mod m9 (off_ofL fun u hu hu2 => by rw [List.mem_singleton] at hu2; have := (pX.bl u hu).1; omega)
    have rY9 := rY.mod m9 (off_ofL fun u hu hu2 => by rw [List.mem_singleton] at hu2; have := (pY.bl u hu).1; omega)
    --
    refine T_retA1 TE (vs := [.slice AX (0 + n) cX, .slice AY (0 + m) cY]) (o := 0) rfl rfl rfl rfl k9 rfl (Nat.succ_pos _) ⟨AX, cX, AY, cY, by rw [Nat.zero_add, Nat.zero_add], by rw [← Nat.zero_add n]; exact rX9, by rw [← Nat.zero_add m]; exact rY9, Mod.step (e03.ext FY) m9 (fun u hu => .inr (by rw [List.mem_singleton.1 hu]; omega))⟩
end Go.Proofs.YtgdbckjkeofoaaaGreat

/- What an argument that reads as data looks like, and how much it holds. -/
namespace Go.Proofs.Eng
open Go.RowKit Go.WideShapes
set_option linter.unusedSimpArgs false
set_option linter.unusedVariables false
/-- How much a reading holds. -/
structure Bulk (H : Type) where
  one : DataW H → Nat
  all : List (DataW H) → Nat
  lit : ∀ l, 1 ≤ one (.lit l)
  str : ∀ b, one (.lit (.string b)) = b.length + 1
  nil : one .nil = 1
  slice : ∀ e s, one (.slice e s) = all e + all s + 1
  agg : ∀ p, one (.agg p) = all p + 1
  none : all [] = 0
  some : ∀ d r, all (d :: r) = one d + all r
def FitB (w : World) : Ty → List Value → Nat → Prop
  | .int k, cs, m => 1 ≤ m ∧ ∃ n, cs = [.int k n] ∧ Fits k n
  | .bool, cs, m => 1 ≤ m ∧ ∃ b, cs = [.bool b]
  | .str, cs, m => ∃ s : ByteArray, cs = [.string s] ∧ s.size ≤ maxLen ∧ s.size + 1 ≤ m
  | .slice e, cs, m => ∃ (A : Option Addr) (n c : Nat) (xs : List (List Value)) (ms : List Nat), cs = [.slice A n c] ∧ n ≤ c ∧ c ≤ maxLen ∧ xs.length = n ∧ ms.length = n ∧ ms.sum + 1 ≤ m ∧ Rd w A n e.size xs.flatten ∧
      ∀ (i : Nat) (x : List Value) (k : Nat), xs[i]? = some x → ms[i]? = some k → x.length = e.size ∧ FitB w e x k
  | .unit, cs, _ => cs = []
  | .cons a b, cs, m => ∃ x y p q, cs = x ++ y ∧ x.length = a.size ∧ p + q ≤ m ∧ FitB w a x p ∧ FitB w b y q
  | .struct p, cs, m => FitB w p cs m
  | .array n e, cs, m => ∃ (xs : List (List Value)) (ms : List Nat), cs = xs.flatten ∧ xs.length = n ∧ ms.length = n ∧ ms.sum ≤ m ∧ ∀ (i : Nat) (x : List Value) (k : Nat), xs[i]? = some x → ms[i]? = some k → x.length = e.size ∧ FitB w e x k
theorem FitB.mono {w : World} : ∀ {ty : Ty} {cs : List Value} {m m' : Nat}, FitB w ty cs m → m ≤ m' → FitB w ty cs m'
  | .int _, _, _, _, ⟨h, r⟩, hm => ⟨Nat.le_trans h hm, r⟩
  | .bool, _, _, _, ⟨h, r⟩, hm => ⟨Nat.le_trans h hm, r⟩
  | .str, _, _, _, ⟨s, h1, h2, h3⟩, hm => ⟨s, h1, h2, Nat.le_trans h3 hm⟩
  | .slice _, _, _, _, ⟨A, n, c, xs, ms, h1, h2, h3, h4, h5, h6, h7⟩, hm => ⟨A, n, c, xs, ms, h1, h2, h3, h4, h5, Nat.le_trans h6 hm, h7⟩
  | .unit, _, _, _, h, _ => h
  | .cons _ _, _, _, _, ⟨x, y, p, q, h1, h2, h3, h4⟩, hm => ⟨x, y, p, q, h1, h2, Nat.le_trans h3 hm, h4⟩
  | .struct p, _, _, _, h, hm => FitB.mono (ty := p) h hm
  | .array _ _, _, _, _, ⟨xs, ms, h1, h2, h3, h4, h5⟩, hm => ⟨xs, ms, h1, h2, h3, Nat.le_trans h4 hm, h5⟩
section
variable {H : Type} {enc : TypeId × Value → H} {P : Program} {w : World} {base : Nat} {spare : Nat → Bool} {held : Bool}
theorem Bulk.map_sum (K : Bulk H) (l : List (DataW H × List MemPlace)) : K.all (l.map (·.1)) = (l.map fun x => K.one x.1).sum := by
  induction l with
  | nil => simp [K.none]
  | cons a l ih => simp [K.some, ih]
theorem fitb_of_trod (E : Env P) (K : Bulk H) : ∀ (ty : Ty),
    (∀ t, tyOk E ty (.at t) = true → ∀ fuel cs x, DataW.trod enc P w base spare held fuel t cs = some x → FitB w ty cs (K.one x.1)) ∧
    (∀ off fl, tyOk E ty (.from off fl) = true → ∀ (cs : List Value) (ys : List (DataW H × List MemPlace)), cs.length = off + ty.size → ys.length = fl.length →
      (∀ (i : Nat) (o : Nat) (t : TypeId) y, fl[i]? = some (o, t) → ys[i]? = some y → ∃ n, DataW.trod enc P w base spare held n t ((cs.drop o).take (P.cellsOf t)) = some y) → FitB w ty (cs.drop off) (ys.map fun x => K.one x.1).sum) := by
  intro ty
  induction ty with
  | int k =>
    refine ⟨fun t h fuel cs x hd => ?_, fun _ _ h => by simp [tyOk] at h⟩
    obtain ⟨n, h1, h3, h2⟩ := DataW.trod_int (und_int h) hd
    rw [h3]
    exact ⟨K.lit _, n, h1, fits_of_wf h2⟩
  | bool =>
    refine ⟨fun t h fuel cs x hd => ?_, fun _ _ h => by simp [tyOk] at h⟩
    obtain ⟨b, h1, h3⟩ := DataW.trod_bool (und_bool h) hd
    rw [h3]
    exact ⟨K.lit _, b, h1⟩
  | str =>
    refine ⟨fun t h fuel cs x hd => ?_, fun _ _ h => by simp [tyOk] at h⟩
    obtain ⟨s, h1, h3, h2⟩ := DataW.trod_string (und_str h) hd
    rw [h3]
    exact ⟨s, h1, h2, by rw [K.str]; simp⟩
  | slice e ih =>
    refine ⟨fun t h fuel cs x hd => ?_, fun _ _ h => by simp [tyOk] at h⟩
    simp only [tyOk] at h
    split at h
    · rename_i u hu
      simp only [Bool.and_eq_true] at h
      obtain ⟨⟨h1, h2⟩, h3⟩ := h
      have hsz := sizeIs_ok h2
      have h0 : 0 < e.size := by simpa [Nat.blt_eq] using h3
      rcases DataW.trod_slice (E.und_ok _ _ hu) hd with ⟨rfl, hx⟩ | ⟨a, len, cap, elems, rest, n, _, rfl, hx, hb, hl, hm, hlen, hel, _⟩
      · rw [hx]
        exact ⟨none, 0, 0, [], [], rfl, Nat.le_refl _, by decide, rfl, rfl, by simp [K.nil], Rd.nil _ _ _, by simp⟩
      · rw [hsz] at hel
        have hget : ∀ i, i < len → ∃ y z, w.cells? base (a.add (i * e.size)) e.size = some y ∧ elems[i]? = some z ∧ DataW.trod enc P w base spare held n u y = some z := fun i hi => by
          have h4 := hel i hi
          rw [List.getElem?_eq_getElem (by omega)] at h4
          cases hc : w.cells? base (a.add (i * e.size)) e.size with
          | none => rw [hc] at h4; simp at h4
          | some y => rw [hc] at h4; simp at h4; exact ⟨y, _, rfl, List.getElem?_eq_getElem (by omega), h4⟩
        have hsome : ∀ (i : Nat) (x : List Value), ((List.range len).map fun i => (w.cells? base (a.add (i * e.size)) e.size).getD [])[i]? = some x → w.cells? base (a.add (i * e.size)) e.size = some x ∧ x.length = e.size ∧ ∃ z, elems[i]? = some z ∧ FitB w e x (K.one z.1) := fun i x hx => by
          have hi : i < len := by have := (List.getElem?_eq_some_iff.1 hx).1; simpa using this
          obtain ⟨y, z, hy, hz, ht⟩ := hget i hi
          rw [List.getElem?_map, List.getElem?_range hi] at hx
          simp only [Option.map_some, hy, Option.getD_some, Option.some.injEq] at hx
          subst hx
          exact ⟨hy, (World.cells?_some hy).2.1, z, hz, ih.1 u h1 n y z ht⟩
        have hmem : ∀ x ∈ (List.range len).map (fun i => (w.cells? base (a.add (i * e.size)) e.size).getD []), x.length = e.size := fun x hx => by
          obtain ⟨i, hi⟩ := List.getElem?_of_mem hx
          exact (hsome i x hi).2.1
        refine ⟨some a, len, cap, _, elems.map fun x => K.one x.1, rfl, hl, hm, by simp, by simp [hlen], ?_, rows_read h0 (by simp) (fun i x hx => (hsome i x hx).1) hmem, ?_⟩
        · rw [hx]
          simp only [K.slice, K.map_sum]
          omega
        · intro i x k hx hk
          obtain ⟨_, h5, z, hz, h6⟩ := hsome i x hx
          rw [List.getElem?_map, hz] at hk
          simp at hk
          subst hk
          exact ⟨h5, h6⟩
    · cases h
  | unit =>
    refine ⟨fun t h => by simp [tyOk] at h, fun off fl h cs ys hl _ _ => ?_⟩
    show cs.drop off = []
    exact List.drop_of_length_le (by simp only [Ty.size] at hl; omega)
  | cons a b iha ihb =>
    refine ⟨fun t h => by simp [tyOk] at h, fun off fl h cs ys hl hyl hf => ?_⟩
    cases fl with
    | nil => simp [tyOk] at h
    | cons p fl =>
      cases ys with
      | nil => simp at hyl
      | cons y ys =>
        obtain ⟨o, t⟩ := p
        simp only [tyOk, Bool.and_eq_true] at h
        obtain ⟨⟨⟨h1, h2⟩, h3⟩, h4⟩ := h
        have ho := Nat.eq_of_beq_eq_true h1
        subst ho
        simp only [Ty.size] at hl
        have hsz := sizeIs_ok h3
        obtain ⟨n, hx⟩ := hf 0 o t y rfl rfl
        rw [hsz] at hx
        refine ⟨(cs.drop o).take a.size, cs.drop (o + a.size), K.one y.1, (ys.map fun x => K.one x.1).sum, ?_, by simp; omega, by simp, iha.1 t h2 n _ y hx, ?_⟩
        · rw [← List.drop_drop, List.take_append_drop]
        · exact ihb.2 (o + a.size) fl h4 cs ys (by omega) (by simpa using hyl) (fun i o' t' y' h' g' => hf (i + 1) o' t' y' (by simpa using h') (by simpa using g'))
  | struct p ih =>
    refine ⟨fun t h fuel cs x hd => ?_, fun _ _ h => by simp [tyOk] at h⟩
    simp only [tyOk] at h
    split at h
    · rename_i fl hfl
      simp only [Bool.and_eq_true] at h
      obtain ⟨h1, h2⟩ := h
      obtain ⟨fs, hu, hmap⟩ := E.fld_ok _ _ hfl
      obtain ⟨xs, n, _, hx, hl, hxl, hfs⟩ := DataW.trod_struct hu hd
      rw [sizeIs_ok h2] at hl
      have := ih.2 0 fl h1 cs xs (by omega) (by rw [hxl, ← hmap]; simp) (fun i o t' y h' g' => by
        rw [← hmap, List.getElem?_map] at h'
        cases hf : fs.toList[i]? with
        | none => rw [hf] at h'; cases h'
        | some f =>
          rw [hf] at h'
          cases h'
          have hf' : fs[i]? = some f := by simpa using hf
          have h5 := hfs i f hf'
          rw [g'] at h5
          exact ⟨n, h5⟩)
      rw [hx]
      refine FitB.mono (ty := p) (by simpa using this) ?_
      rw [K.agg, K.map_sum]
      omega
    · cases h
  | array n e ih =>
    refine ⟨fun t h fuel cs x hd => ?_, fun _ _ h => by simp [tyOk] at h⟩
    simp only [tyOk] at h
    split at h
    · rename_i m u hu
      simp only [Bool.and_eq_true] at h
      obtain ⟨⟨⟨h1, h2⟩, h3⟩, h4⟩ := h
      have hm := Nat.eq_of_beq_eq_true h1
      subst hm
      obtain ⟨xs, q, _, hx, hl, hxl, hel⟩ := DataW.trod_array (E.und_ok _ _ hu) hd
      rw [sizeIs_ok h4] at hl
      rw [sizeIs_ok h3] at hel
      refine ⟨(List.range m).map fun i => (cs.drop (i * e.size)).take e.size, xs.map fun x => K.one x.1, (take_drop_chunks m cs hl).symm, by simp, by simp [hxl], ?_, fun i y k hy hk => ?_⟩
      · rw [hx, K.agg, K.map_sum]
        omega
      · have hi' : i < m := by have := (List.getElem?_eq_some_iff.1 hy).1; simpa using this
        rw [List.getElem?_map, List.getElem?_range hi'] at hy
        simp at hy
        subst hy
        have h5 := hel i hi'
        rw [List.getElem?_map, ← h5] at hk
        cases ht : DataW.trod enc P w base spare held q u ((cs.drop (i * e.size)).take e.size) with
        | none => rw [ht] at hk; simp at hk
        | some z =>
          rw [ht] at hk
          simp at hk
          subst hk
          refine ⟨?_, ih.1 u h2 q _ _ ht⟩
          have : (i + 1) * e.size ≤ m * e.size := Nat.mul_le_mul_right _ hi'
          rw [Nat.succ_mul] at this
          simp; omega
    · cases h
/-- An argument that reads as data and holds so much. -/
def ReadsB (P : Program) (w : World) (base : Nat) (t : TypeId) (v : Value) (m : Nat) : Prop :=
  ∃ (H : Type) (enc : TypeId × Value → H) (d : DataW H) (ps : List MemPlace) (K : Bulk H), DataW.Trod enc P w 0 (fun _ => true) true t v d ps ∧ Value.okWide P w .any base t v ∧ K.one d ≤ m
theorem ReadsB.fit {t : TypeId} {v : Value} {m : Nat} (E : Env P) (h : ReadsB P w base t v m) (ty : Ty) (hok : tyOk E ty (.at t) = true) : FitB w ty v.cells.toList m := by
  obtain ⟨H, enc, d, ps, K, ⟨fuel, hf⟩, _, hm⟩ := h
  exact FitB.mono ((fitb_of_trod E K ty).1 t hok fuel _ _ hf) hm
theorem ReadsB.slice {t e : TypeId} {v : Value} {m : Nat} (E : Env P) (h : ReadsB P w base t v m) (ht : E.und t = some (.slice e)) : ∃ A n c, v = .slice A n c := by
  obtain ⟨_, _, _, _, _, _, hv, _⟩ := h
  exact okWide_slice (E.und_ok _ _ ht) hv
theorem FitB.bytes {A : Option Addr} {n c m : Nat} (h : FitB w (.slice (.int .u8)) [.slice A n c] m) : ∃ l, Rd w A n 1 (bv l) ∧ n ≤ c ∧ c ≤ maxLen ∧ n + 1 ≤ m := by
  obtain ⟨A', n', c', xs, ms, hv, h1, h2, h3, h4, h5, h6, h7⟩ := h
  cases hv
  have hn : n ≤ ms.sum := by
    rw [← h4]
    have key : ∀ (xs : List (List Value)) (ms : List Nat), xs.length = ms.length → (∀ (i : Nat) (x : List Value) (k : Nat), xs[i]? = some x → ms[i]? = some k → 1 ≤ k) → ms.length ≤ ms.sum := by
      intro xs
      induction xs with
      | nil => intro ms hl _; cases ms <;> simp at hl ⊢
      | cons x xs ih =>
        intro ms hl hk
        cases ms with
        | nil => simp
        | cons k ms =>
          have := ih ms (by simpa using hl) (fun i x k a b => hk (i + 1) x k (by simpa using a) (by simpa using b))
          have := hk 0 x k rfl rfl
          simp
          omega
    exact key xs ms (by omega) (fun i x k a b => (h7 i x k a b).2.1)
  have h8 : ∀ x ∈ xs, x.length = 1 ∧ Fit w (.int .u8) x := fun x hx => by
    obtain ⟨i, hi⟩ := List.getElem?_of_mem hx
    have hlt := (List.getElem?_eq_some_iff.1 hi).1
    have := h7 i x ms[i] hi (List.getElem?_eq_getElem (by omega))
    exact ⟨this.1, this.2.2⟩
  obtain ⟨l, hl, h9, h10⟩ := Fit.bytes (w := w) (A := A) (n := n) (c := c) ⟨A, n, c, xs, rfl, h1, h2, h3, h6, h8⟩
  exact ⟨l, hl, h9, h10, by omega⟩
end
end Go.Proofs.Eng

/- An argument that is a row, opened element by element. -/
namespace Go.Proofs.Eng
open Go.RowKit Go.WideShapes
set_option linter.unusedSimpArgs false
set_option linter.unusedVariables false
theorem rows_of {α : Type} {g : α → List Value} {Q : α → Prop} {w : World} {e : Ty} {M : Nat} (h : ∀ (x : List Value) (k : Nat), k ≤ M → FitB w e x k → 1 ≤ k ∧ ∃ a, x = g a ∧ Q a) :
    ∀ (xs : List (List Value)) (ms : List Nat), xs.length = ms.length → ms.sum ≤ M → (∀ (i : Nat) (x : List Value) (k : Nat), xs[i]? = some x → ms[i]? = some k → x.length = e.size ∧ FitB w e x k) → ∃ l : List α, rowV g l = xs.flatten ∧ (∀ a ∈ l, Q a) ∧ l.length = xs.length ∧ xs.length ≤ ms.sum
  | [], [], _, _, _ => ⟨[], rfl, fun a ha => (by cases ha), rfl, Nat.le_refl _⟩
  | [], _ :: _, hl, _, _ => by simp at hl
  | _ :: _, [], hl, _, _ => by simp at hl
  | x :: xs, k :: ms, hl, hs, hk => by
    simp only [List.sum_cons] at hs
    obtain ⟨l, h1, h2, h3, h4⟩ := rows_of h xs ms (by simpa using hl) (by omega) (fun i x k a b => hk (i + 1) x k (by simpa using a) (by simpa using b))
    obtain ⟨h5, a, rfl, ha⟩ := h x k (by omega) (hk 0 x k rfl rfl).2
    exact ⟨a :: l, by rw [rowV_cons, h1]; simp, fun b hb => by
      rcases List.mem_cons.1 hb with rfl | hb
      · exact ha
      · exact h2 b hb, by simp [h3], by simp only [List.length_cons, List.sum_cons]; omega⟩
/-- A row inside an argument. -/
theorem FitB.row {α : Type} {g : α → List Value} {Q : α → Prop} {w : World} {e : Ty} {M k : Nat} (h : ∀ (x : List Value) (k : Nat), k ≤ M → FitB w e x k → 1 ≤ k ∧ ∃ a, x = g a ∧ Q a) {x : List Value} (hx : FitB w (.slice e) x k) (hk : k ≤ M) :
    1 ≤ k ∧ ∃ (A : Option Addr) (n c : Nat) (l : List α), x = [.slice A n c] ∧ n ≤ c ∧ c ≤ maxLen ∧ n < k ∧ l.length = n ∧ Rd w A n e.size (rowV g l) ∧ ∀ a ∈ l, Q a := by
  obtain ⟨A, n, c, xs, ms, h1, h2, h3, h4, h5, h6, h7, h8⟩ := hx
  obtain ⟨l, g1, g2, g3, g4⟩ := rows_of h xs ms (by omega) (by omega) h8
  exact ⟨by omega, A, n, c, l, h1, h2, h3, by omega, by omega, by rw [g1]; exact h7, g2⟩
end Go.Proofs.Eng

/- Four results. -/
namespace Go.Proofs.Eng
open Go.RowKit
set_option linter.unusedSimpArgs false
set_option linter.unusedVariables false
set_option linter.unusedSectionVars false
section
variable {P : Program} {fn : Func} {n : Nat} {st : Slots} {k : List Item} {w : World} {Φ : Value → World → Prop} {dd : Bool}
theorem T_ret4 {t1 t2 t3 t4 : Tmp} {v1 v2 v3 v4 : Value} (hr : fn.results = #[.tmp t1, .tmp t2, .tmp t3, .tmp t4]) (h1 : look st t1 = some v1) (h2 : look st t2 = some v2) (h3 : look st t3 = some v3) (h4 : look st t4 = some v4)
    (hR : Φ (.tuple #[v1, v2, v3, v4]) w) : T P fn (RR Φ) ⟨dd, []⟩ n st (.code .ret :: k) w := T_ret rfl (fun a ha => by
  have e1 := ha.get _ _ h1
  have e2 := ha.get _ _ h2
  have e3 := ha.get _ _ h3
  have e4 := ha.get _ _ h4
  simp only [Array.getD_eq_getD_getElem?] at e1 e2 e3 e4
  simp [results, hr, e1, e2, e3, e4]) hR
end
end Go.Proofs.Eng

/- A story of a scheduler, as an argument. -/
namespace Go.Proofs.YtgdbckjkeofoaaaGreat
open Go.RowKit Go.Proofs.Eng Go.Proofs.Foot Go.Proofs.Locks Go.Proofs.Sched
set_option linter.unusedSimpArgs false
set_option linter.unusedVariables false set_option maxRecDepth 10000
attribute [local irreducible] T TL LV TH TA
structure AD where
  kd : Int
  by_ : Int
  A : Option Addr
  n : Nat
  c : Nat
  B : Option Addr
  m : Nat
  d : Nat
  r : List Tx
  k : List Tx
def ad0 : AD := ⟨0, 0, none, 0, 0, none, 0, 0, [], []⟩
def adV (x : AD) : List Value := [.int .i64 x.kd, .int .i64 x.by_, .slice x.A x.n x.c, .slice x.B x.m x.d]
theorem adV_len (x : AD) : (adV x).length = 4 := rfl
def i64ok (z : Int) : Prop := -9223372036854775808 ≤ z ∧ z ≤ 9223372036854775807
structure AdOk (w : World) (x : AD) : Prop where
  ra : Rd w x.A x.n 1 (sv x.r)
  rb : Rd w x.B x.m 1 (sv x.k)
  nc : x.n ≤ 1048576 ∧ x.m ≤ 1048576
  kd : i64ok x.kd
  bd : i64ok x.by_
  sr : ∀ y ∈ x.r, y.length ≤ 1048576
  sk : ∀ y ∈ x.k, y.length ≤ 1048576
theorem AdOk.be {w w' : World} {x : AD} (h : AdOk w x) (e : Ext w w') : AdOk w' x := { h with ra := h.ra.be e, rb := h.rb.be e }
abbrev tyFt : Ty := .struct (.cons (.slice .str) (.cons (.slice .str) .unit))
abbrev tyAct15 : Ty := .struct (.cons (.int .i64) (.cons (.int .i64) (.cons tyFt .unit)))
abbrev tyStory15 : Ty := .struct (.cons (.int .i64) (.cons (.int .i64) (.cons (.slice .str) (.cons (.int .i64) (.cons (.slice tyAct15) .unit)))))
theorem rowV_sv (l : List Tx) : rowV (fun t : Tx => [Value.string (ofL t)]) l = sv l := by simp [rowV, sv, List.flatten_eq_flatMap, List.flatMap_map, ← List.map_eq_flatMap]
theorem strs_of {w : World} {M k : Nat} {x : List Value} (hk : k ≤ M) (h : FitB w (.slice .str) x k) : ∃ A n c l, x = [.slice A n c] ∧ Rd w A n 1 (sv l) ∧ l.length = n ∧ n ≤ c ∧ c ≤ 9223372036854775807 ∧ n + 1 ≤ k ∧ ∀ y ∈ l, y.length ≤ M := by
  obtain ⟨_, A', n', c', l, hv, g1, g2, g3, g4, g5, g6⟩ := FitB.row (g := fun t : Tx => [Value.string (ofL t)]) (Q := fun t => t.length ≤ M) (M := M) (fun x k hk hx => by
    obtain ⟨S, rfl, h1, h2⟩ := hx
    have : S.data.toList.length = S.size := Array.length_toList
    exact ⟨by omega, S.data.toList, rfl, by omega⟩) h hk
  unfold maxLen at g2
  rw [rowV_sv] at g5
  exact ⟨A', n', c', l, hv, g5, g4, g1, g2, by omega, g6⟩
theorem act15_of {w : World} (x : List Value) (k : Nat) (hk : k ≤ 1048576) (h : FitB w tyAct15 x k) : 1 ≤ k ∧ ∃ a : AD, x = adV a ∧ AdOk w a := by
  obtain ⟨x1, y1, p, q, rfl, h1, h2, ⟨h3, kd, rfl, f1⟩, x2, y2, p2, q2, rfl, h4, h5, ⟨h6, by_, rfl, f2⟩, x3, y3, p3, q3, rfl, h8, h9, h10, hz⟩ := h
  have hz : y3 = [] := hz
  subst hz
  obtain ⟨u1, v1, s1, t1, rfl, g1, g2, hA, u2, v2, s2, t2, rfl, g3, g4, hB, hz2⟩ := h10
  have hz2 : v2 = [] := hz2
  subst hz2
  obtain ⟨A, n, c, r, rfl, a1, a2, a3, a4, a5, a6⟩ := strs_of (M := 1048576) (by omega) hA
  obtain ⟨B, m, d, k', rfl, b1, b2, b3, b4, b5, b6⟩ := strs_of (M := 1048576) (by omega) hB
  exact ⟨by omega, ⟨kd, by_, A, n, c, B, m, d, r, k'⟩, rfl, a1, b1, ⟨by simp only; omega, by simp only; omega⟩, f1, f2, a6, b6⟩
theorem agg_5 {v a b c d e : Value} (h : v.cells.toList = [a, b, c, d, e]) : v = .agg #[a, b, c, d, e] := by
  cases v with
  | agg cs =>
    have e : cs.toList = [a, b, c, d, e] := h
    congr
    exact Array.toList_inj.1 (by simpa using e)
  | _ => simp [Value.cells] at h
theorem story15_in {w : World} {base : Nat} {v : Value} (h : ReadsB Tryz.prog w base 25 v 1048576) :
    ∃ (a b wn : Int) (KA : Option Addr) (kn kc : Nat) (ks : List Tx) (A : Option Addr) (n c : Nat) (l : List AD), v = .agg #[.int .i64 a, .int .i64 b, .slice KA kn kc, .int .i64 wn, .slice A n c] ∧ i64ok a ∧ i64ok b ∧ i64ok wn ∧ Rd w KA kn 1 (sv ks) ∧ kn ≤ 1048576 ∧ (∀ y ∈ ks, y.length ≤ 1048576) ∧ Rd w A n 4 (rowV adV l) ∧ l.length = n ∧ (∀ x ∈ l, AdOk w x) ∧ n ≤ 1048576 := by
  obtain ⟨x1, y1, p1, q1, h1, -, h2, ⟨_, a, rfl, fa⟩, x2, y2, p2, q2, rfl, -, h5, ⟨_, b, rfl, fb⟩, x3, y3, p3, q3, rfl, -, h8, hk, x4, y4, p4, q4, rfl, -, h9, ⟨_, wn, rfl, fd⟩, x5, y5, p5, q5, rfl, -, h10, hs, hz⟩ := h.fit TE tyStory15 (by decide +kernel)
  have hz : y5 = [] := hz
  subst hz
  obtain ⟨KA, kn, kc, ks, rfl, a1, a2, a3, a4, a5, a6⟩ := strs_of (M := 1048576) (by omega) hk
  obtain ⟨_, A, n, c, l, rfl, g1, g2, g3, g4, g5, g6⟩ := FitB.row (g := adV) (Q := AdOk w) (M := 1048576) act15_of hs (by omega)
  exact ⟨a, b, wn, KA, kn, kc, ks, A, n, c, l, agg_5 h1, fa, fb, fd, a1, by omega, a6, g5, g4, g6, by omega⟩
def totD (l : List AD) (i : Nat) : Nat := ((l.take i).map fun x => x.n + x.m).sum
theorem totD_succ (l : List AD) (i : Nat) (hi : i < l.length) : totD l (i + 1) = totD l i + ((l.getD i ad0).n + (l.getD i ad0).m) := by
  unfold totD
  rw [List.take_succ_eq_append_getElem hi, List.map_append, List.sum_append]
  simp only [List.map_cons, List.map_nil, List.sum_cons, List.sum_nil, Nat.add_zero]
  rw [List.getD_eq_getElem?_getD, List.getElem?_eq_getElem hi]
  rfl
theorem totD_mem {l : List AD} {n : Nat} (hl : l.length = n) : ∀ x ∈ l, x.n + x.m ≤ totD l n := by
  unfold totD
  rw [List.take_of_length_le (by omega)]
  clear hl
  induction l with
  | nil => intro x hx; cases hx
  | cons y l ih =>
    intro x hx
    rw [List.map_cons, List.sum_cons]
    rcases List.mem_cons.1 hx with rfl | hx
    · omega
    · have := ih x hx; omega
set_option maxHeartbeats 3200000
theorem long_c15 (a b wn : Int) (KA : Option Addr) (kn kc : Nat) (A : Option Addr) (n c : Nat) (l : List AD) (w : World) (hr : Rd w A n 4 (rowV adV l)) (hl : l.length = n) (hm : ∀ x ∈ l, AdOk w x) (hn : n ≤ 1048576) :
    Ret Tryz.prog 6 [.agg #[.int .i64 a, .int .i64 b, .slice KA kn kc, .int .i64 wn, .slice A n c]] w (fun v w' => (v = .bool true ∨ v = .bool false ∧ n ≤ 200 ∧ kn ≤ 200 ∧ ∀ x ∈ l, x.n + x.m ≤ 3000) ∧ Ext w w') := by
  refine ret_T (n := 45) Tryz.func6 rfl rfl ?_
  repeat (first | refine T_seq ?_ | refine T_region ?_)
  refine TL_box (hk := ?_); intro b1 w1 e1 h1 h1' k1
  replace k1 : Blk w1 b1 25 [.int .i64 a, .int .i64 b, .slice KA kn kc, .int .i64 wn, .slice A n c] := k1
  have hr1 := hr.be e1
  have hbD : b1 ∉ ([] : List Nat) := by simp
  have hAD : Off A ([] : List Nat) := .nil _
  repeat (first | refine T_seq ?_ | refine T_region ?_ | refine T_block ?_ | refine TL_nil ?_ | refine TL_assign (hk := ?_))
  refine T_loop (ι := Nat) (fun i => [(4, .int .i64 (i : Int)), (3, .int .i64 ((totD l i : Nat) : Int)), (1, .pointer (some ⟨b1, 0, none⟩))]) (fun i w' => Ext w1 w' ∧ i ≤ n ∧ totD l i ≤ i * 2097152) (fun i => n - i) 0 (.c rfl (.c rfl (.c rfl (.n)))) ⟨Mod.refl _ _, Nat.zero_le _, by simp [totD]⟩ ?_
  rintro i w2 ⟨e2, hi, ht⟩ ih
  have k2 := k1.be e2
  have hr2 := hr1.be e2
  by_cases hlt : i < n
  · have hA : A ≠ none := by obtain ⟨_, _, hq, _⟩ := hr2.2 (by omega); rw [hq]; simp
    have hv2 : (rowV adV l)[i * 4 + 2]? = some (.slice (l.getD i ad0).A (l.getD i ad0).n (l.getD i ad0).c) := rowV_at adV_len l i 2 ad0 (by omega) (by omega)
    have hv3 : (rowV adV l)[i * 4 + 3]? = some (.slice (l.getD i ad0).B (l.getD i ad0).m (l.getD i ad0).d) := rowV_at adV_len l i 3 ad0 (by omega) (by omega)
    have hsu := totD_succ l i (by omega)
    have hb := (hm _ (show l.getD i ad0 ∈ l from getD_in (by omega))).nc
    generalize l.getD i ad0 = x at hv2 hv3 hsu hb
    have hmul : (i + 1) * 2097152 = i * 2097152 + 2097152 := Nat.succ_mul _ _
    have hmul2 : i * 2097152 ≤ 1048576 * 2097152 := Nat.mul_le_mul_right _ (by omega)
    have hc : ((totD l i : Nat) : Int) + (x.n : Int) + (x.m : Int) = ((totD l (i + 1) : Nat) : Int) := by omega
    repeat (first | refine T_seq ?_ | refine T_region ?_ | refine T_cond_true rfl ?_ | refine T_block ?_ | refine T_skip ?_ | refine TL_lt_t (hk := ?_) | refine TL_nil ?_ | refine TL_move (hk := ?_) | refine TL_load TE (hk := ?_) | refine TL_fieldAddr TE (hk := ?_) | refine TL_len TE (hk := ?_))
    refine T_region_any TE.mixed ([] : List Nat) ?_; intro w3 e3 z3
    have k3 := k2.be e3
    have hr3 := hr2.be e3
    (refine TA_take 0 rfl (by kernel_rfl) (by kernel_rfl) (by kernel_rfl) ?_; (repeat (first | refine TL_add (hk := ?_) | refine TL_move (hk := ?_) | refine TLP_load TE (hk := ?_) | refine TLP_load_rd TE (hk := ?_) | refine TL_fieldAddr TE (hk := ?_) | refine TL_fieldAddr_e TE (hk := ?_) | refine TL_indexAddrn TE (hk := ?_) | refine TL_len TE (hk := ?_))); refine TL_nil_p ?_); (refine TA_take 1 rfl (by kernel_rfl) (by kernel_rfl) (by kernel_rfl) ?_; (repeat (first | refine TL_add (hk := ?_) | refine TL_move (hk := ?_) | refine TLP_load TE (hk := ?_) | refine TLP_load_rd TE (hk := ?_) | refine TL_fieldAddr TE (hk := ?_) | refine TL_fieldAddr_e TE (hk := ?_) | refine TL_indexAddrn TE (hk := ?_) | refine TL_len TE (hk := ?_))); refine TL_nil_p ?_); (refine TA_take 2 rfl (by kernel_rfl) (by kernel_rfl) (by kernel_rfl) ?_; (repeat (first | refine TL_add (hk := ?_) | refine TL_move (hk := ?_) | refine TLP_load TE (hk := ?_) | refine TLP_load_rd TE (hk := ?_) | refine TL_fieldAddr TE (hk := ?_) | refine TL_fieldAddr_e TE (hk := ?_) | refine TL_indexAddrn TE (hk := ?_) | refine TL_len TE (hk := ?_))); refine TL_nil_p ?_); (refine TA_take 3 rfl (by kernel_rfl) (by kernel_rfl) (by kernel_rfl) ?_; (repeat (first | refine TL_add (hk := ?_) | refine TL_move (hk := ?_) | refine TLP_load TE (hk := ?_) | refine TLP_load_rd TE (hk := ?_) | refine TL_fieldAddr TE (hk := ?_) | refine TL_fieldAddr_e TE (hk := ?_) | refine TL_indexAddrn TE (hk := ?_) | refine TL_len TE (hk := ?_))); refine TL_nil_p ?_); (refine TA_take 4 rfl (by kernel_rfl) (by kernel_rfl) (by kernel_rfl) ?_; (repeat (first | refine TL_add (hk := ?_) | refine TL_move (hk := ?_) | refine TLP_load TE (hk := ?_) | refine TLP_load_rd TE (hk := ?_) | refine TL_fieldAddr TE (hk := ?_) | refine TL_fieldAddr_e TE (hk := ?_) | refine TL_indexAddrn TE (hk := ?_) | refine TL_len TE (hk := ?_))); refine TL_nil_p ?_); (refine TA_take 5 rfl (by kernel_rfl) (by kernel_rfl) (by kernel_rfl) ?_; (repeat (first | refine TL_add (hk := ?_) | refine TL_move (hk := ?_) | refine TLP_load TE (hk := ?_) | refine TLP_load_rd TE (hk := ?_) | refine TL_fieldAddr TE (hk := ?_) | refine TL_fieldAddr_e TE (hk := ?_) | refine TL_indexAddrn TE (hk := ?_) | refine TL_len TE (hk := ?_))); refine TL_nil_p ?_); (refine TA_take 6 rfl (by kernel_rfl) (by kernel_rfl) (by kernel_rfl) ?_; (repeat (first | refine TL_add (hk := ?_) | refine TL_move (hk := ?_) | refine TLP_load TE (hk := ?_) | refine TLP_load_rd TE (hk := ?_) | refine TL_fieldAddr TE (hk := ?_) | refine TL_fieldAddr_e TE (hk := ?_) | refine TL_indexAddrn TE (hk := ?_) | refine TL_len TE (hk := ?_))); refine TL_nil_p ?_); (refine TA_take 7 rfl (by kernel_rfl) (by kernel_rfl) (by kernel_rfl) ?_; (repeat (first | refine TL_add (hk := ?_) | refine TL_move (hk := ?_) | refine TLP_load TE (hk := ?_) | refine TLP_load_rd TE (hk := ?_) | refine TL_fieldAddr TE (hk := ?_) | refine TL_fieldAddr_e TE (hk := ?_) | refine TL_indexAddrn TE (hk := ?_) | refine TL_len TE (hk := ?_))); refine TL_nil_p ?_); (refine TA_take 8 rfl (by kernel_rfl) (by kernel_rfl) (by kernel_rfl) ?_; (repeat (first | refine TL_add (hk := ?_) | refine TL_move (hk := ?_) | refine TLP_load TE (hk := ?_) | refine TLP_load_rd TE (hk := ?_) | refine TL_fieldAddr TE (hk := ?_) | refine TL_fieldAddr_e TE (hk := ?_) | refine TL_indexAddrn TE (hk := ?_) | refine TL_len TE (hk := ?_))); refine TL_nil_p ?_); (refine TA_take 9 rfl (by kernel_rfl) (by kernel_rfl) (by kernel_rfl) ?_; (repeat (first | refine TL_add (hk := ?_) | refine TL_move (hk := ?_) | refine TLP_load TE (hk := ?_) | refine TLP_load_rd TE (hk := ?_) | refine TL_fieldAddr TE (hk := ?_) | refine TL_fieldAddr_e TE (hk := ?_) | refine TL_indexAddrn TE (hk := ?_) | refine TL_len TE (hk := ?_))); refine TL_nil_p ?_); (refine TA_take 10 rfl (by kernel_rfl) (by kernel_rfl) (by kernel_rfl) ?_; (repeat (first | refine TL_add (hk := ?_) | refine TL_move (hk := ?_) | refine TLP_load TE (hk := ?_) | refine TLP_load_rd TE (hk := ?_) | refine TL_fieldAddr TE (hk := ?_) | refine TL_fieldAddr_e TE (hk := ?_) | refine TL_indexAddrn TE (hk := ?_) | refine TL_len TE (hk := ?_))); refine TL_nil_p ?_); (refine TA_take 11 rfl (by kernel_rfl) (by kernel_rfl) (by kernel_rfl) ?_; (repeat (first | refine TL_add (hk := ?_) | refine TL_move (hk := ?_) | refine TLP_load TE (hk := ?_) | refine TLP_load_rd TE (hk := ?_) | refine TL_fieldAddr TE (hk := ?_) | refine TL_fieldAddr_e TE (hk := ?_) | refine TL_indexAddrn TE (hk := ?_) | refine TL_len TE (hk := ?_))); refine TL_nil_p ?_); (refine TA_take 12 rfl (by kernel_rfl) (by kernel_rfl) (by kernel_rfl) ?_; (repeat (first | refine TL_add (hk := ?_) | refine TL_move (hk := ?_) | refine TLP_load TE (hk := ?_) | refine TLP_load_rd TE (hk := ?_) | refine TL_fieldAddr TE (hk := ?_) | refine TL_fieldAddr_e TE (hk := ?_) | refine TL_indexAddrn TE (hk := ?_) | refine TL_len TE (hk := ?_))); refine TL_nil_p ?_); (refine TA_take 13 rfl (by kernel_rfl) (by kernel_rfl) (by kernel_rfl) ?_; (repeat (first | refine TL_add (hk := ?_) | refine TL_move (hk := ?_) | refine TLP_load TE (hk := ?_) | refine TLP_load_rd TE (hk := ?_) | refine TL_fieldAddr TE (hk := ?_) | refine TL_fieldAddr_e TE (hk := ?_) | refine TL_indexAddrn TE (hk := ?_) | refine TL_len TE (hk := ?_))); refine TL_nil_p ?_); (refine TA_take 14 rfl (by kernel_rfl) (by kernel_rfl) (by kernel_rfl) ?_; (repeat (first | refine TL_add (hk := ?_) | refine TL_move (hk := ?_) | refine TLP_load TE (hk := ?_) | refine TLP_load_rd TE (hk := ?_) | refine TL_fieldAddr TE (hk := ?_) | refine TL_fieldAddr_e TE (hk := ?_) | refine TL_indexAddrn TE (hk := ?_) | refine TL_len TE (hk := ?_))); refine TL_nil_p ?_); (refine TA_take 15 rfl (by kernel_rfl) (by kernel_rfl) (by kernel_rfl) ?_; (repeat (first | refine TL_add (hk := ?_) | refine TL_move (hk := ?_) | refine TLP_load TE (hk := ?_) | refine TLP_load_rd TE (hk := ?_) | refine TL_fieldAddr TE (hk := ?_) | refine TL_fieldAddr_e TE (hk := ?_) | refine TL_indexAddrn TE (hk := ?_) | refine TL_len TE (hk := ?_))); refine TL_nil_p ?_); (refine TA_take 16 rfl (by kernel_rfl) (by kernel_rfl) (by kernel_rfl) ?_; (repeat (first | refine TL_add (hk := ?_) | refine TL_move (hk := ?_) | refine TLP_load TE (hk := ?_) | refine TLP_load_rd TE (hk := ?_) | refine TL_fieldAddr TE (hk := ?_) | refine TL_fieldAddr_e TE (hk := ?_) | refine TL_indexAddrn TE (hk := ?_) | refine TL_len TE (hk := ?_))); refine TL_nil_p ?_); (refine TA_take 17 rfl (by kernel_rfl) (by kernel_rfl) (by kernel_rfl) ?_; (repeat (first | refine TL_add (hk := ?_) | refine TL_move (hk := ?_) | refine TLP_load TE (hk := ?_) | refine TLP_load_rd TE (hk := ?_) | refine TL_fieldAddr TE (hk := ?_) | refine TL_fieldAddr_e TE (hk := ?_) | refine TL_indexAddrn TE (hk := ?_) | refine TL_len TE (hk := ?_))); refine TL_nil_p ?_); (refine TA_take 18 rfl (by kernel_rfl) (by kernel_rfl) (by kernel_rfl) ?_; (repeat (first | refine TL_add (hk := ?_) | refine TL_move (hk := ?_) | refine TLP_load TE (hk := ?_) | refine TLP_load_rd TE (hk := ?_) | refine TL_fieldAddr TE (hk := ?_) | refine TL_fieldAddr_e TE (hk := ?_) | refine TL_indexAddrn TE (hk := ?_) | refine TL_len TE (hk := ?_))); refine TL_nil_p ?_)
    rw [hc]
    (refine TA_one 19 rfl (by kernel_rfl) (by kernel_rfl) ?_; (repeat (refine TL_assign (hk := ?_))); refine TL_nil_p ?_)
    refine TA_done (by kernel_rfl) ?_
    repeat (first | refine T_region ?_ | refine T_inBlock ?_ | refine TL_add (hk := ?_) | refine TL_nil ?_ | refine TL_move (hk := ?_) | refine TL_assign (hk := ?_))
    exact ih (i + 1) _ _ (by omega) ⟨e2.ext e3, by omega, by omega⟩ (.c rfl (.c rfl (.c rfl (.n))))
  · have : n = i := by omega
    subst this
    clear ih
    by_cases h40 : 200 < n
    · repeat (first | refine T_seq ?_ | refine T_region ?_ | refine T_cond_false rfl ?_ | refine T_exit rfl ?_ | refine TL_lt_f (hk := ?_) | refine TL_gt_t (hk := ?_) | refine TL_nil ?_ | refine TL_move (hk := ?_) | refine TL_assign (hk := ?_) | refine TL_load TE (hk := ?_) | refine TL_fieldAddr TE (hk := ?_) | refine TL_len TE (hk := ?_) | refine TL_no (hk := ?_) | refine TL_pick_t (hk := ?_))
      exact T_ret1 rfl rfl ⟨.inl rfl, e1.ext e2⟩
    · by_cases h15 : 3000 < totD l n
      · repeat (first | refine T_seq ?_ | refine T_region ?_ | refine T_cond_false rfl ?_ | refine T_exit rfl ?_ | refine TL_lt_f (hk := ?_) | refine TL_gt_t (hk := ?_) | refine TL_gt_f (hk := ?_) | refine TL_nil ?_ | refine TL_move (hk := ?_) | refine TL_assign (hk := ?_) | refine TL_load TE (hk := ?_) | refine TL_fieldAddr TE (hk := ?_) | refine TL_len TE (hk := ?_) | refine TL_yes (hk := ?_) | refine TL_no (hk := ?_) | refine TL_pick_t (hk := ?_) | refine TL_pick_f (hk := ?_))
        exact T_ret1 rfl rfl ⟨.inl rfl, e1.ext e2⟩
      · by_cases h20 : 200 < kn
        · repeat (first | refine T_seq ?_ | refine T_region ?_ | refine T_cond_false rfl ?_ | refine T_exit rfl ?_ | refine TL_lt_f (hk := ?_) | refine TL_gt_t (hk := ?_) | refine TL_gt_f (hk := ?_) | refine TL_nil ?_ | refine TL_move (hk := ?_) | refine TL_assign (hk := ?_) | refine TL_load TE (hk := ?_) | refine TL_fieldAddr TE (hk := ?_) | refine TL_len TE (hk := ?_) | refine TL_yes (hk := ?_) | refine TL_pick_f (hk := ?_))
          exact T_ret1 rfl rfl ⟨.inl rfl, e1.ext e2⟩
        · repeat (first | refine T_seq ?_ | refine T_region ?_ | refine T_cond_false rfl ?_ | refine T_exit rfl ?_ | refine TL_lt_f (hk := ?_) | refine TL_gt_f (hk := ?_) | refine TL_nil ?_ | refine TL_move (hk := ?_) | refine TL_assign (hk := ?_) | refine TL_load TE (hk := ?_) | refine TL_fieldAddr TE (hk := ?_) | refine TL_len TE (hk := ?_) | refine TL_yes (hk := ?_) | refine TL_pick_f (hk := ?_))
          exact T_ret1 rfl rfl ⟨.inr ⟨rfl, by omega, by omega, fun x hx => Nat.le_trans (totD_mem hl x hx) (by omega)⟩, e1.ext e2⟩
end Go.Proofs.YtgdbckjkeofoaaaGreat

namespace Go.Proofs.YtgdbckjkeofoaaaGreat
open Go.RowKit Go.Proofs.Eng Go.Proofs.Foot Go.Proofs.Locks Go.Proofs.Sched
set_option linter.unusedSimpArgs false
set_option linter.unusedVariables false set_option maxRecDepth 10000
attribute [local irreducible] T TL LV TH TA
set_option maxHeartbeats 3200000
theorem StNewBad_c (a b : Int) (w : World) (h : ¬ ((1 ≤ a ∧ a ≤ 64) ∧ 1 ≤ b ∧ b ≤ 4096)) : Ret Tryz.prog 26 [.int .i64 a, .int .i64 b] w (fun v w' => v = .tuple #[.pointer none, .int .i64 2] ∧ Ext w w') := by
  refine ret_T (n := 40) Tryz.func26 rfl rfl ?_
  by_cases q1 : a < 1
  · repeat (first | refine T_seq ?_ | refine T_region ?_ | refine T_cond_true rfl ?_ | refine TL_lt_t (hk := ?_) | refine TL_nil ?_ | refine TL_move (hk := ?_) | refine TL_assign (hk := ?_) | refine TL_no (hk := ?_) | refine TL_pick_t (hk := ?_))
    exact T_ret2 rfl rfl rfl ⟨rfl, Mod.refl _ _⟩
  by_cases q2 : 64 < a
  · repeat (first | refine T_seq ?_ | refine T_region ?_ | refine T_cond_true rfl ?_ | refine TL_lt_f (hk := ?_) | refine TL_gt_t (hk := ?_) | refine TL_nil ?_ | refine TL_move (hk := ?_) | refine TL_assign (hk := ?_) | refine TL_yes (hk := ?_) | refine TL_no (hk := ?_) | refine TL_pick_t (hk := ?_) | refine TL_pick_f (hk := ?_))
    exact T_ret2 rfl rfl rfl ⟨rfl, Mod.refl _ _⟩
  by_cases q3 : b < 1
  · repeat (first | refine T_seq ?_ | refine T_region ?_ | refine T_cond_true rfl ?_ | refine TL_lt_t (hk := ?_) | refine TL_lt_f (hk := ?_) | refine TL_gt_f (hk := ?_) | refine TL_nil ?_ | refine TL_move (hk := ?_) | refine TL_assign (hk := ?_) | refine TL_yes (hk := ?_) | refine TL_no (hk := ?_) | refine TL_pick_t (hk := ?_) | refine TL_pick_f (hk := ?_))
    exact T_ret2 rfl rfl rfl ⟨rfl, Mod.refl _ _⟩
  by_cases q4 : 4096 < b
  · repeat (first | refine T_seq ?_ | refine T_region ?_ | refine T_cond_true rfl ?_ | refine TL_lt_f (hk := ?_) | refine TL_gt_t (hk := ?_) | refine TL_gt_f (hk := ?_) | refine TL_nil ?_ | refine TL_move (hk := ?_) | refine TL_assign (hk := ?_) | refine TL_yes (hk := ?_) | refine TL_pick_f (hk := ?_))
    exact T_ret2 rfl rfl rfl ⟨rfl, Mod.refl _ _⟩
  · exact absurd ⟨by omega, by omega⟩ h
theorem ScNewBad_c (z : Int) (b : Nat) (w : World) (h : ¬ (1 ≤ z ∧ z ≤ 4096)) : Ret Tryz.prog 30 [.int .i64 z, pB b] w (fun v w' => v = .tuple #[.pointer none, .int .i64 2] ∧ Ext w w') := by
  refine ret_T (n := 21) Tryz.func30 rfl rfl ?_
  by_cases q1 : z < 1
  · repeat (first | refine T_seq ?_ | refine T_region ?_ | refine T_cond_true rfl ?_ | refine TL_lt_t (hk := ?_) | refine TL_nil ?_ | refine TL_move (hk := ?_) | refine TL_assign (hk := ?_) | refine TL_no (hk := ?_) | refine TL_pick_t (hk := ?_))
    exact T_ret2 rfl rfl rfl ⟨rfl, Mod.refl _ _⟩
  by_cases q2 : 4096 < z
  · repeat (first | refine T_seq ?_ | refine T_region ?_ | refine T_cond_true rfl ?_ | refine TL_lt_f (hk := ?_) | refine TL_gt_t (hk := ?_) | refine TL_nil ?_ | refine TL_move (hk := ?_) | refine TL_assign (hk := ?_) | refine TL_yes (hk := ?_) | refine TL_no (hk := ?_) | refine TL_pick_t (hk := ?_) | refine TL_pick_f (hk := ?_))
    exact T_ret2 rfl rfl rfl ⟨rfl, Mod.refl _ _⟩
  · exact absurd ⟨by omega, by omega⟩ h
theorem R15New_c (z : Int) (b : Nat) (w : World) : Ret Tryz.prog 31 [.int .i64 z, pB b] w (fun v w' => Ext w w' ∧ ((1 ≤ z ∧ z ≤ 4096) ∧ (∃ y, v = .tuple #[pB y, .int .i64 0]) ∨ ¬ (1 ≤ z ∧ z ≤ 4096) ∧ v = .tuple #[.pointer none, .int .i64 2])) := by
  refine ret_T (n := 20) Tryz.func31 rfl rfl ?_
  by_cases q1 : z < 1
  · repeat (first | refine T_seq ?_ | refine T_region ?_ | refine T_cond_true rfl ?_ | refine TL_lt_t (hk := ?_) | refine TL_nil ?_ | refine TL_move (hk := ?_) | refine TL_assign (hk := ?_) | refine TL_no (hk := ?_) | refine TL_pick_t (hk := ?_))
    exact T_ret2 rfl rfl rfl ⟨Mod.refl _ _, .inr ⟨by omega, rfl⟩⟩
  by_cases q2 : 4096 < z
  · repeat (first | refine T_seq ?_ | refine T_region ?_ | refine T_cond_true rfl ?_ | refine TL_lt_f (hk := ?_) | refine TL_gt_t (hk := ?_) | refine TL_nil ?_ | refine TL_move (hk := ?_) | refine TL_assign (hk := ?_) | refine TL_yes (hk := ?_) | refine TL_no (hk := ?_) | refine TL_pick_t (hk := ?_) | refine TL_pick_f (hk := ?_))
    exact T_ret2 rfl rfl rfl ⟨Mod.refl _ _, .inr ⟨by omega, rfl⟩⟩
  · repeat (first | refine T_seq ?_ | refine T_region ?_ | refine T_cond_false rfl ?_ | refine T_skip ?_ | refine TL_lt_f (hk := ?_) | refine TL_gt_f (hk := ?_) | refine TL_pnil_f TE (hk := ?_) | refine TL_nil ?_ | refine TL_move (hk := ?_) | refine TL_assign (hk := ?_) | refine TL_yes (hk := ?_) | refine TL_pick_f (hk := ?_) | refine TL_build TE (hk := ?_))
    refine TL_box (hk := ?_); intro b1 w1 e1 h1 h1' k1
    repeat (first | refine TL_nil ?_ | refine TL_assign (hk := ?_))
    exact T_ret2 rfl rfl rfl ⟨e1, .inl ⟨by omega, b1, rfl⟩⟩
/-- What is made: a scheduler, or none; it is as the document has it. -/
def MadeP (w w' : World) (wn : Int) (X : Value) : Prop := X = .pointer none ∨ ∃ bs m h g f S, X = pB m.p ∧ w.heap.size ≤ bs ∧ SchedM w' bs m h g f (newSS wn.toNat S) ∧ SI 0 (newSS wn.toNat S) ∧ SR (newSS wn.toNat S) ∧ (wn.toNat : Int) = wn ∧ ∀ b, oA h g f b ≠ 0 → bs ≤ b
theorem made_c15 (a b wn : Int) (KA : Option Addr) (kn kc : Nat) (ks : List Tx) (A : Option Addr) (n c : Nat) (w : World) (hk : Rd w KA kn 1 (sv ks)) (hkn : kn ≤ 200) (hkl : ∀ y ∈ ks, y.length ≤ 1048576) :
    Ret Tryz.prog 7 [.agg #[.int .i64 a, .int .i64 b, .slice KA kn kc, .int .i64 wn, .slice A n c]] w (fun v w' => ∃ X X2 X3, v = .tuple #[X, X2, X3, .bool true] ∧ Ext w w' ∧ MadeP w w' wn X) := by
  have hkl0 : ks.length = kn := by have := hk.1; rw [sv_length] at this; omega
  refine ret_T (n := 88) Tryz.func7 rfl rfl ?_
  repeat (first | refine T_seq ?_ | refine T_region ?_)
  refine TL_box (hk := ?_); intro b1 w1 e1 h1 h1' k1
  replace k1 : Blk w1 b1 25 [.int .i64 a, .int .i64 b, .slice KA kn kc, .int .i64 wn, .slice A n c] := k1
  have z1 := e1.size
  by_cases hg : (1 ≤ a ∧ a ≤ 64) ∧ 1 ≤ b ∧ b ≤ 4096
  case neg =>
    repeat (first | refine T_seq ?_ | refine T_region ?_ | refine TL_nil ?_ | refine TL_assign (hk := ?_) | refine TL_load TE (hk := ?_) | refine TL_fieldAddr TE (hk := ?_))
    refine TL_call TE (hc := StNewBad_c a b w1 hg) (hk := ?_)
    rintro _ w2 ⟨rfl, e2⟩
    have k2 := k1.be e2
    clear k1
    repeat (first | refine T_seq ?_ | refine T_region ?_ | refine TL_nil ?_ | refine TL_move (hk := ?_) | refine TL_assign (hk := ?_) | refine TL_load TE (hk := ?_) | refine TL_fieldAddr TE (hk := ?_) | refine TL_extract (hk := ?_))
    refine TL_call TE (hc := RStNew_c a b w2) (hk := ?_)
    rintro _ w3 ⟨e3, ⟨hg2, _⟩ | ⟨_, rfl⟩⟩
    · exact absurd hg2 hg
    repeat (first | refine T_seq ?_ | refine T_region ?_ | refine TL_nil ?_ | refine TL_move (hk := ?_) | refine TL_assign (hk := ?_) | refine TL_extract (hk := ?_))
    refine TL_call TE (hc := num_c15 2 w3) (hk := ?_)
    rintro _ w4 ⟨rfl, e4⟩
    repeat (first | refine T_seq ?_ | refine T_region ?_ | refine T_cond_true rfl ?_ | refine TL_ne_t (hk := ?_) | refine TL_ne_f (hk := ?_) | refine TL_nil ?_ | refine TL_move (hk := ?_) | refine TL_yes (hk := ?_) | refine TL_no (hk := ?_) | refine TL_pick_t (hk := ?_) | refine TL_pick_f (hk := ?_))
    refine TL_call TE (hc := num_c15 2 w4) (hk := ?_)
    rintro _ w5 ⟨rfl, e5⟩
    repeat (first | refine TL_eq_t (hk := ?_) | refine TL_nil ?_ | refine TL_move (hk := ?_) | refine TL_assign (hk := ?_))
    exact T_ret4 rfl rfl rfl rfl rfl ⟨_, _, _, rfl, (((e1.ext e2).ext e3).ext e4).ext e5, .inl rfl⟩
  obtain ⟨P, rfl⟩ := Int.eq_ofNat_of_zero_le (show 0 ≤ a by omega)
  obtain ⟨r, rfl⟩ := Int.eq_ofNat_of_zero_le (show 0 ≤ b by omega)
  have hP : 1 ≤ P ∧ P ≤ 64 := by omega
  have hR : 1 ≤ r ∧ r ≤ 4096 := by omega
  repeat (first | refine T_seq ?_ | refine T_region ?_ | refine TL_nil ?_ | refine TL_assign (hk := ?_) | refine TL_load TE (hk := ?_) | refine TL_fieldAddr TE (hk := ?_))
  refine TL_call TE (hc := StNew_c P r w1 hP hR) (hk := ?_)
  rintro _ w2 ⟨ms, g2, rfl, e2, M2⟩
  have k2 := k1.be e2
  clear k1
  repeat (first | refine T_seq ?_ | refine T_region ?_ | refine TL_nil ?_ | refine TL_move (hk := ?_) | refine TL_assign (hk := ?_) | refine TL_load TE (hk := ?_) | refine TL_fieldAddr TE (hk := ?_) | refine TL_extract (hk := ?_))
  refine TL_call TE (hc := RStNew_c (P : Int) (r : Int) w2) (hk := ?_)
  rintro _ w3 ⟨e3, h3⟩
  obtain ⟨_, b3, rfl, hb3, kb3⟩ := h3.resolve_right (fun q => q.1 hg)
  have hb3l := kb3.lt
  have z2 := e2.size
  have k3 := k2.be e3
  have M3 := M2.ext e3
  clear k2
  repeat (first | refine T_seq ?_ | refine T_region ?_ | refine TL_nil ?_ | refine TL_move (hk := ?_) | refine TL_assign (hk := ?_) | refine TL_extract (hk := ?_))
  refine TL_call TE (hc := num_c15 0 w3) (hk := ?_)
  rintro _ w4 ⟨rfl, e4⟩
  have k4 := k3.be e4
  have M4 := M3.ext e4
  have kb4 := kb3.be e4
  have E4 := ((e1.ext e2).ext e3).ext e4
  clear k3 kb3
  repeat (first | refine T_seq ?_ | refine T_region ?_ | refine T_cond_false rfl ?_ | refine T_skip ?_ | refine TL_ne_f (hk := ?_) | refine TL_pnil_f TE (hk := ?_) | refine TL_nil ?_ | refine TL_move (hk := ?_) | refine TL_load TE (hk := ?_) | refine TL_fieldAddr TE (hk := ?_) | refine TL_yes (hk := ?_) | refine TL_pick_f (hk := ?_))
  refine TL_call TE (hc := Set_c KA kn kc ks w4 (hk.be E4) (by omega)) (hk := ?_)
  rintro _ w5 ⟨SA, sc, rfl, e5, oS5⟩
  have k5 := k4.be e5
  have M5 := M4.ext e5
  have kb5 := kb4.be e5
  have hsl := setT_len ks
  obtain ⟨Q, hQ⟩ : ∃ Q, setT ks = Q := ⟨_, rfl⟩
  rw [hQ] at oS5 hsl ⊢
  have hQm : ∀ y ∈ Q, y.length ≤ 9223372036854775807 := fun y hy => by
    rw [← hQ, set_mem] at hy
    have := hkl y hy; omega
  clear k4 kb4 hQ
  repeat (first | refine T_seq ?_ | refine T_region ?_ | refine TL_nil ?_ | refine TL_move (hk := ?_) | refine TL_assign (hk := ?_))
  refine TL_buildSlice0 TE (hk := ?_); intro b6 w6 e6 h6 h6' k6
  have o6 : Own w6 w5.heap.size 9 1 (some ⟨b6, 0, none⟩) 0 0 [] := Own.of_blk k6 h6 rfl (by decide)
  have z6 := e6.size
  have hs6 := (oS5.be e6).rd
  repeat (refine TL_move (hk := ?_))
  refine TL_append TE (ho := o6) (hr := hs6) (h1 := sv_one _) (hk := ?_); intro A7 c7 w7 o7 m7 n7
  rw [List.nil_append] at o7
  have E57 : Ext w5 w7 := e6.own m7 o6.hi
  have M7 := M5.ext E57
  have k7 := k5.be E57
  have kb7 := kb5.be E57
  have oS7 := oS5.be E57
  have z57 := E57.size
  clear k5 kb5 k6 hs6
  have hql : Q.length ≤ 200 := by omega
  have hCl : (newSt P r).C.length = P := by simp [newSt]
  have hCz : ∀ c ∈ (newSt P r).C, c.length ≤ 0 := fun c hc => by
    simp only [newSt] at hc
    rw [(List.mem_replicate.1 hc).2]; simp
  have hgz : ∀ u, w5.heap.size ≤ u → g2 u = 0 := fun u hu => M5.new0 hu
  have cC := Claim_c A7 (0 + Q.length) c7 Q w7 M7 (by omega) (by omega) hR.2 (fun c hc => by have := hCz c hc; omega) o7.rd (by omega) hQm (fun u hu => hgz u (o7.bl u hu).1)
  --
  refine TL_call TE (hc := cC) (hk := ?_)
  rintro _ w8 ⟨rfl, M8, t8⟩
  obtain ⟨C8, hC8⟩ : ∃ C8, (claimE (newSt P r) Q).2 = C8 := ⟨_, rfl⟩
  have hb3g : g2 b3 = 0 := M2.new0 hb3
  have z45 := (e4.ext e5).size
  have hb3s := kb7.lt
  have kb8 : Blk w8 b3 89 [.int .i64 (P : Int), .int .i64 (r : Int), .slice none 0 0] := by
    obtain ⟨⟨S, q1, q2⟩, _, _⟩ := t8
    exact kb7.mod q1 (fun q => q2 _ q hb3g)
  have hb1g : g2 b1 = 0 := by
    by_cases y : g2 b1 = 0
    · exact y
    · have := (M2.old b1 y).1; omega
  have k8 : Blk w8 b1 25 [.int .i64 (P : Int), .int .i64 (r : Int), .slice KA kn kc, .int .i64 wn, .slice A n c] := by
    obtain ⟨⟨S, q1, q2⟩, _, _⟩ := t8
    exact k7.mod q1 (fun q => q2 _ q hb1g)
  have rS8 : Rd w8 SA Q.length 1 (sv Q) := by
    obtain ⟨⟨S, q1, q2⟩, _, _⟩ := t8
    exact oS7.rd.mod q1 (off_ofL fun u hu q => q2 _ q (M4.new0 (oS5.bl u hu).1))
  have E8 : Ext w w8 := t8.ext0 ((E4.ext e5).ext E57) (fun u q => by have := (M2.old u q).1; omega)
  clear kb7 k7 oS7 cC
  --
  refine TL_call TE (hc := num_c15 ((claimE (newSt P r) Q).2 : Int) w8) (hk := ?_)
  rintro _ w9 ⟨rfl, e9⟩
  have M9 := M8.ext e9
  have k9 := k8.be e9
  have kb9 := kb8.be e9
  have E9 := E8.ext e9
  clear k8 kb8
  have cR := RClaim0_c b3 P r SA Q.length sc Q w9 kb9 hP hR (rS8.be e9) (by omega) hQm (fun q => by
    have h1 := (oS5.bl b3 q).1
    have h2 := e4.size
    have h3 := hb3
    have hlt := kb9.lt
    have := (M2.old ms.sb (by rw [M2.gb]; decide)).2
    omega)
  repeat (refine TL_move (hk := ?_))
  refine TL_call TE (hc := cR) (hk := ?_)
  rintro _ w10 ⟨rfl, m10⟩
  have M10 := M9.mod m10 (fun u hu => by rw [List.mem_singleton.1 hu]; exact hb3g)
  have hb13 : b1 ∉ [b3] := by simp; omega
  have k10 := k9.mod m10 hb13
  have E10 : Ext w w10 := Mod.step E9 m10 (fun u hu => .inr (by rw [List.mem_singleton.1 hu]; have := e2.size; omega))
  clear k9 kb9 cR
  have hbas : w.heap.size ≤ w1.heap.size := z1
  have hcl := claim_cl (S := newSt P r) (ks := Q) (B := 0) hCz
  obtain ⟨S', hS'⟩ : ∃ S', (claimE (newSt P r) Q).1 = S' := ⟨_, rfl⟩
  rw [hS'] at M10 hcl
  by_cases hw : 1 ≤ wn ∧ wn ≤ 4096
  · obtain ⟨W, rfl⟩ := Int.eq_ofNat_of_zero_le (show 0 ≤ wn by omega)
    have hW : 1 ≤ W ∧ W ≤ 4096 := by omega
    repeat (first | refine T_seq ?_ | refine T_region ?_ | refine T_cond_false rfl ?_ | refine T_skip ?_ | refine TL_ne_f (hk := ?_) | refine TL_nil ?_ | refine TL_move (hk := ?_) | refine TL_load TE (hk := ?_) | refine TL_fieldAddr TE (hk := ?_))
    refine TL_call TE (hc := ScNew_c W w10 M10 hW) (hk := ?_)
    rintro _ w11 ⟨m11, h11, f11, rfl, hm11, e11, M11, o11⟩
    have k11 := k10.be e11
    clear k10
    repeat (first | refine T_seq ?_ | refine T_region ?_ | refine TL_nil ?_ | refine TL_move (hk := ?_) | refine TL_assign (hk := ?_) | refine TL_load TE (hk := ?_) | refine TL_fieldAddr TE (hk := ?_) | refine TL_extract (hk := ?_))
    refine TL_call TE (hc := R15New_c (W : Int) b3 w11) (hk := ?_)
    rintro _ w12 ⟨e12, h12⟩
    obtain ⟨_, y12, rfl⟩ := h12.resolve_right (fun q => q.1 hw)
    repeat (first | refine T_seq ?_ | refine T_region ?_ | refine TL_nil ?_ | refine TL_move (hk := ?_) | refine TL_assign (hk := ?_) | refine TL_extract (hk := ?_))
    refine TL_call TE (hc := num_c15 0 w12) (hk := ?_)
    rintro _ w13 ⟨rfl, e13⟩
    have hWn : ((W : Nat) : Int).toNat = W := by omega
    repeat (first | refine TL_eq_t (hk := ?_) | refine TL_pnil_f TE (hk := ?_) | refine TL_beq TE (hk := ?_) | refine TL_nil ?_ | refine TL_move (hk := ?_) | refine TL_assign (hk := ?_) | refine TL_yes (hk := ?_) | refine TL_pick_t (hk := ?_))
    refine T_ret4 rfl rfl rfl rfl rfl ⟨_, _, _, rfl, ((E10.ext e11).ext e12).ext e13, .inr ⟨w1.heap.size, m11, h11, g2, f11, S', rfl, z1, ?_, ?_, ?_, by rw [hWn], o11⟩⟩
    · rw [hWn]; exact (M11.ext e12).ext e13
    · rw [hWn]; exact newSS_si hW (by rw [hcl.1, hCl]; exact hP) (by rw [hcl.2.1]; exact hR.2) (fun c hc => by have := hcl.2.2 c hc; omega)
    · rw [hWn]; exact SJ.start W hW.1 S'
  · repeat (first | refine T_seq ?_ | refine T_region ?_ | refine T_cond_false rfl ?_ | refine T_skip ?_ | refine TL_ne_f (hk := ?_) | refine TL_nil ?_ | refine TL_move (hk := ?_) | refine TL_load TE (hk := ?_) | refine TL_fieldAddr TE (hk := ?_))
    refine TL_call TE (hc := ScNewBad_c wn ms.sb w10 hw) (hk := ?_)
    rintro _ w11 ⟨rfl, e11⟩
    have k11 := k10.be e11
    clear k10
    repeat (first | refine T_seq ?_ | refine T_region ?_ | refine TL_nil ?_ | refine TL_move (hk := ?_) | refine TL_assign (hk := ?_) | refine TL_load TE (hk := ?_) | refine TL_fieldAddr TE (hk := ?_) | refine TL_extract (hk := ?_))
    refine TL_call TE (hc := R15New_c wn b3 w11) (hk := ?_)
    rintro _ w12 ⟨e12, ⟨hg2, _⟩ | ⟨_, rfl⟩⟩
    · exact absurd hg2 hw
    repeat (first | refine T_seq ?_ | refine T_region ?_ | refine TL_nil ?_ | refine TL_move (hk := ?_) | refine TL_assign (hk := ?_) | refine TL_extract (hk := ?_))
    refine TL_call TE (hc := num_c15 2 w12) (hk := ?_)
    rintro _ w13 ⟨rfl, e13⟩
    repeat (first | refine TL_eq_t (hk := ?_) | refine TL_pnil_t TE (hk := ?_) | refine TL_beq TE (hk := ?_) | refine TL_nil ?_ | refine TL_move (hk := ?_) | refine TL_assign (hk := ?_) | refine TL_yes (hk := ?_) | refine TL_pick_t (hk := ?_))
    exact T_ret4 rfl rfl rfl rfl rfl ⟨_, _, _, rfl, ((E10.ext e11).ext e12).ext e13, .inl rfl⟩
end Go.Proofs.YtgdbckjkeofoaaaGreat

/- What is added, taken, done: the scheduler stays as it must be. -/
namespace Go.Proofs.YtgdbckjkeofoaaaGreat
open Go.RowKit Go.Proofs.Eng Go.Proofs.Foot Go.Proofs.Locks Go.Proofs.Sched
set_option linter.unusedSimpArgs false
set_option linter.unusedVariables false set_option maxRecDepth 10000
attribute [local irreducible] T TL LV TH TA
def ftE (x : EnE) : List Tx × List Tx := (x.rd, x.wr)
section
variable {E E' : List EnE} {n i k z N : Nat} {s : SS}
theorem ft_set (E : List EnE) (i z : Nat) : (setSt E i z).map ftE = E.map ftE := by
  unfold setSt
  apply List.ext_getElem?
  intro j
  rw [List.getElem?_map, List.getElem?_map]
  by_cases hi : i < E.length
  · by_cases e : i = j
    · subst e
      rw [List.getElem?_set_self hi, List.getElem?_eq_getElem hi, List.getD_eq_getElem?_getD, List.getElem?_eq_getElem hi]
      rfl
    · rw [List.getElem?_set_ne e]
  · rw [List.set_eq_of_length_le (by omega)]
theorem ft_rdys (L : List Int) : ∀ (E : List EnE), (L.foldl rdyS E).map ftE = E.map ftE := by
  induction L with
  | nil => intro E; rfl
  | cons q L ih =>
    intro E
    rw [List.foldl_cons, ih]
    unfold rdyS
    split
    · exact ft_set _ _ _
    · rfl
theorem ft_lockS (s : SS) : (lockS s).E.map ftE = s.E.map ftE := by
  unfold lockS
  simp only
  split <;> exact ft_set _ _ _
theorem ft_lockL : ∀ (f : Nat) (s : SS), (lockL f s).E.map ftE = s.E.map ftE
  | 0, s => rfl
  | f + 1, s => by
    unfold lockL
    split
    · rw [ft_lockL f, ft_lockS]
    · rfl
theorem ft_lock (s : SS) : (lockE s).E.map ftE = s.E.map ftE := by
  unfold lockE
  simp only
  rw [ft_rdys]
  exact ft_lockL _ _
theorem chk_of : ∀ (l : List Lk) (p : Option Tx), (l.map (·.1)).Pairwise (· < ·) → (∀ x ∈ l, validT x.1 = true) → (∀ y, p = some y → ∀ x ∈ l, y < x.1) → chk p l = 0
  | [], p, _, _, _ => by unfold chk; rfl
  | x :: l, p, h1, h2, h3 => by
    rw [List.map_cons, List.pairwise_cons] at h1
    unfold chk
    rw [if_neg (by rw [h2 x (by simp)]; simp)]
    have ho : overT p x.1 = false := by
      unfold overT
      cases p with
      | none => rfl
      | some y =>
        have := h3 y rfl x (by simp)
        simp only
        exact decide_eq_false (List.not_le.2 this)
    rw [ho, if_neg (by simp)]
    exact chk_of l (some x.1) h1.2 (fun y hy => h2 y (by simp [hy])) (fun y hy z hz => by
      cases hy
      exact h1.1 z.1 (List.mem_map.2 ⟨z, hz, rfl⟩))
theorem chk_norm {r k : List Tx} (h : (normF r k).2 = 0) : chk none (locksT r k) = 0 := by
  have hv : r.all validT = true ∧ k.all validT = true := by
    unfold normF at h
    split at h
    · rename_i q; simpa using q
    · cases h
  have hn : (locksT r k).map (·.1) = keysM (ofM r k) 3 := by
    unfold locksT
    rw [List.map_map]
    exact List.map_id _
  refine chk_of _ _ (by rw [hn]; exact keys_rises 3 (of_nodup r k)) (fun x hx => ?_) (fun y hy => by cases hy)
  have hx2 : x.1 ∈ keysM (ofM r k) 3 := by rw [← hn]; exact List.mem_map.2 ⟨x, hx, rfl⟩
  rcases keysM_in hx2 with q | q
  · exact List.all_eq_true.1 hv.1 _ q
  · exact List.all_eq_true.1 hv.2 _ q
theorem st_app {x : EnE} (hi : i < E.length) : stE (E ++ [x]) i = stE E i := by unfold stE; rw [getD_al _ _ _ _ hi]
theorem ent_app {x : EnE} (hi : i < E.length) : entA (E ++ [x]) i = entA E i := by unfold entA; rw [getD_al _ _ _ _ hi]
theorem st_new {x : EnE} : stE (E ++ [x]) E.length = x.st := by unfold stE; rw [getD_ar _ _ _ _ (Nat.le_refl _), Nat.sub_self]; rfl
theorem ent_new {x : EnE} : entA (E ++ [x]) E.length = ((E.length : Int), locksT x.rd x.wr) := by unfold entA; rw [getD_ar _ _ _ _ (Nat.le_refl _), Nat.sub_self]; rfl
theorem push_sj (J : SJ s) {r k : List Tx} (hc : chk none (locksT r k) = 0) : SJ { s with E := s.E ++ [⟨r, k, 1⟩] } := by
  have hl : (s.E ++ [(⟨r, k, 1⟩ : EnE)]).length = s.E.length + 1 := by simp
  have hnl := J.nl
  have hc1 : ∀ i, i < s.E.length + 1 → i < s.E.length ∨ i = s.E.length := fun i h => by omega
  refine ⟨by simp only [hl]; omega, J.wn, fun i hi => ?_, fun i hi => ?_, ?_, fun i hi h => ?_, J.a7, fun i k hk hi h5 k5 k6 => ?_, J.a9, fun i hi => ?_⟩
  · simp only [hl] at hi ⊢
    rcases hc1 i hi with h | h
    · rw [st_app h]; exact J.a1 i h
    · subst h
      rw [st_new]
      simp only
      omega
  · simp only [hl] at hi ⊢
    rcases hc1 i hi with h | h
    · rw [st_app h]; exact J.a2 i h
    · subst h; rw [st_new]; simp
  · simp only
    rw [J.a3]
    exact (fly_congr (fun k hk => ⟨by rw [st_app (by omega)], ent_app (by omega)⟩)).symm
  · simp only [hl] at hi h ⊢
    rcases hc1 i hi with h1 | h1
    · rw [st_app h1] at h
      exact rdy_congr (fun k hk q => by rw [st_app (by omega)] at q; exact q) (fun k hk => ent_app (by omega)) (J.a4 i h1 h)
    · subst h1; rw [st_new] at h; simp at h
  · simp only [hl] at hi h5 k5 k6 ⊢
    rcases hc1 i hi with h1 | h1
    · rw [st_app h1] at h5
      rw [st_app (by omega)] at k5 k6
      have := J.a8 i k hk h1 h5 k5 k6
      unfold clB at this ⊢
      rw [ent_app (by omega), ent_app h1]; exact this
    · subst h1; rw [st_new] at h5; simp at h5
  · simp only [hl] at hi ⊢
    rcases hc1 i hi with h1 | h1
    · rw [ent_app h1]; exact J.a10 i h1
    · subst h1; rw [ent_new]; exact hc
theorem add_sr (R : SR s) (hl : s.E.length + 1 ≤ 1000) (q : Int) (r k : List Tx) : SR (addE s q r k).1 ∧ ((addE s q r k).2 = 0 → (addE s q r k).1.E.map ftE = s.E.map ftE ++ [(r, k)]) ∧ ((addE s q r k).2 ≠ 0 → (addE s q r k).1 = s) := by
  unfold addE
  by_cases h1 : q ≠ (s.E.length : Int)
  · rw [if_pos h1]; exact ⟨R, (fun h => by cases h), fun _ => rfl⟩
  rw [if_neg h1]
  by_cases h2 : (normF r k).2 ≠ 0
  · rw [if_pos h2]; exact ⟨R, fun h => absurd h h2, fun _ => rfl⟩
  rw [if_neg h2]
  by_cases h3 : ¬ ((normF r k).1.1 = r ∧ (normF r k).1.2 = k)
  · rw [if_pos h3]; exact ⟨R, (fun h => by cases h), fun _ => rfl⟩
  rw [if_neg h3]
  have h3 := Classical.not_not.1 h3
  rw [h3.1, h3.2]
  have hJ := push_sj R.toSJ (chk_norm (Classical.not_not.1 h2))
  refine ⟨(lockE_sr hJ (by simp; omega)).1, fun _ => ?_, fun h => absurd rfl h⟩
  rw [ft_lock]
  simp [ftE]
theorem take_sr (R : SR s) : SR (takeS s).1 ∧ (takeS s).1.E.map ftE = s.E.map ftE := by
  unfold takeS
  cases hw : withS s.E [3] with
  | nil => exact ⟨R, rfl⟩
  | cons q l =>
    simp only
    refine ⟨?_, ft_set _ _ _⟩
    have hq : q ∈ withS s.E [3] := by rw [hw]; simp
    unfold withS at hq
    obtain ⟨hq1, hq2⟩ := List.mem_filter.1 hq
    have hqi : q < s.E.length := List.mem_range.1 hq1
    have hq3 : stE s.E q = 3 := List.mem_singleton.1 (of_decide_eq_true hq2)
    have hs : ∀ k, stE (setSt s.E q 4) k = if k = q then 4 else stE s.E k := fun k => st_set hqi
    have he : ∀ k, entA (setSt s.E q 4) k = entA s.E k := fun k => ent_set hqi
    have hl := setSt_len s.E q 4
    have hf : ∀ k, flyB (stE (setSt s.E q 4) k) = flyB (stE s.E k) := fun k => by
      rw [hs]
      by_cases e : k = q
      · rw [if_pos e, e, hq3]; rfl
      · rw [if_neg e]
    have hr : ∀ i, rdyI s.E i → rdyI (setSt s.E q 4) i := fun i h => rdy_congr (fun k _ z => by rw [hf] at z; exact z) (fun k _ => he k) h
    have hr' : ∀ i, rdyI (setSt s.E q 4) i → rdyI s.E i := fun i h => rdy_congr (fun k _ z => by rw [hf]; exact z) (fun k _ => (he k).symm) h
    have ho : ∀ k z, z ≠ 3 → z ≠ 4 → (stE (setSt s.E q 4) k = z ↔ stE s.E k = z) := fun k z z3 z4 => by
      rw [hs]
      by_cases e : k = q
      · rw [if_pos e, e, hq3]; omega
      · rw [if_neg e]
    refine { nl := by simp only [hl]; exact R.nl, wn := R.wn, a1 := fun i hi => ?_, a2 := fun i hi => ?_, a3 := ?_, a4 := fun i hi h => ?_, a7 := R.a7, a8 := fun i k hk hi h5 k5 k6 => ?_, a9 := R.a9, a10 := fun i hi => ?_, a5 := fun i hi h => ?_, a6 := fun h => ?_ }
    · simp only [hl] at hi ⊢
      rw [R.a1 i hi]
      exact not_congr (ho i 1 (by omega) (by omega)).symm
    · simp only [hl] at hi ⊢
      have := R.a2 i hi
      rw [hs]
      split
      · omega
      · exact this
    · simp only
      rw [R.a3]
      exact (fly_congr (fun k _ => ⟨hf k, he k⟩)).symm
    · simp only [hl] at hi h ⊢
      apply hr
      rw [hs] at h
      by_cases e : i = q
      · rw [e]; exact R.a4 q hqi (.inl hq3)
      · rw [if_neg e] at h; exact R.a4 i hi h
    · simp only [hl] at hi h5 k5 k6 ⊢
      have := R.a8 i k hk hi ((ho i 5 (by omega) (by omega)).1 h5) (fun z => k5 ((ho k 5 (by omega) (by omega)).2 z)) (fun z => k6 ((ho k 6 (by omega) (by omega)).2 z))
      unfold clB at this ⊢
      rw [he, he]; exact this
    · simp only [hl] at hi ⊢
      rw [he]; exact R.a10 i hi
    · simp only [hl] at hi h ⊢
      exact fun z => R.a5 i hi ((ho i 2 (by omega) (by omega)).1 h) (hr' i z)
    · simp only [hl] at h ⊢
      exact R.a6 h
theorem fly_drop {q : Nat} (hqi : q < E.length) (hf : flyB (stE E q) = true) (n : Nat) : flyL (setSt E q 5) n = (flyL E n).filter (fun e => !decide (e.1 = (q : Int))) := by
  induction n with
  | zero => rfl
  | succ n ih =>
    rw [fly_succ, fly_succ, ih, List.filter_append, st_set hqi, ent_set hqi]
    congr 1
    by_cases e : n = q
    · rw [if_pos e, e, if_pos hf]
      simp [flyB, entA]
    · rw [if_neg e]
      split
      · have : ¬ ((n : Int) = (q : Int)) := by omega
        simp [entA, this]
      · rfl
theorem done_sr (R : SR s) (hl1 : s.E.length ≤ 1000) (q : Int) : SR (doneE s q).1 ∧ (doneE s q).1.E.map ftE = s.E.map ftE := by
  unfold doneE
  by_cases h4 : stS s q ≠ 4
  · rw [if_pos h4]; exact ⟨R, rfl⟩
  rw [if_neg h4]
  have h4 := Classical.not_not.1 h4
  have hqr : 0 ≤ q ∧ q < (s.E.length : Int) := by
    unfold stS at h4
    split at h4
    · cases h4
    · omega
  obtain ⟨p, rfl⟩ := Int.eq_ofNat_of_zero_le hqr.1
  have hp : p < s.E.length := by omega
  have hp4 : stE s.E p = 4 := by
    unfold stS at h4
    rw [if_neg (by omega)] at h4
    exact h4
  have hfp : flyB (stE s.E p) = true := by rw [hp4]; rfl
  have hpn : p < s.nxt := (R.a1 p hp).2 (by omega)
  have hrp := R.a4 p hp (.inr hp4)
  have hrel : (relE s.t (p : Int)).1 = ⟨s.t.E.filter fun e => !decide (e.1 = (p : Int)), s.t.nx⟩ := by
    have hready := (R.ready hpn hfp).2 hrp
    unfold relE
    cases hg : eget s.t.E (p : Int) with
    | none => unfold readyE at hready; rw [hg] at hready; cases hready
    | some l => simp only; rw [if_pos hready]
  rw [hrel]
  simp only
  have htn : ((p : Nat) : Int).toNat = p := by omega
  rw [htn]
  have hs : ∀ k, stE (setSt s.E p 5) k = if k = p then 5 else stE s.E k := fun k => st_set hp
  have he : ∀ k, entA (setSt s.E p 5) k = entA s.E k := fun k => ent_set hp
  have hl := setSt_len s.E p 5
  have hJ : SJ { s with E := setSt s.E p 5, t := ⟨s.t.E.filter fun e => !decide (e.1 = (p : Int)), s.t.nx⟩ } := by
    refine ⟨by simp only [hl]; exact R.nl, R.wn, fun i hi => ?_, fun i hi => ?_, ?_, fun i hi h => ?_, Nat.le_trans (List.length_filter_le _ _) R.a7, fun i k hk hi h5 k5 k6 => ?_, R.a9, fun i hi => ?_⟩
    · simp only [hl] at hi ⊢
      rw [hs, R.a1 i hi]
      by_cases e : i = p
      · rw [if_pos e, e, hp4]; simp
      · rw [if_neg e]
    · simp only [hl] at hi ⊢
      rw [hs]
      split
      · omega
      · exact R.a2 i hi
    · simp only
      rw [R.a3, fly_drop hp hfp]
    · simp only [hl] at hi h ⊢
      rw [hs] at h
      by_cases e : i = p
      · rw [if_pos e] at h; omega
      · rw [if_neg e] at h
        refine rdy_congr (fun k _ z => ?_) (fun k _ => he k) (R.a4 i hi h)
        rw [hs] at z
        by_cases e2 : k = p
        · rw [if_pos e2] at z; cases z
        · rw [if_neg e2] at z; exact z
    · simp only [hl] at hi h5 k5 k6 ⊢
      rw [hs] at h5 k5 k6
      have hkp : k ≠ p := fun z => by rw [if_pos z] at k5; exact k5 rfl
      rw [if_neg hkp] at k5 k6
      have : clB s.E i k = false := by
        by_cases e : i = p
        · subst e
          have hk2 := R.a2 k (by omega)
          have hk1 := (R.a1 k (by omega)).1 (by omega)
          exact hrp k hk (fly_of (by omega))
        · rw [if_neg e] at h5
          exact R.a8 i k hk hi h5 k5 k6
      unfold clB at this ⊢
      rw [he, he]; exact this
    · simp only [hl] at hi ⊢
      rw [he]; exact R.a10 i hi
  refine ⟨(lockE_sr hJ (by simp only [hl]; omega)).1, ?_⟩
  rw [ft_lock]
  exact ft_set _ _ _
end
end Go.Proofs.YtgdbckjkeofoaaaGreat

/- Clash by locks (lines of FLaw3 and FW19, without what the codec wants). -/
namespace Go.Proofs.YtgdbckjkeofoaaaGreat
open Go.Proofs.Eng Go.Proofs.Foot
set_option linter.unusedSimpArgs false
set_option linter.unusedVariables false
theorem bits_mem {r k : List Tx} {p : Tx × Nat} (h : p ∈ ofM r k) : bitsM (ofM r k) p.1 = p.2 := by
  unfold bitsM; rw [mget_mem (of_nodup r k) h]; rfl
theorem bits2 (r k : List Tx) (t : Tx) : (bitsM (ofM r k) t &&& 2 ≠ 0) ↔ t ∈ k := by
  rw [bits_of]; by_cases h : t ∈ r <;> by_cases g : t ∈ k <;> simp [h, g]
theorem bits0 (r k : List Tx) (t : Tx) : (bitsM (ofM r k) t ≠ 0) ↔ (t ∈ r ∨ t ∈ k) := by
  rw [bits_of]; by_cases h : t ∈ r <;> by_cases g : t ∈ k <;> simp [h, g]
theorem clash_iff (y : TM) (t : Tx) (u : Nat) : clash1 y (t, u) = true ↔ (bitsM y t ≠ 0 ∧ (u &&& 2 ≠ 0 ∨ bitsM y t &&& 2 ≠ 0)) := by
  unfold clash1
  have e : (u ||| bitsM y t) &&& 2 = (u &&& 2) ||| (bitsM y t &&& 2) := Nat.and_or_distrib_right ..
  rw [e]
  by_cases h : bitsM y t = 0 <;> by_cases g : u &&& 2 = 0 <;> by_cases i : bitsM y t &&& 2 = 0 <;> simp [h, g, i, Nat.or_eq_zero_iff]
theorem clash_prop (r k r2 k2 : List Tx) : (ofM r k).any (clash1 (ofM r2 k2)) = true ↔ ∃ t, (t ∈ r ∨ t ∈ k) ∧ (t ∈ r2 ∨ t ∈ k2) ∧ (t ∈ k ∨ t ∈ k2) := by
  rw [List.any_eq_true]
  constructor
  · rintro ⟨⟨t, u⟩, hp, hc⟩
    rw [clash_iff, bits0, bits2] at hc
    have hu := bits_mem hp
    simp only at hu
    refine ⟨t, (of_keys_mem r k t).1 (List.mem_map_of_mem hp), hc.1, hc.2.imp (fun h => ?_) id⟩
    rw [← hu, bits2] at h
    exact h
  · rintro ⟨t, h1, h2, h3⟩
    obtain ⟨p, hp, rfl⟩ := List.mem_map.1 ((of_keys_mem r k t).2 h1)
    refine ⟨p, hp, ?_⟩
    have : clash1 (ofM r2 k2) (p.1, p.2) = true := by
      rw [clash_iff, bits0, bits2, ← bits_mem hp, bits2]
      exact ⟨h2, h3⟩
    exact this
theorem clash_eq (r k r2 k2 : List Tx) : (ofM r k).any (clash1 (ofM r2 k2)) = ((k.any fun x => decide (x ∈ r2 ++ k2)) || (k2.any fun x => decide (x ∈ r ++ k))) := by
  rw [Bool.eq_iff_iff, clash_prop]
  simp only [Bool.or_eq_true, List.any_eq_true, decide_eq_true_eq, List.mem_append]
  constructor
  · rintro ⟨t, h1, h2, h3⟩
    rcases h3 with h | h
    · exact .inl ⟨t, h, h2⟩
    · exact .inr ⟨t, h, h1⟩
  · rintro (⟨t, h, h2⟩ | ⟨t, h, h1⟩)
    · exact ⟨t, .inr h, h2, .inl h⟩
    · exact ⟨t, h1, .inr h, .inr h⟩
theorem locks_eq (r k : List Tx) : locksM (ofM r k) = (setT (r ++ k)).map fun t => (t, decide (t ∈ k)) := by
  unfold locksM
  rw [keys3]
  apply List.map_congr_left
  intro t _
  rw [bits_of]
  by_cases h : t ∈ r <;> by_cases g : t ∈ k <;> simp [h, g]
theorem clash_swap (r k r2 k2 : List Tx) : (ofM r k).any (clash1 (ofM r2 k2)) = (ofM r2 k2).any (clash1 (ofM r k)) := by
  rw [Bool.eq_iff_iff, clash_prop, clash_prop]
  exact ⟨fun ⟨t, a, b, c⟩ => ⟨t, b, a, c.symm⟩, fun ⟨t, a, b, c⟩ => ⟨t, b, a, c.symm⟩⟩
def meetL (la lb : List (Tx × Bool)) : Bool := la.any fun x => lb.any fun y => decide (x.1 = y.1) && (x.2 || y.2)
theorem mem_locks (r k : List Tx) (x : Tx × Bool) : x ∈ locksM (ofM r k) ↔ (x.1 ∈ r ∨ x.1 ∈ k) ∧ x.2 = decide (x.1 ∈ k) := by
  rw [locks_eq, List.mem_map]
  constructor
  · rintro ⟨t, ht, rfl⟩
    rw [set_mem, List.mem_append] at ht
    exact ⟨ht, rfl⟩
  · rintro ⟨h, g⟩
    exact ⟨x.1, by rw [set_mem, List.mem_append]; exact h, by rw [← g]⟩
theorem meet_eq (r k r2 k2 : List Tx) : meetL (locksM (ofM r k)) (locksM (ofM r2 k2)) = (ofM r k).any (clash1 (ofM r2 k2)) := by
  rw [Bool.eq_iff_iff, clash_prop]
  unfold meetL
  simp only [List.any_eq_true, Bool.and_eq_true, decide_eq_true_eq, Bool.or_eq_true]
  constructor
  · rintro ⟨x, hx, y, hy, e, b⟩
    rw [mem_locks] at hx hy
    refine ⟨x.1, hx.1, e ▸ hy.1, ?_⟩
    rw [hx.2, hy.2, decide_eq_true_eq, decide_eq_true_eq, ← e] at b
    exact b
  · rintro ⟨t, a, b, c⟩
    refine ⟨(t, decide (t ∈ k)), (mem_locks _ _ _).2 ⟨a, rfl⟩, (t, decide (t ∈ k2)), (mem_locks _ _ _).2 ⟨b, rfl⟩, rfl, ?_⟩
    simpa using c
end Go.Proofs.YtgdbckjkeofoaaaGreat

namespace Go.Proofs.YtgdbckjkeofoaaaGreat
open Go.RowKit Go.Proofs.Eng Go.Proofs.Foot
set_option linter.unusedSimpArgs false
set_option linter.unusedVariables false set_option maxRecDepth 10000
attribute [local irreducible] T TL LV TH TA
end Go.Proofs.YtgdbckjkeofoaaaGreat

namespace Go.Proofs.YtgdbckjkeofoaaaGreat
open Go.RowKit Go.Proofs.Eng Go.Proofs.Foot
set_option linter.unusedSimpArgs false
set_option linter.unusedVariables false set_option maxRecDepth 10000
attribute [local irreducible] T TL LV TH TA































































































theorem RClash_c (A B C D : Option Addr) (n m p q c d e f : Nat) (r k r2 k2 : List Tx) (w : World) (hA : Rd w A n 1 (sv r)) (hB : Rd w B m 1 (sv k)) (hC : Rd w C p 1 (sv r2)) (hD : Rd w D q 1 (sv k2)) (hn : n ≤ 50000) (hm : m ≤ 50000) (hp : p ≤ 50000) (hq : q ≤ 50000) :
    Ret Tryz.prog 38 [.agg #[.slice A n c, .slice B m d], .agg #[.slice C p e, .slice D q f]] w (fun v w' => v = .bool ((k.any fun x => decide (x ∈ r2 ++ k2)) || (k2.any fun x => decide (x ∈ r ++ k))) ∧ Ext w w') := by
  refine ret_T (n := 23) Tryz.func38 rfl rfl ?_
  repeat (first | refine T_seq ?_ | refine T_region ?_)
  refine TL_box (hk := ?_); intro b1 w1 e1 h1 h1' k1
  --
  refine TL_box (hk := ?_); intro b2 w2 e2 h2 h2' k2'
  have k12 := k1.be e2
  have e02 := e1.ext e2
  clear k1
  repeat (first | refine T_seq ?_ | refine TL_nil ?_ | refine TL_assign (hk := ?_))
  refine T_region_held TE.mixed [] [(0, true), (1, true), (2, true), (3, true), (4, true), (5, true), (6, false), (7, false), (8, true), (9, true), (10, true), (11, true), (12, true), (13, true), (14, true), (15, false), (16, false), (17, true), (18, true)] rfl (by kernel_rfl) rfl (by kernel_rfl) ?_; intro w3 e3 s3
  have hd3 : Eng.Mod [] w3 w3 := Mod.refl _ _
  have hD1 : b1 ∉ ([] : List Nat) := by simp
  have hD2 : b2 ∉ ([] : List Nat) := by simp
  have e03 := e02.ext e3
  have k13 := k12.be e3
  have k23 := k2'.be e3
  have hA3 := hA.be e03
  have hB3 := hB.be e03
  have hC3 := hC.be e03
  have hD3 := hD.be e03
  clear k12 k2' hA hB hC hD
  repeat (first | refine TLH_load TE (hk := ?_) | refine TL_fieldAddr TE (hk := ?_))
  refine TL_call TE (hc := both_c C D p q e f r2 k2 w3 hC3 hD3 (by omega) (by omega)) (hq := fun v w' ⟨_, _, _, h, _⟩ => hd3.ext h) (hk := ?_)
  rintro _ w4 ⟨A4, c4, rfl, e4, o4⟩
  refine TL_call TE (hc := RSome_c B A4 m (p + q) d c4 k (r2 ++ k2) w4 (hB3.be e4) o4.rd (by omega) (by omega)) (hq := fun v w' ⟨_, h⟩ => h ▸ hd3.ext e4) (hk := ?_)
  rintro _ w4 ⟨rfl, rfl⟩
  by_cases q1 : (k.any fun x => decide (x ∈ r2 ++ k2)) = true
  · rw [q1]
    repeat (first | refine TL_move (hk := ?_) | refine TL_assign (hk := ?_) | refine TL_no (hk := ?_) | refine TL_pick_t (hk := ?_))
    refine TL_nil_h ?_
    --
    exact T_ret1 rfl rfl ⟨by simp, e03.ext e4⟩
  · have q1' : (k.any fun x => decide (x ∈ r2 ++ k2)) = false := by simpa using q1
    rw [q1']
    repeat (first | refine TL_move (hk := ?_) | refine TLH_load TE (hk := ?_) | refine TL_fieldAddr TE (hk := ?_) | refine TL_yes (hk := ?_))
    refine TL_call TE (hc := both_c A B n m c d r k w4 (hA3.be e4) (hB3.be e4) (by omega) (by omega)) (hq := fun v w' ⟨_, _, _, h, _⟩ => (hd3.ext e4).ext h) (hk := ?_)
    rintro _ w5 ⟨A5, c5, rfl, e5, o5⟩
    repeat (refine TL_yes (hk := ?_))
    refine TL_call TE (hc := RSome_c D A5 q (n + m) f c5 k2 (r ++ k) w5 ((hD3.be e4).be e5) o5.rd (by omega) (by omega)) (hq := fun v w' ⟨_, h⟩ => h ▸ (hd3.ext e4).ext e5) (hk := ?_)
    rintro _ w5 ⟨rfl, rfl⟩
    repeat (first | refine TL_assign (hk := ?_) | refine TL_pick_f (hk := ?_))
    refine TL_nil_h ?_
    --
    exact T_ret1 rfl rfl ⟨by simp, (e03.ext e4).ext e5⟩

















































end Go.Proofs.YtgdbckjkeofoaaaGreat

namespace Go.Proofs.YtgdbckjkeofoaaaGreat
open Go.RowKit Go.Proofs.Eng Go.Proofs.Foot Go.Proofs.Locks Go.Proofs.Sched
set_option linter.unusedSimpArgs false
set_option linter.unusedVariables false set_option maxRecDepth 10000
attribute [local irreducible] T TL LV TH TA
set_option maxHeartbeats 3200000
theorem win_lockL : ∀ (f : Nat) (s : SS), (lockL f s).win = s.win
  | 0, s => rfl
  | f + 1, s => by
    unfold lockL
    split
    · rw [win_lockL f]; unfold lockS; simp only; split <;> rfl
    · rfl
theorem win_lock (s : SS) : (lockE s).win = s.win := win_lockL _ _
theorem win_add (s : SS) (q : Int) (r k : List Tx) : (addE s q r k).1.win = s.win := by
  unfold addE
  split
  · rfl
  split
  · rfl
  split
  · rfl
  · rw [win_lock]
theorem win_take (s : SS) : (takeS s).1.win = s.win := by unfold takeS; split <;> rfl
theorem win_done (s : SS) (q : Int) : (doneE s q).1.win = s.win := by
  unfold doneE
  split
  · rfl
  · rw [win_lock]
/-- A footprint in a row of the statement's. -/
structure FR where
  A : Option Addr
  n : Nat
  c : Nat
  B : Option Addr
  m : Nat
  d : Nat
  r : List Tx
  k : List Tx
def fr0 : FR := ⟨none, 0, 0, none, 0, 0, [], []⟩
def frV (x : FR) : List Value := [.slice x.A x.n x.c, .slice x.B x.m x.d]
theorem frV_len (x : FR) : (frV x).length = 2 := rfl
theorem frV_one : ∀ x, ∀ u ∈ frV x, u.oneCell' = true := by
  intro x u hu
  simp [frV] at hu
  rcases hu with rfl | rfl <;> rfl
structure FootsM (w0 w : World) (base : Nat) (qo : Nat → Nat) (y : SL) (fs : List FR) : Prop where
  o : Own w base 35 2 y.1 y.2.1 y.2.2 (rowV frV fs)
  z : ∀ b ∈ blkL y.1, qo b = 0
  g : ∀ x ∈ fs, Rd w0 x.A x.n 1 (sv x.r) ∧ Rd w0 x.B x.m 1 (sv x.k) ∧ x.n ≤ 3000 ∧ x.m ≤ 3000
structure TS5 (w0 w : World) (bs p N : Nat) (m : SM) (h g : Nat → Nat) (f : Nat → Ow) (s : SS) : Prop where
  e : Ext w0 w
  hp : m.p = p
  M : SchedM w bs m h g f s
  I : SI N s
  R : SR s
  hb : w0.heap.size ≤ bs
section
variable {w0 w w' : World} {base bs p N N' : Nat} {m m' : SM} {h h' g g' : Nat → Nat} {f f' : Nat → Ow} {s s' : SS} {o o' : Nat → Nat} {y : SL} {fs : List FR}
theorem FootsM.len (F : FootsM w0 w base o y fs) : fs.length = y.2.1 := by
  have := F.o.len
  rw [rowV_len frV_len] at this
  omega
theorem FootsM.tn (F : FootsM w0 w base o y fs) (t : Tn o o' w w') : FootsM w0 w' base o' y fs := by
  obtain ⟨h1, h2⟩ := F.o.tn t F.z
  exact ⟨h1, h2, F.g⟩
theorem FootsM.ext (F : FootsM w0 w base o y fs) (e : Ext w w') : FootsM w0 w' base o y fs := ⟨F.o.be e, F.z, F.g⟩
theorem TS5.ext (T0 : TS5 w0 w bs p N m h g f s) (e : Ext w w') : TS5 w0 w' bs p N m h g f s := ⟨T0.e.ext e, T0.hp, T0.M.ext e, T0.I, T0.R, T0.hb⟩
theorem TS5.turn (T0 : TS5 w0 w bs p N m h g f s) (hp : m'.p = m.p) (M : SchedM w' bs m' h' g' f' s') (t : Tn (oA h g f) (oA h' g' f') w w') (I : SI N' s') (R : SR s') : TS5 w0 w' bs p N' m' h' g' f' s' :=
  ⟨t.ext0 T0.e (fun b q => by have := (T0.M.oold q).1; have := T0.hb; omega), hp.trans T0.hp, M, I, R, T0.hb⟩
theorem stS_at {i : Nat} (hi : i < s.E.length) : stS s (i : Int) = stE s.E i := by
  unfold stS stE
  rw [if_neg (by omega), show ((i : Nat) : Int).toNat = i by omega]
theorem ft_at (hf : s.E.map ftE = fs.map fun x => (x.r, x.k)) {i : Nat} (hi : i < fs.length) : i < s.E.length ∧ (s.E.getD i en0).rd = (fs.getD i fr0).r ∧ (s.E.getD i en0).wr = (fs.getD i fr0).k := by
  have hl := congrArg List.length hf
  rw [List.length_map, List.length_map] at hl
  have hi2 : i < s.E.length := by omega
  have := congrArg (fun x => x[i]?) hf
  simp only [List.getElem?_map, List.getElem?_eq_getElem hi, List.getElem?_eq_getElem hi2, Option.map_some] at this
  have := Option.some.inj this
  rw [List.getD_eq_getElem?_getD, List.getD_eq_getElem?_getD, List.getElem?_eq_getElem hi, List.getElem?_eq_getElem hi2]
  exact ⟨hi2, (Prod.mk.inj this).1, (Prod.mk.inj this).2⟩
/-- The document's Clash of two footprints is that of their locks. -/
theorem clB_doc (r k r2 k2 : List Tx) (hn : chk none (locksT r2 k2) = 0) : ((k.any fun x => decide (x ∈ r2 ++ k2)) || (k2.any fun x => decide (x ∈ r ++ k))) = clashL (locksT r2 k2) (locksT r k) := by
  rw [← clash_eq, ← clash2_eq (chk_nodup hn)]
  have h1 : clash2 (locksT r2 k2) (locksT r k) = meetL (locksM (ofM r2 k2)) (locksM (ofM r k)) := rfl
  rw [h1, meet_eq, clash_swap]
def fB (E : List EnE) (i : Nat) : Bool := (List.range i).all fun k => decide (stE E k = 5 ∨ stE E k = 6)
theorem fB_succ (E : List EnE) (i : Nat) : fB E (i + 1) = (fB E i && decide (stE E i = 5 ∨ stE E i = 6)) := by
  unfold fB
  rw [List.range_succ, List.all_append]
  simp
theorem fB_all {E : List EnE} {i : Nat} (h : fB E i = true) : ∀ k, k < i → stE E k = 5 ∨ stE E k = 6 := fun k hk => by
  unfold fB at h
  exact of_decide_eq_true (List.all_eq_true.1 h k (List.mem_range.2 hk))
def lB (z : Nat) : Bool := !decide (z = 5 ∨ z = 6)
def onB (z : Nat) : Bool := decide (z = 3 ∨ z = 4 ∨ z = 5)
theorem ordered_c15 (T0 : TS5 w0 w bs p N m h g f s) (F : FootsM w0 w base o y fs) (hf : s.E.map ftE = fs.map fun x => (x.r, x.k)) :
    Ret Tryz.prog 14 [pB p, sL y] w (fun v w' => v = .bool true ∧ Ext w w') := by
  have hfl := F.len
  have hll : s.E.length = fs.length := by have := congrArg List.length hf; rw [List.length_map, List.length_map] at this; omega
  have hen := T0.I.en
  have hnb := T0.I.nb
  have cS := fun (q : Int) w' (e : Ext w w') => State_c15 q w' (T0.M.ext e) T0.I
  rw [T0.hp] at cS
  refine ret_T (n := 82) Tryz.func14 rfl rfl ?_
  repeat (first | refine T_seq ?_ | refine T_region ?_ | refine T_block ?_ | refine TL_nil ?_ | refine TL_assign (hk := ?_))
  refine T_loop (ι := Nat) (fun i => [(6, .int .i64 (i : Int)), (5, .bool (fB s.E i)), (0, pB p), (1, sL y)]) (fun i w' => i ≤ fs.length ∧ Ext w w') (fun i => fs.length - i) 0 (.c rfl (.c rfl (.c rfl (.c rfl (.n))))) ⟨Nat.zero_le _, Mod.refl _ _⟩ ?_
  rintro i w1 ⟨hi, e1⟩ ih
  by_cases hlt : i < fs.length
  · have hA : y.1 ≠ none := by obtain ⟨_, _, hq, _⟩ := F.o.rd.2 (by omega); rw [hq]; simp
    have hiE : i < s.E.length := by omega
    have hz1 := T0.R.a2 i hiE
    have hfst := T0.R.first hiE
    have hst := stS_at hiE
    have hsu := fB_succ s.E i
    have hapart := fun k (hk : k < i) => T0.R.apart hk hiE
    obtain ⟨z, hz⟩ : ∃ z, stE s.E i = z := ⟨_, rfl⟩
    rw [hz] at hz1 hfst hst hsu hapart
    have cS1 := cS (i : Int) w1 e1
    rw [hst] at cS1
    repeat (first | refine T_seq ?_ | refine T_region ?_ | refine T_cond_true rfl ?_ | refine T_block ?_ | refine T_skip ?_ | refine TL_lt_t (hk := ?_) | refine TL_nil ?_ | refine TL_move (hk := ?_) | refine TL_len TE (hk := ?_))
    refine TL_call TE (hc := cS1) (hk := ?_)
    rintro _ w2 ⟨rfl, e2⟩
    have E2 := e1.ext e2
    repeat (first | refine TL_nil ?_ | refine TL_assign (hk := ?_))
    refine T_seq ?_
    refine T_join (ι := Unit) (fun _ => [(8, .bool (lB z)), (7, .int .i64 (z : Int)), (6, .int .i64 (i : Int)), (5, .bool (fB s.E i)), (0, pB p), (1, sL y)]) (fun _ w' => w' = w2) (fun kk join => ?_) ?_
    · clear ih
      by_cases q5 : z = 5
      · subst q5
        repeat (first | refine T_region ?_ | refine TL_ne_f (hk := ?_) | refine TL_nil ?_ | refine TL_move (hk := ?_) | refine TL_assign (hk := ?_) | refine TL_no (hk := ?_) | refine TL_pick_f (hk := ?_))
        exact T.sub (join () _ rfl) (.c rfl (.c rfl (.c rfl (.c rfl (.c rfl (.c rfl (.n)))))))
      by_cases q6 : z = 6
      · subst q6
        repeat (first | refine T_region ?_ | refine TL_ne_t (hk := ?_) | refine TL_ne_f (hk := ?_) | refine TL_nil ?_ | refine TL_move (hk := ?_) | refine TL_assign (hk := ?_) | refine TL_yes (hk := ?_) | refine TL_pick_t (hk := ?_))
        exact T.sub (join () _ rfl) (.c rfl (.c rfl (.c rfl (.c rfl (.c rfl (.c rfl (.n)))))))
      · have hl : lB z = true := by unfold lB; simp [q5, q6]
        rw [hl] at join
        have q5' : ¬ (z : Int) = 5 := by omega
        have q6' : ¬ (z : Int) = 6 := by omega
        repeat (first | refine T_region ?_ | refine TL_ne_t (hk := ?_) | refine TL_nil ?_ | refine TL_move (hk := ?_) | refine TL_assign (hk := ?_) | refine TL_yes (hk := ?_) | refine TL_pick_t (hk := ?_))
        exact T.sub (join () _ rfl) (.c rfl (.c rfl (.c rfl (.c rfl (.c rfl (.c rfl (.n)))))))
    rintro _ w2 rfl
    --
    refine T_seq ?_
    refine T_join (ι := Unit) (fun _ => [(8, .bool (lB z)), (7, .int .i64 (z : Int)), (6, .int .i64 (i : Int)), (5, .bool (fB s.E i)), (0, pB p), (1, sL y)]) (fun _ w' => w' = w2) (fun kk join => ?_) ?_
    · clear ih
      by_cases ql : z = 5 ∨ z = 6
      · have hl : lB z = false := by unfold lB; rw [decide_eq_true ql]; rfl
        rw [hl] at join ⊢
        repeat (first | refine T_seq ?_ | refine T_region ?_ | refine T_cond_false rfl ?_ | refine T_skip ?_ | refine TL_nil ?_ | refine TL_move (hk := ?_) | refine TL_no (hk := ?_) | refine TL_pick_f (hk := ?_))
        exact T.sub (join () _ rfl) (.c rfl (.c rfl (.c rfl (.c rfl (.c rfl (.c rfl (.n)))))))
      · have hl : lB z = true := by unfold lB; rw [decide_eq_false ql]; rfl
        rw [hl] at join ⊢
        cases hfb : fB s.E i with
        | false =>
          rw [hfb] at join
          repeat (first | refine T_seq ?_ | refine T_region ?_ | refine T_cond_false rfl ?_ | refine T_skip ?_ | refine TL_nil ?_ | refine TL_move (hk := ?_) | refine TL_yes (hk := ?_) | refine TL_no (hk := ?_) | refine TL_pick_t (hk := ?_) | refine TL_pick_f (hk := ?_))
          exact T.sub (join () _ rfl) (.c rfl (.c rfl (.c rfl (.c rfl (.c rfl (.c rfl (.n)))))))
        | true =>
          rw [hfb] at join
          have h34 := hfst ⟨fun q => ql (.inl q), fun q => ql (.inr q)⟩ (fB_all hfb)
          rcases h34 with h3 | h4
          · subst h3
            repeat (first | refine T_seq ?_ | refine T_region ?_ | refine T_cond_false rfl ?_ | refine T_skip ?_ | refine TL_ne_f (hk := ?_) | refine TL_nil ?_ | refine TL_move (hk := ?_) | refine TL_yes (hk := ?_) | refine TL_no (hk := ?_) | refine TL_pick_t (hk := ?_) | refine TL_pick_f (hk := ?_))
            exact T.sub (join () _ rfl) (.c rfl (.c rfl (.c rfl (.c rfl (.c rfl (.c rfl (.n)))))))
          · subst h4
            repeat (first | refine T_seq ?_ | refine T_region ?_ | refine T_cond_false rfl ?_ | refine T_skip ?_ | refine TL_ne_t (hk := ?_) | refine TL_ne_f (hk := ?_) | refine TL_nil ?_ | refine TL_move (hk := ?_) | refine TL_yes (hk := ?_) | refine TL_pick_t (hk := ?_))
            exact T.sub (join () _ rfl) (.c rfl (.c rfl (.c rfl (.c rfl (.c rfl (.c rfl (.n)))))))
    rintro _ w2 rfl
    --
    refine T_seq ?_
    refine T_join (ι := Unit) (fun _ => [(7, .int .i64 (z : Int)), (6, .int .i64 (i : Int)), (5, .bool (fB s.E (i + 1))), (0, pB p), (1, sL y)]) (fun _ w' => w' = w2) (fun kk join => ?_) ?_
    · clear ih
      rw [hsu] at join
      by_cases ql : z = 5 ∨ z = 6
      · have hl : lB z = false := by unfold lB; rw [decide_eq_true ql]; rfl
        rw [decide_eq_true ql, Bool.and_true] at join
        rw [hl]
        cases hfb : fB s.E i with
        | false =>
          rw [hfb] at join
          repeat (first | refine T_region ?_ | refine TL_nil ?_ | refine TL_move (hk := ?_) | refine TL_assign (hk := ?_) | refine TL_no (hk := ?_) | refine TL_pick_f (hk := ?_))
          exact T.sub (join () _ rfl) (.c rfl (.c rfl (.c rfl (.c rfl (.c rfl (.n))))))
        | true =>
          rw [hfb] at join
          repeat (first | refine T_region ?_ | refine TL_nil ?_ | refine TL_move (hk := ?_) | refine TL_assign (hk := ?_) | refine TL_yes (hk := ?_) | refine TL_pick_t (hk := ?_) | refine TL_not (hk := ?_))
          exact T.sub (join () _ rfl) (.c rfl (.c rfl (.c rfl (.c rfl (.c rfl (.n))))))
      · have hl : lB z = true := by unfold lB; rw [decide_eq_false ql]; rfl
        rw [decide_eq_false ql, Bool.and_false] at join
        rw [hl]
        cases hfb : fB s.E i with
        | false =>
          repeat (first | refine T_region ?_ | refine TL_nil ?_ | refine TL_move (hk := ?_) | refine TL_assign (hk := ?_) | refine TL_no (hk := ?_) | refine TL_pick_f (hk := ?_))
          exact T.sub (join () _ rfl) (.c rfl (.c rfl (.c rfl (.c rfl (.c rfl (.n))))))
        | true =>
          repeat (first | refine T_region ?_ | refine TL_nil ?_ | refine TL_move (hk := ?_) | refine TL_assign (hk := ?_) | refine TL_yes (hk := ?_) | refine TL_pick_t (hk := ?_) | refine TL_not (hk := ?_))
          exact T.sub (join () _ rfl) (.c rfl (.c rfl (.c rfl (.c rfl (.c rfl (.n))))))
    rintro _ w2 rfl
    repeat (first | refine T_seq ?_ | refine T_region ?_ | refine T_block ?_ | refine TL_nil ?_ | refine TL_assign (hk := ?_))
    refine T_loop (ι := Nat) (fun k => [(9, .int .i64 (k : Int)), (7, .int .i64 (z : Int)), (6, .int .i64 (i : Int)), (5, .bool (fB s.E (i + 1))), (0, pB p), (1, sL y)]) (fun k w' => k ≤ i ∧ Ext w w') (fun k => i - k) 0 (.c rfl (.c rfl (.c rfl (.c rfl (.c rfl (.c rfl (.n))))))) ⟨Nat.zero_le _, E2⟩ ?_
    rintro k w3 ⟨hk, e3⟩ ih2
    by_cases hki : k < i
    · have hkE : k < s.E.length := by omega
      have hz2 := T0.R.a2 k hkE
      have hstk := stS_at hkE
      have hap := hapart k hki
      obtain ⟨b, hb⟩ : ∃ b, stE s.E k = b := ⟨_, rfl⟩
      rw [hb] at hz2 hstk hap
      have cS3 := cS (k : Int) w3 e3
      rw [hstk] at cS3
      repeat (first | refine T_seq ?_ | refine T_region ?_ | refine T_cond_true rfl ?_ | refine T_block ?_ | refine T_skip ?_ | refine TL_lt_t (hk := ?_) | refine TL_nil ?_ | refine TL_move (hk := ?_))
      refine TL_call TE (hc := cS3) (hk := ?_)
      rintro _ w4 ⟨rfl, e4⟩
      have E4 := e3.ext e4
      repeat (first | refine TL_nil ?_ | refine TL_assign (hk := ?_))
      refine T_seq ?_
      refine T_join (ι := Unit) (fun _ => [(11, .bool (onB z)), (10, .int .i64 (b : Int)), (9, .int .i64 (k : Int)), (7, .int .i64 (z : Int)), (6, .int .i64 (i : Int)), (5, .bool (fB s.E (i + 1))), (0, pB p), (1, sL y)]) (fun _ w' => w' = w4) (fun kk join => ?_) ?_
      · clear ih ih2
        by_cases q3 : z = 3
        · subst q3
          repeat (first | refine T_region ?_ | refine TL_eq_t (hk := ?_) | refine TL_nil ?_ | refine TL_move (hk := ?_) | refine TL_assign (hk := ?_) | refine TL_no (hk := ?_) | refine TL_pick_t (hk := ?_))
          exact T.sub (join () _ rfl) (.c rfl (.c rfl (.c rfl (.c rfl (.c rfl (.c rfl (.c rfl (.c rfl (.n)))))))))
        by_cases q4 : z = 4
        · subst q4
          repeat (first | refine T_region ?_ | refine TL_eq_t (hk := ?_) | refine TL_eq_f (hk := ?_) | refine TL_nil ?_ | refine TL_move (hk := ?_) | refine TL_assign (hk := ?_) | refine TL_yes (hk := ?_) | refine TL_no (hk := ?_) | refine TL_pick_t (hk := ?_) | refine TL_pick_f (hk := ?_))
          exact T.sub (join () _ rfl) (.c rfl (.c rfl (.c rfl (.c rfl (.c rfl (.c rfl (.c rfl (.c rfl (.n)))))))))
        by_cases q5 : z = 5
        · subst q5
          repeat (first | refine T_region ?_ | refine TL_eq_t (hk := ?_) | refine TL_eq_f (hk := ?_) | refine TL_nil ?_ | refine TL_move (hk := ?_) | refine TL_assign (hk := ?_) | refine TL_yes (hk := ?_) | refine TL_pick_f (hk := ?_))
          exact T.sub (join () _ rfl) (.c rfl (.c rfl (.c rfl (.c rfl (.c rfl (.c rfl (.c rfl (.c rfl (.n)))))))))
        · have hon : onB z = false := by unfold onB; simp [q3, q4, q5]
          rw [hon] at join
          have q3' : ¬ (z : Int) = 3 := by omega
          have q4' : ¬ (z : Int) = 4 := by omega
          have q5' : ¬ (z : Int) = 5 := by omega
          repeat (first | refine T_region ?_ | refine TL_eq_f (hk := ?_) | refine TL_nil ?_ | refine TL_move (hk := ?_) | refine TL_assign (hk := ?_) | refine TL_yes (hk := ?_) | refine TL_pick_f (hk := ?_))
          exact T.sub (join () _ rfl) (.c rfl (.c rfl (.c rfl (.c rfl (.c rfl (.c rfl (.c rfl (.c rfl (.n)))))))))
      rintro _ w4 rfl
      have hr4 := (F.o.be E4).rd
      have hAD : Off y.1 ([] : List Nat) := .nil _
      cases hon : onB z with
      | false =>
        repeat (refine T_seq ?_)
        refine T_region_any TE.mixed ([] : List Nat) ?_; intro w5 e5 z5
        (refine TA_take 0 rfl (by kernel_rfl) (by kernel_rfl) (by kernel_rfl) ?_; (repeat (first | refine TL_move (hk := ?_) | refine TL_no (hk := ?_) | refine TL_pick_f (hk := ?_))); refine TL_nil_p ?_); (refine TA_take 1 rfl (by kernel_rfl) (by kernel_rfl) (by kernel_rfl) ?_; (repeat (first | refine TL_move (hk := ?_) | refine TL_no (hk := ?_) | refine TL_pick_f (hk := ?_))); refine TL_nil_p ?_); (refine TA_take 2 rfl (by kernel_rfl) (by kernel_rfl) (by kernel_rfl) ?_; (repeat (first | refine TL_move (hk := ?_) | refine TL_no (hk := ?_) | refine TL_pick_f (hk := ?_))); refine TL_nil_p ?_); (refine TA_take 3 rfl (by kernel_rfl) (by kernel_rfl) (by kernel_rfl) ?_; (repeat (first | refine TL_move (hk := ?_) | refine TL_no (hk := ?_) | refine TL_pick_f (hk := ?_))); refine TL_nil_p ?_); (refine TA_take 4 rfl (by kernel_rfl) (by kernel_rfl) (by kernel_rfl) ?_; (repeat (first | refine TL_move (hk := ?_) | refine TL_no (hk := ?_) | refine TL_pick_f (hk := ?_))); refine TL_nil_p ?_); (refine TA_take 5 rfl (by kernel_rfl) (by kernel_rfl) (by kernel_rfl) ?_; (repeat (first | refine TL_move (hk := ?_) | refine TL_no (hk := ?_) | refine TL_pick_f (hk := ?_))); refine TL_nil_p ?_); (refine TA_take 6 rfl (by kernel_rfl) (by kernel_rfl) (by kernel_rfl) ?_; (repeat (first | refine TL_move (hk := ?_) | refine TL_no (hk := ?_) | refine TL_pick_f (hk := ?_))); refine TL_nil_p ?_); (refine TA_take 7 rfl (by kernel_rfl) (by kernel_rfl) (by kernel_rfl) ?_; (repeat (first | refine TL_move (hk := ?_) | refine TL_no (hk := ?_) | refine TL_pick_f (hk := ?_))); refine TL_nil_p ?_); (refine TA_take 8 rfl (by kernel_rfl) (by kernel_rfl) (by kernel_rfl) ?_; (repeat (first | refine TL_move (hk := ?_) | refine TL_no (hk := ?_) | refine TL_pick_f (hk := ?_))); refine TL_nil_p ?_); (refine TA_take 9 rfl (by kernel_rfl) (by kernel_rfl) (by kernel_rfl) ?_; (repeat (first | refine TL_move (hk := ?_) | refine TL_no (hk := ?_) | refine TL_pick_f (hk := ?_))); refine TL_nil_p ?_); (refine TA_take 10 rfl (by kernel_rfl) (by kernel_rfl) (by kernel_rfl) ?_; (repeat (first | refine TL_move (hk := ?_) | refine TL_no (hk := ?_) | refine TL_pick_f (hk := ?_))); refine TL_nil_p ?_); (refine TA_take 11 rfl (by kernel_rfl) (by kernel_rfl) (by kernel_rfl) ?_; (repeat (first | refine TL_move (hk := ?_) | refine TL_no (hk := ?_) | refine TL_pick_f (hk := ?_))); refine TL_nil_p ?_); (refine TA_take 12 rfl (by kernel_rfl) (by kernel_rfl) (by kernel_rfl) ?_; (repeat (first | refine TL_move (hk := ?_) | refine TL_no (hk := ?_) | refine TL_pick_f (hk := ?_))); refine TL_nil_p ?_); (refine TA_take 13 rfl (by kernel_rfl) (by kernel_rfl) (by kernel_rfl) ?_; (repeat (first | refine TL_move (hk := ?_) | refine TL_no (hk := ?_) | refine TL_pick_f (hk := ?_))); refine TL_nil_p ?_); (refine TA_take 14 rfl (by kernel_rfl) (by kernel_rfl) (by kernel_rfl) ?_; (repeat (first | refine TL_move (hk := ?_) | refine TL_no (hk := ?_) | refine TL_pick_f (hk := ?_))); refine TL_nil_p ?_); (refine TA_take 15 rfl (by kernel_rfl) (by kernel_rfl) (by kernel_rfl) ?_; (repeat (first | refine TL_move (hk := ?_) | refine TL_no (hk := ?_) | refine TL_pick_f (hk := ?_))); refine TL_nil_p ?_); (refine TA_take 16 rfl (by kernel_rfl) (by kernel_rfl) (by kernel_rfl) ?_; (repeat (first | refine TL_move (hk := ?_) | refine TL_no (hk := ?_) | refine TL_pick_f (hk := ?_))); refine TL_nil_p ?_); (refine TA_take 17 rfl (by kernel_rfl) (by kernel_rfl) (by kernel_rfl) ?_; (repeat (first | refine TL_move (hk := ?_) | refine TL_no (hk := ?_) | refine TL_pick_f (hk := ?_))); refine TL_nil_p ?_)
        (refine TA_one 18 rfl (by kernel_rfl) (by kernel_rfl) ?_; (repeat (first | refine TL_no (hk := ?_) | refine TL_pick_f (hk := ?_))); refine TL_nil_p ?_); (refine TA_one 19 rfl (by kernel_rfl) (by kernel_rfl) ?_; (repeat (first | refine TL_no (hk := ?_) | refine TL_pick_f (hk := ?_))); refine TL_nil_p ?_)
        refine TA_done (by kernel_rfl) ?_
        repeat (first | refine T_region ?_ | refine T_cond_false rfl ?_ | refine T_inBlock ?_ | refine T_skip ?_ | refine TL_add (hk := ?_) | refine TL_nil ?_ | refine TL_move (hk := ?_) | refine TL_assign (hk := ?_))
        exact ih2 (k + 1) w5 _ (by omega) ⟨by omega, E4.ext e5⟩ (.c rfl (.c rfl (.c rfl (.c rfl (.c rfl (.c rfl (.n)))))))
      | true =>
        have hz345 : z = 3 ∨ z = 4 ∨ z = 5 := of_decide_eq_true hon
        by_cases b5 : b = 5
        · subst b5
          repeat (refine T_seq ?_)
          refine T_region_any TE.mixed ([] : List Nat) ?_; intro w5 e5 z5
          (refine TA_take 0 rfl (by kernel_rfl) (by kernel_rfl) (by kernel_rfl) ?_; (repeat (first | refine TL_ne_f (hk := ?_) | refine TL_move (hk := ?_) | refine TL_yes (hk := ?_) | refine TL_no (hk := ?_) | refine TL_pick_t (hk := ?_) | refine TL_pick_f (hk := ?_))); refine TL_nil_p ?_); (refine TA_take 1 rfl (by kernel_rfl) (by kernel_rfl) (by kernel_rfl) ?_; (repeat (first | refine TL_ne_f (hk := ?_) | refine TL_move (hk := ?_) | refine TL_yes (hk := ?_) | refine TL_no (hk := ?_) | refine TL_pick_t (hk := ?_) | refine TL_pick_f (hk := ?_))); refine TL_nil_p ?_); (refine TA_take 2 rfl (by kernel_rfl) (by kernel_rfl) (by kernel_rfl) ?_; (repeat (first | refine TL_ne_f (hk := ?_) | refine TL_move (hk := ?_) | refine TL_yes (hk := ?_) | refine TL_no (hk := ?_) | refine TL_pick_t (hk := ?_) | refine TL_pick_f (hk := ?_))); refine TL_nil_p ?_); (refine TA_take 3 rfl (by kernel_rfl) (by kernel_rfl) (by kernel_rfl) ?_; (repeat (first | refine TL_ne_f (hk := ?_) | refine TL_move (hk := ?_) | refine TL_yes (hk := ?_) | refine TL_no (hk := ?_) | refine TL_pick_t (hk := ?_) | refine TL_pick_f (hk := ?_))); refine TL_nil_p ?_); (refine TA_take 4 rfl (by kernel_rfl) (by kernel_rfl) (by kernel_rfl) ?_; (repeat (first | refine TL_ne_f (hk := ?_) | refine TL_move (hk := ?_) | refine TL_yes (hk := ?_) | refine TL_no (hk := ?_) | refine TL_pick_t (hk := ?_) | refine TL_pick_f (hk := ?_))); refine TL_nil_p ?_); (refine TA_take 5 rfl (by kernel_rfl) (by kernel_rfl) (by kernel_rfl) ?_; (repeat (first | refine TL_ne_f (hk := ?_) | refine TL_move (hk := ?_) | refine TL_yes (hk := ?_) | refine TL_no (hk := ?_) | refine TL_pick_t (hk := ?_) | refine TL_pick_f (hk := ?_))); refine TL_nil_p ?_); (refine TA_take 6 rfl (by kernel_rfl) (by kernel_rfl) (by kernel_rfl) ?_; (repeat (first | refine TL_ne_f (hk := ?_) | refine TL_move (hk := ?_) | refine TL_yes (hk := ?_) | refine TL_no (hk := ?_) | refine TL_pick_t (hk := ?_) | refine TL_pick_f (hk := ?_))); refine TL_nil_p ?_); (refine TA_take 7 rfl (by kernel_rfl) (by kernel_rfl) (by kernel_rfl) ?_; (repeat (first | refine TL_ne_f (hk := ?_) | refine TL_move (hk := ?_) | refine TL_yes (hk := ?_) | refine TL_no (hk := ?_) | refine TL_pick_t (hk := ?_) | refine TL_pick_f (hk := ?_))); refine TL_nil_p ?_); (refine TA_take 8 rfl (by kernel_rfl) (by kernel_rfl) (by kernel_rfl) ?_; (repeat (first | refine TL_ne_f (hk := ?_) | refine TL_move (hk := ?_) | refine TL_yes (hk := ?_) | refine TL_no (hk := ?_) | refine TL_pick_t (hk := ?_) | refine TL_pick_f (hk := ?_))); refine TL_nil_p ?_); (refine TA_take 9 rfl (by kernel_rfl) (by kernel_rfl) (by kernel_rfl) ?_; (repeat (first | refine TL_ne_f (hk := ?_) | refine TL_move (hk := ?_) | refine TL_yes (hk := ?_) | refine TL_no (hk := ?_) | refine TL_pick_t (hk := ?_) | refine TL_pick_f (hk := ?_))); refine TL_nil_p ?_); (refine TA_take 10 rfl (by kernel_rfl) (by kernel_rfl) (by kernel_rfl) ?_; (repeat (first | refine TL_ne_f (hk := ?_) | refine TL_move (hk := ?_) | refine TL_yes (hk := ?_) | refine TL_no (hk := ?_) | refine TL_pick_t (hk := ?_) | refine TL_pick_f (hk := ?_))); refine TL_nil_p ?_); (refine TA_take 11 rfl (by kernel_rfl) (by kernel_rfl) (by kernel_rfl) ?_; (repeat (first | refine TL_ne_f (hk := ?_) | refine TL_move (hk := ?_) | refine TL_yes (hk := ?_) | refine TL_no (hk := ?_) | refine TL_pick_t (hk := ?_) | refine TL_pick_f (hk := ?_))); refine TL_nil_p ?_); (refine TA_take 12 rfl (by kernel_rfl) (by kernel_rfl) (by kernel_rfl) ?_; (repeat (first | refine TL_ne_f (hk := ?_) | refine TL_move (hk := ?_) | refine TL_yes (hk := ?_) | refine TL_no (hk := ?_) | refine TL_pick_t (hk := ?_) | refine TL_pick_f (hk := ?_))); refine TL_nil_p ?_); (refine TA_take 13 rfl (by kernel_rfl) (by kernel_rfl) (by kernel_rfl) ?_; (repeat (first | refine TL_ne_f (hk := ?_) | refine TL_move (hk := ?_) | refine TL_yes (hk := ?_) | refine TL_no (hk := ?_) | refine TL_pick_t (hk := ?_) | refine TL_pick_f (hk := ?_))); refine TL_nil_p ?_); (refine TA_take 14 rfl (by kernel_rfl) (by kernel_rfl) (by kernel_rfl) ?_; (repeat (first | refine TL_ne_f (hk := ?_) | refine TL_move (hk := ?_) | refine TL_yes (hk := ?_) | refine TL_no (hk := ?_) | refine TL_pick_t (hk := ?_) | refine TL_pick_f (hk := ?_))); refine TL_nil_p ?_); (refine TA_take 15 rfl (by kernel_rfl) (by kernel_rfl) (by kernel_rfl) ?_; (repeat (first | refine TL_ne_f (hk := ?_) | refine TL_move (hk := ?_) | refine TL_yes (hk := ?_) | refine TL_no (hk := ?_) | refine TL_pick_t (hk := ?_) | refine TL_pick_f (hk := ?_))); refine TL_nil_p ?_); (refine TA_take 16 rfl (by kernel_rfl) (by kernel_rfl) (by kernel_rfl) ?_; (repeat (first | refine TL_ne_f (hk := ?_) | refine TL_move (hk := ?_) | refine TL_yes (hk := ?_) | refine TL_no (hk := ?_) | refine TL_pick_t (hk := ?_) | refine TL_pick_f (hk := ?_))); refine TL_nil_p ?_); (refine TA_take 17 rfl (by kernel_rfl) (by kernel_rfl) (by kernel_rfl) ?_; (repeat (first | refine TL_ne_f (hk := ?_) | refine TL_move (hk := ?_) | refine TL_yes (hk := ?_) | refine TL_no (hk := ?_) | refine TL_pick_t (hk := ?_) | refine TL_pick_f (hk := ?_))); refine TL_nil_p ?_)
          (refine TA_one 18 rfl (by kernel_rfl) (by kernel_rfl) ?_; (repeat (first | refine TL_no (hk := ?_) | refine TL_pick_f (hk := ?_))); refine TL_nil_p ?_); (refine TA_one 19 rfl (by kernel_rfl) (by kernel_rfl) ?_; (repeat (first | refine TL_no (hk := ?_) | refine TL_pick_f (hk := ?_))); refine TL_nil_p ?_)
          refine TA_done (by kernel_rfl) ?_
          repeat (first | refine T_region ?_ | refine T_cond_false rfl ?_ | refine T_inBlock ?_ | refine T_skip ?_ | refine TL_add (hk := ?_) | refine TL_nil ?_ | refine TL_move (hk := ?_) | refine TL_assign (hk := ?_))
          exact ih2 (k + 1) w5 _ (by omega) ⟨by omega, E4.ext e5⟩ (.c rfl (.c rfl (.c rfl (.c rfl (.c rfl (.c rfl (.n)))))))
        by_cases b6 : b = 6
        · subst b6
          repeat (refine T_seq ?_)
          refine T_region_any TE.mixed ([] : List Nat) ?_; intro w5 e5 z5
          (refine TA_take 0 rfl (by kernel_rfl) (by kernel_rfl) (by kernel_rfl) ?_; (repeat (first | refine TL_ne_t (hk := ?_) | refine TL_ne_f (hk := ?_) | refine TL_move (hk := ?_) | refine TL_yes (hk := ?_) | refine TL_no (hk := ?_) | refine TL_pick_t (hk := ?_))); refine TL_nil_p ?_); (refine TA_take 1 rfl (by kernel_rfl) (by kernel_rfl) (by kernel_rfl) ?_; (repeat (first | refine TL_ne_t (hk := ?_) | refine TL_ne_f (hk := ?_) | refine TL_move (hk := ?_) | refine TL_yes (hk := ?_) | refine TL_no (hk := ?_) | refine TL_pick_t (hk := ?_))); refine TL_nil_p ?_); (refine TA_take 2 rfl (by kernel_rfl) (by kernel_rfl) (by kernel_rfl) ?_; (repeat (first | refine TL_ne_t (hk := ?_) | refine TL_ne_f (hk := ?_) | refine TL_move (hk := ?_) | refine TL_yes (hk := ?_) | refine TL_no (hk := ?_) | refine TL_pick_t (hk := ?_))); refine TL_nil_p ?_); (refine TA_take 3 rfl (by kernel_rfl) (by kernel_rfl) (by kernel_rfl) ?_; (repeat (first | refine TL_ne_t (hk := ?_) | refine TL_ne_f (hk := ?_) | refine TL_move (hk := ?_) | refine TL_yes (hk := ?_) | refine TL_no (hk := ?_) | refine TL_pick_t (hk := ?_))); refine TL_nil_p ?_); (refine TA_take 4 rfl (by kernel_rfl) (by kernel_rfl) (by kernel_rfl) ?_; (repeat (first | refine TL_ne_t (hk := ?_) | refine TL_ne_f (hk := ?_) | refine TL_move (hk := ?_) | refine TL_yes (hk := ?_) | refine TL_no (hk := ?_) | refine TL_pick_t (hk := ?_))); refine TL_nil_p ?_); (refine TA_take 5 rfl (by kernel_rfl) (by kernel_rfl) (by kernel_rfl) ?_; (repeat (first | refine TL_ne_t (hk := ?_) | refine TL_ne_f (hk := ?_) | refine TL_move (hk := ?_) | refine TL_yes (hk := ?_) | refine TL_no (hk := ?_) | refine TL_pick_t (hk := ?_))); refine TL_nil_p ?_); (refine TA_take 6 rfl (by kernel_rfl) (by kernel_rfl) (by kernel_rfl) ?_; (repeat (first | refine TL_ne_t (hk := ?_) | refine TL_ne_f (hk := ?_) | refine TL_move (hk := ?_) | refine TL_yes (hk := ?_) | refine TL_no (hk := ?_) | refine TL_pick_t (hk := ?_))); refine TL_nil_p ?_); (refine TA_take 7 rfl (by kernel_rfl) (by kernel_rfl) (by kernel_rfl) ?_; (repeat (first | refine TL_ne_t (hk := ?_) | refine TL_ne_f (hk := ?_) | refine TL_move (hk := ?_) | refine TL_yes (hk := ?_) | refine TL_no (hk := ?_) | refine TL_pick_t (hk := ?_))); refine TL_nil_p ?_); (refine TA_take 8 rfl (by kernel_rfl) (by kernel_rfl) (by kernel_rfl) ?_; (repeat (first | refine TL_ne_t (hk := ?_) | refine TL_ne_f (hk := ?_) | refine TL_move (hk := ?_) | refine TL_yes (hk := ?_) | refine TL_no (hk := ?_) | refine TL_pick_t (hk := ?_))); refine TL_nil_p ?_); (refine TA_take 9 rfl (by kernel_rfl) (by kernel_rfl) (by kernel_rfl) ?_; (repeat (first | refine TL_ne_t (hk := ?_) | refine TL_ne_f (hk := ?_) | refine TL_move (hk := ?_) | refine TL_yes (hk := ?_) | refine TL_no (hk := ?_) | refine TL_pick_t (hk := ?_))); refine TL_nil_p ?_); (refine TA_take 10 rfl (by kernel_rfl) (by kernel_rfl) (by kernel_rfl) ?_; (repeat (first | refine TL_ne_t (hk := ?_) | refine TL_ne_f (hk := ?_) | refine TL_move (hk := ?_) | refine TL_yes (hk := ?_) | refine TL_no (hk := ?_) | refine TL_pick_t (hk := ?_))); refine TL_nil_p ?_); (refine TA_take 11 rfl (by kernel_rfl) (by kernel_rfl) (by kernel_rfl) ?_; (repeat (first | refine TL_ne_t (hk := ?_) | refine TL_ne_f (hk := ?_) | refine TL_move (hk := ?_) | refine TL_yes (hk := ?_) | refine TL_no (hk := ?_) | refine TL_pick_t (hk := ?_))); refine TL_nil_p ?_); (refine TA_take 12 rfl (by kernel_rfl) (by kernel_rfl) (by kernel_rfl) ?_; (repeat (first | refine TL_ne_t (hk := ?_) | refine TL_ne_f (hk := ?_) | refine TL_move (hk := ?_) | refine TL_yes (hk := ?_) | refine TL_no (hk := ?_) | refine TL_pick_t (hk := ?_))); refine TL_nil_p ?_); (refine TA_take 13 rfl (by kernel_rfl) (by kernel_rfl) (by kernel_rfl) ?_; (repeat (first | refine TL_ne_t (hk := ?_) | refine TL_ne_f (hk := ?_) | refine TL_move (hk := ?_) | refine TL_yes (hk := ?_) | refine TL_no (hk := ?_) | refine TL_pick_t (hk := ?_))); refine TL_nil_p ?_); (refine TA_take 14 rfl (by kernel_rfl) (by kernel_rfl) (by kernel_rfl) ?_; (repeat (first | refine TL_ne_t (hk := ?_) | refine TL_ne_f (hk := ?_) | refine TL_move (hk := ?_) | refine TL_yes (hk := ?_) | refine TL_no (hk := ?_) | refine TL_pick_t (hk := ?_))); refine TL_nil_p ?_); (refine TA_take 15 rfl (by kernel_rfl) (by kernel_rfl) (by kernel_rfl) ?_; (repeat (first | refine TL_ne_t (hk := ?_) | refine TL_ne_f (hk := ?_) | refine TL_move (hk := ?_) | refine TL_yes (hk := ?_) | refine TL_no (hk := ?_) | refine TL_pick_t (hk := ?_))); refine TL_nil_p ?_); (refine TA_take 16 rfl (by kernel_rfl) (by kernel_rfl) (by kernel_rfl) ?_; (repeat (first | refine TL_ne_t (hk := ?_) | refine TL_ne_f (hk := ?_) | refine TL_move (hk := ?_) | refine TL_yes (hk := ?_) | refine TL_no (hk := ?_) | refine TL_pick_t (hk := ?_))); refine TL_nil_p ?_); (refine TA_take 17 rfl (by kernel_rfl) (by kernel_rfl) (by kernel_rfl) ?_; (repeat (first | refine TL_ne_t (hk := ?_) | refine TL_ne_f (hk := ?_) | refine TL_move (hk := ?_) | refine TL_yes (hk := ?_) | refine TL_no (hk := ?_) | refine TL_pick_t (hk := ?_))); refine TL_nil_p ?_)
          (refine TA_one 18 rfl (by kernel_rfl) (by kernel_rfl) ?_; (repeat (first | refine TL_no (hk := ?_) | refine TL_pick_f (hk := ?_))); refine TL_nil_p ?_); (refine TA_one 19 rfl (by kernel_rfl) (by kernel_rfl) ?_; (repeat (first | refine TL_no (hk := ?_) | refine TL_pick_f (hk := ?_))); refine TL_nil_p ?_)
          refine TA_done (by kernel_rfl) ?_
          repeat (first | refine T_region ?_ | refine T_cond_false rfl ?_ | refine T_inBlock ?_ | refine T_skip ?_ | refine TL_add (hk := ?_) | refine TL_nil ?_ | refine TL_move (hk := ?_) | refine TL_assign (hk := ?_))
          exact ih2 (k + 1) w5 _ (by omega) ⟨by omega, E4.ext e5⟩ (.c rfl (.c rfl (.c rfl (.c rfl (.c rfl (.c rfl (.n)))))))
        have b5' : ¬ (b : Int) = 5 := by omega
        have b6' : ¬ (b : Int) = 6 := by omega
        have hcl := hap hz345 ⟨b5, b6⟩
        have t1 := rowV_elem frV_len fs i fr0 hlt
        have t2 := rowV_elem frV_len fs k fr0 (by omega)
        have hg1 := F.g _ (getD_in (d := fr0) hlt)
        have hg2 := F.g _ (getD_in (d := fr0) (by omega : k < fs.length))
        obtain ⟨_, f1, f2⟩ := ft_at hf hlt
        obtain ⟨_, f3, f4⟩ := ft_at hf (i := k) (by omega)
        have hck := T0.R.a10 k hkE
        unfold clB entA at hcl
        unfold entA at hck
        simp only at hcl hck
        rw [f1, f2, f3, f4] at hcl
        rw [f3, f4] at hck
        obtain ⟨x, hx⟩ : ∃ x, fs.getD i fr0 = x := ⟨_, rfl⟩
        obtain ⟨u, hu⟩ : ∃ x, fs.getD k fr0 = x := ⟨_, rfl⟩
        rw [hx] at t1 hg1 hcl
        rw [hu] at t2 hg2 hcl hck
        have hdoc := clB_doc x.r x.k u.r u.k hck
        rw [hcl] at hdoc
        repeat (refine T_seq ?_)
        refine T_region_any TE.mixed ([] : List Nat) ?_; intro w5 e5 z5
        have hr5 := hr4.be e5
        have E05 := (T0.e.ext E4).ext e5
        (refine TA_take 0 rfl (by kernel_rfl) (by kernel_rfl) (by kernel_rfl) ?_; (repeat (first | refine TL_ne_t (hk := ?_) | refine TL_move (hk := ?_) | refine TL_indexAddrn TE (hk := ?_) | refine TL_yes (hk := ?_) | refine TL_pick_t (hk := ?_))); refine TL_nil_p ?_); (refine TA_take 1 rfl (by kernel_rfl) (by kernel_rfl) (by kernel_rfl) ?_; (repeat (first | refine TL_ne_t (hk := ?_) | refine TL_move (hk := ?_) | refine TL_indexAddrn TE (hk := ?_) | refine TL_yes (hk := ?_) | refine TL_pick_t (hk := ?_))); refine TL_nil_p ?_); (refine TA_take 2 rfl (by kernel_rfl) (by kernel_rfl) (by kernel_rfl) ?_; (repeat (first | refine TL_ne_t (hk := ?_) | refine TL_move (hk := ?_) | refine TL_indexAddrn TE (hk := ?_) | refine TL_yes (hk := ?_) | refine TL_pick_t (hk := ?_))); refine TL_nil_p ?_); (refine TA_take 3 rfl (by kernel_rfl) (by kernel_rfl) (by kernel_rfl) ?_; (repeat (first | refine TL_ne_t (hk := ?_) | refine TL_move (hk := ?_) | refine TL_indexAddrn TE (hk := ?_) | refine TL_yes (hk := ?_) | refine TL_pick_t (hk := ?_))); refine TL_nil_p ?_); (refine TA_take 4 rfl (by kernel_rfl) (by kernel_rfl) (by kernel_rfl) ?_; (repeat (first | refine TL_ne_t (hk := ?_) | refine TL_move (hk := ?_) | refine TL_indexAddrn TE (hk := ?_) | refine TL_yes (hk := ?_) | refine TL_pick_t (hk := ?_))); refine TL_nil_p ?_); (refine TA_take 5 rfl (by kernel_rfl) (by kernel_rfl) (by kernel_rfl) ?_; (repeat (first | refine TL_ne_t (hk := ?_) | refine TL_move (hk := ?_) | refine TL_indexAddrn TE (hk := ?_) | refine TL_yes (hk := ?_) | refine TL_pick_t (hk := ?_))); refine TL_nil_p ?_); (refine TA_take 6 rfl (by kernel_rfl) (by kernel_rfl) (by kernel_rfl) ?_; (repeat (first | refine TL_ne_t (hk := ?_) | refine TL_move (hk := ?_) | refine TL_indexAddrn TE (hk := ?_) | refine TL_yes (hk := ?_) | refine TL_pick_t (hk := ?_))); refine TL_nil_p ?_); (refine TA_take 7 rfl (by kernel_rfl) (by kernel_rfl) (by kernel_rfl) ?_; (repeat (first | refine TL_ne_t (hk := ?_) | refine TL_move (hk := ?_) | refine TL_indexAddrn TE (hk := ?_) | refine TL_yes (hk := ?_) | refine TL_pick_t (hk := ?_))); refine TL_nil_p ?_); (refine TA_take 8 rfl (by kernel_rfl) (by kernel_rfl) (by kernel_rfl) ?_; (repeat (first | refine TL_ne_t (hk := ?_) | refine TL_move (hk := ?_) | refine TL_indexAddrn TE (hk := ?_) | refine TL_yes (hk := ?_) | refine TL_pick_t (hk := ?_))); refine TL_nil_p ?_); (refine TA_take 9 rfl (by kernel_rfl) (by kernel_rfl) (by kernel_rfl) ?_; (repeat (first | refine TL_ne_t (hk := ?_) | refine TL_move (hk := ?_) | refine TL_indexAddrn TE (hk := ?_) | refine TL_yes (hk := ?_) | refine TL_pick_t (hk := ?_))); refine TL_nil_p ?_); (refine TA_take 10 rfl (by kernel_rfl) (by kernel_rfl) (by kernel_rfl) ?_; (repeat (first | refine TL_ne_t (hk := ?_) | refine TL_move (hk := ?_) | refine TL_indexAddrn TE (hk := ?_) | refine TL_yes (hk := ?_) | refine TL_pick_t (hk := ?_))); refine TL_nil_p ?_); (refine TA_take 11 rfl (by kernel_rfl) (by kernel_rfl) (by kernel_rfl) ?_; (repeat (first | refine TL_ne_t (hk := ?_) | refine TL_move (hk := ?_) | refine TL_indexAddrn TE (hk := ?_) | refine TL_yes (hk := ?_) | refine TL_pick_t (hk := ?_))); refine TL_nil_p ?_); (refine TA_take 12 rfl (by kernel_rfl) (by kernel_rfl) (by kernel_rfl) ?_; (repeat (first | refine TL_ne_t (hk := ?_) | refine TL_move (hk := ?_) | refine TL_indexAddrn TE (hk := ?_) | refine TL_yes (hk := ?_) | refine TL_pick_t (hk := ?_))); refine TL_nil_p ?_)
        refine TA_take 13 rfl (by kernel_rfl) (by kernel_rfl) (by kernel_rfl) ?_
        try refine TL_yes (hk := ?_)
        refine TLP_loada TE (cs := frV x) (hr := hr5) (hc := t1) (hk := ?_)
        refine TL_nil_p ?_
        (refine TA_take 14 rfl (by kernel_rfl) (by kernel_rfl) (by kernel_rfl) ?_; (repeat (first | refine TL_move (hk := ?_) | refine TL_indexAddrn TE (hk := ?_) | refine TL_yes (hk := ?_))); refine TL_nil_p ?_); (refine TA_take 15 rfl (by kernel_rfl) (by kernel_rfl) (by kernel_rfl) ?_; (repeat (first | refine TL_move (hk := ?_) | refine TL_indexAddrn TE (hk := ?_) | refine TL_yes (hk := ?_))); refine TL_nil_p ?_); (refine TA_take 16 rfl (by kernel_rfl) (by kernel_rfl) (by kernel_rfl) ?_; (repeat (first | refine TL_move (hk := ?_) | refine TL_indexAddrn TE (hk := ?_) | refine TL_yes (hk := ?_))); refine TL_nil_p ?_)
        refine TA_take 17 rfl (by kernel_rfl) (by kernel_rfl) (by kernel_rfl) ?_
        try refine TL_yes (hk := ?_)
        refine TLP_loada TE (cs := frV u) (hr := hr5) (hc := t2) (hk := ?_)
        refine TL_nil_p ?_
        refine TA_one 18 rfl (by kernel_rfl) (by kernel_rfl) ?_; (try refine TL_yes (hk := ?_)); refine TL_call TE (hc := (RClash_c x.A x.B u.A u.B x.n x.m u.n u.m x.c x.d u.c u.d x.r x.k u.r u.k w5 (hg1.1.be E05) (hg1.2.1.be E05) (hg2.1.be E05) (hg2.2.1.be E05) (by omega) (by omega) (by omega) (by omega))) (hq := (by rintro _ w' ⟨rfl, e⟩; exact Ext.un e)) (hk := ?_)
        rintro _ w6 ⟨rfl, e6⟩
        rw [hdoc]
        refine TL_nil_p ?_
        (refine TA_one 19 rfl (by kernel_rfl) (by kernel_rfl) ?_; (repeat (refine TL_pick_t (hk := ?_))); refine TL_nil_p ?_)
        refine TA_done (by kernel_rfl) ?_
        repeat (first | refine T_region ?_ | refine T_cond_false rfl ?_ | refine T_inBlock ?_ | refine T_skip ?_ | refine TL_add (hk := ?_) | refine TL_nil ?_ | refine TL_move (hk := ?_) | refine TL_assign (hk := ?_))
        exact ih2 (k + 1) w6 _ (by omega) ⟨by omega, (E4.ext e5).ext e6⟩ (.c rfl (.c rfl (.c rfl (.c rfl (.c rfl (.c rfl (.n)))))))
    · clear ih2
      repeat (first | refine T_seq ?_ | refine T_region ?_ | refine T_cond_false rfl ?_ | refine T_inBlock ?_ | refine T_exit rfl ?_ | refine TL_add (hk := ?_) | refine TL_lt_f (hk := ?_) | refine TL_nil ?_ | refine TL_move (hk := ?_) | refine TL_assign (hk := ?_))
      exact ih (i + 1) w3 _ (by omega) ⟨by omega, e3⟩ (.c rfl (.c rfl (.c rfl (.c rfl (.n)))))
  · clear ih
    repeat (first | refine T_seq ?_ | refine T_region ?_ | refine T_cond_false rfl ?_ | refine T_exit rfl ?_ | refine TL_lt_f (hk := ?_) | refine TL_nil ?_ | refine TL_move (hk := ?_) | refine TL_assign (hk := ?_) | refine TL_len TE (hk := ?_))
    exact T_ret1 rfl rfl ⟨rfl, e1⟩
end
end Go.Proofs.YtgdbckjkeofoaaaGreat

namespace Go.Proofs.YtgdbckjkeofoaaaGreat
open Go.RowKit Go.Proofs.Eng Go.Proofs.Foot Go.Proofs.Locks Go.Proofs.Sched
set_option linter.unusedSimpArgs false
set_option linter.unusedVariables false set_option maxRecDepth 10000
attribute [local irreducible] T TL LV TH TA
set_option maxHeartbeats 3200000
/-- What stands at an act's end. -/
def PlayO (w0 w' : World) (bs p N W : Nat) (y : SL) : Prop := ∃ m h g f s fs, TS5 w0 w' bs p N m h g f s ∧ FootsM w0 w' w0.heap.size (oA h g f) y fs ∧ s.E.map ftE = fs.map (fun x => (x.r, x.k)) ∧ s.win = W
theorem SchedOrder_c (v0 : Value) (w : World) {base : Nat} (hM : 1048576 ≤ 1048576) (hv : ReadsB Tryz.prog w base 25 v0 1048576) :
    Ret Tryz.prog 3 [v0] w (fun v w' => v = .bool true ∧ Ext w w') := by
  obtain ⟨a, b, wn, KA, kn, kc, ks, A, n, c, l, rfl, ha, hb, hwn, hK, hkn, hkl, hA, hl, hall, hnm⟩ := story15_in hv
  clear hv hM
  refine ret_T (n := 83) Tryz.func3 rfl rfl ?_
  repeat (first | refine T_seq ?_ | refine T_region ?_)
  refine TL_box (hk := ?_); intro b1 w1 e1 h1 h1' k1
  replace k1 : Blk w1 b1 25 [.int .i64 a, .int .i64 b, .slice KA kn kc, .int .i64 wn, .slice A n c] := k1
  have hA1 := hA.be e1
  have hK1 := hK.be e1
  have hall1 : ∀ x ∈ l, AdOk w1 x := fun x hx => (hall x hx).be e1
  repeat (first | refine T_seq ?_ | refine T_region ?_ | refine TL_nil ?_ | refine TL_assign (hk := ?_))
  refine TL_loadb TE (cs := [.int .i64 a, .int .i64 b, .slice KA kn kc, .int .i64 wn, .slice A n c]) (o := 0) rfl rfl k1 rfl rfl (Nat.succ_pos _) (hk := ?_)
  --
  refine TL_call TE (hc := long_c15 a b wn KA kn kc A n c l _ hA1 hl hall1 hnm) (hk := ?_)
  rintro _ w2 ⟨rfl | ⟨rfl, hn, hkn2, hx2⟩, e2⟩
  · repeat (first | refine T_seq ?_ | refine T_region ?_ | refine T_cond_true rfl ?_ | refine TL_nil ?_ | refine TL_assign (hk := ?_))
    exact T_ret1 rfl rfl ⟨rfl, e1.ext e2⟩
  have k2 := k1.be e2
  have E2 := e1.ext e2
  have hA2 := hA1.be e2
  have hK2 := hK1.be e2
  have hall2 : ∀ x ∈ l, AdOk w2 x := fun x hx => (hall1 x hx).be e2
  clear hA hall hA1 hall1 k1 hK hK1
  repeat (first | refine T_seq ?_ | refine T_region ?_ | refine T_cond_false rfl ?_ | refine T_skip ?_ | refine TL_nil ?_)
  refine TL_loadb TE (cs := [.int .i64 a, .int .i64 b, .slice KA kn kc, .int .i64 wn, .slice A n c]) (o := 0) rfl rfl k2 rfl rfl (Nat.succ_pos _) (hk := ?_)
  --
  refine TL_call TE (hc := made_c15 a b wn KA kn kc ks A n c w2 hK2 hkn2 hkl) (hk := ?_)
  rintro _ w3 ⟨X, X2, X3, rfl, e3, rfl | ⟨bs, m3, h3, g3, f3, S3, rfl, hbs, M3, I3, R3, hWn, _⟩⟩
  · repeat (first | refine T_seq ?_ | refine T_region ?_ | refine T_cond_true rfl ?_ | refine TL_pnil_t TE (hk := ?_) | refine TL_nil ?_ | refine TL_move (hk := ?_) | refine TL_assign (hk := ?_) | refine TL_yes (hk := ?_) | refine TL_pick_f (hk := ?_) | refine TL_extract (hk := ?_) | refine TL_not (hk := ?_))
    refine TL_call TE (hc := live_c15 w3) (hk := ?_)
    rintro _ w4 ⟨rfl, e4⟩
    repeat (first | refine TL_nil ?_ | refine TL_assign (hk := ?_) | refine TL_pick_t (hk := ?_))
    exact T_ret1 rfl rfl ⟨rfl, (E2.ext e3).ext e4⟩
  obtain ⟨p, hp⟩ : ∃ p, m3.p = p := ⟨_, rfl⟩
  obtain ⟨W, hW⟩ : ∃ W, wn.toNat = W := ⟨_, rfl⟩
  rw [hW] at M3 I3 R3 hWn
  have T3 : TS5 w2 w3 bs p 0 m3 h3 g3 f3 (newSS W S3) := ⟨e3, hp, M3, I3, R3, hbs⟩
  rw [hp]
  clear hp M3 I3 R3 hW
  repeat (first | refine T_seq ?_ | refine T_region ?_ | refine T_cond_false rfl ?_ | refine T_block ?_ | refine T_skip ?_ | refine TL_pnil_f TE (hk := ?_) | refine TL_nil ?_ | refine TL_move (hk := ?_) | refine TL_assign (hk := ?_) | refine TL_yes (hk := ?_) | refine TL_pick_f (hk := ?_) | refine TL_extract (hk := ?_) | refine TL_not (hk := ?_))
  refine T_loop (ι := Nat × SL) (fun j => [(8, .int .i64 (j.1 : Int)), (7, sL j.2), (3, pB p), (1, .pointer (some ⟨b1, 0, none⟩))]) (fun j w' => j.1 ≤ n ∧ PlayO w2 w' bs p j.1 W j.2) (fun j => n - j.1) (0, (none, 0, 0)) (.c rfl (.c rfl (.c rfl (.c rfl (.n))))) ⟨Nat.zero_le _, m3, h3, g3, f3, _, [], T3, ⟨Own.nil _ _ _ _, (fun b q => by cases q), (fun r q => by cases q)⟩, rfl, rfl⟩ ?_
  clear T3 e3
  rintro ⟨i, y⟩ w5 ⟨hi, m5, h5, g5, f5, s5, fs, T5, F5, hf5, hw5⟩ ih
  simp only at hi T5 F5 hf5 hw5 ih ⊢
  have k5 := k2.be T5.e
  by_cases hlt : i < n
  · have h1 := hA2.be T5.e
    have hAn : A ≠ none := by obtain ⟨_, _, hq, _⟩ := h1.2 (by omega); rw [hq]; simp
    have t1 := rowV_elem adV_len l i ad0 (by omega)
    have hmem : l.getD i ad0 ∈ l := getD_in (by omega)
    have hxo := hall2 _ hmem
    have hxn := hx2 _ hmem
    obtain ⟨x, hx⟩ : ∃ x, l.getD i ad0 = x := ⟨_, rfl⟩
    rw [hx] at t1 hxo hxn
    repeat (first | refine T_seq ?_ | refine T_region ?_ | refine T_cond_true rfl ?_ | refine T_block ?_ | refine T_skip ?_ | refine TL_lt_t (hk := ?_) | refine TL_nil ?_ | refine TL_move (hk := ?_) | refine TL_load TE (hk := ?_) | refine TL_fieldAddr TE (hk := ?_) | refine TL_indexAddrn TE (hk := ?_) | refine TL_len TE (hk := ?_))
    refine TL_loada TE (cs := adV x) (hx := rfl) (ht := rfl) (hi := rfl) (hr := h1) (hc := t1) (h0 := Nat.succ_pos _) (hk := ?_)
    --
    refine TL_alloc TE (hk := ?_); intro b6 w6 e6 h6 h6' k6
    --
    refine TL_storea TE (hk := ?_); intro w7 m7 z7 k7
    have z6 := e6.size
    have e57 : Ext w5 w7 := Mod.step e6 m7 (by simp; omega)
    replace k7 : Blk w7 b6 37 (adV x) := k7
    unfold adV at k7
    have T7 := T5.ext e57
    have F7 := F5.ext e57
    have hb6 : oA h5 g5 f5 b6 = 0 := T5.M.new0 (by omega)
    have hp7 := T7.hp
    have hen := T7.I.en
    have hnb := T7.I.nb
    have hfl := F7.len
    have hll : s5.E.length = fs.length := by have := congrArg List.length hf5; rw [List.length_map, List.length_map] at this; omega
    have hkd1 := hxo.kd.1
    have hkd2 := hxo.kd.2
    clear k5 h1 T5 F5 k6 e6 m7
    repeat (refine TL_nil ?_)
    refine T_seq ?_
    refine T_join (ι := SL) (fun y' => [(8, .int .i64 (i : Int)), (7, sL y'), (3, pB p), (1, .pointer (some ⟨b1, 0, none⟩))]) (fun y' w' => PlayO w2 w' bs p (i + 1) W y') (fun kk join => ?_) ?_
    · clear ih
      by_cases q1 : x.kd = 1
      · have E7 := T7.e
        repeat (first | refine T_seq ?_ | refine T_region ?_ | refine T_cond_true rfl ?_ | refine T_block ?_ | refine TL_eq_t (hk := ?_) | refine TL_nil ?_ | refine TL_move (hk := ?_) | refine TL_assign (hk := ?_) | refine TL_load TE (hk := ?_) | refine TL_fieldAddr TE (hk := ?_) | refine TL_len TE (hk := ?_))
        refine TL_loadb TE (cs := [.slice x.A x.n x.c, .slice x.B x.m x.d]) (o := 2) rfl rfl k7 rfl rfl (Nat.succ_pos _) (hk := ?_)
        --
        refine TL_call TE (hc := own_c15 x.A x.B x.n x.c x.m x.d x.r x.k w7 (hxo.ra.be E7) (hxo.rb.be E7) (by omega) (by omega)) (hk := ?_)
        rintro _ w8 ⟨A8, c8, B8, d8, rfl, r8, s8, e8⟩
        have T8 := T7.ext e8
        have F8 := F7.ext e8
        have k8 := k7.be e8
        have cA := Add_c15 (y.2.1 : Int) A8 B8 x.n c8 x.m d8 x.r x.k w8 T8.M T8.I (by omega) r8 s8 (by omega) (by omega) (fun j hj => by have := hxo.sr _ (getD_in (d := []) hj); omega) (fun j hj => by have := hxo.sk _ (getD_in (d := []) hj); omega)
        rw [hp7] at cA
        obtain ⟨R9, ra1, ra2⟩ := add_sr T8.R (by omega) (y.2.1 : Int) x.r x.k
        have hw9 := win_add s5 (y.2.1 : Int) x.r x.k
        clear T7 F7 k7
        --
        refine TL_call TE (hc := cA) (hk := ?_)
        rintro _ w9 ⟨rfl, m9, h9, g9, f9, hp9, M9, I9, t9⟩
        have T9 : TS5 w2 w9 bs p (i + 1) m9 h9 g9 f9 (addE s5 (y.2.1 : Int) x.r x.k).1 := T8.turn (hp9.trans T8.hp.symm) M9 t9 I9 R9
        have F9 := F8.tn t9
        have k9 : Blk w9 b6 37 [.int .i64 x.kd, .int .i64 x.by_, .slice x.A x.n x.c, .slice x.B x.m x.d] := by
          obtain ⟨⟨S, a1, a2⟩, _, _⟩ := t9
          exact k8.mod a1 (fun q => a2 _ q hb6)
        clear cA k8 T8 F8
        repeat (first | refine T_seq ?_ | refine T_region ?_ | refine TL_nil ?_ | refine TL_move (hk := ?_) | refine TL_assign (hk := ?_))
        refine TL_call TE (hc := num_c15 (addE s5 (y.2.1 : Int) x.r x.k).2 w9) (hk := ?_)
        rintro _ w10 ⟨rfl, e10⟩
        have T10 := T9.ext e10
        have F10 := F9.ext e10
        have k10 := k9.be e10
        clear k9 T9 F9
        by_cases hz : (addE s5 (y.2.1 : Int) x.r x.k).2 = 0
        · have hft := ra1 hz
          rw [hz]
          repeat (first | refine T_region ?_ | refine T_cond_true rfl ?_ | refine TL_eq_t (hk := ?_) | refine TL_nil ?_ | refine TL_move (hk := ?_) | refine TL_fieldAddr TE (hk := ?_))
          refine TL_loadb TE (cs := [.slice x.A x.n x.c, .slice x.B x.m x.d]) (o := 2) rfl rfl k10 rfl rfl (Nat.succ_pos _) (hk := ?_)
          --
          refine TL_buildSliceA TE (hk := ?_); intro b11 w11 e11 h11 h11' k11
          replace k11 : Blk w11 b11 35 (rowV frV [⟨x.A, x.n, x.c, x.B, x.m, x.d, x.r, x.k⟩]) := k11
          have r11 : Rd w11 (some ⟨b11, 0, none⟩) 1 2 (rowV frV [⟨x.A, x.n, x.c, x.B, x.m, x.d, x.r, x.k⟩]) := Rd.blk k11 rfl
          have T11 := T10.ext e11
          have F11 := F10.ext e11
          have hbz := T11.e.size
          --
          refine TL_append TE (ho := F11.o) (hr := r11) (h1 := rowV_one frV_one _) (hk := ?_); intro A12 c12 w12 o12 m12 n12
          rw [← rowV_append] at o12
          have T12 : TS5 w2 w12 bs p (i + 1) m9 h9 g9 f9 (addE s5 (y.2.1 : Int) x.r x.k).1 := ⟨T11.e.step m12 (fun b q => .inr (F11.o.bl b q).1), T11.hp, T11.M.mod m12 F11.z, T11.I, T11.R, T11.hb⟩
          have F12 : FootsM w2 w12 w2.heap.size (oA h9 g9 f9) (A12, y.2.1 + 1, c12) (fs ++ [⟨x.A, x.n, x.c, x.B, x.m, x.d, x.r, x.k⟩]) := ⟨o12, fun b q => by
            rcases Near.mem n12 b q with q | q
            · exact F11.z b q
            · exact T11.M.new0 q, fun u hu => by
            rcases List.mem_append.1 hu with hu | hu
            · exact F11.g u hu
            · rw [List.mem_singleton.1 hu]; exact ⟨hxo.ra, hxo.rb, by simp only; omega, by simp only; omega⟩⟩
          repeat (first | refine T_inBlock ?_ | refine TL_nil ?_ | refine TL_assign (hk := ?_))
          exact T.sub (join (A12, y.2.1 + 1, c12) w12 ⟨m9, h9, g9, f9, _, _, T12, F12, by rw [hft, hf5, List.map_append]; rfl, by rw [hw9, hw5]⟩) (.c rfl (.c rfl (.c rfl (.c rfl (.n)))))
        · repeat (first | refine T_cond_false rfl ?_ | refine T_inBlock ?_ | refine T_skip ?_ | refine TL_eq_f (hk := ?_) | refine TL_nil ?_)
          exact T.sub (join y w10 ⟨m9, h9, g9, f9, _, _, T10, F10, by rw [ra2 hz]; exact hf5, by rw [hw9, hw5]⟩) (.c rfl (.c rfl (.c rfl (.c rfl (.n)))))
      by_cases q2 : x.kd = 2
      · have cT := Take_c15 w7 T7.M T7.I
        rw [hp7] at cT
        obtain ⟨R8, hft⟩ := take_sr T7.R
        have hw8 := win_take s5
        repeat (first | refine T_seq ?_ | refine T_region ?_ | refine T_cond_true rfl ?_ | refine T_cond_false rfl ?_ | refine T_block ?_ | refine TL_eq_t (hk := ?_) | refine TL_eq_f (hk := ?_) | refine TL_nil ?_ | refine TL_move (hk := ?_) | refine TL_assign (hk := ?_) | refine TL_load TE (hk := ?_) | refine TL_fieldAddr TE (hk := ?_))
        refine TL_call TE (hc := cT) (hk := ?_)
        rintro _ w8 ⟨hv, m8, hp8, M8, I8, t8⟩
        have T8 : TS5 w2 w8 bs p i m8 h5 g5 f5 (takeS s5).1 := T7.turn (hp8.trans hp7.symm) M8 t8 I8 R8
        have F8 := F7.tn t8
        have I9 := T8.I.mono (Nat.le_succ i) (by omega)
        repeat (first | refine T_inBlock ?_ | refine TL_nil ?_)
        exact T.sub (join y w8 ⟨m8, h5, g5, f5, _, _, { T8 with I := I9 }, F8, by rw [hft]; exact hf5, by rw [hw8, hw5]⟩) (.c rfl (.c rfl (.c rfl (.c rfl (.n)))))
      by_cases q3 : x.kd = 3
      · have cD := Done_c15 x.by_ w7 T7.M T7.I
        rw [hp7] at cD
        obtain ⟨R8, hft⟩ := done_sr T7.R (by omega) x.by_
        have hw8 := win_done s5 x.by_
        repeat (first | refine T_seq ?_ | refine T_region ?_ | refine T_cond_true rfl ?_ | refine T_cond_false rfl ?_ | refine T_block ?_ | refine TL_eq_t (hk := ?_) | refine TL_eq_f (hk := ?_) | refine TL_nil ?_ | refine TL_move (hk := ?_) | refine TL_assign (hk := ?_) | refine TL_load TE (hk := ?_) | refine TL_fieldAddr TE (hk := ?_))
        refine TL_call TE (hc := cD) (hk := ?_)
        rintro _ w8 ⟨rfl, m8, g8, f8, hp8, M8, I8, t8⟩
        have T8 : TS5 w2 w8 bs p i m8 h5 g8 f8 (doneE s5 x.by_).1 := T7.turn (hp8.trans hp7.symm) M8 t8 I8 R8
        have F8 := F7.tn t8
        have I9 := T8.I.mono (Nat.le_succ i) (by omega)
        repeat (first | refine T_inBlock ?_ | refine TL_nil ?_)
        exact T.sub (join y w8 ⟨m8, h5, g8, f8, _, _, { T8 with I := I9 }, F8, by rw [hft]; exact hf5, by rw [hw8, hw5]⟩) (.c rfl (.c rfl (.c rfl (.c rfl (.n)))))
      · have I9 := T7.I.mono (Nat.le_succ i) (by omega)
        repeat (first | refine T_seq ?_ | refine T_region ?_ | refine T_cond_false rfl ?_ | refine T_block ?_ | refine T_inBlock ?_ | refine T_skip ?_ | refine TL_eq_f (hk := ?_) | refine TL_nil ?_ | refine TL_assign (hk := ?_) | refine TL_load TE (hk := ?_) | refine TL_fieldAddr TE (hk := ?_))
        exact T.sub (join y w7 ⟨m5, h5, g5, f5, _, _, { T7 with I := I9 }, F7, hf5, hw5⟩) (.c rfl (.c rfl (.c rfl (.c rfl (.n)))))
    clear T7 F7 k7 hen hnb hfl hll hf5 hw5 hb6
    rintro y8 w8 ⟨m8, h8, g8, f8, s8, fs8, T8, F8, hf8, hw8⟩
    have k8 := k2.be T8.e
    have cO := fun w' (e : Ext w8 w') => ordered_c15 (T8.ext e) (F8.ext e) hf8
    have cF := fun w' (e : Ext w8 w') => Flying_c w' (T8.M.ext e)
    rw [T8.hp] at cF
    have ha7 := T8.R.a7
    have hbD : b1 ∉ ([] : List Nat) := by simp
    have hen8 := T8.I.en
    have hnb8 := T8.I.nb
    have hfly : ¬ wn < (s8.t.E.length : Int) := by omega
    repeat (refine T_seq ?_)
    refine T_region_any TE.mixed ([] : List Nat) ?_; intro w9 e9 z9
    have k9 := k8.be e9
    (refine TA_take 0 rfl (by kernel_rfl) (by kernel_rfl) (by kernel_rfl) ?_; (repeat (refine TL_move (hk := ?_))); refine TL_nil_p ?_); (refine TA_take 1 rfl (by kernel_rfl) (by kernel_rfl) (by kernel_rfl) ?_; (repeat (refine TL_move (hk := ?_))); refine TL_nil_p ?_)
    refine TA_one 2 rfl (by kernel_rfl) (by kernel_rfl) ?_; (try refine TL_yes (hk := ?_)); refine TL_call TE (hc := (cO w9 e9)) (hq := (by rintro _ w' ⟨rfl, e⟩; exact Ext.un e)) (hk := ?_)
    rintro _ w10 ⟨rfl, e10⟩
    refine TL_nil_p ?_
    (refine TA_one 3 rfl (by kernel_rfl) (by kernel_rfl) ?_; (repeat (first | refine TL_move (hk := ?_) | refine TL_not (hk := ?_))); refine TL_nil_p ?_); (refine TA_one 4 rfl (by kernel_rfl) (by kernel_rfl) ?_; (repeat (first | refine TL_move (hk := ?_) | refine TL_not (hk := ?_))); refine TL_nil_p ?_)
    (refine TA_take 5 rfl (by kernel_rfl) (by kernel_rfl) (by kernel_rfl) ?_; (repeat (first | refine TL_move (hk := ?_) | refine TLP_load TE (hk := ?_) | refine TL_fieldAddr TE (hk := ?_) | refine TL_yes (hk := ?_))); refine TL_nil_p ?_); (refine TA_take 7 rfl (by kernel_rfl) (by kernel_rfl) (by kernel_rfl) ?_; (repeat (first | refine TL_move (hk := ?_) | refine TLP_load TE (hk := ?_) | refine TL_fieldAddr TE (hk := ?_) | refine TL_yes (hk := ?_))); refine TL_nil_p ?_); (refine TA_take 8 rfl (by kernel_rfl) (by kernel_rfl) (by kernel_rfl) ?_; (repeat (first | refine TL_move (hk := ?_) | refine TLP_load TE (hk := ?_) | refine TL_fieldAddr TE (hk := ?_) | refine TL_yes (hk := ?_))); refine TL_nil_p ?_)
    refine TA_one 6 rfl (by kernel_rfl) (by kernel_rfl) ?_; (try refine TL_yes (hk := ?_)); refine TL_call TE (hc := (cF w10 (e9.ext e10))) (hq := (by rintro _ w' ⟨rfl, e⟩; exact Ext.un (e10.ext e))) (hk := ?_)
    rintro _ w11 ⟨rfl, e11⟩
    refine TL_nil_p ?_
    (refine TA_one 9 rfl (by kernel_rfl) (by kernel_rfl) ?_; (repeat (first | refine TL_gt_f (hk := ?_) | refine TL_yes (hk := ?_) | refine TL_pick_f (hk := ?_))); refine TL_nil_p ?_); (refine TA_one 10 rfl (by kernel_rfl) (by kernel_rfl) ?_; (repeat (first | refine TL_gt_f (hk := ?_) | refine TL_yes (hk := ?_) | refine TL_pick_f (hk := ?_))); refine TL_nil_p ?_)
    refine TA_done (by kernel_rfl) ?_
    have E811 := (e9.ext e10).ext e11
    repeat (first | refine T_region ?_ | refine T_cond_false rfl ?_ | refine T_inBlock ?_ | refine T_skip ?_ | refine TL_add (hk := ?_) | refine TL_nil ?_ | refine TL_move (hk := ?_) | refine TL_assign (hk := ?_))
    exact ih (i + 1, y8) w11 _ (by simp only; omega) ⟨by simp only; omega, m8, h8, g8, f8, s8, fs8, T8.ext E811, F8.ext E811, hf8, hw8⟩ (.c rfl (.c rfl (.c rfl (.c rfl (.n)))))
  · clear ih
    have : n = i := by omega
    subst this
    have e5 := T5.e
    repeat (first | refine T_seq ?_ | refine T_region ?_ | refine T_cond_false rfl ?_ | refine T_exit rfl ?_ | refine TL_lt_f (hk := ?_) | refine TL_nil ?_ | refine TL_move (hk := ?_) | refine TL_load TE (hk := ?_) | refine TL_fieldAddr TE (hk := ?_) | refine TL_len TE (hk := ?_))
    refine TL_call TE (hc := live_c15 _) (hk := ?_)
    rintro _ w6 ⟨rfl, e6⟩
    repeat (first | refine TL_nil ?_ | refine TL_assign (hk := ?_))
    exact T_ret1 rfl rfl ⟨rfl, (E2.ext e5).ext e6⟩
end Go.Proofs.YtgdbckjkeofoaaaGreat
