import Derived.Test.YtgdbckjkeofoaaaGreatSr3
import Derived.ArgAppend
/- Parts: SD1 SD2 KLaw3 SKLaw4 SLaw1 SW9 Eng10 Eng29 Eng35 SAct SW10 SLaw2 SLaw3 SW14 SW13 SFLaw FW14 FW15 SW11 SW12 SLaw4 SLaw5 Eng36 Eng19 SW15. -/
namespace Go.Proofs.YtgdbckjkeofoaaaGreat
open Go.RowKit Go.Proofs.Eng Go.Proofs.Foot Go.Proofs.Locks Go.Proofs.Sched
set_option linter.unusedSimpArgs false
set_option linter.unusedVariables false set_option maxRecDepth 10000
attribute [local irreducible] T TL LV TH TA
set_option maxHeartbeats 3200000
def itV (k : Tx) : List Value := [.string (ofL k), .int .i64 0, .int .i64 0, .string ⟨#[]⟩]
theorem itV_len (k : Tx) : (itV k).length = 4 := rfl
theorem itV_one : ∀ x, ∀ u ∈ itV x, u.oneCell' = true := by
  intro x u hu
  simp [itV] at hu
  rcases hu with rfl | rfl | rfl <;> rfl
theorem RStNew_c (a r : Int) (w : World) : Ret Tryz.prog 17 [.int .i64 a, .int .i64 r] w (fun v w' => Ext w w' ∧ (((1 ≤ a ∧ a ≤ 64) ∧ 1 ≤ r ∧ r ≤ 4096) ∧ (∃ b, v = .tuple #[pB b, .int .i64 0] ∧ w.heap.size ≤ b ∧ Blk w' b 89 [.int .i64 a, .int .i64 r, sL (none, 0, 0)]) ∨ ¬ ((1 ≤ a ∧ a ≤ 64) ∧ 1 ≤ r ∧ r ≤ 4096) ∧ v = .tuple #[.pointer none, .int .i64 2])) := by
  refine ret_T (n := 24) Tryz.func17 rfl rfl ?_
  by_cases q1 : a < 1
  · repeat (first | refine T_seq ?_ | refine T_region ?_ | refine T_cond_true rfl ?_ | refine TL_lt_t (hk := ?_) | refine TL_nil ?_ | refine TL_move (hk := ?_) | refine TL_assign (hk := ?_) | refine TL_no (hk := ?_) | refine TL_pick_t (hk := ?_))
    exact T_ret2 rfl rfl rfl ⟨Mod.refl _ _, .inr ⟨by omega, rfl⟩⟩
  by_cases q2 : 64 < a
  · repeat (first | refine T_seq ?_ | refine T_region ?_ | refine T_cond_true rfl ?_ | refine TL_lt_f (hk := ?_) | refine TL_gt_t (hk := ?_) | refine TL_nil ?_ | refine TL_move (hk := ?_) | refine TL_assign (hk := ?_) | refine TL_yes (hk := ?_) | refine TL_no (hk := ?_) | refine TL_pick_t (hk := ?_) | refine TL_pick_f (hk := ?_))
    exact T_ret2 rfl rfl rfl ⟨Mod.refl _ _, .inr ⟨by omega, rfl⟩⟩
  by_cases q3 : r < 1
  · repeat (first | refine T_seq ?_ | refine T_region ?_ | refine T_cond_true rfl ?_ | refine TL_lt_t (hk := ?_) | refine TL_lt_f (hk := ?_) | refine TL_gt_f (hk := ?_) | refine TL_nil ?_ | refine TL_move (hk := ?_) | refine TL_assign (hk := ?_) | refine TL_yes (hk := ?_) | refine TL_no (hk := ?_) | refine TL_pick_t (hk := ?_) | refine TL_pick_f (hk := ?_))
    exact T_ret2 rfl rfl rfl ⟨Mod.refl _ _, .inr ⟨by omega, rfl⟩⟩
  by_cases q4 : 4096 < r
  · repeat (first | refine T_seq ?_ | refine T_region ?_ | refine T_cond_true rfl ?_ | refine TL_lt_f (hk := ?_) | refine TL_gt_t (hk := ?_) | refine TL_gt_f (hk := ?_) | refine TL_nil ?_ | refine TL_move (hk := ?_) | refine TL_assign (hk := ?_) | refine TL_yes (hk := ?_) | refine TL_pick_f (hk := ?_))
    exact T_ret2 rfl rfl rfl ⟨Mod.refl _ _, .inr ⟨by omega, rfl⟩⟩
  · repeat (first | refine T_seq ?_ | refine T_region ?_ | refine T_cond_false rfl ?_ | refine T_skip ?_ | refine TL_lt_f (hk := ?_) | refine TL_gt_f (hk := ?_) | refine TL_nil ?_ | refine TL_move (hk := ?_) | refine TL_assign (hk := ?_) | refine TL_yes (hk := ?_) | refine TL_pick_f (hk := ?_) | refine TL_build TE (hk := ?_))
    refine TL_box (hk := ?_); intro b1 w1 e1 h1 h1' k1
    repeat (first | refine TL_nil ?_ | refine TL_assign (hk := ?_))
    exact T_ret2 rfl rfl rfl ⟨e1, .inl ⟨by omega, b1, rfl, h1, k1⟩⟩
theorem at_c15 (b : Nat) (a r : Int) (x : SL) (l : List Tx) (k : Tx) (w : World) (hb : Blk w b 89 [.int .i64 a, .int .i64 r, sL x]) (hr : Rd w x.1 x.2.1 4 (rowV itV l)) (hn : x.2.1 ≤ 1000000) :
    Ret Tryz.prog 64 [pB b, .string (ofL k)] w (fun v w' => ∃ (p : Nat) (t : Bool), v = .tuple #[.int .i64 (p : Int), .bool t] ∧ p ≤ x.2.1 ∧ (x.2.1 = 0 → t = false) ∧ Ext w w') := by
  have hl : l.length = x.2.1 := by have := hr.1; rw [rowV_len itV_len] at this; omega
  have hbD : b ∉ ([] : List Nat) := by simp
  have hxD : Off x.1 ([] : List Nat) := .nil _
  refine ret_T (n := 54) Tryz.func64 rfl rfl ?_
  repeat (first | refine T_seq ?_ | refine T_region ?_ | refine TL_nil ?_ | refine TL_assign (hk := ?_))
  refine T_region_any TE.mixed ([] : List Nat) ?_; intro w1 e1 z1
  have hb1 := hb.be e1
  (refine TA_take 0 rfl (by kernel_rfl) (by kernel_rfl) (by kernel_rfl) ?_; (repeat (first | refine TL_move (hk := ?_) | refine TL_assign (hk := ?_) | refine TLP_load TE (hk := ?_) | refine TL_fieldAddr TE (hk := ?_) | refine TL_len TE (hk := ?_) | refine TL_nilCheck (hk := ?_))); refine TL_nil_p ?_); (refine TA_take 1 rfl (by kernel_rfl) (by kernel_rfl) (by kernel_rfl) ?_; (repeat (first | refine TL_move (hk := ?_) | refine TL_assign (hk := ?_) | refine TLP_load TE (hk := ?_) | refine TL_fieldAddr TE (hk := ?_) | refine TL_len TE (hk := ?_) | refine TL_nilCheck (hk := ?_))); refine TL_nil_p ?_); (refine TA_take 2 rfl (by kernel_rfl) (by kernel_rfl) (by kernel_rfl) ?_; (repeat (first | refine TL_move (hk := ?_) | refine TL_assign (hk := ?_) | refine TLP_load TE (hk := ?_) | refine TL_fieldAddr TE (hk := ?_) | refine TL_len TE (hk := ?_) | refine TL_nilCheck (hk := ?_))); refine TL_nil_p ?_); (refine TA_take 3 rfl (by kernel_rfl) (by kernel_rfl) (by kernel_rfl) ?_; (repeat (first | refine TL_move (hk := ?_) | refine TL_assign (hk := ?_) | refine TLP_load TE (hk := ?_) | refine TL_fieldAddr TE (hk := ?_) | refine TL_len TE (hk := ?_) | refine TL_nilCheck (hk := ?_))); refine TL_nil_p ?_); (refine TA_take 4 rfl (by kernel_rfl) (by kernel_rfl) (by kernel_rfl) ?_; (repeat (first | refine TL_move (hk := ?_) | refine TL_assign (hk := ?_) | refine TLP_load TE (hk := ?_) | refine TL_fieldAddr TE (hk := ?_) | refine TL_len TE (hk := ?_) | refine TL_nilCheck (hk := ?_))); refine TL_nil_p ?_); (refine TA_take 5 rfl (by kernel_rfl) (by kernel_rfl) (by kernel_rfl) ?_; (repeat (first | refine TL_move (hk := ?_) | refine TL_assign (hk := ?_) | refine TLP_load TE (hk := ?_) | refine TL_fieldAddr TE (hk := ?_) | refine TL_len TE (hk := ?_) | refine TL_nilCheck (hk := ?_))); refine TL_nil_p ?_)
  (refine TA_one 6 rfl (by kernel_rfl) (by kernel_rfl) ?_; (repeat (refine TL_assign (hk := ?_))); refine TL_nil_p ?_)
  refine TA_done (by kernel_rfl) ?_
  repeat (first | refine T_seq ?_ | refine T_block ?_)
  refine T_loop (ι := Nat × Nat) (fun i => [(6, .int .i64 (i.1 : Int)), (7, .int .i64 (i.2 : Int)), (0, pB b), (1, .string (ofL k))]) (fun i w' => Ext w w' ∧ i.1 ≤ i.2 ∧ i.2 ≤ x.2.1) (fun i => i.2 - i.1) (0, x.2.1) (.c rfl (.c rfl (.c rfl (.c rfl (.n))))) ⟨e1, Nat.zero_le _, Nat.le_refl _⟩ ?_
  rintro ⟨lo, hi⟩ w2 ⟨e2, h1, h2⟩ ih
  simp only at h1 h2 ih ⊢
  have hb2 := hb.be e2
  have hr2 := hr.be e2
  clear hb1
  by_cases hlt : lo < hi
  · have hA : x.1 ≠ none := by obtain ⟨_, _, hq, _⟩ := hr2.2 (by omega); rw [hq]; simp
    have hmc : ((lo : Int) + (hi : Int)) / 2 = (((lo + hi) / 2 : Nat) : Int) := by omega
    obtain ⟨mid, hmid⟩ : ∃ mid, (lo + hi) / 2 = mid := ⟨_, rfl⟩
    rw [hmid] at hmc
    have hm1 : lo ≤ mid ∧ mid < hi := by omega
    have hv : (rowV itV l)[mid * 4 + 0]? = some (.string (ofL (l.getD mid []))) := rowV_at itV_len l mid 0 [] (by omega) (by omega)
    obtain ⟨y, hy⟩ : ∃ y, l.getD mid [] = y := ⟨_, rfl⟩
    rw [hy] at hv
    by_cases hc : y < k
    · repeat (first | refine T_seq ?_ | refine T_region ?_ | refine T_cond_true rfl ?_ | refine T_block ?_ | refine T_skip ?_ | refine TL_add (hk := ?_) | refine TL_quo (hk := ?_) | refine TL_lt_t (hk := ?_) | refine TL_nil ?_ | refine TL_move (hk := ?_) | refine TL_assign (hk := ?_) | refine TL_load TE (hk := ?_) | refine TL_fieldAddr TE (hk := ?_) | refine TL_fieldAddr_e TE (hk := ?_) | refine TL_indexAddr TE (hk := ?_) | refine TL_nilCheck (hk := ?_))
      rw [hmc]
      repeat (first | refine T_region ?_ | refine T_cond_true rfl ?_ | refine T_inBlock ?_ | refine TL_add (hk := ?_) | refine TL_slt_t (hk := ?_) | refine TL_nil ?_ | refine TL_move (hk := ?_) | refine TL_assign (hk := ?_) | refine TL_load_rd TE (hk := ?_))
      exact ih (mid + 1, hi) _ _ (by simp only; omega) ⟨e2, by simp only; omega, h2⟩ (.c rfl (.c rfl (.c rfl (.c rfl (.n)))))
    · repeat (first | refine T_seq ?_ | refine T_region ?_ | refine T_cond_true rfl ?_ | refine T_block ?_ | refine T_skip ?_ | refine TL_add (hk := ?_) | refine TL_quo (hk := ?_) | refine TL_lt_t (hk := ?_) | refine TL_nil ?_ | refine TL_move (hk := ?_) | refine TL_assign (hk := ?_) | refine TL_load TE (hk := ?_) | refine TL_fieldAddr TE (hk := ?_) | refine TL_fieldAddr_e TE (hk := ?_) | refine TL_indexAddr TE (hk := ?_) | refine TL_nilCheck (hk := ?_))
      rw [hmc]
      repeat (first | refine T_region ?_ | refine T_cond_false rfl ?_ | refine T_inBlock ?_ | refine TL_slt_f (hk := ?_) | refine TL_nil ?_ | refine TL_move (hk := ?_) | refine TL_assign (hk := ?_) | refine TL_load_rd TE (hk := ?_))
      exact ih (lo, mid) _ _ (by simp only; omega) ⟨e2, by simp only; omega, by simp only; omega⟩ (.c rfl (.c rfl (.c rfl (.c rfl (.n)))))
  · clear ih
    have he : lo = hi := by omega
    subst he
    by_cases hln : lo < x.2.1
    · have hA : x.1 ≠ none := by obtain ⟨_, _, hq, _⟩ := hr2.2 (by omega); rw [hq]; simp
      have hv : (rowV itV l)[lo * 4 + 0]? = some (.string (ofL (l.getD lo []))) := rowV_at itV_len l lo 0 [] (by omega) (by omega)
      obtain ⟨y, hy⟩ : ∃ y, l.getD lo [] = y := ⟨_, rfl⟩
      rw [hy] at hv
      by_cases hc : y = k
      · have hc' : ofL y = ofL k := by rw [hc]
        repeat (first | refine T_seq ?_ | refine T_region ?_ | refine T_cond_false rfl ?_ | refine T_exit rfl ?_ | refine TL_lt_f (hk := ?_) | refine TL_nil ?_ | refine TL_move (hk := ?_))
        refine T_region_any TE.mixed ([] : List Nat) ?_; intro w3 e3 z3
        have hb3 := hb2.be e3
        have hr3 := hr2.be e3
        (refine TA_take 0 rfl (by kernel_rfl) (by kernel_rfl) (by kernel_rfl) ?_; (repeat (first | refine TL_lt_t (hk := ?_) | refine TL_seq_t (hk := ?_) | refine TL_move (hk := ?_) | refine TL_assign (hk := ?_) | refine TLP_load TE (hk := ?_) | refine TLP_load_rd TE (hk := ?_) | refine TL_fieldAddr TE (hk := ?_) | refine TL_fieldAddr_e TE (hk := ?_) | refine TL_indexAddrn TE (hk := ?_) | refine TL_len TE (hk := ?_) | refine TL_yes (hk := ?_) | refine TL_pick_t (hk := ?_) | refine TL_nilCheck (hk := ?_))); refine TL_nil_p ?_); (refine TA_take 1 rfl (by kernel_rfl) (by kernel_rfl) (by kernel_rfl) ?_; (repeat (first | refine TL_lt_t (hk := ?_) | refine TL_seq_t (hk := ?_) | refine TL_move (hk := ?_) | refine TL_assign (hk := ?_) | refine TLP_load TE (hk := ?_) | refine TLP_load_rd TE (hk := ?_) | refine TL_fieldAddr TE (hk := ?_) | refine TL_fieldAddr_e TE (hk := ?_) | refine TL_indexAddrn TE (hk := ?_) | refine TL_len TE (hk := ?_) | refine TL_yes (hk := ?_) | refine TL_pick_t (hk := ?_) | refine TL_nilCheck (hk := ?_))); refine TL_nil_p ?_); (refine TA_take 2 rfl (by kernel_rfl) (by kernel_rfl) (by kernel_rfl) ?_; (repeat (first | refine TL_lt_t (hk := ?_) | refine TL_seq_t (hk := ?_) | refine TL_move (hk := ?_) | refine TL_assign (hk := ?_) | refine TLP_load TE (hk := ?_) | refine TLP_load_rd TE (hk := ?_) | refine TL_fieldAddr TE (hk := ?_) | refine TL_fieldAddr_e TE (hk := ?_) | refine TL_indexAddrn TE (hk := ?_) | refine TL_len TE (hk := ?_) | refine TL_yes (hk := ?_) | refine TL_pick_t (hk := ?_) | refine TL_nilCheck (hk := ?_))); refine TL_nil_p ?_); (refine TA_take 3 rfl (by kernel_rfl) (by kernel_rfl) (by kernel_rfl) ?_; (repeat (first | refine TL_lt_t (hk := ?_) | refine TL_seq_t (hk := ?_) | refine TL_move (hk := ?_) | refine TL_assign (hk := ?_) | refine TLP_load TE (hk := ?_) | refine TLP_load_rd TE (hk := ?_) | refine TL_fieldAddr TE (hk := ?_) | refine TL_fieldAddr_e TE (hk := ?_) | refine TL_indexAddrn TE (hk := ?_) | refine TL_len TE (hk := ?_) | refine TL_yes (hk := ?_) | refine TL_pick_t (hk := ?_) | refine TL_nilCheck (hk := ?_))); refine TL_nil_p ?_); (refine TA_take 4 rfl (by kernel_rfl) (by kernel_rfl) (by kernel_rfl) ?_; (repeat (first | refine TL_lt_t (hk := ?_) | refine TL_seq_t (hk := ?_) | refine TL_move (hk := ?_) | refine TL_assign (hk := ?_) | refine TLP_load TE (hk := ?_) | refine TLP_load_rd TE (hk := ?_) | refine TL_fieldAddr TE (hk := ?_) | refine TL_fieldAddr_e TE (hk := ?_) | refine TL_indexAddrn TE (hk := ?_) | refine TL_len TE (hk := ?_) | refine TL_yes (hk := ?_) | refine TL_pick_t (hk := ?_) | refine TL_nilCheck (hk := ?_))); refine TL_nil_p ?_); (refine TA_take 5 rfl (by kernel_rfl) (by kernel_rfl) (by kernel_rfl) ?_; (repeat (first | refine TL_lt_t (hk := ?_) | refine TL_seq_t (hk := ?_) | refine TL_move (hk := ?_) | refine TL_assign (hk := ?_) | refine TLP_load TE (hk := ?_) | refine TLP_load_rd TE (hk := ?_) | refine TL_fieldAddr TE (hk := ?_) | refine TL_fieldAddr_e TE (hk := ?_) | refine TL_indexAddrn TE (hk := ?_) | refine TL_len TE (hk := ?_) | refine TL_yes (hk := ?_) | refine TL_pick_t (hk := ?_) | refine TL_nilCheck (hk := ?_))); refine TL_nil_p ?_); (refine TA_take 6 rfl (by kernel_rfl) (by kernel_rfl) (by kernel_rfl) ?_; (repeat (first | refine TL_lt_t (hk := ?_) | refine TL_seq_t (hk := ?_) | refine TL_move (hk := ?_) | refine TL_assign (hk := ?_) | refine TLP_load TE (hk := ?_) | refine TLP_load_rd TE (hk := ?_) | refine TL_fieldAddr TE (hk := ?_) | refine TL_fieldAddr_e TE (hk := ?_) | refine TL_indexAddrn TE (hk := ?_) | refine TL_len TE (hk := ?_) | refine TL_yes (hk := ?_) | refine TL_pick_t (hk := ?_) | refine TL_nilCheck (hk := ?_))); refine TL_nil_p ?_); (refine TA_take 7 rfl (by kernel_rfl) (by kernel_rfl) (by kernel_rfl) ?_; (repeat (first | refine TL_lt_t (hk := ?_) | refine TL_seq_t (hk := ?_) | refine TL_move (hk := ?_) | refine TL_assign (hk := ?_) | refine TLP_load TE (hk := ?_) | refine TLP_load_rd TE (hk := ?_) | refine TL_fieldAddr TE (hk := ?_) | refine TL_fieldAddr_e TE (hk := ?_) | refine TL_indexAddrn TE (hk := ?_) | refine TL_len TE (hk := ?_) | refine TL_yes (hk := ?_) | refine TL_pick_t (hk := ?_) | refine TL_nilCheck (hk := ?_))); refine TL_nil_p ?_); (refine TA_take 8 rfl (by kernel_rfl) (by kernel_rfl) (by kernel_rfl) ?_; (repeat (first | refine TL_lt_t (hk := ?_) | refine TL_seq_t (hk := ?_) | refine TL_move (hk := ?_) | refine TL_assign (hk := ?_) | refine TLP_load TE (hk := ?_) | refine TLP_load_rd TE (hk := ?_) | refine TL_fieldAddr TE (hk := ?_) | refine TL_fieldAddr_e TE (hk := ?_) | refine TL_indexAddrn TE (hk := ?_) | refine TL_len TE (hk := ?_) | refine TL_yes (hk := ?_) | refine TL_pick_t (hk := ?_) | refine TL_nilCheck (hk := ?_))); refine TL_nil_p ?_); (refine TA_take 9 rfl (by kernel_rfl) (by kernel_rfl) (by kernel_rfl) ?_; (repeat (first | refine TL_lt_t (hk := ?_) | refine TL_seq_t (hk := ?_) | refine TL_move (hk := ?_) | refine TL_assign (hk := ?_) | refine TLP_load TE (hk := ?_) | refine TLP_load_rd TE (hk := ?_) | refine TL_fieldAddr TE (hk := ?_) | refine TL_fieldAddr_e TE (hk := ?_) | refine TL_indexAddrn TE (hk := ?_) | refine TL_len TE (hk := ?_) | refine TL_yes (hk := ?_) | refine TL_pick_t (hk := ?_) | refine TL_nilCheck (hk := ?_))); refine TL_nil_p ?_); (refine TA_take 10 rfl (by kernel_rfl) (by kernel_rfl) (by kernel_rfl) ?_; (repeat (first | refine TL_lt_t (hk := ?_) | refine TL_seq_t (hk := ?_) | refine TL_move (hk := ?_) | refine TL_assign (hk := ?_) | refine TLP_load TE (hk := ?_) | refine TLP_load_rd TE (hk := ?_) | refine TL_fieldAddr TE (hk := ?_) | refine TL_fieldAddr_e TE (hk := ?_) | refine TL_indexAddrn TE (hk := ?_) | refine TL_len TE (hk := ?_) | refine TL_yes (hk := ?_) | refine TL_pick_t (hk := ?_) | refine TL_nilCheck (hk := ?_))); refine TL_nil_p ?_); (refine TA_take 11 rfl (by kernel_rfl) (by kernel_rfl) (by kernel_rfl) ?_; (repeat (first | refine TL_lt_t (hk := ?_) | refine TL_seq_t (hk := ?_) | refine TL_move (hk := ?_) | refine TL_assign (hk := ?_) | refine TLP_load TE (hk := ?_) | refine TLP_load_rd TE (hk := ?_) | refine TL_fieldAddr TE (hk := ?_) | refine TL_fieldAddr_e TE (hk := ?_) | refine TL_indexAddrn TE (hk := ?_) | refine TL_len TE (hk := ?_) | refine TL_yes (hk := ?_) | refine TL_pick_t (hk := ?_) | refine TL_nilCheck (hk := ?_))); refine TL_nil_p ?_); (refine TA_take 12 rfl (by kernel_rfl) (by kernel_rfl) (by kernel_rfl) ?_; (repeat (first | refine TL_lt_t (hk := ?_) | refine TL_seq_t (hk := ?_) | refine TL_move (hk := ?_) | refine TL_assign (hk := ?_) | refine TLP_load TE (hk := ?_) | refine TLP_load_rd TE (hk := ?_) | refine TL_fieldAddr TE (hk := ?_) | refine TL_fieldAddr_e TE (hk := ?_) | refine TL_indexAddrn TE (hk := ?_) | refine TL_len TE (hk := ?_) | refine TL_yes (hk := ?_) | refine TL_pick_t (hk := ?_) | refine TL_nilCheck (hk := ?_))); refine TL_nil_p ?_); (refine TA_take 13 rfl (by kernel_rfl) (by kernel_rfl) (by kernel_rfl) ?_; (repeat (first | refine TL_lt_t (hk := ?_) | refine TL_seq_t (hk := ?_) | refine TL_move (hk := ?_) | refine TL_assign (hk := ?_) | refine TLP_load TE (hk := ?_) | refine TLP_load_rd TE (hk := ?_) | refine TL_fieldAddr TE (hk := ?_) | refine TL_fieldAddr_e TE (hk := ?_) | refine TL_indexAddrn TE (hk := ?_) | refine TL_len TE (hk := ?_) | refine TL_yes (hk := ?_) | refine TL_pick_t (hk := ?_) | refine TL_nilCheck (hk := ?_))); refine TL_nil_p ?_); (refine TA_take 14 rfl (by kernel_rfl) (by kernel_rfl) (by kernel_rfl) ?_; (repeat (first | refine TL_lt_t (hk := ?_) | refine TL_seq_t (hk := ?_) | refine TL_move (hk := ?_) | refine TL_assign (hk := ?_) | refine TLP_load TE (hk := ?_) | refine TLP_load_rd TE (hk := ?_) | refine TL_fieldAddr TE (hk := ?_) | refine TL_fieldAddr_e TE (hk := ?_) | refine TL_indexAddrn TE (hk := ?_) | refine TL_len TE (hk := ?_) | refine TL_yes (hk := ?_) | refine TL_pick_t (hk := ?_) | refine TL_nilCheck (hk := ?_))); refine TL_nil_p ?_); (refine TA_take 15 rfl (by kernel_rfl) (by kernel_rfl) (by kernel_rfl) ?_; (repeat (first | refine TL_lt_t (hk := ?_) | refine TL_seq_t (hk := ?_) | refine TL_move (hk := ?_) | refine TL_assign (hk := ?_) | refine TLP_load TE (hk := ?_) | refine TLP_load_rd TE (hk := ?_) | refine TL_fieldAddr TE (hk := ?_) | refine TL_fieldAddr_e TE (hk := ?_) | refine TL_indexAddrn TE (hk := ?_) | refine TL_len TE (hk := ?_) | refine TL_yes (hk := ?_) | refine TL_pick_t (hk := ?_) | refine TL_nilCheck (hk := ?_))); refine TL_nil_p ?_); (refine TA_take 16 rfl (by kernel_rfl) (by kernel_rfl) (by kernel_rfl) ?_; (repeat (first | refine TL_lt_t (hk := ?_) | refine TL_seq_t (hk := ?_) | refine TL_move (hk := ?_) | refine TL_assign (hk := ?_) | refine TLP_load TE (hk := ?_) | refine TLP_load_rd TE (hk := ?_) | refine TL_fieldAddr TE (hk := ?_) | refine TL_fieldAddr_e TE (hk := ?_) | refine TL_indexAddrn TE (hk := ?_) | refine TL_len TE (hk := ?_) | refine TL_yes (hk := ?_) | refine TL_pick_t (hk := ?_) | refine TL_nilCheck (hk := ?_))); refine TL_nil_p ?_); (refine TA_take 17 rfl (by kernel_rfl) (by kernel_rfl) (by kernel_rfl) ?_; (repeat (first | refine TL_lt_t (hk := ?_) | refine TL_seq_t (hk := ?_) | refine TL_move (hk := ?_) | refine TL_assign (hk := ?_) | refine TLP_load TE (hk := ?_) | refine TLP_load_rd TE (hk := ?_) | refine TL_fieldAddr TE (hk := ?_) | refine TL_fieldAddr_e TE (hk := ?_) | refine TL_indexAddrn TE (hk := ?_) | refine TL_len TE (hk := ?_) | refine TL_yes (hk := ?_) | refine TL_pick_t (hk := ?_) | refine TL_nilCheck (hk := ?_))); refine TL_nil_p ?_); (refine TA_take 18 rfl (by kernel_rfl) (by kernel_rfl) (by kernel_rfl) ?_; (repeat (first | refine TL_lt_t (hk := ?_) | refine TL_seq_t (hk := ?_) | refine TL_move (hk := ?_) | refine TL_assign (hk := ?_) | refine TLP_load TE (hk := ?_) | refine TLP_load_rd TE (hk := ?_) | refine TL_fieldAddr TE (hk := ?_) | refine TL_fieldAddr_e TE (hk := ?_) | refine TL_indexAddrn TE (hk := ?_) | refine TL_len TE (hk := ?_) | refine TL_yes (hk := ?_) | refine TL_pick_t (hk := ?_) | refine TL_nilCheck (hk := ?_))); refine TL_nil_p ?_); (refine TA_take 19 rfl (by kernel_rfl) (by kernel_rfl) (by kernel_rfl) ?_; (repeat (first | refine TL_lt_t (hk := ?_) | refine TL_seq_t (hk := ?_) | refine TL_move (hk := ?_) | refine TL_assign (hk := ?_) | refine TLP_load TE (hk := ?_) | refine TLP_load_rd TE (hk := ?_) | refine TL_fieldAddr TE (hk := ?_) | refine TL_fieldAddr_e TE (hk := ?_) | refine TL_indexAddrn TE (hk := ?_) | refine TL_len TE (hk := ?_) | refine TL_yes (hk := ?_) | refine TL_pick_t (hk := ?_) | refine TL_nilCheck (hk := ?_))); refine TL_nil_p ?_); (refine TA_take 20 rfl (by kernel_rfl) (by kernel_rfl) (by kernel_rfl) ?_; (repeat (first | refine TL_lt_t (hk := ?_) | refine TL_seq_t (hk := ?_) | refine TL_move (hk := ?_) | refine TL_assign (hk := ?_) | refine TLP_load TE (hk := ?_) | refine TLP_load_rd TE (hk := ?_) | refine TL_fieldAddr TE (hk := ?_) | refine TL_fieldAddr_e TE (hk := ?_) | refine TL_indexAddrn TE (hk := ?_) | refine TL_len TE (hk := ?_) | refine TL_yes (hk := ?_) | refine TL_pick_t (hk := ?_) | refine TL_nilCheck (hk := ?_))); refine TL_nil_p ?_)
        (refine TA_one 21 rfl (by kernel_rfl) (by kernel_rfl) ?_; (repeat (refine TL_assign (hk := ?_))); refine TL_nil_p ?_)
        refine TA_done (by kernel_rfl) ?_
        --
        exact T_ret2 rfl rfl rfl ⟨lo, true, rfl, h2, fun q => by omega, e2.ext e3⟩
      · have hc' : ¬ ofL y = ofL k := fun h => hc (ofL_inj h)
        repeat (first | refine T_seq ?_ | refine T_region ?_ | refine T_cond_false rfl ?_ | refine T_exit rfl ?_ | refine TL_lt_f (hk := ?_) | refine TL_nil ?_ | refine TL_move (hk := ?_))
        refine T_region_any TE.mixed ([] : List Nat) ?_; intro w3 e3 z3
        have hb3 := hb2.be e3
        have hr3 := hr2.be e3
        (refine TA_take 0 rfl (by kernel_rfl) (by kernel_rfl) (by kernel_rfl) ?_; (repeat (first | refine TL_lt_t (hk := ?_) | refine TL_seq_f (hk := ?_) | refine TL_move (hk := ?_) | refine TL_assign (hk := ?_) | refine TLP_load TE (hk := ?_) | refine TLP_load_rd TE (hk := ?_) | refine TL_fieldAddr TE (hk := ?_) | refine TL_fieldAddr_e TE (hk := ?_) | refine TL_indexAddrn TE (hk := ?_) | refine TL_len TE (hk := ?_) | refine TL_yes (hk := ?_) | refine TL_pick_t (hk := ?_) | refine TL_nilCheck (hk := ?_))); refine TL_nil_p ?_); (refine TA_take 1 rfl (by kernel_rfl) (by kernel_rfl) (by kernel_rfl) ?_; (repeat (first | refine TL_lt_t (hk := ?_) | refine TL_seq_f (hk := ?_) | refine TL_move (hk := ?_) | refine TL_assign (hk := ?_) | refine TLP_load TE (hk := ?_) | refine TLP_load_rd TE (hk := ?_) | refine TL_fieldAddr TE (hk := ?_) | refine TL_fieldAddr_e TE (hk := ?_) | refine TL_indexAddrn TE (hk := ?_) | refine TL_len TE (hk := ?_) | refine TL_yes (hk := ?_) | refine TL_pick_t (hk := ?_) | refine TL_nilCheck (hk := ?_))); refine TL_nil_p ?_); (refine TA_take 2 rfl (by kernel_rfl) (by kernel_rfl) (by kernel_rfl) ?_; (repeat (first | refine TL_lt_t (hk := ?_) | refine TL_seq_f (hk := ?_) | refine TL_move (hk := ?_) | refine TL_assign (hk := ?_) | refine TLP_load TE (hk := ?_) | refine TLP_load_rd TE (hk := ?_) | refine TL_fieldAddr TE (hk := ?_) | refine TL_fieldAddr_e TE (hk := ?_) | refine TL_indexAddrn TE (hk := ?_) | refine TL_len TE (hk := ?_) | refine TL_yes (hk := ?_) | refine TL_pick_t (hk := ?_) | refine TL_nilCheck (hk := ?_))); refine TL_nil_p ?_); (refine TA_take 3 rfl (by kernel_rfl) (by kernel_rfl) (by kernel_rfl) ?_; (repeat (first | refine TL_lt_t (hk := ?_) | refine TL_seq_f (hk := ?_) | refine TL_move (hk := ?_) | refine TL_assign (hk := ?_) | refine TLP_load TE (hk := ?_) | refine TLP_load_rd TE (hk := ?_) | refine TL_fieldAddr TE (hk := ?_) | refine TL_fieldAddr_e TE (hk := ?_) | refine TL_indexAddrn TE (hk := ?_) | refine TL_len TE (hk := ?_) | refine TL_yes (hk := ?_) | refine TL_pick_t (hk := ?_) | refine TL_nilCheck (hk := ?_))); refine TL_nil_p ?_); (refine TA_take 4 rfl (by kernel_rfl) (by kernel_rfl) (by kernel_rfl) ?_; (repeat (first | refine TL_lt_t (hk := ?_) | refine TL_seq_f (hk := ?_) | refine TL_move (hk := ?_) | refine TL_assign (hk := ?_) | refine TLP_load TE (hk := ?_) | refine TLP_load_rd TE (hk := ?_) | refine TL_fieldAddr TE (hk := ?_) | refine TL_fieldAddr_e TE (hk := ?_) | refine TL_indexAddrn TE (hk := ?_) | refine TL_len TE (hk := ?_) | refine TL_yes (hk := ?_) | refine TL_pick_t (hk := ?_) | refine TL_nilCheck (hk := ?_))); refine TL_nil_p ?_); (refine TA_take 5 rfl (by kernel_rfl) (by kernel_rfl) (by kernel_rfl) ?_; (repeat (first | refine TL_lt_t (hk := ?_) | refine TL_seq_f (hk := ?_) | refine TL_move (hk := ?_) | refine TL_assign (hk := ?_) | refine TLP_load TE (hk := ?_) | refine TLP_load_rd TE (hk := ?_) | refine TL_fieldAddr TE (hk := ?_) | refine TL_fieldAddr_e TE (hk := ?_) | refine TL_indexAddrn TE (hk := ?_) | refine TL_len TE (hk := ?_) | refine TL_yes (hk := ?_) | refine TL_pick_t (hk := ?_) | refine TL_nilCheck (hk := ?_))); refine TL_nil_p ?_); (refine TA_take 6 rfl (by kernel_rfl) (by kernel_rfl) (by kernel_rfl) ?_; (repeat (first | refine TL_lt_t (hk := ?_) | refine TL_seq_f (hk := ?_) | refine TL_move (hk := ?_) | refine TL_assign (hk := ?_) | refine TLP_load TE (hk := ?_) | refine TLP_load_rd TE (hk := ?_) | refine TL_fieldAddr TE (hk := ?_) | refine TL_fieldAddr_e TE (hk := ?_) | refine TL_indexAddrn TE (hk := ?_) | refine TL_len TE (hk := ?_) | refine TL_yes (hk := ?_) | refine TL_pick_t (hk := ?_) | refine TL_nilCheck (hk := ?_))); refine TL_nil_p ?_); (refine TA_take 7 rfl (by kernel_rfl) (by kernel_rfl) (by kernel_rfl) ?_; (repeat (first | refine TL_lt_t (hk := ?_) | refine TL_seq_f (hk := ?_) | refine TL_move (hk := ?_) | refine TL_assign (hk := ?_) | refine TLP_load TE (hk := ?_) | refine TLP_load_rd TE (hk := ?_) | refine TL_fieldAddr TE (hk := ?_) | refine TL_fieldAddr_e TE (hk := ?_) | refine TL_indexAddrn TE (hk := ?_) | refine TL_len TE (hk := ?_) | refine TL_yes (hk := ?_) | refine TL_pick_t (hk := ?_) | refine TL_nilCheck (hk := ?_))); refine TL_nil_p ?_); (refine TA_take 8 rfl (by kernel_rfl) (by kernel_rfl) (by kernel_rfl) ?_; (repeat (first | refine TL_lt_t (hk := ?_) | refine TL_seq_f (hk := ?_) | refine TL_move (hk := ?_) | refine TL_assign (hk := ?_) | refine TLP_load TE (hk := ?_) | refine TLP_load_rd TE (hk := ?_) | refine TL_fieldAddr TE (hk := ?_) | refine TL_fieldAddr_e TE (hk := ?_) | refine TL_indexAddrn TE (hk := ?_) | refine TL_len TE (hk := ?_) | refine TL_yes (hk := ?_) | refine TL_pick_t (hk := ?_) | refine TL_nilCheck (hk := ?_))); refine TL_nil_p ?_); (refine TA_take 9 rfl (by kernel_rfl) (by kernel_rfl) (by kernel_rfl) ?_; (repeat (first | refine TL_lt_t (hk := ?_) | refine TL_seq_f (hk := ?_) | refine TL_move (hk := ?_) | refine TL_assign (hk := ?_) | refine TLP_load TE (hk := ?_) | refine TLP_load_rd TE (hk := ?_) | refine TL_fieldAddr TE (hk := ?_) | refine TL_fieldAddr_e TE (hk := ?_) | refine TL_indexAddrn TE (hk := ?_) | refine TL_len TE (hk := ?_) | refine TL_yes (hk := ?_) | refine TL_pick_t (hk := ?_) | refine TL_nilCheck (hk := ?_))); refine TL_nil_p ?_); (refine TA_take 10 rfl (by kernel_rfl) (by kernel_rfl) (by kernel_rfl) ?_; (repeat (first | refine TL_lt_t (hk := ?_) | refine TL_seq_f (hk := ?_) | refine TL_move (hk := ?_) | refine TL_assign (hk := ?_) | refine TLP_load TE (hk := ?_) | refine TLP_load_rd TE (hk := ?_) | refine TL_fieldAddr TE (hk := ?_) | refine TL_fieldAddr_e TE (hk := ?_) | refine TL_indexAddrn TE (hk := ?_) | refine TL_len TE (hk := ?_) | refine TL_yes (hk := ?_) | refine TL_pick_t (hk := ?_) | refine TL_nilCheck (hk := ?_))); refine TL_nil_p ?_); (refine TA_take 11 rfl (by kernel_rfl) (by kernel_rfl) (by kernel_rfl) ?_; (repeat (first | refine TL_lt_t (hk := ?_) | refine TL_seq_f (hk := ?_) | refine TL_move (hk := ?_) | refine TL_assign (hk := ?_) | refine TLP_load TE (hk := ?_) | refine TLP_load_rd TE (hk := ?_) | refine TL_fieldAddr TE (hk := ?_) | refine TL_fieldAddr_e TE (hk := ?_) | refine TL_indexAddrn TE (hk := ?_) | refine TL_len TE (hk := ?_) | refine TL_yes (hk := ?_) | refine TL_pick_t (hk := ?_) | refine TL_nilCheck (hk := ?_))); refine TL_nil_p ?_); (refine TA_take 12 rfl (by kernel_rfl) (by kernel_rfl) (by kernel_rfl) ?_; (repeat (first | refine TL_lt_t (hk := ?_) | refine TL_seq_f (hk := ?_) | refine TL_move (hk := ?_) | refine TL_assign (hk := ?_) | refine TLP_load TE (hk := ?_) | refine TLP_load_rd TE (hk := ?_) | refine TL_fieldAddr TE (hk := ?_) | refine TL_fieldAddr_e TE (hk := ?_) | refine TL_indexAddrn TE (hk := ?_) | refine TL_len TE (hk := ?_) | refine TL_yes (hk := ?_) | refine TL_pick_t (hk := ?_) | refine TL_nilCheck (hk := ?_))); refine TL_nil_p ?_); (refine TA_take 13 rfl (by kernel_rfl) (by kernel_rfl) (by kernel_rfl) ?_; (repeat (first | refine TL_lt_t (hk := ?_) | refine TL_seq_f (hk := ?_) | refine TL_move (hk := ?_) | refine TL_assign (hk := ?_) | refine TLP_load TE (hk := ?_) | refine TLP_load_rd TE (hk := ?_) | refine TL_fieldAddr TE (hk := ?_) | refine TL_fieldAddr_e TE (hk := ?_) | refine TL_indexAddrn TE (hk := ?_) | refine TL_len TE (hk := ?_) | refine TL_yes (hk := ?_) | refine TL_pick_t (hk := ?_) | refine TL_nilCheck (hk := ?_))); refine TL_nil_p ?_); (refine TA_take 14 rfl (by kernel_rfl) (by kernel_rfl) (by kernel_rfl) ?_; (repeat (first | refine TL_lt_t (hk := ?_) | refine TL_seq_f (hk := ?_) | refine TL_move (hk := ?_) | refine TL_assign (hk := ?_) | refine TLP_load TE (hk := ?_) | refine TLP_load_rd TE (hk := ?_) | refine TL_fieldAddr TE (hk := ?_) | refine TL_fieldAddr_e TE (hk := ?_) | refine TL_indexAddrn TE (hk := ?_) | refine TL_len TE (hk := ?_) | refine TL_yes (hk := ?_) | refine TL_pick_t (hk := ?_) | refine TL_nilCheck (hk := ?_))); refine TL_nil_p ?_); (refine TA_take 15 rfl (by kernel_rfl) (by kernel_rfl) (by kernel_rfl) ?_; (repeat (first | refine TL_lt_t (hk := ?_) | refine TL_seq_f (hk := ?_) | refine TL_move (hk := ?_) | refine TL_assign (hk := ?_) | refine TLP_load TE (hk := ?_) | refine TLP_load_rd TE (hk := ?_) | refine TL_fieldAddr TE (hk := ?_) | refine TL_fieldAddr_e TE (hk := ?_) | refine TL_indexAddrn TE (hk := ?_) | refine TL_len TE (hk := ?_) | refine TL_yes (hk := ?_) | refine TL_pick_t (hk := ?_) | refine TL_nilCheck (hk := ?_))); refine TL_nil_p ?_); (refine TA_take 16 rfl (by kernel_rfl) (by kernel_rfl) (by kernel_rfl) ?_; (repeat (first | refine TL_lt_t (hk := ?_) | refine TL_seq_f (hk := ?_) | refine TL_move (hk := ?_) | refine TL_assign (hk := ?_) | refine TLP_load TE (hk := ?_) | refine TLP_load_rd TE (hk := ?_) | refine TL_fieldAddr TE (hk := ?_) | refine TL_fieldAddr_e TE (hk := ?_) | refine TL_indexAddrn TE (hk := ?_) | refine TL_len TE (hk := ?_) | refine TL_yes (hk := ?_) | refine TL_pick_t (hk := ?_) | refine TL_nilCheck (hk := ?_))); refine TL_nil_p ?_); (refine TA_take 17 rfl (by kernel_rfl) (by kernel_rfl) (by kernel_rfl) ?_; (repeat (first | refine TL_lt_t (hk := ?_) | refine TL_seq_f (hk := ?_) | refine TL_move (hk := ?_) | refine TL_assign (hk := ?_) | refine TLP_load TE (hk := ?_) | refine TLP_load_rd TE (hk := ?_) | refine TL_fieldAddr TE (hk := ?_) | refine TL_fieldAddr_e TE (hk := ?_) | refine TL_indexAddrn TE (hk := ?_) | refine TL_len TE (hk := ?_) | refine TL_yes (hk := ?_) | refine TL_pick_t (hk := ?_) | refine TL_nilCheck (hk := ?_))); refine TL_nil_p ?_); (refine TA_take 18 rfl (by kernel_rfl) (by kernel_rfl) (by kernel_rfl) ?_; (repeat (first | refine TL_lt_t (hk := ?_) | refine TL_seq_f (hk := ?_) | refine TL_move (hk := ?_) | refine TL_assign (hk := ?_) | refine TLP_load TE (hk := ?_) | refine TLP_load_rd TE (hk := ?_) | refine TL_fieldAddr TE (hk := ?_) | refine TL_fieldAddr_e TE (hk := ?_) | refine TL_indexAddrn TE (hk := ?_) | refine TL_len TE (hk := ?_) | refine TL_yes (hk := ?_) | refine TL_pick_t (hk := ?_) | refine TL_nilCheck (hk := ?_))); refine TL_nil_p ?_); (refine TA_take 19 rfl (by kernel_rfl) (by kernel_rfl) (by kernel_rfl) ?_; (repeat (first | refine TL_lt_t (hk := ?_) | refine TL_seq_f (hk := ?_) | refine TL_move (hk := ?_) | refine TL_assign (hk := ?_) | refine TLP_load TE (hk := ?_) | refine TLP_load_rd TE (hk := ?_) | refine TL_fieldAddr TE (hk := ?_) | refine TL_fieldAddr_e TE (hk := ?_) | refine TL_indexAddrn TE (hk := ?_) | refine TL_len TE (hk := ?_) | refine TL_yes (hk := ?_) | refine TL_pick_t (hk := ?_) | refine TL_nilCheck (hk := ?_))); refine TL_nil_p ?_); (refine TA_take 20 rfl (by kernel_rfl) (by kernel_rfl) (by kernel_rfl) ?_; (repeat (first | refine TL_lt_t (hk := ?_) | refine TL_seq_f (hk := ?_) | refine TL_move (hk := ?_) | refine TL_assign (hk := ?_) | refine TLP_load TE (hk := ?_) | refine TLP_load_rd TE (hk := ?_) | refine TL_fieldAddr TE (hk := ?_) | refine TL_fieldAddr_e TE (hk := ?_) | refine TL_indexAddrn TE (hk := ?_) | refine TL_len TE (hk := ?_) | refine TL_yes (hk := ?_) | refine TL_pick_t (hk := ?_) | refine TL_nilCheck (hk := ?_))); refine TL_nil_p ?_)
        (refine TA_one 21 rfl (by kernel_rfl) (by kernel_rfl) ?_; (repeat (refine TL_assign (hk := ?_))); refine TL_nil_p ?_)
        refine TA_done (by kernel_rfl) ?_
        --
        exact T_ret2 rfl rfl rfl ⟨lo, false, rfl, h2, fun q => by omega, e2.ext e3⟩
    · repeat (first | refine T_seq ?_ | refine T_region ?_ | refine T_cond_false rfl ?_ | refine T_exit rfl ?_ | refine TL_lt_f (hk := ?_) | refine TL_nil ?_ | refine TL_move (hk := ?_))
      refine T_region_any TE.mixed ([] : List Nat) ?_; intro w3 e3 z3
      have hb3 := hb2.be e3
      (refine TA_take 0 rfl (by kernel_rfl) (by kernel_rfl) (by kernel_rfl) ?_; (repeat (first | refine TL_lt_f (hk := ?_) | refine TL_move (hk := ?_) | refine TL_assign (hk := ?_) | refine TLP_load TE (hk := ?_) | refine TL_fieldAddr TE (hk := ?_) | refine TL_len TE (hk := ?_) | refine TL_no (hk := ?_) | refine TL_pick_f (hk := ?_) | refine TL_nilCheck (hk := ?_))); refine TL_nil_p ?_); (refine TA_take 1 rfl (by kernel_rfl) (by kernel_rfl) (by kernel_rfl) ?_; (repeat (first | refine TL_lt_f (hk := ?_) | refine TL_move (hk := ?_) | refine TL_assign (hk := ?_) | refine TLP_load TE (hk := ?_) | refine TL_fieldAddr TE (hk := ?_) | refine TL_len TE (hk := ?_) | refine TL_no (hk := ?_) | refine TL_pick_f (hk := ?_) | refine TL_nilCheck (hk := ?_))); refine TL_nil_p ?_); (refine TA_take 2 rfl (by kernel_rfl) (by kernel_rfl) (by kernel_rfl) ?_; (repeat (first | refine TL_lt_f (hk := ?_) | refine TL_move (hk := ?_) | refine TL_assign (hk := ?_) | refine TLP_load TE (hk := ?_) | refine TL_fieldAddr TE (hk := ?_) | refine TL_len TE (hk := ?_) | refine TL_no (hk := ?_) | refine TL_pick_f (hk := ?_) | refine TL_nilCheck (hk := ?_))); refine TL_nil_p ?_); (refine TA_take 3 rfl (by kernel_rfl) (by kernel_rfl) (by kernel_rfl) ?_; (repeat (first | refine TL_lt_f (hk := ?_) | refine TL_move (hk := ?_) | refine TL_assign (hk := ?_) | refine TLP_load TE (hk := ?_) | refine TL_fieldAddr TE (hk := ?_) | refine TL_len TE (hk := ?_) | refine TL_no (hk := ?_) | refine TL_pick_f (hk := ?_) | refine TL_nilCheck (hk := ?_))); refine TL_nil_p ?_); (refine TA_take 4 rfl (by kernel_rfl) (by kernel_rfl) (by kernel_rfl) ?_; (repeat (first | refine TL_lt_f (hk := ?_) | refine TL_move (hk := ?_) | refine TL_assign (hk := ?_) | refine TLP_load TE (hk := ?_) | refine TL_fieldAddr TE (hk := ?_) | refine TL_len TE (hk := ?_) | refine TL_no (hk := ?_) | refine TL_pick_f (hk := ?_) | refine TL_nilCheck (hk := ?_))); refine TL_nil_p ?_); (refine TA_take 5 rfl (by kernel_rfl) (by kernel_rfl) (by kernel_rfl) ?_; (repeat (first | refine TL_lt_f (hk := ?_) | refine TL_move (hk := ?_) | refine TL_assign (hk := ?_) | refine TLP_load TE (hk := ?_) | refine TL_fieldAddr TE (hk := ?_) | refine TL_len TE (hk := ?_) | refine TL_no (hk := ?_) | refine TL_pick_f (hk := ?_) | refine TL_nilCheck (hk := ?_))); refine TL_nil_p ?_); (refine TA_take 6 rfl (by kernel_rfl) (by kernel_rfl) (by kernel_rfl) ?_; (repeat (first | refine TL_lt_f (hk := ?_) | refine TL_move (hk := ?_) | refine TL_assign (hk := ?_) | refine TLP_load TE (hk := ?_) | refine TL_fieldAddr TE (hk := ?_) | refine TL_len TE (hk := ?_) | refine TL_no (hk := ?_) | refine TL_pick_f (hk := ?_) | refine TL_nilCheck (hk := ?_))); refine TL_nil_p ?_); (refine TA_take 7 rfl (by kernel_rfl) (by kernel_rfl) (by kernel_rfl) ?_; (repeat (first | refine TL_lt_f (hk := ?_) | refine TL_move (hk := ?_) | refine TL_assign (hk := ?_) | refine TLP_load TE (hk := ?_) | refine TL_fieldAddr TE (hk := ?_) | refine TL_len TE (hk := ?_) | refine TL_no (hk := ?_) | refine TL_pick_f (hk := ?_) | refine TL_nilCheck (hk := ?_))); refine TL_nil_p ?_); (refine TA_take 8 rfl (by kernel_rfl) (by kernel_rfl) (by kernel_rfl) ?_; (repeat (first | refine TL_lt_f (hk := ?_) | refine TL_move (hk := ?_) | refine TL_assign (hk := ?_) | refine TLP_load TE (hk := ?_) | refine TL_fieldAddr TE (hk := ?_) | refine TL_len TE (hk := ?_) | refine TL_no (hk := ?_) | refine TL_pick_f (hk := ?_) | refine TL_nilCheck (hk := ?_))); refine TL_nil_p ?_); (refine TA_take 9 rfl (by kernel_rfl) (by kernel_rfl) (by kernel_rfl) ?_; (repeat (first | refine TL_lt_f (hk := ?_) | refine TL_move (hk := ?_) | refine TL_assign (hk := ?_) | refine TLP_load TE (hk := ?_) | refine TL_fieldAddr TE (hk := ?_) | refine TL_len TE (hk := ?_) | refine TL_no (hk := ?_) | refine TL_pick_f (hk := ?_) | refine TL_nilCheck (hk := ?_))); refine TL_nil_p ?_); (refine TA_take 10 rfl (by kernel_rfl) (by kernel_rfl) (by kernel_rfl) ?_; (repeat (first | refine TL_lt_f (hk := ?_) | refine TL_move (hk := ?_) | refine TL_assign (hk := ?_) | refine TLP_load TE (hk := ?_) | refine TL_fieldAddr TE (hk := ?_) | refine TL_len TE (hk := ?_) | refine TL_no (hk := ?_) | refine TL_pick_f (hk := ?_) | refine TL_nilCheck (hk := ?_))); refine TL_nil_p ?_); (refine TA_take 11 rfl (by kernel_rfl) (by kernel_rfl) (by kernel_rfl) ?_; (repeat (first | refine TL_lt_f (hk := ?_) | refine TL_move (hk := ?_) | refine TL_assign (hk := ?_) | refine TLP_load TE (hk := ?_) | refine TL_fieldAddr TE (hk := ?_) | refine TL_len TE (hk := ?_) | refine TL_no (hk := ?_) | refine TL_pick_f (hk := ?_) | refine TL_nilCheck (hk := ?_))); refine TL_nil_p ?_); (refine TA_take 12 rfl (by kernel_rfl) (by kernel_rfl) (by kernel_rfl) ?_; (repeat (first | refine TL_lt_f (hk := ?_) | refine TL_move (hk := ?_) | refine TL_assign (hk := ?_) | refine TLP_load TE (hk := ?_) | refine TL_fieldAddr TE (hk := ?_) | refine TL_len TE (hk := ?_) | refine TL_no (hk := ?_) | refine TL_pick_f (hk := ?_) | refine TL_nilCheck (hk := ?_))); refine TL_nil_p ?_); (refine TA_take 13 rfl (by kernel_rfl) (by kernel_rfl) (by kernel_rfl) ?_; (repeat (first | refine TL_lt_f (hk := ?_) | refine TL_move (hk := ?_) | refine TL_assign (hk := ?_) | refine TLP_load TE (hk := ?_) | refine TL_fieldAddr TE (hk := ?_) | refine TL_len TE (hk := ?_) | refine TL_no (hk := ?_) | refine TL_pick_f (hk := ?_) | refine TL_nilCheck (hk := ?_))); refine TL_nil_p ?_); (refine TA_take 14 rfl (by kernel_rfl) (by kernel_rfl) (by kernel_rfl) ?_; (repeat (first | refine TL_lt_f (hk := ?_) | refine TL_move (hk := ?_) | refine TL_assign (hk := ?_) | refine TLP_load TE (hk := ?_) | refine TL_fieldAddr TE (hk := ?_) | refine TL_len TE (hk := ?_) | refine TL_no (hk := ?_) | refine TL_pick_f (hk := ?_) | refine TL_nilCheck (hk := ?_))); refine TL_nil_p ?_); (refine TA_take 15 rfl (by kernel_rfl) (by kernel_rfl) (by kernel_rfl) ?_; (repeat (first | refine TL_lt_f (hk := ?_) | refine TL_move (hk := ?_) | refine TL_assign (hk := ?_) | refine TLP_load TE (hk := ?_) | refine TL_fieldAddr TE (hk := ?_) | refine TL_len TE (hk := ?_) | refine TL_no (hk := ?_) | refine TL_pick_f (hk := ?_) | refine TL_nilCheck (hk := ?_))); refine TL_nil_p ?_); (refine TA_take 16 rfl (by kernel_rfl) (by kernel_rfl) (by kernel_rfl) ?_; (repeat (first | refine TL_lt_f (hk := ?_) | refine TL_move (hk := ?_) | refine TL_assign (hk := ?_) | refine TLP_load TE (hk := ?_) | refine TL_fieldAddr TE (hk := ?_) | refine TL_len TE (hk := ?_) | refine TL_no (hk := ?_) | refine TL_pick_f (hk := ?_) | refine TL_nilCheck (hk := ?_))); refine TL_nil_p ?_); (refine TA_take 17 rfl (by kernel_rfl) (by kernel_rfl) (by kernel_rfl) ?_; (repeat (first | refine TL_lt_f (hk := ?_) | refine TL_move (hk := ?_) | refine TL_assign (hk := ?_) | refine TLP_load TE (hk := ?_) | refine TL_fieldAddr TE (hk := ?_) | refine TL_len TE (hk := ?_) | refine TL_no (hk := ?_) | refine TL_pick_f (hk := ?_) | refine TL_nilCheck (hk := ?_))); refine TL_nil_p ?_); (refine TA_take 18 rfl (by kernel_rfl) (by kernel_rfl) (by kernel_rfl) ?_; (repeat (first | refine TL_lt_f (hk := ?_) | refine TL_move (hk := ?_) | refine TL_assign (hk := ?_) | refine TLP_load TE (hk := ?_) | refine TL_fieldAddr TE (hk := ?_) | refine TL_len TE (hk := ?_) | refine TL_no (hk := ?_) | refine TL_pick_f (hk := ?_) | refine TL_nilCheck (hk := ?_))); refine TL_nil_p ?_); (refine TA_take 19 rfl (by kernel_rfl) (by kernel_rfl) (by kernel_rfl) ?_; (repeat (first | refine TL_lt_f (hk := ?_) | refine TL_move (hk := ?_) | refine TL_assign (hk := ?_) | refine TLP_load TE (hk := ?_) | refine TL_fieldAddr TE (hk := ?_) | refine TL_len TE (hk := ?_) | refine TL_no (hk := ?_) | refine TL_pick_f (hk := ?_) | refine TL_nilCheck (hk := ?_))); refine TL_nil_p ?_); (refine TA_take 20 rfl (by kernel_rfl) (by kernel_rfl) (by kernel_rfl) ?_; (repeat (first | refine TL_lt_f (hk := ?_) | refine TL_move (hk := ?_) | refine TL_assign (hk := ?_) | refine TLP_load TE (hk := ?_) | refine TL_fieldAddr TE (hk := ?_) | refine TL_len TE (hk := ?_) | refine TL_no (hk := ?_) | refine TL_pick_f (hk := ?_) | refine TL_nilCheck (hk := ?_))); refine TL_nil_p ?_)
      (refine TA_one 21 rfl (by kernel_rfl) (by kernel_rfl) ?_; (repeat (refine TL_assign (hk := ?_))); refine TL_nil_p ?_)
      refine TA_done (by kernel_rfl) ?_
      --
      exact T_ret2 rfl rfl rfl ⟨lo, false, rfl, h2, fun q => rfl, e2.ext e3⟩
end Go.Proofs.YtgdbckjkeofoaaaGreat

namespace Go.Proofs.YtgdbckjkeofoaaaGreat
open Go.RowKit Go.Proofs.Eng Go.Proofs.Foot Go.Proofs.Locks Go.Proofs.Sched
set_option linter.unusedSimpArgs false
set_option linter.unusedVariables false set_option maxRecDepth 10000
attribute [local irreducible] T TL LV TH TA
set_option maxHeartbeats 3200000
theorem RClaimed0_c (b : Nat) (a r : Int) (k : Tx) (w : World) (hb : Blk w b 89 [.int .i64 a, .int .i64 r, sL (none, 0, 0)]) :
    Ret Tryz.prog 63 [pB b, .string (ofL k)] w (fun v w' => v = .bool false ∧ Ext w w') := by
  refine ret_T (n := 14) Tryz.func63 rfl rfl ?_
  repeat (first | refine T_seq ?_ | refine T_region ?_ | refine TL_nil ?_ | refine TL_move (hk := ?_) | refine TL_assign (hk := ?_))
  refine TL_call TE (hc := at_c15 b a r (none, 0, 0) [] k w hb (Rd.nil _ _ _) (Nat.zero_le _)) (hk := ?_)
  rintro _ w1 ⟨p, t, rfl, hp, ht, e1⟩
  have ht := ht rfl
  subst ht
  repeat (first | refine T_seq ?_ | refine T_region ?_ | refine TL_nil ?_ | refine TL_move (hk := ?_) | refine TL_assign (hk := ?_) | refine TL_extract (hk := ?_))
  exact T_ret1 rfl rfl ⟨rfl, e1⟩
theorem has0 (P r : Nat) (k : Tx) : hasE (newSt P r).C k = false := by
  unfold hasE ofE newSt
  simp only [List.length_replicate]
  have : (List.replicate P ([] : CL)).getD (partT k P) [] = [] := by
    rw [List.getD_eq_getElem?_getD, List.getElem?_replicate]
    split <;> rfl
  rw [this]
  rfl
theorem full0 (P r : Nat) (ks : List Tx) (p : Nat) (hr : 1 ≤ r) : fullB (newSt P r) ks p = decide (r < moreN (newSt P r).C ks p) := by
  unfold fullB
  have : (newSt P r).C.getD p [] = [] := by
    unfold newSt
    rw [List.getD_eq_getElem?_getD, List.getElem?_replicate]
    split <;> rfl
  rw [this]
  have h2 : (newSt P r).room = r := rfl
  rw [h2, List.length_nil, Nat.zero_add]
  by_cases h : r < moreN (newSt P r).C ks p
  · have : 0 < moreN (newSt P r).C ks p := by omega
    simp [h, this]
  · simp [h]
theorem RClaim0_c (b P r : Nat) (A : Option Addr) (n c : Nat) (ks : List Tx) (w : World) (hb : Blk w b 89 [.int .i64 (P : Int), .int .i64 (r : Int), sL (none, 0, 0)]) (hP : 1 ≤ P ∧ P ≤ 64) (hR : 1 ≤ r ∧ r ≤ 4096) (rd : Rd w A n 1 (sv ks)) (hn : n ≤ 50000) (hk : ∀ k ∈ ks, k.length ≤ 9223372036854775807) (hA : b ∉ blkL A) :
    Ret Tryz.prog 29 [pB b, .slice A n c] w (fun v w' => v = .int .i64 ((claimE (newSt P r) ks).2 : Int) ∧ Eng.Mod [b] w w') := by
  have hl : ks.length = n := by have := rd.1; rw [sv_length] at this; omega
  have hgk : ∀ i, i < n → (ks.getD i []).length ≤ 9223372036854775807 := fun i hi => hk _ (txs_mem (by omega))
  have hCl : (newSt P r).C.length = P := by simp [newSt]
  have hbs := hb.lt
  unfold claimE
  refine ret_T (n := 160) Tryz.func29 rfl rfl ?_
  repeat (first | refine T_seq ?_ | refine T_region ?_ | refine T_block ?_ | refine TL_nil ?_ | refine TL_assign (hk := ?_))
  refine T_loop (ι := Nat) (fun i => [(5, .int .i64 (i : Int)), (0, pB b), (1, .slice A n c)]) (fun i w' => Ext w w' ∧ i ≤ n ∧ ∀ j, j < i → validT (ks.getD j []) = true) (fun i => n - i) 0 (.c rfl (.c rfl (.c rfl (.n)))) ⟨Mod.refl _ _, Nat.zero_le _, fun j h => absurd h (by omega)⟩ ?_
  rintro i w1 ⟨e1, hi, hu⟩ ih
  have rd1 := rd.be e1
  by_cases hlt : i < n
  · have hA1 : A ≠ none := by obtain ⟨_, _, hq, _⟩ := rd1.2 (by omega); rw [hq]; simp
    have hkk := hgk i hlt
    have hmem := txs_mem (l := ks) (i := i) (by omega)
    obtain ⟨key, hkey⟩ : ∃ key, ks.getD i [] = key := ⟨_, rfl⟩
    rw [hkey] at hkk hmem
    repeat (first | refine T_seq ?_ | refine T_region ?_ | refine T_cond_true rfl ?_ | refine T_block ?_ | refine T_skip ?_ | refine TL_lt_t (hk := ?_) | refine TL_nil ?_ | refine TL_move (hk := ?_) | refine TL_indexAddr1n TE (hk := ?_) | refine TL_len TE (hk := ?_) | refine TL_load_s TE (hk := ?_))
    rw [hkey]
    --
    refine TL_call TE (hc := RValid_c key hkk _) (hk := ?_)
    rintro _ _ ⟨rfl, rfl⟩
    cases hv : validT key with
    | true =>
      repeat (first | refine T_region ?_ | refine T_cond_false rfl ?_ | refine T_inBlock ?_ | refine T_skip ?_ | refine TL_add (hk := ?_) | refine TL_nil ?_ | refine TL_move (hk := ?_) | refine TL_assign (hk := ?_) | refine TL_not (hk := ?_))
      exact ih (i + 1) _ _ (by omega) ⟨e1, by omega, fun j hj => by
        by_cases q : j = i
        · rw [q, hkey]; exact hv
        · exact hu j (by omega)⟩ (.c rfl (.c rfl (.c rfl (.n))))
    | false =>
      have hany : ks.any (fun k => !validT k) = true := List.any_eq_true.2 ⟨key, hmem, by simp [hv]⟩
      rw [if_pos hany]
      clear ih
      repeat (first | refine T_seq ?_ | refine T_region ?_ | refine T_cond_true rfl ?_ | refine TL_nil ?_ | refine TL_assign (hk := ?_) | refine TL_not (hk := ?_))
      exact T_ret1 rfl rfl ⟨rfl, Ext.un e1⟩
  clear ih
  have hany : ks.any (fun k => !validT k) = false := by
    rw [List.any_eq_false]
    intro k hk2
    obtain ⟨j, hj, rfl⟩ := List.mem_iff_getElem.1 hk2
    have := hu j (by omega)
    rw [List.getD_eq_getElem?_getD, List.getElem?_eq_getElem hj] at this
    simpa using this
  rw [if_neg (by rw [hany]; simp)]
  clear hu hany
  repeat (first | refine T_seq ?_ | refine T_region ?_ | refine T_cond_false rfl ?_ | refine T_block ?_ | refine T_exit rfl ?_ | refine TL_lt_f (hk := ?_) | refine TL_nil ?_ | refine TL_move (hk := ?_) | refine TL_assign (hk := ?_) | refine TL_len TE (hk := ?_))
  refine T_loop (ι := Nat) (fun i => [(6, .int .i64 (i : Int)), (0, pB b), (1, .slice A n c)]) (fun i w' => 1 ≤ i ∧ (i ≤ n ∨ i = 1) ∧ Ext w w' ∧ ∀ j, j + 1 < i → ks.getD j [] < ks.getD (j + 1) []) (fun i => n - i) 1 (.c rfl (.c rfl (.c rfl (.n)))) ⟨Nat.le_refl _, .inr rfl, e1, fun j hj => absurd hj (by omega)⟩ ?_
  clear rd1 e1
  rintro i w2 ⟨hi1, hi2, e2, hu⟩ ih
  have rd2 := rd.be e2
  by_cases hlt2 : i < n
  · have hA2 : A ≠ none := by obtain ⟨_, _, hq, _⟩ := rd2.2 (by omega); rw [hq]; simp
    have hic : ((i : Int) - 1) = ((i - 1 : Nat) : Int) := by omega
    have hAD : Off A ([] : List Nat) := .nil _
    obtain ⟨x, hx⟩ : ∃ x, ks.getD i [] = x := ⟨_, rfl⟩
    obtain ⟨y, hy⟩ : ∃ x, ks.getD (i - 1) [] = x := ⟨_, rfl⟩
    by_cases hle : x ≤ y
    · have hr : riseB ks = false := rise_no (j := i - 1) (by omega) (by rw [hy, show i - 1 + 1 = i by omega, hx]; exact List.not_lt.2 hle)
      rw [hr, if_pos rfl]
      clear ih
      repeat (first | refine T_seq ?_ | refine T_region ?_ | refine T_cond_true rfl ?_ | refine T_block ?_ | refine T_skip ?_ | refine TL_lt_t (hk := ?_) | refine TL_nil ?_ | refine TL_move (hk := ?_) | refine TL_len TE (hk := ?_))
      refine T_region_any TE.mixed ([] : List Nat) ?_; intro w3 e3 z3
      have rd3 := rd2.be e3
      (refine TA_take 0 rfl (by kernel_rfl) (by kernel_rfl) (by kernel_rfl) ?_; (repeat (first | refine TL_sub (hk := ?_) | refine TL_move (hk := ?_))); refine TL_nil_p ?_); (refine TA_take 1 rfl (by kernel_rfl) (by kernel_rfl) (by kernel_rfl) ?_; (repeat (first | refine TL_sub (hk := ?_) | refine TL_move (hk := ?_))); refine TL_nil_p ?_); (refine TA_take 2 rfl (by kernel_rfl) (by kernel_rfl) (by kernel_rfl) ?_; (repeat (first | refine TL_sub (hk := ?_) | refine TL_move (hk := ?_))); refine TL_nil_p ?_)
      rw [hic]
      (refine TA_take 3 rfl (by kernel_rfl) (by kernel_rfl) (by kernel_rfl) ?_; (repeat (first | refine TL_move (hk := ?_) | refine TLP_load_s TE (hk := ?_) | refine TL_indexAddr1n TE (hk := ?_))); refine TL_nil_p ?_); (refine TA_take 4 rfl (by kernel_rfl) (by kernel_rfl) (by kernel_rfl) ?_; (repeat (first | refine TL_move (hk := ?_) | refine TLP_load_s TE (hk := ?_) | refine TL_indexAddr1n TE (hk := ?_))); refine TL_nil_p ?_); (refine TA_take 5 rfl (by kernel_rfl) (by kernel_rfl) (by kernel_rfl) ?_; (repeat (first | refine TL_move (hk := ?_) | refine TLP_load_s TE (hk := ?_) | refine TL_indexAddr1n TE (hk := ?_))); refine TL_nil_p ?_); (refine TA_take 6 rfl (by kernel_rfl) (by kernel_rfl) (by kernel_rfl) ?_; (repeat (first | refine TL_move (hk := ?_) | refine TLP_load_s TE (hk := ?_) | refine TL_indexAddr1n TE (hk := ?_))); refine TL_nil_p ?_); (refine TA_take 7 rfl (by kernel_rfl) (by kernel_rfl) (by kernel_rfl) ?_; (repeat (first | refine TL_move (hk := ?_) | refine TLP_load_s TE (hk := ?_) | refine TL_indexAddr1n TE (hk := ?_))); refine TL_nil_p ?_); (refine TA_take 8 rfl (by kernel_rfl) (by kernel_rfl) (by kernel_rfl) ?_; (repeat (first | refine TL_move (hk := ?_) | refine TLP_load_s TE (hk := ?_) | refine TL_indexAddr1n TE (hk := ?_))); refine TL_nil_p ?_)
      rw [hx, hy]
      (refine TA_one 9 rfl (by kernel_rfl) (by kernel_rfl) ?_; (repeat (refine TL_sge_t (hk := ?_))); refine TL_nil_p ?_)
      refine TA_done (by kernel_rfl) ?_
      repeat (first | refine T_seq ?_ | refine T_region ?_ | refine T_cond_true rfl ?_ | refine TL_nil ?_ | refine TL_assign (hk := ?_))
      exact T_ret1 rfl rfl ⟨rfl, Ext.un (e2.ext e3)⟩
    · repeat (first | refine T_seq ?_ | refine T_region ?_ | refine T_cond_true rfl ?_ | refine T_block ?_ | refine T_skip ?_ | refine TL_lt_t (hk := ?_) | refine TL_nil ?_ | refine TL_move (hk := ?_) | refine TL_len TE (hk := ?_))
      refine T_region_any TE.mixed ([] : List Nat) ?_; intro w3 e3 z3
      have rd3 := rd2.be e3
      (refine TA_take 0 rfl (by kernel_rfl) (by kernel_rfl) (by kernel_rfl) ?_; (repeat (first | refine TL_sub (hk := ?_) | refine TL_move (hk := ?_))); refine TL_nil_p ?_); (refine TA_take 1 rfl (by kernel_rfl) (by kernel_rfl) (by kernel_rfl) ?_; (repeat (first | refine TL_sub (hk := ?_) | refine TL_move (hk := ?_))); refine TL_nil_p ?_); (refine TA_take 2 rfl (by kernel_rfl) (by kernel_rfl) (by kernel_rfl) ?_; (repeat (first | refine TL_sub (hk := ?_) | refine TL_move (hk := ?_))); refine TL_nil_p ?_)
      rw [hic]
      (refine TA_take 3 rfl (by kernel_rfl) (by kernel_rfl) (by kernel_rfl) ?_; (repeat (first | refine TL_move (hk := ?_) | refine TLP_load_s TE (hk := ?_) | refine TL_indexAddr1n TE (hk := ?_))); refine TL_nil_p ?_); (refine TA_take 4 rfl (by kernel_rfl) (by kernel_rfl) (by kernel_rfl) ?_; (repeat (first | refine TL_move (hk := ?_) | refine TLP_load_s TE (hk := ?_) | refine TL_indexAddr1n TE (hk := ?_))); refine TL_nil_p ?_); (refine TA_take 5 rfl (by kernel_rfl) (by kernel_rfl) (by kernel_rfl) ?_; (repeat (first | refine TL_move (hk := ?_) | refine TLP_load_s TE (hk := ?_) | refine TL_indexAddr1n TE (hk := ?_))); refine TL_nil_p ?_); (refine TA_take 6 rfl (by kernel_rfl) (by kernel_rfl) (by kernel_rfl) ?_; (repeat (first | refine TL_move (hk := ?_) | refine TLP_load_s TE (hk := ?_) | refine TL_indexAddr1n TE (hk := ?_))); refine TL_nil_p ?_); (refine TA_take 7 rfl (by kernel_rfl) (by kernel_rfl) (by kernel_rfl) ?_; (repeat (first | refine TL_move (hk := ?_) | refine TLP_load_s TE (hk := ?_) | refine TL_indexAddr1n TE (hk := ?_))); refine TL_nil_p ?_); (refine TA_take 8 rfl (by kernel_rfl) (by kernel_rfl) (by kernel_rfl) ?_; (repeat (first | refine TL_move (hk := ?_) | refine TLP_load_s TE (hk := ?_) | refine TL_indexAddr1n TE (hk := ?_))); refine TL_nil_p ?_)
      rw [hx, hy]
      (refine TA_one 9 rfl (by kernel_rfl) (by kernel_rfl) ?_; (repeat (refine TL_sge_f (hk := ?_))); refine TL_nil_p ?_)
      refine TA_done (by kernel_rfl) ?_
      repeat (first | refine T_region ?_ | refine T_cond_false rfl ?_ | refine T_inBlock ?_ | refine T_skip ?_ | refine TL_add (hk := ?_) | refine TL_nil ?_ | refine TL_move (hk := ?_) | refine TL_assign (hk := ?_))
      exact ih (i + 1) w3 _ (by omega) ⟨by omega, by omega, e2.ext e3, fun j hj => by
        by_cases q : j + 1 = i
        · subst q
          rw [hx]
          rw [show j + 1 - 1 = j by omega] at hy
          rw [hy]
          exact List.not_le.1 hle
        · exact hu j (by omega)⟩ (.c rfl (.c rfl (.c rfl (.n))))
  clear ih
  have hr : riseB ks = true := rise_yes (fun j hj => hu j (by omega))
  rw [hr, if_neg (by simp)]
  have hb2 := hb.be e2
  clear hu hi1 hi2
  repeat (first | refine T_seq ?_ | refine T_region ?_ | refine T_cond_false rfl ?_ | refine T_exit rfl ?_ | refine TL_lt_f (hk := ?_) | refine TL_nil ?_ | refine TL_move (hk := ?_) | refine TL_load TE (hk := ?_) | refine TL_fieldAddr TE (hk := ?_) | refine TL_len TE (hk := ?_) | refine TL_nilCheck (hk := ?_))
  refine TL_makeSlice TE (m := P) (hk := ?_); intro bM w3 e3 h3 h3' k3
  have hm0 : List.replicate P (Value.int .i64 0) = mvV (newSt P r).C (ks.take 0) := by
    symm
    refine List.eq_replicate_iff.2 ⟨by rw [mvV_len, hCl], fun u hu => ?_⟩
    obtain ⟨p, _, rfl⟩ := List.mem_map.1 hu
    simp [moreN]
  have o3 : Own w3 w2.heap.size 3 1 (some ⟨bM, 0, none⟩) P P (mvV (newSt P r).C (ks.take 0)) := by
    rw [← hm0]
    exact Own.of_blk k3 h3 (by simp) (by unfold maxLen; omega)
  have z3 := e3.size
  have z2 := e2.size
  have hb3 : Blk w3 b 89 [.int .i64 (P : Int), .int .i64 (r : Int), .slice none 0 0] := hb2.be e3
  clear k3 hm0 hb2
  repeat (first | refine T_seq ?_ | refine T_region ?_ | refine T_block ?_ | refine TL_nil ?_ | refine TL_assign (hk := ?_))
  refine T_loop (ι := Unit) (fun _ => [(8, .int .i64 0), (7, .slice (some ⟨bM, 0, none⟩) P P), (0, pB b), (1, .slice A n c)]) (fun _ w' => w' = w3) (fun _ => 0) () (.c rfl (.c rfl (.c rfl (.c rfl (.n))))) rfl ?_
  rintro _ w3' rfl -
  repeat (first | refine T_seq ?_ | refine T_region ?_ | refine T_cond_false rfl ?_ | refine T_block ?_ | refine T_exit rfl ?_ | refine TL_lt_f (hk := ?_) | refine TL_nil ?_ | refine TL_move (hk := ?_) | refine TL_assign (hk := ?_) | refine TL_load TE (hk := ?_) | refine TL_fieldAddr TE (hk := ?_) | refine TL_len TE (hk := ?_) | refine TL_nilCheck (hk := ?_))
  refine T_loop (ι := Nat) (fun i => [(9, .int .i64 (i : Int)), (7, .slice (some ⟨bM, 0, none⟩) P P), (0, pB b), (1, .slice A n c)]) (fun i w' => i ≤ n ∧ Ext w2 w' ∧ Own w' w2.heap.size 3 1 (some ⟨bM, 0, none⟩) P P (mvV (newSt P r).C (ks.take i))) (fun i => n - i) 0 (.c rfl (.c rfl (.c rfl (.c rfl (.n))))) ⟨Nat.zero_le _, e3, o3⟩ ?_
  clear o3 hb3
  rintro i w4 ⟨hi4, e4, o4⟩ ih
  have rd4 := rd2.be e4
  have hb4 := hb.be (e2.ext e4)
  by_cases hlt4 : i < n
  · have hA4 : A ≠ none := by obtain ⟨_, _, hq, _⟩ := rd4.2 (by omega); rw [hq]; simp
    have hkk := hgk i hlt4
    have hset := mvV_set (newSt P r).C ks i (by omega) (has0 P r _) (by rw [hCl]; exact hP.1)
    rw [hCl] at hset
    obtain ⟨key, hkey⟩ : ∃ key, ks.getD i [] = key := ⟨_, rfl⟩
    rw [hkey] at hkk hset
    have hp := partT_lt key hP.1
    have hm1 : (((hashT key : Nat) : Int) % ((P : Nat) : Int)) = ((partT key P : Nat) : Int) := by unfold partT; omega
    have hpv : (if ((P : Nat) : Int) < 1 then 0 else ((hashT key : Nat) : Int) % ((P : Nat) : Int)) = ((partT key P : Nat) : Int) := by
      rw [if_neg (by omega), hm1]
    have hmn : moreN (newSt P r).C (ks.take i) (partT key P) ≤ 50000 := by unfold moreN; exact Nat.le_trans (List.length_filter_le _ _) (by rw [List.length_take]; omega)
    have hv := mvV_get (newSt P r).C (ks.take i) (partT key P) (by rw [hCl]; exact hp)
    have ho4 := mvV_len (newSt P r).C (ks.take i)
    rw [hCl] at ho4
    repeat (first | refine T_seq ?_ | refine T_region ?_ | refine T_cond_true rfl ?_ | refine T_block ?_ | refine T_skip ?_ | refine TL_lt_t (hk := ?_) | refine TL_nil ?_ | refine TL_move (hk := ?_) | refine TL_indexAddr1n TE (hk := ?_) | refine TL_len TE (hk := ?_) | refine TL_load_s TE (hk := ?_))
    rw [hkey]
    --
    refine TL_call TE (hc := RClaimed0_c b (P : Int) (r : Int) key w4 hb4) (hk := ?_)
    rintro _ w5 ⟨rfl, e5⟩
    have o5 := o4.be e5
    have rd5 := rd4.be e5
    have hb5 := hb4.be e5
    have hbD : b ∉ ([] : List Nat) := by simp
    have hAD : Off A ([] : List Nat) := .nil _
    clear rd4 hb4 o4
    repeat (first | refine T_cond_true rfl ?_ | refine TL_nil ?_ | refine TL_not (hk := ?_))
    refine T_region_anyz TE.mixed ([] : List Nat) (some 14) ?_; intro w6 e6 z6
    have o6 := o5.be e6
    have rd6 := rd5.be e6
    have hb6 := hb5.be e6
    have hMD : Off (some (⟨bM, 0, none⟩ : Addr)) ([] : List Nat) := .nil _
    have or6 := o6.rd
    (refine TA_take 0 rfl (by kernel_rfl) (by kernel_rfl) (by kernel_rfl) ?_; (repeat (first | refine TL_move (hk := ?_) | refine TLP_load TE (hk := ?_) | refine TLP_load_s TE (hk := ?_) | refine TL_fieldAddr TE (hk := ?_) | refine TL_indexAddr1n TE (hk := ?_) | refine TL_nilCheck (hk := ?_))); refine TL_nil_p ?_); (refine TA_take 1 rfl (by kernel_rfl) (by kernel_rfl) (by kernel_rfl) ?_; (repeat (first | refine TL_move (hk := ?_) | refine TLP_load TE (hk := ?_) | refine TLP_load_s TE (hk := ?_) | refine TL_fieldAddr TE (hk := ?_) | refine TL_indexAddr1n TE (hk := ?_) | refine TL_nilCheck (hk := ?_))); refine TL_nil_p ?_); (refine TA_take 2 rfl (by kernel_rfl) (by kernel_rfl) (by kernel_rfl) ?_; (repeat (first | refine TL_move (hk := ?_) | refine TLP_load TE (hk := ?_) | refine TLP_load_s TE (hk := ?_) | refine TL_fieldAddr TE (hk := ?_) | refine TL_indexAddr1n TE (hk := ?_) | refine TL_nilCheck (hk := ?_))); refine TL_nil_p ?_); (refine TA_take 3 rfl (by kernel_rfl) (by kernel_rfl) (by kernel_rfl) ?_; (repeat (first | refine TL_move (hk := ?_) | refine TLP_load TE (hk := ?_) | refine TLP_load_s TE (hk := ?_) | refine TL_fieldAddr TE (hk := ?_) | refine TL_indexAddr1n TE (hk := ?_) | refine TL_nilCheck (hk := ?_))); refine TL_nil_p ?_); (refine TA_take 4 rfl (by kernel_rfl) (by kernel_rfl) (by kernel_rfl) ?_; (repeat (first | refine TL_move (hk := ?_) | refine TLP_load TE (hk := ?_) | refine TLP_load_s TE (hk := ?_) | refine TL_fieldAddr TE (hk := ?_) | refine TL_indexAddr1n TE (hk := ?_) | refine TL_nilCheck (hk := ?_))); refine TL_nil_p ?_); (refine TA_take 5 rfl (by kernel_rfl) (by kernel_rfl) (by kernel_rfl) ?_; (repeat (first | refine TL_move (hk := ?_) | refine TLP_load TE (hk := ?_) | refine TLP_load_s TE (hk := ?_) | refine TL_fieldAddr TE (hk := ?_) | refine TL_indexAddr1n TE (hk := ?_) | refine TL_nilCheck (hk := ?_))); refine TL_nil_p ?_); (refine TA_take 6 rfl (by kernel_rfl) (by kernel_rfl) (by kernel_rfl) ?_; (repeat (first | refine TL_move (hk := ?_) | refine TLP_load TE (hk := ?_) | refine TLP_load_s TE (hk := ?_) | refine TL_fieldAddr TE (hk := ?_) | refine TL_indexAddr1n TE (hk := ?_) | refine TL_nilCheck (hk := ?_))); refine TL_nil_p ?_); (refine TA_take 7 rfl (by kernel_rfl) (by kernel_rfl) (by kernel_rfl) ?_; (repeat (first | refine TL_move (hk := ?_) | refine TLP_load TE (hk := ?_) | refine TLP_load_s TE (hk := ?_) | refine TL_fieldAddr TE (hk := ?_) | refine TL_indexAddr1n TE (hk := ?_) | refine TL_nilCheck (hk := ?_))); refine TL_nil_p ?_); (refine TA_take 8 rfl (by kernel_rfl) (by kernel_rfl) (by kernel_rfl) ?_; (repeat (first | refine TL_move (hk := ?_) | refine TLP_load TE (hk := ?_) | refine TLP_load_s TE (hk := ?_) | refine TL_fieldAddr TE (hk := ?_) | refine TL_indexAddr1n TE (hk := ?_) | refine TL_nilCheck (hk := ?_))); refine TL_nil_p ?_)
    rw [hkey]
    refine TA_one 9 rfl (by kernel_rfl) (by kernel_rfl) ?_; (try refine TL_yes (hk := ?_)); refine TL_call TE (hc := (RPartition_c key hkk (P : Int) (by omega) w6)) (hq := (by rintro _ w' ⟨rfl, rfl⟩; exact Mod.refl _ _)) (hk := ?_)
    rintro _ _ ⟨rfl, rfl⟩
    rw [hpv]
    refine TL_nil_p ?_
    (refine TA_take 10 rfl (by kernel_rfl) (by kernel_rfl) (by kernel_rfl) ?_; (repeat (first | refine TL_add (hk := ?_) | refine TLP_load_rd TE (hk := ?_) | refine TL_indexAddr1n TE (hk := ?_))); refine TL_nil_p ?_); (refine TA_take 11 rfl (by kernel_rfl) (by kernel_rfl) (by kernel_rfl) ?_; (repeat (first | refine TL_add (hk := ?_) | refine TLP_load_rd TE (hk := ?_) | refine TL_indexAddr1n TE (hk := ?_))); refine TL_nil_p ?_); (refine TA_take 12 rfl (by kernel_rfl) (by kernel_rfl) (by kernel_rfl) ?_; (repeat (first | refine TL_add (hk := ?_) | refine TLP_load_rd TE (hk := ?_) | refine TL_indexAddr1n TE (hk := ?_))); refine TL_nil_p ?_); (refine TA_take 13 rfl (by kernel_rfl) (by kernel_rfl) (by kernel_rfl) ?_; (repeat (first | refine TL_add (hk := ?_) | refine TLP_load_rd TE (hk := ?_) | refine TL_indexAddr1n TE (hk := ?_))); refine TL_nil_p ?_)
    refine TA_one 14 rfl (by kernel_rfl) (by kernel_rfl) ?_
    refine TL_store_own TE (ho := o6) (hf := rfl) (hq := fun _ _ _ => trivial) (hk := ?_); intro w7 m7 z7 o7
    refine TL_nil_z (by kernel_rfl) ?_
    rw [hset] at o7
    repeat (first | refine T_region ?_ | refine T_inBlock ?_ | refine TL_add (hk := ?_) | refine TL_nil ?_ | refine TL_move (hk := ?_) | refine TL_assign (hk := ?_))
    exact ih (i + 1) w7 _ (by omega) ⟨by omega, ((e4.ext e5).ext e6).own m7 o6.hi, o7⟩ (.c rfl (.c rfl (.c rfl (.c rfl (.n)))))
  clear ih
  have htk : ks.take i = ks := List.take_of_length_le (by omega)
  rw [htk] at o4
  clear htk
  repeat (first | refine T_seq ?_ | refine T_region ?_ | refine T_cond_false rfl ?_ | refine T_block ?_ | refine T_exit rfl ?_ | refine TL_lt_f (hk := ?_) | refine TL_nil ?_ | refine TL_move (hk := ?_) | refine TL_assign (hk := ?_) | refine TL_len TE (hk := ?_))
  refine T_loop (ι := Nat) (fun j => [(10, .int .i64 (j : Int)), (7, .slice (some ⟨bM, 0, none⟩) P P), (0, pB b), (1, .slice A n c)]) (fun j w' => j ≤ P ∧ Ext w4 w' ∧ ∀ p, p < j → fullB (newSt P r) ks p = false) (fun j => P - j) 0 (.c rfl (.c rfl (.c rfl (.c rfl (.n))))) ⟨Nat.zero_le _, Mod.refl _ _, fun p h => absurd h (by omega)⟩ ?_
  rintro j w5 ⟨hj, e5, hu⟩ ih
  have o5 := o4.be e5
  have hb5 := hb4.be e5
  have or5 := o5.rd
  by_cases hltj : j < P
  · have hv := mvV_get (newSt P r).C ks j (by rw [hCl]; exact hltj)
    have hmn : moreN (newSt P r).C ks j ≤ 50000 := by unfold moreN; exact Nat.le_trans (List.length_filter_le _ _) (by omega)
    have hbD : b ∉ ([] : List Nat) := by simp
    have hMD : Off (some (⟨bM, 0, none⟩ : Addr)) ([] : List Nat) := .nil _
    by_cases hful : r < moreN (newSt P r).C ks j
    · have hany : (List.range (newSt P r).C.length).any (fullB (newSt P r) ks) = true := List.any_eq_true.2 ⟨j, List.mem_range.2 (by rw [hCl]; exact hltj), by rw [full0 P r ks j hR.1]; exact decide_eq_true hful⟩
      rw [if_pos hany]
      clear ih
      repeat (first | refine T_seq ?_ | refine T_region ?_ | refine T_cond_true rfl ?_ | refine T_block ?_ | refine T_skip ?_ | refine TL_lt_t (hk := ?_) | refine TL_nil ?_ | refine TL_move (hk := ?_) | refine TL_load TE (hk := ?_) | refine TL_fieldAddr TE (hk := ?_) | refine TL_nilCheck (hk := ?_))
      refine T_region_any TE.mixed ([] : List Nat) ?_; intro w6 e6 z6
      have hb6 := hb5.be e6
      have or6 := or5.be e6
      (refine TA_take 0 rfl (by kernel_rfl) (by kernel_rfl) (by kernel_rfl) ?_; (repeat (first | refine TL_move (hk := ?_) | refine TLP_load TE (hk := ?_) | refine TLP_load_rd TE (hk := ?_) | refine TL_fieldAddr TE (hk := ?_) | refine TL_indexAddr1n TE (hk := ?_) | refine TL_nilCheck (hk := ?_))); refine TL_nil_p ?_); (refine TA_take 1 rfl (by kernel_rfl) (by kernel_rfl) (by kernel_rfl) ?_; (repeat (first | refine TL_move (hk := ?_) | refine TLP_load TE (hk := ?_) | refine TLP_load_rd TE (hk := ?_) | refine TL_fieldAddr TE (hk := ?_) | refine TL_indexAddr1n TE (hk := ?_) | refine TL_nilCheck (hk := ?_))); refine TL_nil_p ?_); (refine TA_take 2 rfl (by kernel_rfl) (by kernel_rfl) (by kernel_rfl) ?_; (repeat (first | refine TL_move (hk := ?_) | refine TLP_load TE (hk := ?_) | refine TLP_load_rd TE (hk := ?_) | refine TL_fieldAddr TE (hk := ?_) | refine TL_indexAddr1n TE (hk := ?_) | refine TL_nilCheck (hk := ?_))); refine TL_nil_p ?_); (refine TA_take 3 rfl (by kernel_rfl) (by kernel_rfl) (by kernel_rfl) ?_; (repeat (first | refine TL_move (hk := ?_) | refine TLP_load TE (hk := ?_) | refine TLP_load_rd TE (hk := ?_) | refine TL_fieldAddr TE (hk := ?_) | refine TL_indexAddr1n TE (hk := ?_) | refine TL_nilCheck (hk := ?_))); refine TL_nil_p ?_); (refine TA_take 4 rfl (by kernel_rfl) (by kernel_rfl) (by kernel_rfl) ?_; (repeat (first | refine TL_move (hk := ?_) | refine TLP_load TE (hk := ?_) | refine TLP_load_rd TE (hk := ?_) | refine TL_fieldAddr TE (hk := ?_) | refine TL_indexAddr1n TE (hk := ?_) | refine TL_nilCheck (hk := ?_))); refine TL_nil_p ?_); (refine TA_take 5 rfl (by kernel_rfl) (by kernel_rfl) (by kernel_rfl) ?_; (repeat (first | refine TL_move (hk := ?_) | refine TLP_load TE (hk := ?_) | refine TLP_load_rd TE (hk := ?_) | refine TL_fieldAddr TE (hk := ?_) | refine TL_indexAddr1n TE (hk := ?_) | refine TL_nilCheck (hk := ?_))); refine TL_nil_p ?_); (refine TA_take 6 rfl (by kernel_rfl) (by kernel_rfl) (by kernel_rfl) ?_; (repeat (first | refine TL_move (hk := ?_) | refine TLP_load TE (hk := ?_) | refine TLP_load_rd TE (hk := ?_) | refine TL_fieldAddr TE (hk := ?_) | refine TL_indexAddr1n TE (hk := ?_) | refine TL_nilCheck (hk := ?_))); refine TL_nil_p ?_); (refine TA_take 7 rfl (by kernel_rfl) (by kernel_rfl) (by kernel_rfl) ?_; (repeat (first | refine TL_move (hk := ?_) | refine TLP_load TE (hk := ?_) | refine TLP_load_rd TE (hk := ?_) | refine TL_fieldAddr TE (hk := ?_) | refine TL_indexAddr1n TE (hk := ?_) | refine TL_nilCheck (hk := ?_))); refine TL_nil_p ?_)
      (refine TA_one 8 rfl (by kernel_rfl) (by kernel_rfl) ?_; (repeat (refine TL_gt_t (hk := ?_))); refine TL_nil_p ?_)
      refine TA_done (by kernel_rfl) ?_
      repeat (first | refine T_seq ?_ | refine T_region ?_ | refine T_cond_true rfl ?_ | refine TL_nil ?_ | refine TL_assign (hk := ?_))
      exact T_ret1 rfl rfl ⟨rfl, Ext.un (((e2.ext e4).ext e5).ext e6)⟩
    · repeat (first | refine T_seq ?_ | refine T_region ?_ | refine T_cond_true rfl ?_ | refine T_block ?_ | refine T_skip ?_ | refine TL_lt_t (hk := ?_) | refine TL_nil ?_ | refine TL_move (hk := ?_) | refine TL_load TE (hk := ?_) | refine TL_fieldAddr TE (hk := ?_) | refine TL_nilCheck (hk := ?_))
      refine T_region_any TE.mixed ([] : List Nat) ?_; intro w6 e6 z6
      have hb6 := hb5.be e6
      have or6 := or5.be e6
      (refine TA_take 0 rfl (by kernel_rfl) (by kernel_rfl) (by kernel_rfl) ?_; (repeat (first | refine TL_move (hk := ?_) | refine TLP_load TE (hk := ?_) | refine TLP_load_rd TE (hk := ?_) | refine TL_fieldAddr TE (hk := ?_) | refine TL_indexAddr1n TE (hk := ?_) | refine TL_nilCheck (hk := ?_))); refine TL_nil_p ?_); (refine TA_take 1 rfl (by kernel_rfl) (by kernel_rfl) (by kernel_rfl) ?_; (repeat (first | refine TL_move (hk := ?_) | refine TLP_load TE (hk := ?_) | refine TLP_load_rd TE (hk := ?_) | refine TL_fieldAddr TE (hk := ?_) | refine TL_indexAddr1n TE (hk := ?_) | refine TL_nilCheck (hk := ?_))); refine TL_nil_p ?_); (refine TA_take 2 rfl (by kernel_rfl) (by kernel_rfl) (by kernel_rfl) ?_; (repeat (first | refine TL_move (hk := ?_) | refine TLP_load TE (hk := ?_) | refine TLP_load_rd TE (hk := ?_) | refine TL_fieldAddr TE (hk := ?_) | refine TL_indexAddr1n TE (hk := ?_) | refine TL_nilCheck (hk := ?_))); refine TL_nil_p ?_); (refine TA_take 3 rfl (by kernel_rfl) (by kernel_rfl) (by kernel_rfl) ?_; (repeat (first | refine TL_move (hk := ?_) | refine TLP_load TE (hk := ?_) | refine TLP_load_rd TE (hk := ?_) | refine TL_fieldAddr TE (hk := ?_) | refine TL_indexAddr1n TE (hk := ?_) | refine TL_nilCheck (hk := ?_))); refine TL_nil_p ?_); (refine TA_take 4 rfl (by kernel_rfl) (by kernel_rfl) (by kernel_rfl) ?_; (repeat (first | refine TL_move (hk := ?_) | refine TLP_load TE (hk := ?_) | refine TLP_load_rd TE (hk := ?_) | refine TL_fieldAddr TE (hk := ?_) | refine TL_indexAddr1n TE (hk := ?_) | refine TL_nilCheck (hk := ?_))); refine TL_nil_p ?_); (refine TA_take 5 rfl (by kernel_rfl) (by kernel_rfl) (by kernel_rfl) ?_; (repeat (first | refine TL_move (hk := ?_) | refine TLP_load TE (hk := ?_) | refine TLP_load_rd TE (hk := ?_) | refine TL_fieldAddr TE (hk := ?_) | refine TL_indexAddr1n TE (hk := ?_) | refine TL_nilCheck (hk := ?_))); refine TL_nil_p ?_); (refine TA_take 6 rfl (by kernel_rfl) (by kernel_rfl) (by kernel_rfl) ?_; (repeat (first | refine TL_move (hk := ?_) | refine TLP_load TE (hk := ?_) | refine TLP_load_rd TE (hk := ?_) | refine TL_fieldAddr TE (hk := ?_) | refine TL_indexAddr1n TE (hk := ?_) | refine TL_nilCheck (hk := ?_))); refine TL_nil_p ?_); (refine TA_take 7 rfl (by kernel_rfl) (by kernel_rfl) (by kernel_rfl) ?_; (repeat (first | refine TL_move (hk := ?_) | refine TLP_load TE (hk := ?_) | refine TLP_load_rd TE (hk := ?_) | refine TL_fieldAddr TE (hk := ?_) | refine TL_indexAddr1n TE (hk := ?_) | refine TL_nilCheck (hk := ?_))); refine TL_nil_p ?_)
      (refine TA_one 8 rfl (by kernel_rfl) (by kernel_rfl) ?_; (repeat (refine TL_gt_f (hk := ?_))); refine TL_nil_p ?_)
      refine TA_done (by kernel_rfl) ?_
      repeat (first | refine T_region ?_ | refine T_cond_false rfl ?_ | refine T_inBlock ?_ | refine T_skip ?_ | refine TL_add (hk := ?_) | refine TL_nil ?_ | refine TL_move (hk := ?_) | refine TL_assign (hk := ?_))
      exact ih (j + 1) w6 _ (by omega) ⟨by omega, e5.ext e6, fun p hp => by
        by_cases q : p = j
        · rw [q, full0 P r ks j hR.1]; exact decide_eq_false hful
        · exact hu p (by omega)⟩ (.c rfl (.c rfl (.c rfl (.c rfl (.n)))))
  clear ih
  have hany : (List.range (newSt P r).C.length).any (fullB (newSt P r) ks) = false := by
    rw [List.any_eq_false]
    intro p hp
    rw [List.mem_range, hCl] at hp
    simp [hu p (by omega)]
  rw [if_neg (by rw [hany]; simp)]
  have E5 := (e2.ext e4).ext e5
  clear hu hany o4 o5 or5 hb4 rd4
  repeat (first | refine T_seq ?_ | refine T_region ?_ | refine T_cond_false rfl ?_ | refine T_block ?_ | refine T_exit rfl ?_ | refine TL_lt_f (hk := ?_) | refine TL_nil ?_ | refine TL_move (hk := ?_) | refine TL_assign (hk := ?_) | refine TL_load TE (hk := ?_) | refine TL_fieldAddr TE (hk := ?_) | refine TL_nilCheck (hk := ?_))
  refine T_loop (ι := Nat) (fun i => [(11, .int .i64 (i : Int)), (7, .slice (some ⟨bM, 0, none⟩) P P), (0, pB b), (1, .slice A n c)]) (fun i w' => i ≤ n ∧ Eng.Mod [b] w w' ∧ ∃ (x : SL) (l : List Tx), Blk w' b 89 [.int .i64 (P : Int), .int .i64 (r : Int), sL x] ∧ Own w' w.heap.size 108 4 x.1 x.2.1 x.2.2 (rowV itV l) ∧ x.2.1 ≤ i) (fun i => n - i) 0 (.c rfl (.c rfl (.c rfl (.c rfl (.n))))) ⟨Nat.zero_le _, Ext.un E5, (none, 0, 0), [], hb5, Own.nil _ _ _ _, Nat.le_refl _⟩ ?_
  clear hb5 E5
  rintro i w9 ⟨hi9, m9, x9, l9, hb9, o9, hx9⟩ ih
  have rd9 := rd.mod m9 (off_ofL fun u q q' => by rw [List.mem_singleton] at q'; subst q'; exact hA q)
  by_cases hlt9 : i < n
  · have hA9 : A ≠ none := by obtain ⟨_, _, hq, _⟩ := rd9.2 (by omega); rw [hq]; simp
    obtain ⟨key, hkey⟩ : ∃ key, ks.getD i [] = key := ⟨_, rfl⟩
    have hl9 : l9.length = x9.2.1 := by have := o9.len; rw [rowV_len itV_len] at this; omega
    have hcap := o9.cap
    repeat (first | refine T_seq ?_ | refine T_region ?_ | refine T_cond_true rfl ?_ | refine T_block ?_ | refine T_skip ?_ | refine TL_lt_t (hk := ?_) | refine TL_nil ?_ | refine TL_move (hk := ?_) | refine TL_indexAddr1n TE (hk := ?_) | refine TL_len TE (hk := ?_) | refine TL_load_s TE (hk := ?_))
    rw [hkey]
    --
    refine TL_call TE (hc := at_c15 b (P : Int) (r : Int) x9 l9 key w9 hb9 o9.rd (by omega)) (hk := ?_)
    rintro _ w9' ⟨p, t, rfl, hp, _, e9⟩
    replace m9 := m9.trans (Ext.un e9)
    replace hb9 := hb9.be e9
    replace o9 := o9.be e9
    replace rd9 := rd9.be e9
    clear e9
    rename_i w9o
    generalize w9' = w9 at *
    cases t with
    | true =>
      repeat (first | refine T_seq ?_ | refine T_region ?_ | refine T_cond_false rfl ?_ | refine T_inBlock ?_ | refine T_skip ?_ | refine TL_add (hk := ?_) | refine TL_nil ?_ | refine TL_move (hk := ?_) | refine TL_assign (hk := ?_) | refine TL_extract (hk := ?_) | refine TL_not (hk := ?_))
      exact ih (i + 1) w9 _ (by omega) ⟨by omega, m9, x9, l9, hb9, o9, by omega⟩ (.c rfl (.c rfl (.c rfl (.c rfl (.n)))))
    | false =>
      have hbD : b ∉ ([] : List Nat) := by simp
      have hAD : Off A ([] : List Nat) := .nil _
      have hxD : Off x9.1 ([] : List Nat) := .nil _
      repeat (first | refine T_seq ?_ | refine T_region ?_ | refine T_cond_true rfl ?_ | refine TL_nil ?_ | refine TL_move (hk := ?_) | refine TL_assign (hk := ?_) | refine TL_extract (hk := ?_) | refine TL_not (hk := ?_))
      refine T_region_anyz TE.mixed ([] : List Nat) (some 25) ?_; intro w10 e10 z10
      have hb10 := hb9.be e10
      have o10 := o9.be e10
      have rd10 := rd9.be e10
      have rtake : Rd w10 x9.1 p 4 (rowV itV (l9.take p)) := by rw [← rowV_take itV_len]; exact o10.rd.take hp
      have rdrop : Rd w10 (cutA x9.1 x9.2.2 p 4) (x9.2.1 - p) 4 (rowV itV (l9.drop p)) := by
        have := Rd.cut (l := p) (h := x9.2.1) o10.rd hp (Nat.le_refl _) hcap.1
        rw [rowV_drop itV_len, List.take_of_length_le (by rw [rowV_len itV_len, List.length_drop, hl9]; exact Nat.le_refl _)] at this
        exact this
      (refine TA_take 0 rfl (by kernel_rfl) (by kernel_rfl) (by kernel_rfl) ?_; (repeat (first | refine TL_move (hk := ?_) | refine TLP_load TE (hk := ?_) | refine TLP_load_s TE (hk := ?_) | refine TL_fieldAddr TE (hk := ?_) | refine TL_indexAddr1n TE (hk := ?_) | refine TL_nilCheck (hk := ?_) | refine TL_slice_hi TE (hk := ?_))); refine TL_nil_p ?_); (refine TA_take 2 rfl (by kernel_rfl) (by kernel_rfl) (by kernel_rfl) ?_; (repeat (first | refine TL_move (hk := ?_) | refine TLP_load TE (hk := ?_) | refine TLP_load_s TE (hk := ?_) | refine TL_fieldAddr TE (hk := ?_) | refine TL_indexAddr1n TE (hk := ?_) | refine TL_nilCheck (hk := ?_) | refine TL_slice_hi TE (hk := ?_))); refine TL_nil_p ?_); (refine TA_take 3 rfl (by kernel_rfl) (by kernel_rfl) (by kernel_rfl) ?_; (repeat (first | refine TL_move (hk := ?_) | refine TLP_load TE (hk := ?_) | refine TLP_load_s TE (hk := ?_) | refine TL_fieldAddr TE (hk := ?_) | refine TL_indexAddr1n TE (hk := ?_) | refine TL_nilCheck (hk := ?_) | refine TL_slice_hi TE (hk := ?_))); refine TL_nil_p ?_); (refine TA_take 4 rfl (by kernel_rfl) (by kernel_rfl) (by kernel_rfl) ?_; (repeat (first | refine TL_move (hk := ?_) | refine TLP_load TE (hk := ?_) | refine TLP_load_s TE (hk := ?_) | refine TL_fieldAddr TE (hk := ?_) | refine TL_indexAddr1n TE (hk := ?_) | refine TL_nilCheck (hk := ?_) | refine TL_slice_hi TE (hk := ?_))); refine TL_nil_p ?_); (refine TA_take 5 rfl (by kernel_rfl) (by kernel_rfl) (by kernel_rfl) ?_; (repeat (first | refine TL_move (hk := ?_) | refine TLP_load TE (hk := ?_) | refine TLP_load_s TE (hk := ?_) | refine TL_fieldAddr TE (hk := ?_) | refine TL_indexAddr1n TE (hk := ?_) | refine TL_nilCheck (hk := ?_) | refine TL_slice_hi TE (hk := ?_))); refine TL_nil_p ?_); (refine TA_take 6 rfl (by kernel_rfl) (by kernel_rfl) (by kernel_rfl) ?_; (repeat (first | refine TL_move (hk := ?_) | refine TLP_load TE (hk := ?_) | refine TLP_load_s TE (hk := ?_) | refine TL_fieldAddr TE (hk := ?_) | refine TL_indexAddr1n TE (hk := ?_) | refine TL_nilCheck (hk := ?_) | refine TL_slice_hi TE (hk := ?_))); refine TL_nil_p ?_); (refine TA_take 7 rfl (by kernel_rfl) (by kernel_rfl) (by kernel_rfl) ?_; (repeat (first | refine TL_move (hk := ?_) | refine TLP_load TE (hk := ?_) | refine TLP_load_s TE (hk := ?_) | refine TL_fieldAddr TE (hk := ?_) | refine TL_indexAddr1n TE (hk := ?_) | refine TL_nilCheck (hk := ?_) | refine TL_slice_hi TE (hk := ?_))); refine TL_nil_p ?_); (refine TA_take 9 rfl (by kernel_rfl) (by kernel_rfl) (by kernel_rfl) ?_; (repeat (first | refine TL_move (hk := ?_) | refine TLP_load TE (hk := ?_) | refine TLP_load_s TE (hk := ?_) | refine TL_fieldAddr TE (hk := ?_) | refine TL_indexAddr1n TE (hk := ?_) | refine TL_nilCheck (hk := ?_) | refine TL_slice_hi TE (hk := ?_))); refine TL_nil_p ?_); (refine TA_take 10 rfl (by kernel_rfl) (by kernel_rfl) (by kernel_rfl) ?_; (repeat (first | refine TL_move (hk := ?_) | refine TLP_load TE (hk := ?_) | refine TLP_load_s TE (hk := ?_) | refine TL_fieldAddr TE (hk := ?_) | refine TL_indexAddr1n TE (hk := ?_) | refine TL_nilCheck (hk := ?_) | refine TL_slice_hi TE (hk := ?_))); refine TL_nil_p ?_); (refine TA_take 11 rfl (by kernel_rfl) (by kernel_rfl) (by kernel_rfl) ?_; (repeat (first | refine TL_move (hk := ?_) | refine TLP_load TE (hk := ?_) | refine TLP_load_s TE (hk := ?_) | refine TL_fieldAddr TE (hk := ?_) | refine TL_indexAddr1n TE (hk := ?_) | refine TL_nilCheck (hk := ?_) | refine TL_slice_hi TE (hk := ?_))); refine TL_nil_p ?_); (refine TA_take 12 rfl (by kernel_rfl) (by kernel_rfl) (by kernel_rfl) ?_; (repeat (first | refine TL_move (hk := ?_) | refine TLP_load TE (hk := ?_) | refine TLP_load_s TE (hk := ?_) | refine TL_fieldAddr TE (hk := ?_) | refine TL_indexAddr1n TE (hk := ?_) | refine TL_nilCheck (hk := ?_) | refine TL_slice_hi TE (hk := ?_))); refine TL_nil_p ?_)
      rw [hkey]
      (refine TA_take 13 rfl (by kernel_rfl) (by kernel_rfl) (by kernel_rfl) ?_; (repeat (first | refine TL_move (hk := ?_) | refine TLP_load TE (hk := ?_) | refine TL_fieldAddr TE (hk := ?_) | refine TL_nilCheck (hk := ?_) | refine TL_slice_lo TE (hk := ?_) | refine TL_build TE (hk := ?_))); refine TL_nil_p ?_); (refine TA_take 16 rfl (by kernel_rfl) (by kernel_rfl) (by kernel_rfl) ?_; (repeat (first | refine TL_move (hk := ?_) | refine TLP_load TE (hk := ?_) | refine TL_fieldAddr TE (hk := ?_) | refine TL_nilCheck (hk := ?_) | refine TL_slice_lo TE (hk := ?_) | refine TL_build TE (hk := ?_))); refine TL_nil_p ?_); (refine TA_take 17 rfl (by kernel_rfl) (by kernel_rfl) (by kernel_rfl) ?_; (repeat (first | refine TL_move (hk := ?_) | refine TLP_load TE (hk := ?_) | refine TL_fieldAddr TE (hk := ?_) | refine TL_nilCheck (hk := ?_) | refine TL_slice_lo TE (hk := ?_) | refine TL_build TE (hk := ?_))); refine TL_nil_p ?_); (refine TA_take 18 rfl (by kernel_rfl) (by kernel_rfl) (by kernel_rfl) ?_; (repeat (first | refine TL_move (hk := ?_) | refine TLP_load TE (hk := ?_) | refine TL_fieldAddr TE (hk := ?_) | refine TL_nilCheck (hk := ?_) | refine TL_slice_lo TE (hk := ?_) | refine TL_build TE (hk := ?_))); refine TL_nil_p ?_); (refine TA_take 19 rfl (by kernel_rfl) (by kernel_rfl) (by kernel_rfl) ?_; (repeat (first | refine TL_move (hk := ?_) | refine TLP_load TE (hk := ?_) | refine TL_fieldAddr TE (hk := ?_) | refine TL_nilCheck (hk := ?_) | refine TL_slice_lo TE (hk := ?_) | refine TL_build TE (hk := ?_))); refine TL_nil_p ?_); (refine TA_take 20 rfl (by kernel_rfl) (by kernel_rfl) (by kernel_rfl) ?_; (repeat (first | refine TL_move (hk := ?_) | refine TLP_load TE (hk := ?_) | refine TL_fieldAddr TE (hk := ?_) | refine TL_nilCheck (hk := ?_) | refine TL_slice_lo TE (hk := ?_) | refine TL_build TE (hk := ?_))); refine TL_nil_p ?_); (refine TA_take 21 rfl (by kernel_rfl) (by kernel_rfl) (by kernel_rfl) ?_; (repeat (first | refine TL_move (hk := ?_) | refine TLP_load TE (hk := ?_) | refine TL_fieldAddr TE (hk := ?_) | refine TL_nilCheck (hk := ?_) | refine TL_slice_lo TE (hk := ?_) | refine TL_build TE (hk := ?_))); refine TL_nil_p ?_)
      refine TA_two 1 14 rfl rfl (by kernel_rfl) (by kernel_rfl) ?_ ?_
      · refine TL_buildSlice0 TE (hf := rfl) (hq := fun w' h => Ext.un (h)) (hk := ?_); intro bA wA eA qA qA' kA
        have oA : Own wA w10.heap.size 108 4 (some ⟨bA, 0, none⟩) 0 0 [] := Own.of_blk kA qA rfl (by decide)
        have EA : Ext w10 wA := eA
        have hiA := oA.hi
        refine TL_nil_p ?_
        refine TA_two 8 14 rfl rfl (by kernel_rfl) (by kernel_rfl) ?_ ?_
        · refine TL_append TE (ho := oA) (hr := rtake.be EA) (h1 := rowV_one itV_one _) (hf := rfl) (hq := fun w' m => Ext.un (EA.own m oA.hi)) (hk := ?_); intro A8 c8 w8 o8 m8 n8
          rw [List.nil_append] at o8
          have E8 := EA.own m8 hiA
          refine TL_nil_p ?_
          refine TA_one 14 rfl (by kernel_rfl) (by kernel_rfl) ?_
          refine TL_buildSliceA TE (hf := rfl) (hq := fun w' h => Ext.un (E8.ext (h))) (hk := ?_); intro bB wB eB qB qB' kB
          replace kB : Blk wB bB 108 (rowV itV [key]) := kB
          have rB : Rd wB (some ⟨bB, 0, none⟩) 1 4 (rowV itV [key]) := Rd.blk kB rfl
          have E15 := E8.ext eB
          have o8 := o8.be eB
          have r14 := rB
          have zA := eA.size
          have z15 := E15.size
          refine TL_nil_p ?_
          refine TA_one 15 rfl (by kernel_rfl) (by kernel_rfl) ?_
          refine TL_append TE (ho := o8) (hr := r14) (h1 := rowV_one itV_one _) (hf := rfl) (hq := fun w' m => Ext.un (E15.own m o8.hi)) (hk := ?_); intro A15 c15 w15 o15 m15 n15
          rw [← rowV_append] at o15
          have E16 := E15.own m15 o8.hi
          have h15 := o15.hi
          have z16 := E16.size
          refine TL_nil_p ?_
          refine TA_one 22 rfl (by kernel_rfl) (by kernel_rfl) ?_
          refine TL_append TE (ho := o15) (hr := rdrop.be E16) (h1 := rowV_one itV_one _) (hf := rfl) (hq := fun w' m => Ext.un (E16.own m o15.hi)) (hk := ?_); intro A22 c22 w22 o22 m22 n22
          rw [← rowV_append] at o22
          have E23 := E16.own m22 o15.hi
          have hb23 := hb10.be E23
          refine TL_nil_p ?_
          (refine TA_one 23 rfl (by kernel_rfl) (by kernel_rfl) ?_; (repeat (first | refine TL_fieldAddr TE (hk := ?_) | refine TL_nilCheck (hk := ?_))); refine TL_nil_p ?_); (refine TA_one 24 rfl (by kernel_rfl) (by kernel_rfl) ?_; (repeat (first | refine TL_fieldAddr TE (hk := ?_) | refine TL_nilCheck (hk := ?_))); refine TL_nil_p ?_)
          refine TA_one 25 rfl (by kernel_rfl) (by kernel_rfl) ?_
          refine TL_store TE (hb := hb23) (hf := rfl) (hq := fun _ _ _ => trivial) (hk := ?_); intro w25 m25 z25 k25
          refine TL_nil_z (by kernel_rfl) ?_
          have z10 := e10.size
          have z9 := m9.size
          have hbl22 : ∀ u ∈ blkL A22, u ∉ [b] := fun u q q' => by
            rw [List.mem_singleton] at q'
            have := (o22.bl u q).1
            have := hb.lt
            omega
          repeat (first | refine T_region ?_ | refine T_inBlock ?_ | refine TL_add (hk := ?_) | refine TL_nil ?_ | refine TL_move (hk := ?_) | refine TL_assign (hk := ?_))
          exact ih (i + 1) w25 _ (by omega) ⟨by omega, ((m9.trans (Ext.un e10)).trans (Ext.un E23)).trans m25, (A22, 0 + p + 1 + (x9.2.1 - p), c22), l9.take p ++ [key] ++ l9.drop p, k25, (Own.weaken (o22.modL m25 hbl22) (by omega)), by simp only; omega⟩ (.c rfl (.c rfl (.c rfl (.c rfl (.n)))))
        · refine TL_buildSliceA TE (hf := rfl) (hq := fun w' h => Ext.un (EA.ext (h))) (hk := ?_); intro bB wB eB qB qB' kB
          replace kB : Blk wB bB 108 (rowV itV [key]) := kB
          have rB : Rd wB (some ⟨bB, 0, none⟩) 1 4 (rowV itV [key]) := Rd.blk kB rfl
          have EB := EA.ext eB
          refine TL_nil_p ?_
          refine TA_one 8 rfl (by kernel_rfl) (by kernel_rfl) ?_
          refine TL_append TE (ho := oA.be eB) (hr := rtake.be EB) (h1 := rowV_one itV_one _) (hf := rfl) (hq := fun w' m => Ext.un (EB.own m oA.hi)) (hk := ?_); intro A8 c8 w8 o8 m8 n8
          rw [List.nil_append] at o8
          have E15 := EB.own m8 hiA
          have zA := eA.size
          have r14 := rB.mod m8 (off_ofL fun u q q' => by
            simp [blkL] at q q'
            omega)
          have z15 := E15.size
          refine TL_nil_p ?_
          refine TA_one 15 rfl (by kernel_rfl) (by kernel_rfl) ?_
          refine TL_append TE (ho := o8) (hr := r14) (h1 := rowV_one itV_one _) (hf := rfl) (hq := fun w' m => Ext.un (E15.own m o8.hi)) (hk := ?_); intro A15 c15 w15 o15 m15 n15
          rw [← rowV_append] at o15
          have E16 := E15.own m15 o8.hi
          have h15 := o15.hi
          have z16 := E16.size
          refine TL_nil_p ?_
          refine TA_one 22 rfl (by kernel_rfl) (by kernel_rfl) ?_
          refine TL_append TE (ho := o15) (hr := rdrop.be E16) (h1 := rowV_one itV_one _) (hf := rfl) (hq := fun w' m => Ext.un (E16.own m o15.hi)) (hk := ?_); intro A22 c22 w22 o22 m22 n22
          rw [← rowV_append] at o22
          have E23 := E16.own m22 o15.hi
          have hb23 := hb10.be E23
          refine TL_nil_p ?_
          (refine TA_one 23 rfl (by kernel_rfl) (by kernel_rfl) ?_; (repeat (first | refine TL_fieldAddr TE (hk := ?_) | refine TL_nilCheck (hk := ?_))); refine TL_nil_p ?_); (refine TA_one 24 rfl (by kernel_rfl) (by kernel_rfl) ?_; (repeat (first | refine TL_fieldAddr TE (hk := ?_) | refine TL_nilCheck (hk := ?_))); refine TL_nil_p ?_)
          refine TA_one 25 rfl (by kernel_rfl) (by kernel_rfl) ?_
          refine TL_store TE (hb := hb23) (hf := rfl) (hq := fun _ _ _ => trivial) (hk := ?_); intro w25 m25 z25 k25
          refine TL_nil_z (by kernel_rfl) ?_
          have z10 := e10.size
          have z9 := m9.size
          have hbl22 : ∀ u ∈ blkL A22, u ∉ [b] := fun u q q' => by
            rw [List.mem_singleton] at q'
            have := (o22.bl u q).1
            have := hb.lt
            omega
          repeat (first | refine T_region ?_ | refine T_inBlock ?_ | refine TL_add (hk := ?_) | refine TL_nil ?_ | refine TL_move (hk := ?_) | refine TL_assign (hk := ?_))
          exact ih (i + 1) w25 _ (by omega) ⟨by omega, ((m9.trans (Ext.un e10)).trans (Ext.un E23)).trans m25, (A22, 0 + p + 1 + (x9.2.1 - p), c22), l9.take p ++ [key] ++ l9.drop p, k25, (Own.weaken (o22.modL m25 hbl22) (by omega)), by simp only; omega⟩ (.c rfl (.c rfl (.c rfl (.c rfl (.n)))))
      · refine TL_buildSliceA TE (hf := rfl) (hq := fun w' h => Ext.un (h)) (hk := ?_); intro bB wB eB qB qB' kB
        replace kB : Blk wB bB 108 (rowV itV [key]) := kB
        have rB : Rd wB (some ⟨bB, 0, none⟩) 1 4 (rowV itV [key]) := Rd.blk kB rfl
        have EB : Ext w10 wB := eB
        refine TL_nil_p ?_
        refine TA_one 1 rfl (by kernel_rfl) (by kernel_rfl) ?_
        refine TL_buildSlice0 TE (hf := rfl) (hq := fun w' h => Ext.un (EB.ext (h))) (hk := ?_); intro bA wA eA qA qA' kA
        have oA : Own wA wB.heap.size 108 4 (some ⟨bA, 0, none⟩) 0 0 [] := Own.of_blk kA qA rfl (by decide)
        have EA := EB.ext eA
        have hiA := oA.hi
        refine TL_nil_p ?_
        refine TA_one 8 rfl (by kernel_rfl) (by kernel_rfl) ?_
        refine TL_append TE (ho := oA) (hr := rtake.be EA) (h1 := rowV_one itV_one _) (hf := rfl) (hq := fun w' m => Ext.un (EB.ext (eA.own m oA.hi))) (hk := ?_); intro A8 c8 w8 o8 m8 n8
        rw [List.nil_append] at o8
        have E15 := EB.ext (eA.own m8 hiA)
        have r14 := (rB.be eA).mod m8 (off_ofL fun u q q' => by
          simp [blkL] at q q'
          omega)
        have zB := eB.size
        have o8 := Own.weaken (base' := w10.heap.size) o8 zB
        have z15 := E15.size
        refine TL_nil_p ?_
        refine TA_one 15 rfl (by kernel_rfl) (by kernel_rfl) ?_
        refine TL_append TE (ho := o8) (hr := r14) (h1 := rowV_one itV_one _) (hf := rfl) (hq := fun w' m => Ext.un (E15.own m o8.hi)) (hk := ?_); intro A15 c15 w15 o15 m15 n15
        rw [← rowV_append] at o15
        have E16 := E15.own m15 o8.hi
        have h15 := o15.hi
        have z16 := E16.size
        refine TL_nil_p ?_
        refine TA_one 22 rfl (by kernel_rfl) (by kernel_rfl) ?_
        refine TL_append TE (ho := o15) (hr := rdrop.be E16) (h1 := rowV_one itV_one _) (hf := rfl) (hq := fun w' m => Ext.un (E16.own m o15.hi)) (hk := ?_); intro A22 c22 w22 o22 m22 n22
        rw [← rowV_append] at o22
        have E23 := E16.own m22 o15.hi
        have hb23 := hb10.be E23
        refine TL_nil_p ?_
        (refine TA_one 23 rfl (by kernel_rfl) (by kernel_rfl) ?_; (repeat (first | refine TL_fieldAddr TE (hk := ?_) | refine TL_nilCheck (hk := ?_))); refine TL_nil_p ?_); (refine TA_one 24 rfl (by kernel_rfl) (by kernel_rfl) ?_; (repeat (first | refine TL_fieldAddr TE (hk := ?_) | refine TL_nilCheck (hk := ?_))); refine TL_nil_p ?_)
        refine TA_one 25 rfl (by kernel_rfl) (by kernel_rfl) ?_
        refine TL_store TE (hb := hb23) (hf := rfl) (hq := fun _ _ _ => trivial) (hk := ?_); intro w25 m25 z25 k25
        refine TL_nil_z (by kernel_rfl) ?_
        have z10 := e10.size
        have z9 := m9.size
        have hbl22 : ∀ u ∈ blkL A22, u ∉ [b] := fun u q q' => by
          rw [List.mem_singleton] at q'
          have := (o22.bl u q).1
          have := hb.lt
          omega
        repeat (first | refine T_region ?_ | refine T_inBlock ?_ | refine TL_add (hk := ?_) | refine TL_nil ?_ | refine TL_move (hk := ?_) | refine TL_assign (hk := ?_))
        exact ih (i + 1) w25 _ (by omega) ⟨by omega, ((m9.trans (Ext.un e10)).trans (Ext.un E23)).trans m25, (A22, 0 + p + 1 + (x9.2.1 - p), c22), l9.take p ++ [key] ++ l9.drop p, k25, (Own.weaken (o22.modL m25 hbl22) (by omega)), by simp only; omega⟩ (.c rfl (.c rfl (.c rfl (.c rfl (.n)))))

  · clear ih
    repeat (first | refine T_seq ?_ | refine T_region ?_ | refine T_cond_false rfl ?_ | refine T_exit rfl ?_ | refine TL_lt_f (hk := ?_) | refine TL_nil ?_ | refine TL_move (hk := ?_) | refine TL_assign (hk := ?_) | refine TL_len TE (hk := ?_))
    exact T_ret1 rfl rfl ⟨rfl, m9⟩
end Go.Proofs.YtgdbckjkeofoaaaGreat

/- Of each queue a beginning is granted; who is ready stays so. -/
namespace Go.Proofs.YtgdbckjkeofoaaaGreat
open Go.RowKit Go.Proofs.Eng Go.Proofs.Foot Go.Proofs.Locks
set_option linter.unusedSimpArgs false
set_option linter.unusedVariables false set_option maxRecDepth 10000
attribute [local irreducible] T TL LV TH TA
structure QueueOk (q : List Akk) (g : Nat) : Prop where
  le : g ≤ q.length
  pos : 0 < q.length → 1 ≤ g
  rd : ∀ i, 1 ≤ i → i < g → (q.getD i ak0).2 = false ∧ (q.getD 0 ak0).2 = false
  wr : ∀ i, g ≤ i → i < q.length → (q.getD i ak0).2 = true ∨ ∃ j, j < i ∧ (q.getD j ak0).2 = true
/-- Who is behind changes nothing. -/
theorem ahead_append {E X : List Ent} {s : Int} {l : List Lk} (h : eget E s = some l) : aheadE (E ++ X) s = aheadE E s ∧ eget (E ++ X) s = some l := by
  constructor
  · obtain ⟨E2, h1, h2⟩ := split_at h
    unfold aheadE at h1 h2 ⊢
    generalize E.takeWhile (fun e => !decide (e.1 = s)) = P at h1 h2
    rw [h1, List.append_assoc, List.cons_append]
    have key : ∀ (P : List Ent) (R : List Ent), (∀ e ∈ P, e.1 ≠ s) → (P ++ (s, l) :: R).takeWhile (fun e => !decide (e.1 = s)) = P := by
      intro P
      induction P with
      | nil => intro R _; simp
      | cons e P ih =>
        intro R hP
        have h0 := hP e List.mem_cons_self
        rw [List.cons_append, List.takeWhile_cons]
        simp only [h0, decide_false, Bool.not_false, if_true]
        rw [ih R (fun x hx => hP x (List.mem_cons_of_mem _ hx))]
    exact key P _ h2
  · rw [show eget (E ++ X) s = (eget E s).or (eget X s) from eget_append E X s, h]
    rfl
end Go.Proofs.YtgdbckjkeofoaaaGreat

/- Rows as the statements keep them. -/
namespace Go.Proofs.YtgdbckjkeofoaaaGreat
open Go.RowKit Go.Proofs.Eng Go.Proofs.Foot Go.Proofs.Locks
set_option linter.unusedSimpArgs false
set_option linter.unusedVariables false set_option maxRecDepth 10000
attribute [local irreducible] T TL LV TH TA
def clash2 (a b : List Lk) : Bool := a.any fun x => b.any fun y => decide (x.1 = y.1) && (x.2 || y.2)
structure RE where
  s : Int
  A : Option Addr
  n : Nat
  c : Nat
  was : Bool
  l : List Lk
def re0 : RE := ⟨0, none, 0, 0, false, []⟩
def rwV (r : RE) : List Value := [.int .i64 r.s, .slice r.A r.n r.c, .bool r.was]
def entR (r : RE) : Ent := (r.s, r.l)
def aloneB (rs : List RE) (k : Nat) : Bool := (rs.take k).all fun r => !clash2 r.l (rs.getD k re0).l
section
variable {t : LS} {N : Nat} {rs : List RE}
end
end Go.Proofs.YtgdbckjkeofoaaaGreat

/- The scheduler: who flies, who is ready, whatever is done. -/
namespace Go.Proofs.YtgdbckjkeofoaaaGreat
open Go.RowKit Go.Proofs.Eng Go.Proofs.Foot Go.Proofs.Locks Go.Proofs.Sched
set_option linter.unusedSimpArgs false
set_option linter.unusedVariables false set_option maxRecDepth 10000
attribute [local irreducible] T TL LV TH TA
def stE (E : List EnE) (i : Nat) : Nat := (E.getD i en0).st
def flyB (z : Nat) : Bool := decide (z = 2 ∨ z = 3 ∨ z = 4)
def entA (E : List EnE) (i : Nat) : Ent := ((i : Int), locksT (E.getD i en0).rd (E.getD i en0).wr)
def flyL (E : List EnE) (n : Nat) : List Ent := ((List.range n).filter fun i => flyB (stE E i)).map (entA E)
def clB (E : List EnE) (i k : Nat) : Bool := clashL (entA E k).2 (entA E i).2
/-- Nobody who flies ahead clashes with it. -/
def rdyI (E : List EnE) (i : Nat) : Prop := ∀ k, k < i → flyB (stE E k) = true → clB E i k = false
section
variable {E E' : List EnE} {n i k z N : Nat} {s : SS}
theorem st_set (hi : i < E.length) : stE (setSt E i z) k = if k = i then z else stE E k := by
  unfold stE setSt
  rw [getD_set _ _ _ _ _ hi]
  split <;> rfl
theorem ent_set (hi : i < E.length) : entA (setSt E i z) k = entA E k := by
  unfold entA setSt
  rw [getD_set _ _ _ _ _ hi]
  by_cases e : k = i
  · rw [if_pos e, e]
  · rw [if_neg e]
theorem fly_succ (E : List EnE) (n : Nat) : flyL E (n + 1) = flyL E n ++ (if flyB (stE E n) = true then [entA E n] else []) := by
  unfold flyL
  rw [List.range_succ, List.filter_append, List.map_append]
  congr 1
  simp only [List.filter_cons, List.filter_nil]
  split <;> simp
theorem fly_congr (h : ∀ k, k < n → flyB (stE E' k) = flyB (stE E k) ∧ entA E' k = entA E k) : flyL E' n = flyL E n := by
  induction n with
  | zero => rfl
  | succ n ih =>
    rw [fly_succ, fly_succ, ih (fun k hk => h k (by omega)), (h n (by omega)).1, (h n (by omega)).2]
theorem mem_fly {e : Ent} : e ∈ flyL E n ↔ ∃ k, k < n ∧ flyB (stE E k) = true ∧ e = entA E k := by
  unfold flyL
  rw [List.mem_map]
  constructor
  · rintro ⟨k, hk, rfl⟩
    obtain ⟨h1, h2⟩ := List.mem_filter.1 hk
    exact ⟨k, List.mem_range.1 h1, h2, rfl⟩
  · rintro ⟨k, h1, h2, rfl⟩
    exact ⟨k, List.mem_filter.2 ⟨List.mem_range.2 h1, h2⟩, rfl⟩
theorem fly_get : ∀ (n : Nat), i < n → flyB (stE E i) = true → eget (flyL E n) (i : Int) = some (entA E i).2 ∧ aheadE (flyL E n) (i : Int) = flyL E i
  | 0, h, _ => by omega
  | n + 1, h, hf => by
    rw [fly_succ]
    by_cases e : i = n
    · subst e
      rw [if_pos hf]
      have hne : ∀ x ∈ flyL E i, x.1 ≠ (i : Int) := fun x hx => by
        obtain ⟨k, h1, _, rfl⟩ := mem_fly.1 hx
        show (k : Int) ≠ _
        omega
      constructor
      · unfold eget
        rw [List.find?_append, List.find?_eq_none.2 (fun x hx => by simpa using hne x hx)]
        simp [entA]
      · unfold aheadE
        rw [List.takeWhile_append_of_pos (fun x hx => by simpa using hne x hx)]
        simp [entA]
    · obtain ⟨h1, h2⟩ := fly_get n (by omega) hf
      obtain ⟨a1, a2⟩ := ahead_append (X := if flyB (stE E n) = true then [entA E n] else []) h1
      exact ⟨a2, a1.trans h2⟩
structure SJ (s : SS) : Prop where
  nl : s.nxt ≤ s.E.length
  wn : 1 ≤ s.win
  a1 : ∀ i, i < s.E.length → (i < s.nxt ↔ stE s.E i ≠ 1)
  a2 : ∀ i, i < s.E.length → 1 ≤ stE s.E i ∧ stE s.E i ≤ 6
  a3 : s.t.E = flyL s.E s.nxt
  a4 : ∀ i, i < s.E.length → stE s.E i = 3 ∨ stE s.E i = 4 → rdyI s.E i
  a7 : s.t.E.length ≤ s.win
  a8 : ∀ i k, k < i → i < s.E.length → stE s.E i = 5 → stE s.E k ≠ 5 → stE s.E k ≠ 6 → clB s.E i k = false
  a9 : 0 ≤ s.t.nx ∧ s.t.nx ≤ (s.nxt : Int)
  a10 : ∀ i, i < s.E.length → chk none (entA s.E i).2 = 0
structure SR (s : SS) : Prop extends SJ s where
  a5 : ∀ i, i < s.E.length → stE s.E i = 2 → ¬ rdyI s.E i
  a6 : s.nxt < s.E.length → s.win ≤ s.t.E.length
theorem SJ.ready (J : SJ s) {i : Nat} (hi : i < s.nxt) (hf : flyB (stE s.E i) = true) : readyE s.t.E (i : Int) = true ↔ rdyI s.E i := by
  obtain ⟨h1, h2⟩ := fly_get (E := s.E) s.nxt hi hf
  rw [← J.a3] at h1 h2
  rw [ready_iff h1 (chk_nodup (J.a10 i (by have := J.nl; omega))), h2]
  constructor
  · intro h k hk hf
    exact h _ (mem_fly.2 ⟨k, hk, hf, rfl⟩)
  · intro h e he
    obtain ⟨k, h1, h2, rfl⟩ := mem_fly.1 he
    exact h k h1 h2
theorem fly_of {z : Nat} (h : z = 2 ∨ z = 3 ∨ z = 4) : flyB z = true := decide_eq_true h
theorem fly_iff {z : Nat} : flyB z = true ↔ z = 2 ∨ z = 3 ∨ z = 4 := by unfold flyB; rw [decide_eq_true_eq]
theorem rdy_congr (h : ∀ k, k < i → flyB (stE E' k) = true → flyB (stE E k) = true) (he : ∀ k, k ≤ i → entA E' k = entA E k) (hr : rdyI E i) : rdyI E' i := fun k hk hf => by
  have := hr k hk (h k hk hf)
  unfold clB at this ⊢
  rw [he k (by omega), he i (Nat.le_refl _)]
  exact this
theorem SJ.start (n : Nat) (hn : 1 ≤ n) (S : StE) : SR (newSS n S) :=
  { nl := Nat.le_refl _, wn := hn, a1 := (fun i h => by simp [newSS] at h), a2 := (fun i h => by simp [newSS] at h), a3 := rfl, a4 := (fun i h => by simp [newSS] at h), a7 := Nat.zero_le _, a8 := (fun i k _ h => by simp [newSS] at h), a9 := ⟨Int.le_refl _, Int.le_refl _⟩, a10 := (fun i h => by simp [newSS] at h), a5 := (fun i h => by simp [newSS] at h), a6 := (fun h => by simp [newSS] at h) }
/-- One more is looked at. -/
theorem lockS_sj (J : SJ s) (h1 : s.nxt < s.E.length) (h2 : s.t.E.length < s.win) (hnx : (s.nxt : Int) < 9223372036854775807) : SJ (lockS s) ∧ (lockS s).nxt = s.nxt + 1 ∧ (lockS s).E.length = s.E.length := by
  have hst1 : stE s.E s.nxt = 1 := Classical.byContradiction fun q => by
    have := (J.a1 s.nxt h1).2 q
    omega
  have gen : ∀ (z : Nat) (t' : LS) (S' : StE), z = 6 ∨ z = 2 → t'.E = flyL s.E s.nxt ++ (if flyB z = true then [entA s.E s.nxt] else []) → 0 ≤ t'.nx ∧ t'.nx ≤ ((s.nxt + 1 : Nat) : Int) → t'.E.length ≤ s.win → SJ { s with S := S', t := t', E := setSt s.E s.nxt z, nxt := s.nxt + 1 } := fun z t' S' hz ht hn hw => by
    have hs : ∀ k, stE (setSt s.E s.nxt z) k = if k = s.nxt then z else stE s.E k := fun k => st_set h1
    have he : ∀ k, entA (setSt s.E s.nxt z) k = entA s.E k := fun k => ent_set h1
    have hl := setSt_len s.E s.nxt z
    have hlow : ∀ k, k < s.nxt → stE (setSt s.E s.nxt z) k = stE s.E k := fun k hk => by rw [hs, if_neg (by omega)]
    refine ⟨by simp only [hl]; omega, J.wn, fun i hi => ?_, fun i hi => ?_, ?_, fun i hi h => ?_, hw, fun i k hk hi h5 hk5 hk6 => ?_, hn, fun i hi => ?_⟩
    · simp only [hl] at hi ⊢
      rw [hs]
      by_cases e : i = s.nxt
      · rw [if_pos e]; omega
      · rw [if_neg e, ← J.a1 i hi]; omega
    · simp only [hl] at hi ⊢
      rw [hs]
      split
      · omega
      · exact J.a2 i hi
    · simp only
      rw [ht, fly_succ, hs, if_pos rfl, he, fly_congr (E := s.E) (fun k hk => ⟨by rw [hlow k hk], he k⟩)]
    · simp only [hl] at hi h ⊢
      rw [hs] at h
      by_cases e : i = s.nxt
      · rw [if_pos e] at h; omega
      · rw [if_neg e] at h
        have hin := (J.a1 i hi).2 (by omega)
        exact rdy_congr (fun k hk q => by rw [hlow k (by omega)] at q; exact q) (fun k _ => he k) (J.a4 i hi h)
    · simp only [hl] at hi h5 hk5 hk6 ⊢
      rw [hs] at h5 hk5 hk6
      by_cases e : i = s.nxt
      · rw [if_pos e] at h5; omega
      · rw [if_neg e] at h5
        have hin := (J.a1 i hi).2 (by omega)
        rw [if_neg (by omega)] at hk5 hk6
        have := J.a8 i k hk hi h5 hk5 hk6
        unfold clB at this ⊢
        rw [he, he]; exact this
    · simp only [hl] at hi ⊢
      rw [he]; exact J.a10 i hi
  unfold lockS
  simp only
  split
  · refine ⟨gen 6 s.t s.S (.inl rfl) ?_ ⟨J.a9.1, by have := J.a9.2; omega⟩ J.a7, rfl, setSt_len _ _ _⟩
    rw [J.a3]; simp [flyB]
  · have hck := J.a10 s.nxt h1
    have hen : (enqE s.t (s.nxt : Int) (locksT (s.E.getD s.nxt en0).rd (s.E.getD s.nxt en0).wr)).1 = ⟨s.t.E ++ [entA s.E s.nxt], (s.nxt : Int) + 1⟩ := by
      unfold enqE
      have hck2 : chk none (locksT (s.E.getD s.nxt en0).rd (s.E.getD s.nxt en0).wr) = 0 := hck
      rw [if_neg (by have := J.a9; omega), if_neg (fun q => q hck2), bump_lt (by omega) hnx]
      rfl
    rw [hen]
    refine ⟨gen 2 _ _ (.inr rfl) ?_ ⟨by simp only; omega, by simp only; omega⟩ (by simp only [List.length_append, List.length_cons, List.length_nil]; omega), rfl, setSt_len _ _ _⟩
    simp only
    rw [J.a3]; simp [flyB]
theorem lockL_sj : ∀ (f : Nat) (s : SS), SJ s → s.E.length ≤ 1000 → s.E.length - s.nxt ≤ f → SJ (lockL f s) ∧ (lockL f s).E.length = s.E.length ∧ ((lockL f s).nxt < (lockL f s).E.length → (lockL f s).win ≤ (lockL f s).t.E.length)
  | 0, s, J, _, hf => ⟨J, rfl, fun h => by have : (lockL 0 s) = s := rfl; rw [this] at h; omega⟩
  | f + 1, s, J, hl, hf => by
    by_cases h1 : s.nxt < s.E.length
    · by_cases h2 : s.t.E.length < s.win
      · rw [lockL_go h1 h2]
        obtain ⟨J2, n2, l2⟩ := lockS_sj J h1 h2 (by omega)
        obtain ⟨a, b, c⟩ := lockL_sj f (lockS s) J2 (by omega) (by omega)
        exact ⟨a, b.trans l2, c⟩
      · rw [lockL_stop (fun q => h2 q.2)]
        exact ⟨J, rfl, fun _ => by omega⟩
    · rw [lockL_stop (fun q => h1 q.1)]
      exact ⟨J, rfl, fun q => absurd q h1⟩
theorem rdys_st (L : List Int) : ∀ (E : List EnE), (∀ q ∈ L, 0 ≤ q ∧ q < (E.length : Int)) → ∀ k, entA (L.foldl rdyS E) k = entA E k ∧ stE (L.foldl rdyS E) k = if stE E k = 2 ∧ (k : Int) ∈ L then 3 else stE E k := by
  induction L with
  | nil => intro E _ k; simp
  | cons q L ih =>
    intro E h k
    rw [List.foldl_cons]
    have hq := h q (by simp)
    have hqn : q.toNat < E.length := by omega
    have hl : (rdyS E q).length = E.length := by unfold rdyS; split <;> simp [setSt_len]
    obtain ⟨i1, i2⟩ := ih (rdyS E q) (fun z hz => by rw [hl]; exact h z (by simp [hz])) k
    have e1 : entA (rdyS E q) k = entA E k := by unfold rdyS; split <;> simp [ent_set hqn]
    have e2 : stE (rdyS E q) k = if stE E k = 2 ∧ (k : Int) = q then 3 else stE E k := by
      unfold rdyS
      by_cases h2 : (E.getD q.toNat en0).st = 2
      · rw [if_pos h2, st_set hqn]
        by_cases e : k = q.toNat
        · have hk2 : stE E k = 2 := by rw [e]; exact h2
          rw [if_pos e, if_pos ⟨hk2, by omega⟩]
        · rw [if_neg e, if_neg (fun z => e (by omega))]
      · rw [if_neg h2]
        by_cases e : stE E k = 2 ∧ (k : Int) = q
        · exfalso
          apply h2
          have : q.toNat = k := by omega
          rw [this]; exact e.1
        · rw [if_neg e]
    refine ⟨i1.trans e1, ?_⟩
    rw [i2, e2]
    clear i1 i2 e1 e2 ih h hl
    generalize stE E k = z
    by_cases h2 : z = 2 <;> by_cases hkq : (k : Int) = q <;> by_cases hkL : (k : Int) ∈ L <;> simp [h2, hkq, hkL, List.mem_cons]
theorem lockE_sr (J : SJ s) (hl : s.E.length ≤ 1000) : SR (lockE s) ∧ (lockE s).E.length = s.E.length := by
  obtain ⟨J1, l1, h6⟩ := lockL_sj (s.E.length - s.nxt) s J hl (Nat.le_refl _)
  change SJ (lockU s) at J1
  change (lockU s).E.length = _ at l1
  change (lockU s).nxt < (lockU s).E.length → (lockU s).win ≤ (lockU s).t.E.length at h6
  unfold lockE
  generalize lockU s = u at J1 l1 h6
  have hmem : ∀ q : Int, q ∈ readiesE u.t ↔ ∃ k, k < u.nxt ∧ flyB (stE u.E k) = true ∧ q = (k : Int) ∧ rdyI u.E k := fun q => by
    unfold readiesE allE
    rw [List.mem_filter, List.mem_map]
    constructor
    · rintro ⟨⟨e, he, rfl⟩, hr⟩
      rw [J1.a3] at he
      obtain ⟨k, h1, h2, rfl⟩ := mem_fly.1 he
      exact ⟨k, h1, h2, rfl, (J1.ready h1 h2).1 hr⟩
    · rintro ⟨k, h1, h2, rfl, hr⟩
      exact ⟨⟨entA u.E k, by rw [J1.a3]; exact mem_fly.2 ⟨k, h1, h2, rfl⟩, rfl⟩, (J1.ready h1 h2).2 hr⟩
  have hrg : ∀ q ∈ readiesE u.t, 0 ≤ q ∧ q < (u.E.length : Int) := fun q hq => by
    obtain ⟨k, h1, _, rfl, _⟩ := (hmem q).1 hq
    have := J1.nl
    omega
  have hR := rdys_st (readiesE u.t) u.E hrg
  have hL := rdys_len (readiesE u.t) u.E
  generalize (readiesE u.t).foldl rdyS u.E = E' at hR hL
  have hst : ∀ k, stE E' k = if stE u.E k = 2 ∧ (k : Int) ∈ readiesE u.t then 3 else stE u.E k := fun k => (hR k).2
  have hen : ∀ k, entA E' k = entA u.E k := fun k => (hR k).1
  have hfl : ∀ k, flyB (stE E' k) = flyB (stE u.E k) := fun k => by
    rw [hst]
    by_cases e : stE u.E k = 2 ∧ (k : Int) ∈ readiesE u.t
    · rw [if_pos e, e.1]; rfl
    · rw [if_neg e]
  have hrd : ∀ i, rdyI u.E i → rdyI E' i := fun i h => rdy_congr (fun k _ q => by rw [hfl] at q; exact q) (fun k _ => hen k) h
  have hrd' : ∀ i, rdyI E' i → rdyI u.E i := fun i h => rdy_congr (fun k _ q => by rw [hfl]; exact q) (fun k _ => (hen k).symm) h
  have hother : ∀ k z, z ≠ 2 → z ≠ 3 → (stE E' k = z ↔ stE u.E k = z) := fun k z z2 z3 => by
    rw [hst]
    by_cases e : stE u.E k = 2 ∧ (k : Int) ∈ readiesE u.t
    · rw [if_pos e]; omega
    · rw [if_neg e]
  refine ⟨{ nl := by simp only [hL]; exact J1.nl, wn := J1.wn, a1 := fun i hi => ?_, a2 := fun i hi => ?_, a3 := ?_, a4 := fun i hi h => ?_, a7 := J1.a7, a8 := fun i k hk hi h5 k5 k6 => ?_, a9 := J1.a9, a10 := fun i hi => ?_, a5 := fun i hi h => ?_, a6 := fun h => ?_ }, by simp only [hL]; exact l1⟩
  · simp only [hL] at hi ⊢
    rw [J1.a1 i hi]
    exact not_congr (hother i 1 (by omega) (by omega)).symm
  · simp only [hL] at hi ⊢
    have := J1.a2 i hi
    rw [hst]
    split
    · omega
    · exact this
  · simp only
    rw [J1.a3]
    exact (fly_congr (fun k _ => ⟨hfl k, hen k⟩)).symm
  · simp only [hL] at hi h ⊢
    apply hrd
    rw [hst] at h
    by_cases e : stE u.E i = 2 ∧ (i : Int) ∈ readiesE u.t
    · obtain ⟨k, _, _, h3, h4⟩ := (hmem _).1 e.2
      have : i = k := by omega
      rw [this]; exact h4
    · rw [if_neg e] at h
      exact J1.a4 i hi h
  · simp only [hL] at hi h5 k5 k6 ⊢
    have := J1.a8 i k hk hi ((hother i 5 (by omega) (by omega)).1 h5) (fun q => k5 ((hother k 5 (by omega) (by omega)).2 q)) (fun q => k6 ((hother k 6 (by omega) (by omega)).2 q))
    unfold clB at this ⊢
    rw [hen, hen]; exact this
  · simp only [hL] at hi ⊢
    rw [hen]; exact J1.a10 i hi
  · simp only [hL] at hi h ⊢
    intro hr
    have hr := hrd' i hr
    rw [hst] at h
    by_cases e : stE u.E i = 2 ∧ (i : Int) ∈ readiesE u.t
    · rw [if_pos e] at h; omega
    · rw [if_neg e] at h
      refine e ⟨h, (hmem _).2 ⟨i, (J1.a1 i hi).2 (by omega), fly_of (by omega), rfl, hr⟩⟩
  · simp only [hL] at h ⊢
    exact h6 h
/-- The least that is left is ready or taken. -/
theorem SR.first (R : SR s) {i : Nat} (hi : i < s.E.length) (hl : stE s.E i ≠ 5 ∧ stE s.E i ≠ 6) (hb : ∀ k, k < i → stE s.E k = 5 ∨ stE s.E k = 6) : stE s.E i = 3 ∨ stE s.E i = 4 := by
  have h2 := R.a2 i hi
  by_cases e1 : stE s.E i = 1
  · exfalso
    have hn : ¬ i < s.nxt := fun q => (R.a1 i hi).1 q e1
    have hz : s.t.E = [] := by
      rw [R.a3]
      apply List.eq_nil_iff_forall_not_mem.2
      intro e he
      obtain ⟨k, h1, h3, _⟩ := mem_fly.1 he
      have := fly_iff.1 h3
      have := hb k (by omega)
      omega
    have := R.a6 (by omega)
    rw [hz] at this
    have := R.wn
    simp at *
    omega
  · by_cases e2 : stE s.E i = 2
    · exfalso
      refine R.a5 i hi e2 (fun k hk hf => ?_)
      have := fly_iff.1 hf
      have := hb k hk
      omega
    · omega
/-- Of two that clash the one behind is not ready before the one ahead is done. -/
theorem SR.apart (R : SR s) {i k : Nat} (hk : k < i) (hi : i < s.E.length) (ho : stE s.E i = 3 ∨ stE s.E i = 4 ∨ stE s.E i = 5) (hl : stE s.E k ≠ 5 ∧ stE s.E k ≠ 6) : clB s.E i k = false := by
  by_cases h5 : stE s.E i = 5
  · exact R.a8 i k hk hi h5 hl.1 hl.2
  · have hn := (R.a1 i hi).2 (by omega)
    have hk1 := (R.a1 k (by omega)).1 (by omega)
    have hk2 := R.a2 k (by omega)
    exact R.a4 i hi (by omega) k hk (fly_of (by omega))
end
end Go.Proofs.YtgdbckjkeofoaaaGreat

namespace Go.Proofs.YtgdbckjkeofoaaaGreat
open Go.RowKit Go.Proofs.Eng Go.Proofs.Foot Go.Proofs.Locks Go.Proofs.Sched
set_option linter.unusedSimpArgs false
set_option linter.unusedVariables false set_option maxRecDepth 10000
attribute [local irreducible] T TL LV TH TA
set_option maxHeartbeats 3200000
theorem own_c15 (A B : Option Addr) (n c m d : Nat) (r k : List Tx) (w : World) (h : Rd w A n 1 (sv r)) (g : Rd w B m 1 (sv k)) (hn : n ≤ 50000) (hm : m ≤ 50000) :
    Ret Tryz.prog 10 [.agg #[.slice A n c, .slice B m d]] w (fun v w' => ∃ A' c' B' d', v = .agg #[.slice A' n c', .slice B' m d'] ∧ Rd w' A' n 1 (sv r) ∧ Rd w' B' m 1 (sv k) ∧ Ext w w') := by
  refine ret_T (n := 12) Tryz.func10 rfl rfl ?_
  repeat (first | refine T_seq ?_ | refine T_region ?_)
  refine TL_box (hk := ?_); intro b1 w1 e1 h1 h1' k1
  replace k1 : Blk w1 b1 35 [.slice A n c, .slice B m d] := k1
  --
  refine TL_alloc TE (hk := ?_); intro b2 w2 e2 h2 h2' k2
  have k12 := k1.be e2
  have z1 := e1.size
  have z2 := e2.size
  repeat (first | refine T_seq ?_ | refine TL_nil ?_)
  refine T_region_anyz TE.mixed ([] : List Nat) (some 9) ?_; intro w3 e3 z3
  have k13 := k12.be e3
  have k23 := k2.be e3
  have e03 := (e1.ext e2).ext e3
  have hA3 := h.be e03
  have hB3 := g.be e03
  have hbD : b1 ∉ ([] : List Nat) := by simp
  clear k1 k12 k2 h g
  (refine TA_take 1 rfl (by kernel_rfl) (by kernel_rfl) (by kernel_rfl) ?_; (repeat (first | refine TLP_load TE (hk := ?_) | refine TL_fieldAddr TE (hk := ?_))); refine TL_nil_p ?_); (refine TA_take 2 rfl (by kernel_rfl) (by kernel_rfl) (by kernel_rfl) ?_; (repeat (first | refine TLP_load TE (hk := ?_) | refine TL_fieldAddr TE (hk := ?_))); refine TL_nil_p ?_); (refine TA_take 5 rfl (by kernel_rfl) (by kernel_rfl) (by kernel_rfl) ?_; (repeat (first | refine TLP_load TE (hk := ?_) | refine TL_fieldAddr TE (hk := ?_))); refine TL_nil_p ?_); (refine TA_take 6 rfl (by kernel_rfl) (by kernel_rfl) (by kernel_rfl) ?_; (repeat (first | refine TLP_load TE (hk := ?_) | refine TL_fieldAddr TE (hk := ?_))); refine TL_nil_p ?_)
  refine TA_two 0 4 rfl rfl (by kernel_rfl) (by kernel_rfl) ?_ ?_
  · refine TL_buildSlice0 TE (hf := rfl) (hq := fun w' h => Ext.un ((Mod.refl [] w3).ext h)) (hk := ?_); intro bX wX eX qX qX' kX
    have oX : Own wX w3.heap.size 9 1 (some ⟨bX, 0, none⟩) 0 0 [] := Own.of_blk kX qX rfl (by decide)
    have zX0 := (Mod.refl [] w3).size
    have EX := (Mod.refl [] w3).ext eX
    have zX := eX.size
    have hbX : ∀ u ∈ blkL (some (⟨bX, 0, none⟩ : Addr)), w3.heap.size ≤ u := fun u hu => by simp [blkL] at hu; omega
    have hqX := fun w' (m : Eng.Mod (blkL (some (⟨bX, 0, none⟩ : Addr))) wX w') => Mod.step EX m (fun u hu => .inr (hbX u hu))
    refine TL_nil_p ?_
    refine TA_two 3 4 rfl rfl (by kernel_rfl) (by kernel_rfl) ?_ ?_
    · refine TL_append TE (ho := oX) (hr := hA3.be EX) (h1 := sv_one _) (hf := rfl) (hq := fun w' m => Ext.un (Mod.step EX m (fun u hu => .inr (hbX u hu)))) (hk := ?_); intro AX cX vX pX mX nX
      rw [List.nil_append] at pX
      have FX : Ext w3 vX := Mod.step EX mX (fun u hu => .inr (hbX u hu))
      have yX := mX.size
      have rX := pX.rd
      have lX : ∀ u ∈ blkL AX, u < vX.heap.size := fun u hu => (pX.bl u hu).2
      refine TL_nil_p ?_
      refine TA_one 4 rfl (by kernel_rfl) (by kernel_rfl) ?_
      refine TL_buildSlice0 TE (hf := rfl) (hq := fun w' h => Ext.un (FX.ext h)) (hk := ?_); intro bY wY eY qY qY' kY
      have oY : Own wY vX.heap.size 9 1 (some ⟨bY, 0, none⟩) 0 0 [] := Own.of_blk kY qY rfl (by decide)
      have zY0 := FX.size
      have EY := FX.ext eY
      have zY := eY.size
      have hbY : ∀ u ∈ blkL (some (⟨bY, 0, none⟩ : Addr)), w3.heap.size ≤ u := fun u hu => by simp [blkL] at hu; omega
      have hqY := fun w' (m : Eng.Mod (blkL (some (⟨bY, 0, none⟩ : Addr))) wY w') => Mod.step EY m (fun u hu => .inr (hbY u hu))
      replace rX := rX.be eY
      have dX : ∀ u ∈ blkL AX, u ≠ bY := fun u hu e => by have := lX u hu; omega
      refine TL_nil_p ?_
      refine TA_one 7 rfl (by kernel_rfl) (by kernel_rfl) ?_
      refine TL_append TE (ho := oY) (hr := hB3.be EY) (h1 := sv_one _) (hf := rfl) (hq := fun w' m => Ext.un (Mod.step EY m (fun u hu => .inr (hbY u hu)))) (hk := ?_); intro AY cY vY pY mY nY
      rw [List.nil_append] at pY
      have FY : Ext w3 vY := Mod.step EY mY (fun u hu => .inr (hbY u hu))
      have yY := mY.size
      have rY := pY.rd
      have lY : ∀ u ∈ blkL AY, u < vY.heap.size := fun u hu => (pY.bl u hu).2
      replace rX := rX.mod mY (off_ofL fun u hu hu2 => by simp [blkL] at hu2; exact dX u hu hu2)
      refine TL_nil_p ?_
      (refine TA_take 8 rfl (by kernel_rfl) (by kernel_rfl) (by kernel_rfl) ?_; (repeat (refine TL_build TE (hk := ?_))); refine TL_nil_p ?_)
      refine TA_one 9 rfl (by kernel_rfl) (by kernel_rfl) ?_
      refine TL_storea TE (vs := [.slice AX (0 + n) cX, .slice AY (0 + m) cY]) (hb := k23.be FY) (hf := rfl) (hq := fun _ _ _ => trivial) (hk := ?_); intro w9 m9 z9 k9
      refine TL_nil_z (by kernel_rfl) ?_
      have z8 := FY.size
      have rX9 := rX.mod m9 (off_ofL fun u hu hu2 => by rw [List.mem_singleton] at hu2; have := (pX.bl u hu).1; omega)
      have rY9 := rY.mod m9 (off_ofL fun u hu hu2 => by rw [List.mem_singleton] at hu2; have := (pY.bl u hu).1; omega)
      --
      refine T_retA1 TE (vs := [.slice AX (0 + n) cX, .slice AY (0 + m) cY]) (o := 0) rfl rfl rfl rfl k9 rfl (Nat.succ_pos _) ⟨AX, cX, AY, cY, by rw [Nat.zero_add, Nat.zero_add], by rw [← Nat.zero_add n]; exact rX9, by rw [← Nat.zero_add m]; exact rY9, Mod.step (e03.ext FY) m9 (fun u hu => .inr (by rw [List.mem_singleton.1 hu]; omega))⟩
    · refine TL_buildSlice0 TE (hf := rfl) (hq := fun w' h => Ext.un (EX.ext h)) (hk := ?_); intro bY wY eY qY qY' kY
      have oY : Own wY wX.heap.size 9 1 (some ⟨bY, 0, none⟩) 0 0 [] := Own.of_blk kY qY rfl (by decide)
      have zY0 := EX.size
      have EY := EX.ext eY
      have zY := eY.size
      have hbY : ∀ u ∈ blkL (some (⟨bY, 0, none⟩ : Addr)), w3.heap.size ≤ u := fun u hu => by simp [blkL] at hu; omega
      have hqY := fun w' (m : Eng.Mod (blkL (some (⟨bY, 0, none⟩ : Addr))) wY w') => Mod.step EY m (fun u hu => .inr (hbY u hu))
      replace oX := oX.be eY
      refine TL_nil_p ?_
      refine TA_one 3 rfl (by kernel_rfl) (by kernel_rfl) ?_
      refine TL_append TE (ho := oX) (hr := hA3.be EY) (h1 := sv_one _) (hf := rfl) (hq := fun w' m => Ext.un (Mod.step EY m (fun u hu => .inr (hbX u hu)))) (hk := ?_); intro AX cX vX pX mX nX
      rw [List.nil_append] at pX
      have FX : Ext w3 vX := Mod.step EY mX (fun u hu => .inr (hbX u hu))
      have yX := mX.size
      have rX := pX.rd
      have lX : ∀ u ∈ blkL AX, u < vX.heap.size := fun u hu => (pX.bl u hu).2
      have dX : ∀ u ∈ blkL AX, u ≠ bY := fun u hu e => by
        rcases Near.mem nX u hu with a | a
        · simp [blkL] at a; omega
        · omega
      replace oY := oY.modL mX (fun u hu hu2 => by simp [blkL] at hu hu2; omega)
      refine TL_nil_p ?_
      refine TA_one 7 rfl (by kernel_rfl) (by kernel_rfl) ?_
      refine TL_append TE (ho := oY) (hr := hB3.be FX) (h1 := sv_one _) (hf := rfl) (hq := fun w' m => Ext.un (Mod.step FX m (fun u hu => .inr (hbY u hu)))) (hk := ?_); intro AY cY vY pY mY nY
      rw [List.nil_append] at pY
      have FY : Ext w3 vY := Mod.step FX mY (fun u hu => .inr (hbY u hu))
      have yY := mY.size
      have rY := pY.rd
      have lY : ∀ u ∈ blkL AY, u < vY.heap.size := fun u hu => (pY.bl u hu).2
      replace rX := rX.mod mY (off_ofL fun u hu hu2 => by simp [blkL] at hu2; exact dX u hu hu2)
      refine TL_nil_p ?_
      (refine TA_take 8 rfl (by kernel_rfl) (by kernel_rfl) (by kernel_rfl) ?_; (repeat (refine TL_build TE (hk := ?_))); refine TL_nil_p ?_)
      refine TA_one 9 rfl (by kernel_rfl) (by kernel_rfl) ?_
      refine TL_storea TE (vs := [.slice AX (0 + n) cX, .slice AY (0 + m) cY]) (hb := k23.be FY) (hf := rfl) (hq := fun _ _ _ => trivial) (hk := ?_); intro w9 m9 z9 k9
      refine TL_nil_z (by kernel_rfl) ?_
      have z8 := FY.size
      have rX9 := rX.mod m9 (off_ofL fun u hu hu2 => by rw [List.mem_singleton] at hu2; have := (pX.bl u hu).1; omega)
      have rY9 := rY.mod m9 (off_ofL fun u hu hu2 => by rw [List.mem_singleton] at hu2; have := (pY.bl u hu).1; omega)
      --
      refine T_retA1 TE (vs := [.slice AX (0 + n) cX, .slice AY (0 + m) cY]) (o := 0) rfl rfl rfl rfl k9 rfl (Nat.succ_pos _) ⟨AX, cX, AY, cY, by rw [Nat.zero_add, Nat.zero_add], by rw [← Nat.zero_add n]; exact rX9, by rw [← Nat.zero_add m]; exact rY9, Mod.step (e03.ext FY) m9 (fun u hu => .inr (by rw [List.mem_singleton.1 hu]; omega))⟩
  · refine TL_buildSlice0 TE (hf := rfl) (hq := fun w' h => Ext.un ((Mod.refl [] w3).ext h)) (hk := ?_); intro bY wY eY qY qY' kY
    have oY : Own wY w3.heap.size 9 1 (some ⟨bY, 0, none⟩) 0 0 [] := Own.of_blk kY qY rfl (by decide)
    have zY0 := (Mod.refl [] w3).size
    have EY := (Mod.refl [] w3).ext eY
    have zY := eY.size
    have hbY : ∀ u ∈ blkL (some (⟨bY, 0, none⟩ : Addr)), w3.heap.size ≤ u := fun u hu => by simp [blkL] at hu; omega
    have hqY := fun w' (m : Eng.Mod (blkL (some (⟨bY, 0, none⟩ : Addr))) wY w') => Mod.step EY m (fun u hu => .inr (hbY u hu))
    refine TL_nil_p ?_
    refine TA_one 0 rfl (by kernel_rfl) (by kernel_rfl) ?_
    refine TL_buildSlice0 TE (hf := rfl) (hq := fun w' h => Ext.un (EY.ext h)) (hk := ?_); intro bX wX eX qX qX' kX
    have oX : Own wX wY.heap.size 9 1 (some ⟨bX, 0, none⟩) 0 0 [] := Own.of_blk kX qX rfl (by decide)
    have zX0 := EY.size
    have EX := EY.ext eX
    have zX := eX.size
    have hbX : ∀ u ∈ blkL (some (⟨bX, 0, none⟩ : Addr)), w3.heap.size ≤ u := fun u hu => by simp [blkL] at hu; omega
    have hqX := fun w' (m : Eng.Mod (blkL (some (⟨bX, 0, none⟩ : Addr))) wX w') => Mod.step EX m (fun u hu => .inr (hbX u hu))
    replace oY := oY.be eX
    refine TL_nil_p ?_
    refine TA_one 3 rfl (by kernel_rfl) (by kernel_rfl) ?_
    refine TL_append TE (ho := oX) (hr := hA3.be EX) (h1 := sv_one _) (hf := rfl) (hq := fun w' m => Ext.un (Mod.step EX m (fun u hu => .inr (hbX u hu)))) (hk := ?_); intro AX cX vX pX mX nX
    rw [List.nil_append] at pX
    have FX : Ext w3 vX := Mod.step EX mX (fun u hu => .inr (hbX u hu))
    have yX := mX.size
    have rX := pX.rd
    have lX : ∀ u ∈ blkL AX, u < vX.heap.size := fun u hu => (pX.bl u hu).2
    have dX : ∀ u ∈ blkL AX, u ≠ bY := fun u hu e => by
      rcases Near.mem nX u hu with a | a
      · simp [blkL] at a; omega
      · omega
    replace oY := oY.modL mX (fun u hu hu2 => by simp [blkL] at hu hu2; omega)
    refine TL_nil_p ?_
    refine TA_one 7 rfl (by kernel_rfl) (by kernel_rfl) ?_
    refine TL_append TE (ho := oY) (hr := hB3.be FX) (h1 := sv_one _) (hf := rfl) (hq := fun w' m => Ext.un (Mod.step FX m (fun u hu => .inr (hbY u hu)))) (hk := ?_); intro AY cY vY pY mY nY
    rw [List.nil_append] at pY
    have FY : Ext w3 vY := Mod.step FX mY (fun u hu => .inr (hbY u hu))
    have yY := mY.size
    have rY := pY.rd
    have lY : ∀ u ∈ blkL AY, u < vY.heap.size := fun u hu => (pY.bl u hu).2
    replace rX := rX.mod mY (off_ofL fun u hu hu2 => by simp [blkL] at hu2; exact dX u hu hu2)
    refine TL_nil_p ?_
    (refine TA_take 8 rfl (by kernel_rfl) (by kernel_rfl) (by kernel_rfl) ?_; (repeat (refine TL_build TE (hk := ?_))); refine TL_nil_p ?_)
    refine TA_one 9 rfl (by kernel_rfl) (by kernel_rfl) ?_
    refine TL_storea TE (vs := [.slice AX (0 + n) cX, .slice AY (0 + m) cY]) (hb := k23.be FY) (hf := rfl) (hq := fun _ _ _ => trivial) (hk := ?_); intro w9 m9 z9 k9
    refine TL_nil_z (by kernel_rfl) ?_
    have z8 := FY.size
    have rX9 := rX.mod m9 (off_ofL fun u hu hu2 => by rw [List.mem_singleton] at hu2; have := (pX.bl u hu).1; omega)
    have rY9 := rY.mod m9 (off_ofL fun u hu hu2 => by rw [List.mem_singleton] at hu2; have := (pY.bl u hu).1; omega)
    --
    refine T_retA1 TE (vs := [.slice AX (0 + n) cX, .slice AY (0 + m) cY]) (o := 0) rfl rfl rfl rfl k9 rfl (Nat.succ_pos _) ⟨AX, cX, AY, cY, by rw [Nat.zero_add, Nat.zero_add], by rw [← Nat.zero_add n]; exact rX9, by rw [← Nat.zero_add m]; exact rY9, Mod.step (e03.ext FY) m9 (fun u hu => .inr (by rw [List.mem_singleton.1 hu]; omega))⟩
end Go.Proofs.YtgdbckjkeofoaaaGreat

/- What an argument that reads as data looks like, and how much it holds. -/
namespace Go.Proofs.Eng
open Go.RowKit Go.WideShapes
set_option linter.unusedSimpArgs false
set_option linter.unusedVariables false
/-- How much a reading holds. -/
structure Bulk (H : Type) where
  one : DataW H → Nat
  all : List (DataW H) → Nat
  lit : ∀ l, 1 ≤ one (.lit l)
  str : ∀ b, one (.lit (.string b)) = b.length + 1
  nil : one .nil = 1
  slice : ∀ e s, one (.slice e s) = all e + all s + 1
  agg : ∀ p, one (.agg p) = all p + 1
  none : all [] = 0
  some : ∀ d r, all (d :: r) = one d + all r
def FitB (w : World) : Ty → List Value → Nat → Prop
  | .int k, cs, m => 1 ≤ m ∧ ∃ n, cs = [.int k n] ∧ Fits k n
  | .bool, cs, m => 1 ≤ m ∧ ∃ b, cs = [.bool b]
  | .str, cs, m => ∃ s : ByteArray, cs = [.string s] ∧ s.size ≤ maxLen ∧ s.size + 1 ≤ m
  | .slice e, cs, m => ∃ (A : Option Addr) (n c : Nat) (xs : List (List Value)) (ms : List Nat), cs = [.slice A n c] ∧ n ≤ c ∧ c ≤ maxLen ∧ xs.length = n ∧ ms.length = n ∧ ms.sum + 1 ≤ m ∧ Rd w A n e.size xs.flatten ∧
      ∀ (i : Nat) (x : List Value) (k : Nat), xs[i]? = some x → ms[i]? = some k → x.length = e.size ∧ FitB w e x k
  | .unit, cs, _ => cs = []
  | .cons a b, cs, m => ∃ x y p q, cs = x ++ y ∧ x.length = a.size ∧ p + q ≤ m ∧ FitB w a x p ∧ FitB w b y q
  | .struct p, cs, m => FitB w p cs m
  | .array n e, cs, m => ∃ (xs : List (List Value)) (ms : List Nat), cs = xs.flatten ∧ xs.length = n ∧ ms.length = n ∧ ms.sum ≤ m ∧ ∀ (i : Nat) (x : List Value) (k : Nat), xs[i]? = some x → ms[i]? = some k → x.length = e.size ∧ FitB w e x k
theorem FitB.mono {w : World} : ∀ {ty : Ty} {cs : List Value} {m m' : Nat}, FitB w ty cs m → m ≤ m' → FitB w ty cs m'
  | .int _, _, _, _, ⟨h, r⟩, hm => ⟨Nat.le_trans h hm, r⟩
  | .bool, _, _, _, ⟨h, r⟩, hm => ⟨Nat.le_trans h hm, r⟩
  | .str, _, _, _, ⟨s, h1, h2, h3⟩, hm => ⟨s, h1, h2, Nat.le_trans h3 hm⟩
  | .slice _, _, _, _, ⟨A, n, c, xs, ms, h1, h2, h3, h4, h5, h6, h7⟩, hm => ⟨A, n, c, xs, ms, h1, h2, h3, h4, h5, Nat.le_trans h6 hm, h7⟩
  | .unit, _, _, _, h, _ => h
  | .cons _ _, _, _, _, ⟨x, y, p, q, h1, h2, h3, h4⟩, hm => ⟨x, y, p, q, h1, h2, Nat.le_trans h3 hm, h4⟩
  | .struct p, _, _, _, h, hm => FitB.mono (ty := p) h hm
  | .array _ _, _, _, _, ⟨xs, ms, h1, h2, h3, h4, h5⟩, hm => ⟨xs, ms, h1, h2, h3, Nat.le_trans h4 hm, h5⟩
section
variable {H : Type} {enc : TypeId × Value → H} {P : Program} {w : World} {base : Nat} {spare : Nat → Bool} {held : Bool}
theorem Bulk.map_sum (K : Bulk H) (l : List (DataW H × List MemPlace)) : K.all (l.map (·.1)) = (l.map fun x => K.one x.1).sum := by
  induction l with
  | nil => simp [K.none]
  | cons a l ih => simp [K.some, ih]
theorem fitb_of_trod (E : Env P) (K : Bulk H) : ∀ (ty : Ty),
    (∀ t, tyOk E ty (.at t) = true → ∀ fuel cs x, DataW.trod enc P w base spare held fuel t cs = some x → FitB w ty cs (K.one x.1)) ∧
    (∀ off fl, tyOk E ty (.from off fl) = true → ∀ (cs : List Value) (ys : List (DataW H × List MemPlace)), cs.length = off + ty.size → ys.length = fl.length →
      (∀ (i : Nat) (o : Nat) (t : TypeId) y, fl[i]? = some (o, t) → ys[i]? = some y → ∃ n, DataW.trod enc P w base spare held n t ((cs.drop o).take (P.cellsOf t)) = some y) → FitB w ty (cs.drop off) (ys.map fun x => K.one x.1).sum) := by
  intro ty
  induction ty with
  | int k =>
    refine ⟨fun t h fuel cs x hd => ?_, fun _ _ h => by simp [tyOk] at h⟩
    obtain ⟨n, h1, h3, h2⟩ := DataW.trod_int (und_int h) hd
    rw [h3]
    exact ⟨K.lit _, n, h1, fits_of_wf h2⟩
  | bool =>
    refine ⟨fun t h fuel cs x hd => ?_, fun _ _ h => by simp [tyOk] at h⟩
    obtain ⟨b, h1, h3⟩ := DataW.trod_bool (und_bool h) hd
    rw [h3]
    exact ⟨K.lit _, b, h1⟩
  | str =>
    refine ⟨fun t h fuel cs x hd => ?_, fun _ _ h => by simp [tyOk] at h⟩
    obtain ⟨s, h1, h3, h2⟩ := DataW.trod_string (und_str h) hd
    rw [h3]
    exact ⟨s, h1, h2, by rw [K.str]; simp⟩
  | slice e ih =>
    refine ⟨fun t h fuel cs x hd => ?_, fun _ _ h => by simp [tyOk] at h⟩
    simp only [tyOk] at h
    split at h
    · rename_i u hu
      simp only [Bool.and_eq_true] at h
      obtain ⟨⟨h1, h2⟩, h3⟩ := h
      have hsz := sizeIs_ok h2
      have h0 : 0 < e.size := by simpa [Nat.blt_eq] using h3
      rcases DataW.trod_slice (E.und_ok _ _ hu) hd with ⟨rfl, hx⟩ | ⟨a, len, cap, elems, rest, n, _, rfl, hx, hb, hl, hm, hlen, hel, _⟩
      · rw [hx]
        exact ⟨none, 0, 0, [], [], rfl, Nat.le_refl _, by decide, rfl, rfl, by simp [K.nil], Rd.nil _ _ _, by simp⟩
      · rw [hsz] at hel
        have hget : ∀ i, i < len → ∃ y z, w.cells? base (a.add (i * e.size)) e.size = some y ∧ elems[i]? = some z ∧ DataW.trod enc P w base spare held n u y = some z := fun i hi => by
          have h4 := hel i hi
          rw [List.getElem?_eq_getElem (by omega)] at h4
          cases hc : w.cells? base (a.add (i * e.size)) e.size with
          | none => rw [hc] at h4; simp at h4
          | some y => rw [hc] at h4; simp at h4; exact ⟨y, _, rfl, List.getElem?_eq_getElem (by omega), h4⟩
        have hsome : ∀ (i : Nat) (x : List Value), ((List.range len).map fun i => (w.cells? base (a.add (i * e.size)) e.size).getD [])[i]? = some x → w.cells? base (a.add (i * e.size)) e.size = some x ∧ x.length = e.size ∧ ∃ z, elems[i]? = some z ∧ FitB w e x (K.one z.1) := fun i x hx => by
          have hi : i < len := by have := (List.getElem?_eq_some_iff.1 hx).1; simpa using this
          obtain ⟨y, z, hy, hz, ht⟩ := hget i hi
          rw [List.getElem?_map, List.getElem?_range hi] at hx
          simp only [Option.map_some, hy, Option.getD_some, Option.some.injEq] at hx
          subst hx
          exact ⟨hy, (World.cells?_some hy).2.1, z, hz, ih.1 u h1 n y z ht⟩
        have hmem : ∀ x ∈ (List.range len).map (fun i => (w.cells? base (a.add (i * e.size)) e.size).getD []), x.length = e.size := fun x hx => by
          obtain ⟨i, hi⟩ := List.getElem?_of_mem hx
          exact (hsome i x hi).2.1
        refine ⟨some a, len, cap, _, elems.map fun x => K.one x.1, rfl, hl, hm, by simp, by simp [hlen], ?_, rows_read h0 (by simp) (fun i x hx => (hsome i x hx).1) hmem, ?_⟩
        · rw [hx]
          simp only [K.slice, K.map_sum]
          omega
        · intro i x k hx hk
          obtain ⟨_, h5, z, hz, h6⟩ := hsome i x hx
          rw [List.getElem?_map, hz] at hk
          simp at hk
          subst hk
          exact ⟨h5, h6⟩
    · cases h
  | unit =>
    refine ⟨fun t h => by simp [tyOk] at h, fun off fl h cs ys hl _ _ => ?_⟩
    show cs.drop off = []
    exact List.drop_of_length_le (by simp only [Ty.size] at hl; omega)
  | cons a b iha ihb =>
    refine ⟨fun t h => by simp [tyOk] at h, fun off fl h cs ys hl hyl hf => ?_⟩
    cases fl with
    | nil => simp [tyOk] at h
    | cons p fl =>
      cases ys with
      | nil => simp at hyl
      | cons y ys =>
        obtain ⟨o, t⟩ := p
        simp only [tyOk, Bool.and_eq_true] at h
        obtain ⟨⟨⟨h1, h2⟩, h3⟩, h4⟩ := h
        have ho := Nat.eq_of_beq_eq_true h1
        subst ho
        simp only [Ty.size] at hl
        have hsz := sizeIs_ok h3
        obtain ⟨n, hx⟩ := hf 0 o t y rfl rfl
        rw [hsz] at hx
        refine ⟨(cs.drop o).take a.size, cs.drop (o + a.size), K.one y.1, (ys.map fun x => K.one x.1).sum, ?_, by simp; omega, by simp, iha.1 t h2 n _ y hx, ?_⟩
        · rw [← List.drop_drop, List.take_append_drop]
        · exact ihb.2 (o + a.size) fl h4 cs ys (by omega) (by simpa using hyl) (fun i o' t' y' h' g' => hf (i + 1) o' t' y' (by simpa using h') (by simpa using g'))
  | struct p ih =>
    refine ⟨fun t h fuel cs x hd => ?_, fun _ _ h => by simp [tyOk] at h⟩
    simp only [tyOk] at h
    split at h
    · rename_i fl hfl
      simp only [Bool.and_eq_true] at h
      obtain ⟨h1, h2⟩ := h
      obtain ⟨fs, hu, hmap⟩ := E.fld_ok _ _ hfl
      obtain ⟨xs, n, _, hx, hl, hxl, hfs⟩ := DataW.trod_struct hu hd
      rw [sizeIs_ok h2] at hl
      have := ih.2 0 fl h1 cs xs (by omega) (by rw [hxl, ← hmap]; simp) (fun i o t' y h' g' => by
        rw [← hmap, List.getElem?_map] at h'
        cases hf : fs.toList[i]? with
        | none => rw [hf] at h'; cases h'
        | some f =>
          rw [hf] at h'
          cases h'
          have hf' : fs[i]? = some f := by simpa using hf
          have h5 := hfs i f hf'
          rw [g'] at h5
          exact ⟨n, h5⟩)
      rw [hx]
      refine FitB.mono (ty := p) (by simpa using this) ?_
      rw [K.agg, K.map_sum]
      omega
    · cases h
  | array n e ih =>
    refine ⟨fun t h fuel cs x hd => ?_, fun _ _ h => by simp [tyOk] at h⟩
    simp only [tyOk] at h
    split at h
    · rename_i m u hu
      simp only [Bool.and_eq_true] at h
      obtain ⟨⟨⟨h1, h2⟩, h3⟩, h4⟩ := h
      have hm := Nat.eq_of_beq_eq_true h1
      subst hm
      obtain ⟨xs, q, _, hx, hl, hxl, hel⟩ := DataW.trod_array (E.und_ok _ _ hu) hd
      rw [sizeIs_ok h4] at hl
      rw [sizeIs_ok h3] at hel
      refine ⟨(List.range m).map fun i => (cs.drop (i * e.size)).take e.size, xs.map fun x => K.one x.1, (take_drop_chunks m cs hl).symm, by simp, by simp [hxl], ?_, fun i y k hy hk => ?_⟩
      · rw [hx, K.agg, K.map_sum]
        omega
      · have hi' : i < m := by have := (List.getElem?_eq_some_iff.1 hy).1; simpa using this
        rw [List.getElem?_map, List.getElem?_range hi'] at hy
        simp at hy
        subst hy
        have h5 := hel i hi'
        rw [List.getElem?_map, ← h5] at hk
        cases ht : DataW.trod enc P w base spare held q u ((cs.drop (i * e.size)).take e.size) with
        | none => rw [ht] at hk; simp at hk
        | some z =>
          rw [ht] at hk
          simp at hk
          subst hk
          refine ⟨?_, ih.1 u h2 q _ _ ht⟩
          have : (i + 1) * e.size ≤ m * e.size := Nat.mul_le_mul_right _ hi'
          rw [Nat.succ_mul] at this
          simp; omega
    · cases h
/-- An argument that reads as data and holds so much. -/
def ReadsB (P : Program) (w : World) (base : Nat) (t : TypeId) (v : Value) (m : Nat) : Prop :=
  ∃ (H : Type) (enc : TypeId × Value → H) (d : DataW H) (ps : List MemPlace) (K : Bulk H), DataW.Trod enc P w 0 (fun _ => true) true t v d ps ∧ Value.okWide P w .any base t v ∧ K.one d ≤ m
theorem ReadsB.fit {t : TypeId} {v : Value} {m : Nat} (E : Env P) (h : ReadsB P w base t v m) (ty : Ty) (hok : tyOk E ty (.at t) = true) : FitB w ty v.cells.toList m := by
  obtain ⟨H, enc, d, ps, K, ⟨fuel, hf⟩, _, hm⟩ := h
  exact FitB.mono ((fitb_of_trod E K ty).1 t hok fuel _ _ hf) hm
theorem ReadsB.slice {t e : TypeId} {v : Value} {m : Nat} (E : Env P) (h : ReadsB P w base t v m) (ht : E.und t = some (.slice e)) : ∃ A n c, v = .slice A n c := by
  obtain ⟨_, _, _, _, _, _, hv, _⟩ := h
  exact okWide_slice (E.und_ok _ _ ht) hv
theorem FitB.bytes {A : Option Addr} {n c m : Nat} (h : FitB w (.slice (.int .u8)) [.slice A n c] m) : ∃ l, Rd w A n 1 (bv l) ∧ n ≤ c ∧ c ≤ maxLen ∧ n + 1 ≤ m := by
  obtain ⟨A', n', c', xs, ms, hv, h1, h2, h3, h4, h5, h6, h7⟩ := h
  cases hv
  have hn : n ≤ ms.sum := by
    rw [← h4]
    have key : ∀ (xs : List (List Value)) (ms : List Nat), xs.length = ms.length → (∀ (i : Nat) (x : List Value) (k : Nat), xs[i]? = some x → ms[i]? = some k → 1 ≤ k) → ms.length ≤ ms.sum := by
      intro xs
      induction xs with
      | nil => intro ms hl _; cases ms <;> simp at hl ⊢
      | cons x xs ih =>
        intro ms hl hk
        cases ms with
        | nil => simp
        | cons k ms =>
          have := ih ms (by simpa using hl) (fun i x k a b => hk (i + 1) x k (by simpa using a) (by simpa using b))
          have := hk 0 x k rfl rfl
          simp
          omega
    exact key xs ms (by omega) (fun i x k a b => (h7 i x k a b).2.1)
  have h8 : ∀ x ∈ xs, x.length = 1 ∧ Fit w (.int .u8) x := fun x hx => by
    obtain ⟨i, hi⟩ := List.getElem?_of_mem hx
    have hlt := (List.getElem?_eq_some_iff.1 hi).1
    have := h7 i x ms[i] hi (List.getElem?_eq_getElem (by omega))
    exact ⟨this.1, this.2.2⟩
  obtain ⟨l, hl, h9, h10⟩ := Fit.bytes (w := w) (A := A) (n := n) (c := c) ⟨A, n, c, xs, rfl, h1, h2, h3, h6, h8⟩
  exact ⟨l, hl, h9, h10, by omega⟩
end
end Go.Proofs.Eng

/- An argument that is a row, opened element by element. -/
namespace Go.Proofs.Eng
open Go.RowKit Go.WideShapes
set_option linter.unusedSimpArgs false
set_option linter.unusedVariables false
theorem rows_of {α : Type} {g : α → List Value} {Q : α → Prop} {w : World} {e : Ty} {M : Nat} (h : ∀ (x : List Value) (k : Nat), k ≤ M → FitB w e x k → 1 ≤ k ∧ ∃ a, x = g a ∧ Q a) :
    ∀ (xs : List (List Value)) (ms : List Nat), xs.length = ms.length → ms.sum ≤ M → (∀ (i : Nat) (x : List Value) (k : Nat), xs[i]? = some x → ms[i]? = some k → x.length = e.size ∧ FitB w e x k) → ∃ l : List α, rowV g l = xs.flatten ∧ (∀ a ∈ l, Q a) ∧ l.length = xs.length ∧ xs.length ≤ ms.sum
  | [], [], _, _, _ => ⟨[], rfl, fun a ha => (by cases ha), rfl, Nat.le_refl _⟩
  | [], _ :: _, hl, _, _ => by simp at hl
  | _ :: _, [], hl, _, _ => by simp at hl
  | x :: xs, k :: ms, hl, hs, hk => by
    simp only [List.sum_cons] at hs
    obtain ⟨l, h1, h2, h3, h4⟩ := rows_of h xs ms (by simpa using hl) (by omega) (fun i x k a b => hk (i + 1) x k (by simpa using a) (by simpa using b))
    obtain ⟨h5, a, rfl, ha⟩ := h x k (by omega) (hk 0 x k rfl rfl).2
    exact ⟨a :: l, by rw [rowV_cons, h1]; simp, fun b hb => by
      rcases List.mem_cons.1 hb with rfl | hb
      · exact ha
      · exact h2 b hb, by simp [h3], by simp only [List.length_cons, List.sum_cons]; omega⟩
/-- A row inside an argument. -/
theorem FitB.row {α : Type} {g : α → List Value} {Q : α → Prop} {w : World} {e : Ty} {M k : Nat} (h : ∀ (x : List Value) (k : Nat), k ≤ M → FitB w e x k → 1 ≤ k ∧ ∃ a, x = g a ∧ Q a) {x : List Value} (hx : FitB w (.slice e) x k) (hk : k ≤ M) :
    1 ≤ k ∧ ∃ (A : Option Addr) (n c : Nat) (l : List α), x = [.slice A n c] ∧ n ≤ c ∧ c ≤ maxLen ∧ n < k ∧ l.length = n ∧ Rd w A n e.size (rowV g l) ∧ ∀ a ∈ l, Q a := by
  obtain ⟨A, n, c, xs, ms, h1, h2, h3, h4, h5, h6, h7, h8⟩ := hx
  obtain ⟨l, g1, g2, g3, g4⟩ := rows_of h xs ms (by omega) (by omega) h8
  exact ⟨by omega, A, n, c, l, h1, h2, h3, by omega, by omega, by rw [g1]; exact h7, g2⟩
end Go.Proofs.Eng

/- Four results. -/
namespace Go.Proofs.Eng
open Go.RowKit
set_option linter.unusedSimpArgs false
set_option linter.unusedVariables false
set_option linter.unusedSectionVars false
section
variable {P : Program} {fn : Func} {n : Nat} {st : Slots} {k : List Item} {w : World} {Φ : Value → World → Prop} {dd : Bool}
theorem T_ret4 {t1 t2 t3 t4 : Tmp} {v1 v2 v3 v4 : Value} (hr : fn.results = #[.tmp t1, .tmp t2, .tmp t3, .tmp t4]) (h1 : look st t1 = some v1) (h2 : look st t2 = some v2) (h3 : look st t3 = some v3) (h4 : look st t4 = some v4)
    (hR : Φ (.tuple #[v1, v2, v3, v4]) w) : T P fn (RR Φ) ⟨dd, []⟩ n st (.code .ret :: k) w := T_ret rfl (fun a ha => by
  have e1 := ha.get _ _ h1
  have e2 := ha.get _ _ h2
  have e3 := ha.get _ _ h3
  have e4 := ha.get _ _ h4
  simp only [Array.getD_eq_getD_getElem?] at e1 e2 e3 e4
  simp [results, hr, e1, e2, e3, e4]) hR
end
end Go.Proofs.Eng

/- A story of a scheduler, as an argument. -/
namespace Go.Proofs.YtgdbckjkeofoaaaGreat
open Go.RowKit Go.Proofs.Eng Go.Proofs.Foot Go.Proofs.Locks Go.Proofs.Sched
set_option linter.unusedSimpArgs false
set_option linter.unusedVariables false set_option maxRecDepth 10000
attribute [local irreducible] T TL LV TH TA
structure AD where
  kd : Int
  by_ : Int
  A : Option Addr
  n : Nat
  c : Nat
  B : Option Addr
  m : Nat
  d : Nat
  r : List Tx
  k : List Tx
def ad0 : AD := ⟨0, 0, none, 0, 0, none, 0, 0, [], []⟩
def adV (x : AD) : List Value := [.int .i64 x.kd, .int .i64 x.by_, .slice x.A x.n x.c, .slice x.B x.m x.d]
theorem adV_len (x : AD) : (adV x).length = 4 := rfl
def i64ok (z : Int) : Prop := -9223372036854775808 ≤ z ∧ z ≤ 9223372036854775807
structure AdOk (w : World) (x : AD) : Prop where
  ra : Rd w x.A x.n 1 (sv x.r)
  rb : Rd w x.B x.m 1 (sv x.k)
  nc : x.n ≤ 1048576 ∧ x.m ≤ 1048576
  kd : i64ok x.kd
  bd : i64ok x.by_
  sr : ∀ y ∈ x.r, y.length ≤ 1048576
  sk : ∀ y ∈ x.k, y.length ≤ 1048576
theorem AdOk.be {w w' : World} {x : AD} (h : AdOk w x) (e : Ext w w') : AdOk w' x := { h with ra := h.ra.be e, rb := h.rb.be e }
abbrev tyFt : Ty := .struct (.cons (.slice .str) (.cons (.slice .str) .unit))
abbrev tyAct15 : Ty := .struct (.cons (.int .i64) (.cons (.int .i64) (.cons tyFt .unit)))
abbrev tyStory15 : Ty := .struct (.cons (.int .i64) (.cons (.int .i64) (.cons (.slice .str) (.cons (.int .i64) (.cons (.slice tyAct15) .unit)))))
theorem rowV_sv (l : List Tx) : rowV (fun t : Tx => [Value.string (ofL t)]) l = sv l := by simp [rowV, sv, List.flatten_eq_flatMap, List.flatMap_map, ← List.map_eq_flatMap]
theorem strs_of {w : World} {M k : Nat} {x : List Value} (hk : k ≤ M) (h : FitB w (.slice .str) x k) : ∃ A n c l, x = [.slice A n c] ∧ Rd w A n 1 (sv l) ∧ l.length = n ∧ n ≤ c ∧ c ≤ 9223372036854775807 ∧ n + 1 ≤ k ∧ ∀ y ∈ l, y.length ≤ M := by
  obtain ⟨_, A', n', c', l, hv, g1, g2, g3, g4, g5, g6⟩ := FitB.row (g := fun t : Tx => [Value.string (ofL t)]) (Q := fun t => t.length ≤ M) (M := M) (fun x k hk hx => by
    obtain ⟨S, rfl, h1, h2⟩ := hx
    have : S.data.toList.length = S.size := Array.length_toList
    exact ⟨by omega, S.data.toList, rfl, by omega⟩) h hk
  unfold maxLen at g2
  rw [rowV_sv] at g5
  exact ⟨A', n', c', l, hv, g5, g4, g1, g2, by omega, g6⟩
theorem act15_of {w : World} (x : List Value) (k : Nat) (hk : k ≤ 1048576) (h : FitB w tyAct15 x k) : 1 ≤ k ∧ ∃ a : AD, x = adV a ∧ AdOk w a := by
  obtain ⟨x1, y1, p, q, rfl, h1, h2, ⟨h3, kd, rfl, f1⟩, x2, y2, p2, q2, rfl, h4, h5, ⟨h6, by_, rfl, f2⟩, x3, y3, p3, q3, rfl, h8, h9, h10, hz⟩ := h
  have hz : y3 = [] := hz
  subst hz
  obtain ⟨u1, v1, s1, t1, rfl, g1, g2, hA, u2, v2, s2, t2, rfl, g3, g4, hB, hz2⟩ := h10
  have hz2 : v2 = [] := hz2
  subst hz2
  obtain ⟨A, n, c, r, rfl, a1, a2, a3, a4, a5, a6⟩ := strs_of (M := 1048576) (by omega) hA
  obtain ⟨B, m, d, k', rfl, b1, b2, b3, b4, b5, b6⟩ := strs_of (M := 1048576) (by omega) hB
  exact ⟨by omega, ⟨kd, by_, A, n, c, B, m, d, r, k'⟩, rfl, a1, b1, ⟨by simp only; omega, by simp only; omega⟩, f1, f2, a6, b6⟩
theorem agg_5 {v a b c d e : Value} (h : v.cells.toList = [a, b, c, d, e]) : v = .agg #[a, b, c, d, e] := by
  cases v with
  | agg cs =>
    have e : cs.toList = [a, b, c, d, e] := h
    congr
    exact Array.toList_inj.1 (by simpa using e)
  | _ => simp [Value.cells] at h
theorem story15_in {w : World} {base : Nat} {v : Value} (h : ReadsB Tryz.prog w base 25 v 1048576) :
    ∃ (a b wn : Int) (KA : Option Addr) (kn kc : Nat) (ks : List Tx) (A : Option Addr) (n c : Nat) (l : List AD), v = .agg #[.int .i64 a, .int .i64 b, .slice KA kn kc, .int .i64 wn, .slice A n c] ∧ i64ok a ∧ i64ok b ∧ i64ok wn ∧ Rd w KA kn 1 (sv ks) ∧ kn ≤ 1048576 ∧ (∀ y ∈ ks, y.length ≤ 1048576) ∧ Rd w A n 4 (rowV adV l) ∧ l.length = n ∧ (∀ x ∈ l, AdOk w x) ∧ n ≤ 1048576 := by
  obtain ⟨x1, y1, p1, q1, h1, -, h2, ⟨_, a, rfl, fa⟩, x2, y2, p2, q2, rfl, -, h5, ⟨_, b, rfl, fb⟩, x3, y3, p3, q3, rfl, -, h8, hk, x4, y4, p4, q4, rfl, -, h9, ⟨_, wn, rfl, fd⟩, x5, y5, p5, q5, rfl, -, h10, hs, hz⟩ := h.fit TE tyStory15 (by decide +kernel)
  have hz : y5 = [] := hz
  subst hz
  obtain ⟨KA, kn, kc, ks, rfl, a1, a2, a3, a4, a5, a6⟩ := strs_of (M := 1048576) (by omega) hk
  obtain ⟨_, A, n, c, l, rfl, g1, g2, g3, g4, g5, g6⟩ := FitB.row (g := adV) (Q := AdOk w) (M := 1048576) act15_of hs (by omega)
  exact ⟨a, b, wn, KA, kn, kc, ks, A, n, c, l, agg_5 h1, fa, fb, fd, a1, by omega, a6, g5, g4, g6, by omega⟩
def totD (l : List AD) (i : Nat) : Nat := ((l.take i).map fun x => x.n + x.m).sum
theorem totD_succ (l : List AD) (i : Nat) (hi : i < l.length) : totD l (i + 1) = totD l i + ((l.getD i ad0).n + (l.getD i ad0).m) := by
  unfold totD
  rw [List.take_succ_eq_append_getElem hi, List.map_append, List.sum_append]
  simp only [List.map_cons, List.map_nil, List.sum_cons, List.sum_nil, Nat.add_zero]
  rw [List.getD_eq_getElem?_getD, List.getElem?_eq_getElem hi]
  rfl
theorem totD_mem {l : List AD} {n : Nat} (hl : l.length = n) : ∀ x ∈ l, x.n + x.m ≤ totD l n := by
  unfold totD
  rw [List.take_of_length_le (by omega)]
  clear hl
  induction l with
  | nil => intro x hx; cases hx
  | cons y l ih =>
    intro x hx
    rw [List.map_cons, List.sum_cons]
    rcases List.mem_cons.1 hx with rfl | hx
    · omega
    · have := ih x hx; omega
set_option maxHeartbeats 3200000
theorem long_c15 (a b wn : Int) (KA : Option Addr) (kn kc : Nat) (A : Option Addr) (n c : Nat) (l : List AD) (w : World) (hr : Rd w A n 4 (rowV adV l)) (hl : l.length = n) (hm : ∀ x ∈ l, AdOk w x) (hn : n ≤ 1048576) :
    Ret Tryz.prog 6 [.agg #[.int .i64 a, .int .i64 b, .slice KA kn kc, .int .i64 wn, .slice A n c]] w (fun v w' => (v = .bool true ∨ v = .bool false ∧ n ≤ 200 ∧ kn ≤ 200 ∧ ∀ x ∈ l, x.n + x.m ≤ 3000) ∧ Ext w w') := by
  refine ret_T (n := 45) Tryz.func6 rfl rfl ?_
  repeat (first | refine T_seq ?_ | refine T_region ?_)
  refine TL_box (hk := ?_); intro b1 w1 e1 h1 h1' k1
  replace k1 : Blk w1 b1 25 [.int .i64 a, .int .i64 b, .slice KA kn kc, .int .i64 wn, .slice A n c] := k1
  have hr1 := hr.be e1
  have hbD : b1 ∉ ([] : List Nat) := by simp
  have hAD : Off A ([] : List Nat) := .nil _
  repeat (first | refine T_seq ?_ | refine T_region ?_ | refine T_block ?_ | refine TL_nil ?_ | refine TL_assign (hk := ?_))
  refine T_loop (ι := Nat) (fun i => [(4, .int .i64 (i : Int)), (3, .int .i64 ((totD l i : Nat) : Int)), (1, .pointer (some ⟨b1, 0, none⟩))]) (fun i w' => Ext w1 w' ∧ i ≤ n ∧ totD l i ≤ i * 2097152) (fun i => n - i) 0 (.c rfl (.c rfl (.c rfl (.n)))) ⟨Mod.refl _ _, Nat.zero_le _, by simp [totD]⟩ ?_
  rintro i w2 ⟨e2, hi, ht⟩ ih
  have k2 := k1.be e2
  have hr2 := hr1.be e2
  by_cases hlt : i < n
  · have hA : A ≠ none := by obtain ⟨_, _, hq, _⟩ := hr2.2 (by omega); rw [hq]; simp
    have hv2 : (rowV adV l)[i * 4 + 2]? = some (.slice (l.getD i ad0).A (l.getD i ad0).n (l.getD i ad0).c) := rowV_at adV_len l i 2 ad0 (by omega) (by omega)
    have hv3 : (rowV adV l)[i * 4 + 3]? = some (.slice (l.getD i ad0).B (l.getD i ad0).m (l.getD i ad0).d) := rowV_at adV_len l i 3 ad0 (by omega) (by omega)
    have hsu := totD_succ l i (by omega)
    have hb := (hm _ (show l.getD i ad0 ∈ l from getD_in (by omega))).nc
    generalize l.getD i ad0 = x at hv2 hv3 hsu hb
    have hmul : (i + 1) * 2097152 = i * 2097152 + 2097152 := Nat.succ_mul _ _
    have hmul2 : i * 2097152 ≤ 1048576 * 2097152 := Nat.mul_le_mul_right _ (by omega)
    have hc : ((totD l i : Nat) : Int) + (x.n : Int) + (x.m : Int) = ((totD l (i + 1) : Nat) : Int) := by omega
    repeat (first | refine T_seq ?_ | refine T_region ?_ | refine T_cond_true rfl ?_ | refine T_block ?_ | refine T_skip ?_ | refine TL_lt_t (hk := ?_) | refine TL_nil ?_ | refine TL_move (hk := ?_) | refine TL_load TE (hk := ?_) | refine TL_fieldAddr TE (hk := ?_) | refine TL_len TE (hk := ?_))
    refine T_region_any TE.mixed ([] : List Nat) ?_; intro w3 e3 z3
    have k3 := k2.be e3
    have hr3 := hr2.be e3
    (refine TA_take 0 rfl (by kernel_rfl) (by kernel_rfl) (by kernel_rfl) ?_; (repeat (first | refine TL_add (hk := ?_) | refine TL_move (hk := ?_) | refine TLP_load TE (hk := ?_) | refine TLP_load_rd TE (hk := ?_) | refine TL_fieldAddr TE (hk := ?_) | refine TL_fieldAddr_e TE (hk := ?_) | refine TL_indexAddrn TE (hk := ?_) | refine TL_len TE (hk := ?_))); refine TL_nil_p ?_); (refine TA_take 1 rfl (by kernel_rfl) (by kernel_rfl) (by kernel_rfl) ?_; (repeat (first | refine TL_add (hk := ?_) | refine TL_move (hk := ?_) | refine TLP_load TE (hk := ?_) | refine TLP_load_rd TE (hk := ?_) | refine TL_fieldAddr TE (hk := ?_) | refine TL_fieldAddr_e TE (hk := ?_) | refine TL_indexAddrn TE (hk := ?_) | refine TL_len TE (hk := ?_))); refine TL_nil_p ?_); (refine TA_take 2 rfl (by kernel_rfl) (by kernel_rfl) (by kernel_rfl) ?_; (repeat (first | refine TL_add (hk := ?_) | refine TL_move (hk := ?_) | refine TLP_load TE (hk := ?_) | refine TLP_load_rd TE (hk := ?_) | refine TL_fieldAddr TE (hk := ?_) | refine TL_fieldAddr_e TE (hk := ?_) | refine TL_indexAddrn TE (hk := ?_) | refine TL_len TE (hk := ?_))); refine TL_nil_p ?_); (refine TA_take 3 rfl (by kernel_rfl) (by kernel_rfl) (by kernel_rfl) ?_; (repeat (first | refine TL_add (hk := ?_) | refine TL_move (hk := ?_) | refine TLP_load TE (hk := ?_) | refine TLP_load_rd TE (hk := ?_) | refine TL_fieldAddr TE (hk := ?_) | refine TL_fieldAddr_e TE (hk := ?_) | refine TL_indexAddrn TE (hk := ?_) | refine TL_len TE (hk := ?_))); refine TL_nil_p ?_); (refine TA_take 4 rfl (by kernel_rfl) (by kernel_rfl) (by kernel_rfl) ?_; (repeat (first | refine TL_add (hk := ?_) | refine TL_move (hk := ?_) | refine TLP_load TE (hk := ?_) | refine TLP_load_rd TE (hk := ?_) | refine TL_fieldAddr TE (hk := ?_) | refine TL_fieldAddr_e TE (hk := ?_) | refine TL_indexAddrn TE (hk := ?_) | refine TL_len TE (hk := ?_))); refine TL_nil_p ?_); (refine TA_take 5 rfl (by kernel_rfl) (by kernel_rfl) (by kernel_rfl) ?_; (repeat (first | refine TL_add (hk := ?_) | refine TL_move (hk := ?_) | refine TLP_load TE (hk := ?_) | refine TLP_load_rd TE (hk := ?_) | refine TL_fieldAddr TE (hk := ?_) | refine TL_fieldAddr_e TE (hk := ?_) | refine TL_indexAddrn TE (hk := ?_) | refine TL_len TE (hk := ?_))); refine TL_nil_p ?_); (refine TA_take 6 rfl (by kernel_rfl) (by kernel_rfl) (by kernel_rfl) ?_; (repeat (first | refine TL_add (hk := ?_) | refine TL_move (hk := ?_) | refine TLP_load TE (hk := ?_) | refine TLP_load_rd TE (hk := ?_) | refine TL_fieldAddr TE (hk := ?_) | refine TL_fieldAddr_e TE (hk := ?_) | refine TL_indexAddrn TE (hk := ?_) | refine TL_len TE (hk := ?_))); refine TL_nil_p ?_); (refine TA_take 7 rfl (by kernel_rfl) (by kernel_rfl) (by kernel_rfl) ?_; (repeat (first | refine TL_add (hk := ?_) | refine TL_move (hk := ?_) | refine TLP_load TE (hk := ?_) | refine TLP_load_rd TE (hk := ?_) | refine TL_fieldAddr TE (hk := ?_) | refine TL_fieldAddr_e TE (hk := ?_) | refine TL_indexAddrn TE (hk := ?_) | refine TL_len TE (hk := ?_))); refine TL_nil_p ?_); (refine TA_take 8 rfl (by kernel_rfl) (by kernel_rfl) (by kernel_rfl) ?_; (repeat (first | refine TL_add (hk := ?_) | refine TL_move (hk := ?_) | refine TLP_load TE (hk := ?_) | refine TLP_load_rd TE (hk := ?_) | refine TL_fieldAddr TE (hk := ?_) | refine TL_fieldAddr_e TE (hk := ?_) | refine TL_indexAddrn TE (hk := ?_) | refine TL_len TE (hk := ?_))); refine TL_nil_p ?_); (refine TA_take 9 rfl (by kernel_rfl) (by kernel_rfl) (by kernel_rfl) ?_; (repeat (first | refine TL_add (hk := ?_) | refine TL_move (hk := ?_) | refine TLP_load TE (hk := ?_) | refine TLP_load_rd TE (hk := ?_) | refine TL_fieldAddr TE (hk := ?_) | refine TL_fieldAddr_e TE (hk := ?_) | refine TL_indexAddrn TE (hk := ?_) | refine TL_len TE (hk := ?_))); refine TL_nil_p ?_); (refine TA_take 10 rfl (by kernel_rfl) (by kernel_rfl) (by kernel_rfl) ?_; (repeat (first | refine TL_add (hk := ?_) | refine TL_move (hk := ?_) | refine TLP_load TE (hk := ?_) | refine TLP_load_rd TE (hk := ?_) | refine TL_fieldAddr TE (hk := ?_) | refine TL_fieldAddr_e TE (hk := ?_) | refine TL_indexAddrn TE (hk := ?_) | refine TL_len TE (hk := ?_))); refine TL_nil_p ?_); (refine TA_take 11 rfl (by kernel_rfl) (by kernel_rfl) (by kernel_rfl) ?_; (repeat (first | refine TL_add (hk := ?_) | refine TL_move (hk := ?_) | refine TLP_load TE (hk := ?_) | refine TLP_load_rd TE (hk := ?_) | refine TL_fieldAddr TE (hk := ?_) | refine TL_fieldAddr_e TE (hk := ?_) | refine TL_indexAddrn TE (hk := ?_) | refine TL_len TE (hk := ?_))); refine TL_nil_p ?_); (refine TA_take 12 rfl (by kernel_rfl) (by kernel_rfl) (by kernel_rfl) ?_; (repeat (first | refine TL_add (hk := ?_) | refine TL_move (hk := ?_) | refine TLP_load TE (hk := ?_) | refine TLP_load_rd TE (hk := ?_) | refine TL_fieldAddr TE (hk := ?_) | refine TL_fieldAddr_e TE (hk := ?_) | refine TL_indexAddrn TE (hk := ?_) | refine TL_len TE (hk := ?_))); refine TL_nil_p ?_); (refine TA_take 13 rfl (by kernel_rfl) (by kernel_rfl) (by kernel_rfl) ?_; (repeat (first | refine TL_add (hk := ?_) | refine TL_move (hk := ?_) | refine TLP_load TE (hk := ?_) | refine TLP_load_rd TE (hk := ?_) | refine TL_fieldAddr TE (hk := ?_) | refine TL_fieldAddr_e TE (hk := ?_) | refine TL_indexAddrn TE (hk := ?_) | refine TL_len TE (hk := ?_))); refine TL_nil_p ?_); (refine TA_take 14 rfl (by kernel_rfl) (by kernel_rfl) (by kernel_rfl) ?_; (repeat (first | refine TL_add (hk := ?_) | refine TL_move (hk := ?_) | refine TLP_load TE (hk := ?_) | refine TLP_load_rd TE (hk := ?_) | refine TL_fieldAddr TE (hk := ?_) | refine TL_fieldAddr_e TE (hk := ?_) | refine TL_indexAddrn TE (hk := ?_) | refine TL_len TE (hk := ?_))); refine TL_nil_p ?_); (refine TA_take 15 rfl (by kernel_rfl) (by kernel_rfl) (by kernel_rfl) ?_; (repeat (first | refine TL_add (hk := ?_) | refine TL_move (hk := ?_) | refine TLP_load TE (hk := ?_) | refine TLP_load_rd TE (hk := ?_) | refine TL_fieldAddr TE (hk := ?_) | refine TL_fieldAddr_e TE (hk := ?_) | refine TL_indexAddrn TE (hk := ?_) | refine TL_len TE (hk := ?_))); refine TL_nil_p ?_); (refine TA_take 16 rfl (by kernel_rfl) (by kernel_rfl) (by kernel_rfl) ?_; (repeat (first | refine TL_add (hk := ?_) | refine TL_move (hk := ?_) | refine TLP_load TE (hk := ?_) | refine TLP_load_rd TE (hk := ?_) | refine TL_fieldAddr TE (hk := ?_) | refine TL_fieldAddr_e TE (hk := ?_) | refine TL_indexAddrn TE (hk := ?_) | refine TL_len TE (hk := ?_))); refine TL_nil_p ?_); (refine TA_take 17 rfl (by kernel_rfl) (by kernel_rfl) (by kernel_rfl) ?_; (repeat (first | refine TL_add (hk := ?_) | refine TL_move (hk := ?_) | refine TLP_load TE (hk := ?_) | refine TLP_load_rd TE (hk := ?_) | refine TL_fieldAddr TE (hk := ?_) | refine TL_fieldAddr_e TE (hk := ?_) | refine TL_indexAddrn TE (hk := ?_) | refine TL_len TE (hk := ?_))); refine TL_nil_p ?_); (refine TA_take 18 rfl (by kernel_rfl) (by kernel_rfl) (by kernel_rfl) ?_; (repeat (first | refine TL_add (hk := ?_) | refine TL_move (hk := ?_) | refine TLP_load TE (hk := ?_) | refine TLP_load_rd TE (hk := ?_) | refine TL_fieldAddr TE (hk := ?_) | refine TL_fieldAddr_e TE (hk := ?_) | refine TL_indexAddrn TE (hk := ?_) | refine TL_len TE (hk := ?_))); refine TL_nil_p ?_)
    rw [hc]
    (refine TA_one 19 rfl (by kernel_rfl) (by kernel_rfl) ?_; (repeat (refine TL_assign (hk := ?_))); refine TL_nil_p ?_)
    refine TA_done (by kernel_rfl) ?_
    repeat (first | refine T_region ?_ | refine T_inBlock ?_ | refine TL_add (hk := ?_) | refine TL_nil ?_ | refine TL_move (hk := ?_) | refine TL_assign (hk := ?_))
    exact ih (i + 1) _ _ (by omega) ⟨e2.ext e3, by omega, by omega⟩ (.c rfl (.c rfl (.c rfl (.n))))
  · have : n = i := by omega
    subst this
    clear ih
    by_cases h40 : 200 < n
    · repeat (first | refine T_seq ?_ | refine T_region ?_ | refine T_cond_false rfl ?_ | refine T_exit rfl ?_ | refine TL_lt_f (hk := ?_) | refine TL_gt_t (hk := ?_) | refine TL_nil ?_ | refine TL_move (hk := ?_) | refine TL_assign (hk := ?_) | refine TL_load TE (hk := ?_) | refine TL_fieldAddr TE (hk := ?_) | refine TL_len TE (hk := ?_) | refine TL_no (hk := ?_) | refine TL_pick_t (hk := ?_))
      exact T_ret1 rfl rfl ⟨.inl rfl, e1.ext e2⟩
    · by_cases h15 : 3000 < totD l n
      · repeat (first | refine T_seq ?_ | refine T_region ?_ | refine T_cond_false rfl ?_ | refine T_exit rfl ?_ | refine TL_lt_f (hk := ?_) | refine TL_gt_t (hk := ?_) | refine TL_gt_f (hk := ?_) | refine TL_nil ?_ | refine TL_move (hk := ?_) | refine TL_assign (hk := ?_) | refine TL_load TE (hk := ?_) | refine TL_fieldAddr TE (hk := ?_) | refine TL_len TE (hk := ?_) | refine TL_yes (hk := ?_) | refine TL_no (hk := ?_) | refine TL_pick_t (hk := ?_) | refine TL_pick_f (hk := ?_))
        exact T_ret1 rfl rfl ⟨.inl rfl, e1.ext e2⟩
      · by_cases h20 : 200 < kn
        · repeat (first | refine T_seq ?_ | refine T_region ?_ | refine T_cond_false rfl ?_ | refine T_exit rfl ?_ | refine TL_lt_f (hk := ?_) | refine TL_gt_t (hk := ?_) | refine TL_gt_f (hk := ?_) | refine TL_nil ?_ | refine TL_move (hk := ?_) | refine TL_assign (hk := ?_) | refine TL_load TE (hk := ?_) | refine TL_fieldAddr TE (hk := ?_) | refine TL_len TE (hk := ?_) | refine TL_yes (hk := ?_) | refine TL_pick_f (hk := ?_))
          exact T_ret1 rfl rfl ⟨.inl rfl, e1.ext e2⟩
        · repeat (first | refine T_seq ?_ | refine T_region ?_ | refine T_cond_false rfl ?_ | refine T_exit rfl ?_ | refine TL_lt_f (hk := ?_) | refine TL_gt_f (hk := ?_) | refine TL_nil ?_ | refine TL_move (hk := ?_) | refine TL_assign (hk := ?_) | refine TL_load TE (hk := ?_) | refine TL_fieldAddr TE (hk := ?_) | refine TL_len TE (hk := ?_) | refine TL_yes (hk := ?_) | refine TL_pick_f (hk := ?_))
          exact T_ret1 rfl rfl ⟨.inr ⟨rfl, by omega, by omega, fun x hx => Nat.le_trans (totD_mem hl x hx) (by omega)⟩, e1.ext e2⟩
end Go.Proofs.YtgdbckjkeofoaaaGreat

namespace Go.Proofs.YtgdbckjkeofoaaaGreat
open Go.RowKit Go.Proofs.Eng Go.Proofs.Foot Go.Proofs.Locks Go.Proofs.Sched
set_option linter.unusedSimpArgs false
set_option linter.unusedVariables false set_option maxRecDepth 10000
attribute [local irreducible] T TL LV TH TA
set_option maxHeartbeats 3200000
theorem StNewBad_c (a b : Int) (w : World) (h : ¬ ((1 ≤ a ∧ a ≤ 64) ∧ 1 ≤ b ∧ b ≤ 4096)) : Ret Tryz.prog 26 [.int .i64 a, .int .i64 b] w (fun v w' => v = .tuple #[.pointer none, .int .i64 2] ∧ Ext w w') := by
  refine ret_T (n := 40) Tryz.func26 rfl rfl ?_
  by_cases q1 : a < 1
  · repeat (first | refine T_seq ?_ | refine T_region ?_ | refine T_cond_true rfl ?_ | refine TL_lt_t (hk := ?_) | refine TL_nil ?_ | refine TL_move (hk := ?_) | refine TL_assign (hk := ?_) | refine TL_no (hk := ?_) | refine TL_pick_t (hk := ?_))
    exact T_ret2 rfl rfl rfl ⟨rfl, Mod.refl _ _⟩
  by_cases q2 : 64 < a
  · repeat (first | refine T_seq ?_ | refine T_region ?_ | refine T_cond_true rfl ?_ | refine TL_lt_f (hk := ?_) | refine TL_gt_t (hk := ?_) | refine TL_nil ?_ | refine TL_move (hk := ?_) | refine TL_assign (hk := ?_) | refine TL_yes (hk := ?_) | refine TL_no (hk := ?_) | refine TL_pick_t (hk := ?_) | refine TL_pick_f (hk := ?_))
    exact T_ret2 rfl rfl rfl ⟨rfl, Mod.refl _ _⟩
  by_cases q3 : b < 1
  · repeat (first | refine T_seq ?_ | refine T_region ?_ | refine T_cond_true rfl ?_ | refine TL_lt_t (hk := ?_) | refine TL_lt_f (hk := ?_) | refine TL_gt_f (hk := ?_) | refine TL_nil ?_ | refine TL_move (hk := ?_) | refine TL_assign (hk := ?_) | refine TL_yes (hk := ?_) | refine TL_no (hk := ?_) | refine TL_pick_t (hk := ?_) | refine TL_pick_f (hk := ?_))
    exact T_ret2 rfl rfl rfl ⟨rfl, Mod.refl _ _⟩
  by_cases q4 : 4096 < b
  · repeat (first | refine T_seq ?_ | refine T_region ?_ | refine T_cond_true rfl ?_ | refine TL_lt_f (hk := ?_) | refine TL_gt_t (hk := ?_) | refine TL_gt_f (hk := ?_) | refine TL_nil ?_ | refine TL_move (hk := ?_) | refine TL_assign (hk := ?_) | refine TL_yes (hk := ?_) | refine TL_pick_f (hk := ?_))
    exact T_ret2 rfl rfl rfl ⟨rfl, Mod.refl _ _⟩
  · exact absurd ⟨by omega, by omega⟩ h
theorem ScNewBad_c (z : Int) (b : Nat) (w : World) (h : ¬ (1 ≤ z ∧ z ≤ 4096)) : Ret Tryz.prog 30 [.int .i64 z, pB b] w (fun v w' => v = .tuple #[.pointer none, .int .i64 2] ∧ Ext w w') := by
  refine ret_T (n := 21) Tryz.func30 rfl rfl ?_
  by_cases q1 : z < 1
  · repeat (first | refine T_seq ?_ | refine T_region ?_ | refine T_cond_true rfl ?_ | refine TL_lt_t (hk := ?_) | refine TL_nil ?_ | refine TL_move (hk := ?_) | refine TL_assign (hk := ?_) | refine TL_no (hk := ?_) | refine TL_pick_t (hk := ?_))
    exact T_ret2 rfl rfl rfl ⟨rfl, Mod.refl _ _⟩
  by_cases q2 : 4096 < z
  · repeat (first | refine T_seq ?_ | refine T_region ?_ | refine T_cond_true rfl ?_ | refine TL_lt_f (hk := ?_) | refine TL_gt_t (hk := ?_) | refine TL_nil ?_ | refine TL_move (hk := ?_) | refine TL_assign (hk := ?_) | refine TL_yes (hk := ?_) | refine TL_no (hk := ?_) | refine TL_pick_t (hk := ?_) | refine TL_pick_f (hk := ?_))
    exact T_ret2 rfl rfl rfl ⟨rfl, Mod.refl _ _⟩
  · exact absurd ⟨by omega, by omega⟩ h
theorem R15New_c (z : Int) (b : Nat) (w : World) : Ret Tryz.prog 31 [.int .i64 z, pB b] w (fun v w' => Ext w w' ∧ ((1 ≤ z ∧ z ≤ 4096) ∧ (∃ y, v = .tuple #[pB y, .int .i64 0]) ∨ ¬ (1 ≤ z ∧ z ≤ 4096) ∧ v = .tuple #[.pointer none, .int .i64 2])) := by
  refine ret_T (n := 20) Tryz.func31 rfl rfl ?_
  by_cases q1 : z < 1
  · repeat (first | refine T_seq ?_ | refine T_region ?_ | refine T_cond_true rfl ?_ | refine TL_lt_t (hk := ?_) | refine TL_nil ?_ | refine TL_move (hk := ?_) | refine TL_assign (hk := ?_) | refine TL_no (hk := ?_) | refine TL_pick_t (hk := ?_))
    exact T_ret2 rfl rfl rfl ⟨Mod.refl _ _, .inr ⟨by omega, rfl⟩⟩
  by_cases q2 : 4096 < z
  · repeat (first | refine T_seq ?_ | refine T_region ?_ | refine T_cond_true rfl ?_ | refine TL_lt_f (hk := ?_) | refine TL_gt_t (hk := ?_) | refine TL_nil ?_ | refine TL_move (hk := ?_) | refine TL_assign (hk := ?_) | refine TL_yes (hk := ?_) | refine TL_no (hk := ?_) | refine TL_pick_t (hk := ?_) | refine TL_pick_f (hk := ?_))
    exact T_ret2 rfl rfl rfl ⟨Mod.refl _ _, .inr ⟨by omega, rfl⟩⟩
  · repeat (first | refine T_seq ?_ | refine T_region ?_ | refine T_cond_false rfl ?_ | refine T_skip ?_ | refine TL_lt_f (hk := ?_) | refine TL_gt_f (hk := ?_) | refine TL_pnil_f TE (hk := ?_) | refine TL_nil ?_ | refine TL_move (hk := ?_) | refine TL_assign (hk := ?_) | refine TL_yes (hk := ?_) | refine TL_pick_f (hk := ?_) | refine TL_build TE (hk := ?_))
    refine TL_box (hk := ?_); intro b1 w1 e1 h1 h1' k1
    repeat (first | refine TL_nil ?_ | refine TL_assign (hk := ?_))
    exact T_ret2 rfl rfl rfl ⟨e1, .inl ⟨by omega, b1, rfl⟩⟩
/-- What is made: a scheduler, or none; it is as the document has it. -/
def MadeP (w w' : World) (wn : Int) (X : Value) : Prop := X = .pointer none ∨ ∃ bs m h g f S, X = pB m.p ∧ w.heap.size ≤ bs ∧ SchedM w' bs m h g f (newSS wn.toNat S) ∧ SI 0 (newSS wn.toNat S) ∧ SR (newSS wn.toNat S) ∧ (wn.toNat : Int) = wn ∧ ∀ b, oA h g f b ≠ 0 → bs ≤ b
end Go.Proofs.YtgdbckjkeofoaaaGreat

/- What is added, taken, done: the scheduler stays as it must be. -/
namespace Go.Proofs.YtgdbckjkeofoaaaGreat
open Go.RowKit Go.Proofs.Eng Go.Proofs.Foot Go.Proofs.Locks Go.Proofs.Sched
set_option linter.unusedSimpArgs false
set_option linter.unusedVariables false set_option maxRecDepth 10000
attribute [local irreducible] T TL LV TH TA
def ftE (x : EnE) : List Tx × List Tx := (x.rd, x.wr)
section
variable {E E' : List EnE} {n i k z N : Nat} {s : SS}
theorem ft_set (E : List EnE) (i z : Nat) : (setSt E i z).map ftE = E.map ftE := by
  unfold setSt
  apply List.ext_getElem?
  intro j
  rw [List.getElem?_map, List.getElem?_map]
  by_cases hi : i < E.length
  · by_cases e : i = j
    · subst e
      rw [List.getElem?_set_self hi, List.getElem?_eq_getElem hi, List.getD_eq_getElem?_getD, List.getElem?_eq_getElem hi]
      rfl
    · rw [List.getElem?_set_ne e]
  · rw [List.set_eq_of_length_le (by omega)]
theorem ft_rdys (L : List Int) : ∀ (E : List EnE), (L.foldl rdyS E).map ftE = E.map ftE := by
  induction L with
  | nil => intro E; rfl
  | cons q L ih =>
    intro E
    rw [List.foldl_cons, ih]
    unfold rdyS
    split
    · exact ft_set _ _ _
    · rfl
theorem ft_lockS (s : SS) : (lockS s).E.map ftE = s.E.map ftE := by
  unfold lockS
  simp only
  split <;> exact ft_set _ _ _
theorem ft_lockL : ∀ (f : Nat) (s : SS), (lockL f s).E.map ftE = s.E.map ftE
  | 0, s => rfl
  | f + 1, s => by
    unfold lockL
    split
    · rw [ft_lockL f, ft_lockS]
    · rfl
theorem ft_lock (s : SS) : (lockE s).E.map ftE = s.E.map ftE := by
  unfold lockE
  simp only
  rw [ft_rdys]
  exact ft_lockL _ _
theorem chk_of : ∀ (l : List Lk) (p : Option Tx), (l.map (·.1)).Pairwise (· < ·) → (∀ x ∈ l, validT x.1 = true) → (∀ y, p = some y → ∀ x ∈ l, y < x.1) → chk p l = 0
  | [], p, _, _, _ => by unfold chk; rfl
  | x :: l, p, h1, h2, h3 => by
    rw [List.map_cons, List.pairwise_cons] at h1
    unfold chk
    rw [if_neg (by rw [h2 x (by simp)]; simp)]
    have ho : overT p x.1 = false := by
      unfold overT
      cases p with
      | none => rfl
      | some y =>
        have := h3 y rfl x (by simp)
        simp only
        exact decide_eq_false (List.not_le.2 this)
    rw [ho, if_neg (by simp)]
    exact chk_of l (some x.1) h1.2 (fun y hy => h2 y (by simp [hy])) (fun y hy z hz => by
      cases hy
      exact h1.1 z.1 (List.mem_map.2 ⟨z, hz, rfl⟩))
theorem chk_norm {r k : List Tx} (h : (normF r k).2 = 0) : chk none (locksT r k) = 0 := by
  have hv : r.all validT = true ∧ k.all validT = true := by
    unfold normF at h
    split at h
    · rename_i q; simpa using q
    · cases h
  have hn : (locksT r k).map (·.1) = keysM (ofM r k) 3 := by
    unfold locksT
    rw [List.map_map]
    exact List.map_id _
  refine chk_of _ _ (by rw [hn]; exact keys_rises 3 (of_nodup r k)) (fun x hx => ?_) (fun y hy => by cases hy)
  have hx2 : x.1 ∈ keysM (ofM r k) 3 := by rw [← hn]; exact List.mem_map.2 ⟨x, hx, rfl⟩
  rcases keysM_in hx2 with q | q
  · exact List.all_eq_true.1 hv.1 _ q
  · exact List.all_eq_true.1 hv.2 _ q
theorem st_app {x : EnE} (hi : i < E.length) : stE (E ++ [x]) i = stE E i := by unfold stE; rw [getD_al _ _ _ _ hi]
theorem ent_app {x : EnE} (hi : i < E.length) : entA (E ++ [x]) i = entA E i := by unfold entA; rw [getD_al _ _ _ _ hi]
theorem st_new {x : EnE} : stE (E ++ [x]) E.length = x.st := by unfold stE; rw [getD_ar _ _ _ _ (Nat.le_refl _), Nat.sub_self]; rfl
theorem ent_new {x : EnE} : entA (E ++ [x]) E.length = ((E.length : Int), locksT x.rd x.wr) := by unfold entA; rw [getD_ar _ _ _ _ (Nat.le_refl _), Nat.sub_self]; rfl
theorem push_sj (J : SJ s) {r k : List Tx} (hc : chk none (locksT r k) = 0) : SJ { s with E := s.E ++ [⟨r, k, 1⟩] } := by
  have hl : (s.E ++ [(⟨r, k, 1⟩ : EnE)]).length = s.E.length + 1 := by simp
  have hnl := J.nl
  have hc1 : ∀ i, i < s.E.length + 1 → i < s.E.length ∨ i = s.E.length := fun i h => by omega
  refine ⟨by simp only [hl]; omega, J.wn, fun i hi => ?_, fun i hi => ?_, ?_, fun i hi h => ?_, J.a7, fun i k hk hi h5 k5 k6 => ?_, J.a9, fun i hi => ?_⟩
  · simp only [hl] at hi ⊢
    rcases hc1 i hi with h | h
    · rw [st_app h]; exact J.a1 i h
    · subst h
      rw [st_new]
      simp only
      omega
  · simp only [hl] at hi ⊢
    rcases hc1 i hi with h | h
    · rw [st_app h]; exact J.a2 i h
    · subst h; rw [st_new]; simp
  · simp only
    rw [J.a3]
    exact (fly_congr (fun k hk => ⟨by rw [st_app (by omega)], ent_app (by omega)⟩)).symm
  · simp only [hl] at hi h ⊢
    rcases hc1 i hi with h1 | h1
    · rw [st_app h1] at h
      exact rdy_congr (fun k hk q => by rw [st_app (by omega)] at q; exact q) (fun k hk => ent_app (by omega)) (J.a4 i h1 h)
    · subst h1; rw [st_new] at h; simp at h
  · simp only [hl] at hi h5 k5 k6 ⊢
    rcases hc1 i hi with h1 | h1
    · rw [st_app h1] at h5
      rw [st_app (by omega)] at k5 k6
      have := J.a8 i k hk h1 h5 k5 k6
      unfold clB at this ⊢
      rw [ent_app (by omega), ent_app h1]; exact this
    · subst h1; rw [st_new] at h5; simp at h5
  · simp only [hl] at hi ⊢
    rcases hc1 i hi with h1 | h1
    · rw [ent_app h1]; exact J.a10 i h1
    · subst h1; rw [ent_new]; exact hc
theorem add_sr (R : SR s) (hl : s.E.length + 1 ≤ 1000) (q : Int) (r k : List Tx) : SR (addE s q r k).1 ∧ ((addE s q r k).2 = 0 → (addE s q r k).1.E.map ftE = s.E.map ftE ++ [(r, k)]) ∧ ((addE s q r k).2 ≠ 0 → (addE s q r k).1 = s) := by
  unfold addE
  by_cases h1 : q ≠ (s.E.length : Int)
  · rw [if_pos h1]; exact ⟨R, (fun h => by cases h), fun _ => rfl⟩
  rw [if_neg h1]
  by_cases h2 : (normF r k).2 ≠ 0
  · rw [if_pos h2]; exact ⟨R, fun h => absurd h h2, fun _ => rfl⟩
  rw [if_neg h2]
  by_cases h3 : ¬ ((normF r k).1.1 = r ∧ (normF r k).1.2 = k)
  · rw [if_pos h3]; exact ⟨R, (fun h => by cases h), fun _ => rfl⟩
  rw [if_neg h3]
  have h3 := Classical.not_not.1 h3
  rw [h3.1, h3.2]
  have hJ := push_sj R.toSJ (chk_norm (Classical.not_not.1 h2))
  refine ⟨(lockE_sr hJ (by simp; omega)).1, fun _ => ?_, fun h => absurd rfl h⟩
  rw [ft_lock]
  simp [ftE]
theorem take_sr (R : SR s) : SR (takeS s).1 ∧ (takeS s).1.E.map ftE = s.E.map ftE := by
  unfold takeS
  cases hw : withS s.E [3] with
  | nil => exact ⟨R, rfl⟩
  | cons q l =>
    simp only
    refine ⟨?_, ft_set _ _ _⟩
    have hq : q ∈ withS s.E [3] := by rw [hw]; simp
    unfold withS at hq
    obtain ⟨hq1, hq2⟩ := List.mem_filter.1 hq
    have hqi : q < s.E.length := List.mem_range.1 hq1
    have hq3 : stE s.E q = 3 := List.mem_singleton.1 (of_decide_eq_true hq2)
    have hs : ∀ k, stE (setSt s.E q 4) k = if k = q then 4 else stE s.E k := fun k => st_set hqi
    have he : ∀ k, entA (setSt s.E q 4) k = entA s.E k := fun k => ent_set hqi
    have hl := setSt_len s.E q 4
    have hf : ∀ k, flyB (stE (setSt s.E q 4) k) = flyB (stE s.E k) := fun k => by
      rw [hs]
      by_cases e : k = q
      · rw [if_pos e, e, hq3]; rfl
      · rw [if_neg e]
    have hr : ∀ i, rdyI s.E i → rdyI (setSt s.E q 4) i := fun i h => rdy_congr (fun k _ z => by rw [hf] at z; exact z) (fun k _ => he k) h
    have hr' : ∀ i, rdyI (setSt s.E q 4) i → rdyI s.E i := fun i h => rdy_congr (fun k _ z => by rw [hf]; exact z) (fun k _ => (he k).symm) h
    have ho : ∀ k z, z ≠ 3 → z ≠ 4 → (stE (setSt s.E q 4) k = z ↔ stE s.E k = z) := fun k z z3 z4 => by
      rw [hs]
      by_cases e : k = q
      · rw [if_pos e, e, hq3]; omega
      · rw [if_neg e]
    refine { nl := by simp only [hl]; exact R.nl, wn := R.wn, a1 := fun i hi => ?_, a2 := fun i hi => ?_, a3 := ?_, a4 := fun i hi h => ?_, a7 := R.a7, a8 := fun i k hk hi h5 k5 k6 => ?_, a9 := R.a9, a10 := fun i hi => ?_, a5 := fun i hi h => ?_, a6 := fun h => ?_ }
    · simp only [hl] at hi ⊢
      rw [R.a1 i hi]
      exact not_congr (ho i 1 (by omega) (by omega)).symm
    · simp only [hl] at hi ⊢
      have := R.a2 i hi
      rw [hs]
      split
      · omega
      · exact this
    · simp only
      rw [R.a3]
      exact (fly_congr (fun k _ => ⟨hf k, he k⟩)).symm
    · simp only [hl] at hi h ⊢
      apply hr
      rw [hs] at h
      by_cases e : i = q
      · rw [e]; exact R.a4 q hqi (.inl hq3)
      · rw [if_neg e] at h; exact R.a4 i hi h
    · simp only [hl] at hi h5 k5 k6 ⊢
      have := R.a8 i k hk hi ((ho i 5 (by omega) (by omega)).1 h5) (fun z => k5 ((ho k 5 (by omega) (by omega)).2 z)) (fun z => k6 ((ho k 6 (by omega) (by omega)).2 z))
      unfold clB at this ⊢
      rw [he, he]; exact this
    · simp only [hl] at hi ⊢
      rw [he]; exact R.a10 i hi
    · simp only [hl] at hi h ⊢
      exact fun z => R.a5 i hi ((ho i 2 (by omega) (by omega)).1 h) (hr' i z)
    · simp only [hl] at h ⊢
      exact R.a6 h
theorem fly_drop {q : Nat} (hqi : q < E.length) (hf : flyB (stE E q) = true) (n : Nat) : flyL (setSt E q 5) n = (flyL E n).filter (fun e => !decide (e.1 = (q : Int))) := by
  induction n with
  | zero => rfl
  | succ n ih =>
    rw [fly_succ, fly_succ, ih, List.filter_append, st_set hqi, ent_set hqi]
    congr 1
    by_cases e : n = q
    · rw [if_pos e, e, if_pos hf]
      simp [flyB, entA]
    · rw [if_neg e]
      split
      · have : ¬ ((n : Int) = (q : Int)) := by omega
        simp [entA, this]
      · rfl
theorem done_sj (R : SR s) {p : Nat} (hp : p < s.E.length) (hp4 : stE s.E p = 4) : SJ { s with E := setSt s.E p 5, t := (relE s.t (p : Int)).1 } := by
  have hfp : flyB (stE s.E p) = true := by rw [hp4]; rfl
  have hpn : p < s.nxt := (R.a1 p hp).2 (by omega)
  have hrp := R.a4 p hp (.inr hp4)
  have hrel : (relE s.t (p : Int)).1 = ⟨s.t.E.filter fun e => !decide (e.1 = (p : Int)), s.t.nx⟩ := by
    have hready := (R.ready hpn hfp).2 hrp
    unfold relE
    cases hg : eget s.t.E (p : Int) with
    | none => unfold readyE at hready; rw [hg] at hready; cases hready
    | some l => simp only; rw [if_pos hready]
  rw [hrel]
  have hs : ∀ k, stE (setSt s.E p 5) k = if k = p then 5 else stE s.E k := fun k => st_set hp
  have he : ∀ k, entA (setSt s.E p 5) k = entA s.E k := fun k => ent_set hp
  have hl := setSt_len s.E p 5
  refine ⟨by simp only [hl]; exact R.nl, R.wn, fun i hi => ?_, fun i hi => ?_, ?_, fun i hi h => ?_, Nat.le_trans (List.length_filter_le _ _) R.a7, fun i k hk hi h5 k5 k6 => ?_, R.a9, fun i hi => ?_⟩
  · simp only [hl] at hi ⊢
    rw [hs, R.a1 i hi]
    by_cases e : i = p
    · rw [if_pos e, e, hp4]; simp
    · rw [if_neg e]
  · simp only [hl] at hi ⊢
    rw [hs]
    split
    · omega
    · exact R.a2 i hi
  · simp only
    rw [R.a3, fly_drop hp hfp]
  · simp only [hl] at hi h ⊢
    rw [hs] at h
    by_cases e : i = p
    · rw [if_pos e] at h; omega
    · rw [if_neg e] at h
      refine rdy_congr (fun k _ z => ?_) (fun k _ => he k) (R.a4 i hi h)
      rw [hs] at z
      by_cases e2 : k = p
      · rw [if_pos e2] at z; cases z
      · rw [if_neg e2] at z; exact z
  · simp only [hl] at hi h5 k5 k6 ⊢
    rw [hs] at h5 k5 k6
    have hkp : k ≠ p := fun z => by rw [if_pos z] at k5; exact k5 rfl
    rw [if_neg hkp] at k5 k6
    have : clB s.E i k = false := by
      by_cases e : i = p
      · subst e
        have hk2 := R.a2 k (by omega)
        have hk1 := (R.a1 k (by omega)).1 (by omega)
        exact hrp k hk (fly_of (by omega))
      · rw [if_neg e] at h5
        exact R.a8 i k hk hi h5 k5 k6
    unfold clB at this ⊢
    rw [he, he]; exact this
  · simp only [hl] at hi ⊢
    rw [he]; exact R.a10 i hi
theorem done_sr (R : SR s) (hl1 : s.E.length ≤ 1000) (q : Int) : SR (doneE s q).1 ∧ (doneE s q).1.E.map ftE = s.E.map ftE := by
  unfold doneE
  by_cases h4 : stS s q ≠ 4
  · rw [if_pos h4]; exact ⟨R, rfl⟩
  rw [if_neg h4]
  have h4 := Classical.not_not.1 h4
  have hqr : 0 ≤ q ∧ q < (s.E.length : Int) := by
    unfold stS at h4
    split at h4
    · cases h4
    · omega
  obtain ⟨p, rfl⟩ := Int.eq_ofNat_of_zero_le hqr.1
  have hp : p < s.E.length := by omega
  have hp4 : stE s.E p = 4 := by
    unfold stS at h4
    rw [if_neg (by omega)] at h4
    exact h4
  have htn : ((p : Nat) : Int).toNat = p := by omega
  rw [htn]
  refine ⟨(lockE_sr (done_sj R hp hp4) (by simp only [setSt_len]; omega)).1, ?_⟩
  rw [ft_lock]
  exact ft_set _ _ _
end
end Go.Proofs.YtgdbckjkeofoaaaGreat

/- Who is full hangs on the log alone. -/
namespace Go.Proofs.YtgdbckjkeofoaaaGreat
open Go.RowKit Go.Proofs.Eng Go.Proofs.Foot Go.Proofs.Locks Go.Proofs.Sched
set_option linter.unusedSimpArgs false
set_option linter.unusedVariables false set_option maxRecDepth 10000
attribute [local irreducible] T TL LV TH TA
def stepC (S : StE) (ks : List Tx) : StE := if (claimE S ks).2 = 5 then S else (claimE S ks).1
def foldC (S0 : StE) (l : List (List Tx)) : StE := l.foldl stepC S0
def wrs (E : List EnE) : List (List Tx) := E.map fun x => x.wr
def codeC (S0 : StE) (W : List (List Tx)) (i : Nat) : Nat := (claimE (foldC S0 (W.take i)) (W.getD i [])).2
structure SC (S0 : StE) (s : SS) : Prop where
  c1 : s.S = foldC S0 ((wrs s.E).take s.nxt)
  c2 : ∀ i, i < s.nxt → i < s.E.length → (stE s.E i = 6 ↔ codeC S0 (wrs s.E) i = 5)
section
variable {S0 : StE} {s : SS} {E E' : List EnE} {i z : Nat}
theorem wrs_ft (h : E'.map ftE = E.map ftE) : wrs E' = wrs E := by
  unfold wrs
  have := congrArg (List.map Prod.snd) h
  simpa [List.map_map, Function.comp_def, ftE] using this
theorem wrs_at (hi : i < E.length) : (wrs E).getD i [] = (E.getD i en0).wr := by
  unfold wrs
  rw [List.getD_eq_getElem?_getD, List.getD_eq_getElem?_getD, List.getElem?_map, List.getElem?_eq_getElem hi]
  rfl
theorem wrs_len (E : List EnE) : (wrs E).length = E.length := by simp [wrs]
theorem take_snoc {α : Type} (l : List α) (i : Nat) (d : α) (h : i < l.length) : l.take (i + 1) = l.take i ++ [l.getD i d] := by
  rw [List.take_succ_eq_append_getElem h, List.getD_eq_getElem?_getD, List.getElem?_eq_getElem h]
  rfl
theorem lockS_sc (C : SC S0 s) (h1 : s.nxt < s.E.length) : SC S0 (lockS s) := by
  have hw := fun z => wrs_ft (ft_set s.E s.nxt z)
  have hs := fun z k => st_set (E := s.E) (i := s.nxt) (k := k) (z := z) h1
  have hx := wrs_at h1
  have hcode : codeC S0 (wrs s.E) s.nxt = (claimE s.S (s.E.getD s.nxt en0).wr).2 := by
    unfold codeC
    rw [hx, ← C.c1]
  have hfold : foldC S0 ((wrs s.E).take (s.nxt + 1)) = stepC s.S (s.E.getD s.nxt en0).wr := by
    have ha : ∀ (l : List (List Tx)) (x : List Tx), foldC S0 (l ++ [x]) = stepC (foldC S0 l) x := fun l x => by
      unfold foldC
      rw [List.foldl_append]
      rfl
    rw [take_snoc _ _ [] (by rw [wrs_len]; exact h1), hx, ha, ← C.c1]
  unfold lockS
  simp only
  by_cases h5 : (claimE s.S (s.E.getD s.nxt en0).wr).2 = 5
  · rw [if_pos h5]
    refine ⟨?_, fun i hi hl => ?_⟩
    · simp only
      rw [hw, hfold]
      unfold stepC
      rw [if_pos h5]
    · simp only at hi hl ⊢
      rw [setSt_len] at hl
      rw [hw, hs]
      by_cases e : i = s.nxt
      · rw [if_pos e, e, hcode]; exact ⟨fun _ => h5, fun _ => rfl⟩
      · rw [if_neg e]; exact C.c2 i (by omega) hl
  · rw [if_neg h5]
    refine ⟨?_, fun i hi hl => ?_⟩
    · simp only
      rw [hw, hfold]
      unfold stepC
      rw [if_neg h5]
    · simp only at hi hl ⊢
      rw [setSt_len] at hl
      rw [hw, hs]
      by_cases e : i = s.nxt
      · rw [if_pos e, e, hcode]; exact ⟨fun q => absurd q (by decide), fun q => absurd q h5⟩
      · rw [if_neg e]; exact C.c2 i (by omega) hl
theorem lockL_sc : ∀ (f : Nat) (s : SS), SC S0 s → SC S0 (lockL f s)
  | 0, s, C => C
  | f + 1, s, C => by
    by_cases h : s.nxt < s.E.length ∧ s.t.E.length < s.win
    · rw [lockL_go h.1 h.2]
      exact lockL_sc f _ (lockS_sc C h.1)
    · rw [lockL_stop h]
      exact C
theorem SC.setE (C : SC S0 s) (hl : E'.length = s.E.length) (hf : E'.map ftE = s.E.map ftE) (h6 : ∀ k, k < s.E.length → (stE E' k = 6 ↔ stE s.E k = 6)) : SC S0 { s with E := E' } := by
  refine ⟨by simp only; rw [wrs_ft hf]; exact C.c1, fun i hi hl2 => ?_⟩
  simp only at hi hl2 ⊢
  rw [hl] at hl2
  rw [wrs_ft hf, h6 i hl2]
  exact C.c2 i hi hl2
theorem lockE_sc (C : SC S0 s) (J : SJ s) (hl : s.E.length ≤ 1000) : SC S0 (lockE s) := by
  have C1 := lockL_sc (s.E.length - s.nxt) s C
  obtain ⟨J1, l1, _⟩ := lockL_sj (s.E.length - s.nxt) s J hl (Nat.le_refl _)
  change SC S0 (lockU s) at C1
  change SJ (lockU s) at J1
  unfold lockE
  generalize lockU s = u at C1 J1
  have hrg : ∀ q ∈ readiesE u.t, 0 ≤ q ∧ q < (u.E.length : Int) := fun q hq => by
    unfold readiesE allE at hq
    obtain ⟨e, he, rfl⟩ := List.mem_map.1 (List.mem_filter.1 hq).1
    rw [J1.a3] at he
    obtain ⟨k, h1, _, rfl⟩ := mem_fly.1 he
    have := J1.nl
    show 0 ≤ (k : Int) ∧ (k : Int) < _
    omega
  refine C1.setE (rdys_len _ _) (ft_rdys _ _) (fun k _ => ?_)
  rw [(rdys_st _ _ hrg k).2]
  by_cases e : stE u.E k = 2 ∧ (k : Int) ∈ readiesE u.t
  · rw [if_pos e]; omega
  · rw [if_neg e]
theorem SC.start (n : Nat) (S0 : StE) : SC S0 (newSS n S0) := ⟨rfl, fun i h => by simp [newSS] at h⟩
theorem add_sc (C : SC S0 s) (R : SR s) (hl : s.E.length + 1 ≤ 1000) (q : Int) (r k : List Tx) : SC S0 (addE s q r k).1 := by
  unfold addE
  by_cases h1 : q ≠ (s.E.length : Int)
  · rw [if_pos h1]; exact C
  rw [if_neg h1]
  by_cases h2 : (normF r k).2 ≠ 0
  · rw [if_pos h2]; exact C
  rw [if_neg h2]
  by_cases h3 : ¬ ((normF r k).1.1 = r ∧ (normF r k).1.2 = k)
  · rw [if_pos h3]; exact C
  rw [if_neg h3]
  have h3 := Classical.not_not.1 h3
  rw [h3.1, h3.2]
  have hJ := push_sj R.toSJ (chk_norm (Classical.not_not.1 h2))
  refine lockE_sc ?_ hJ (by simp; omega)
  have hnl := R.nl
  have hwa : wrs (s.E ++ [(⟨r, k, 1⟩ : EnE)]) = wrs s.E ++ [k] := by simp [wrs]
  have htk : ∀ i, i ≤ s.E.length → (wrs s.E ++ [k]).take i = (wrs s.E).take i := fun i hi => by rw [List.take_append_of_le_length (by rw [wrs_len]; exact hi)]
  refine ⟨?_, fun i hi hl2 => ?_⟩
  · simp only
    rw [hwa, htk _ hnl]
    exact C.c1
  · simp only at hi hl2 ⊢
    rw [st_app (by omega), hwa]
    have := C.c2 i hi (by omega)
    unfold codeC at this ⊢
    rw [htk _ (by omega), getD_al _ _ _ _ (by rw [wrs_len]; omega)]
    exact this
theorem take_sc (C : SC S0 s) : SC S0 (takeS s).1 := by
  unfold takeS
  cases hw : withS s.E [3] with
  | nil => exact C
  | cons q l =>
    simp only
    have hq : q ∈ withS s.E [3] := by rw [hw]; simp
    unfold withS at hq
    obtain ⟨hq1, hq2⟩ := List.mem_filter.1 hq
    have hqi : q < s.E.length := List.mem_range.1 hq1
    have hq3 : stE s.E q = 3 := List.mem_singleton.1 (of_decide_eq_true hq2)
    refine C.setE (setSt_len _ _ _) (ft_set _ _ _) (fun k _ => ?_)
    rw [st_set hqi]
    by_cases e : k = q
    · rw [if_pos e, e]; omega
    · rw [if_neg e]
theorem done_sc (C : SC S0 s) (R : SR s) (hl1 : s.E.length ≤ 1000) (q : Int) : SC S0 (doneE s q).1 := by
  unfold doneE
  by_cases h4 : stS s q ≠ 4
  · rw [if_pos h4]; exact C
  rw [if_neg h4]
  have h4 := Classical.not_not.1 h4
  have hqr : 0 ≤ q ∧ q < (s.E.length : Int) := by
    unfold stS at h4
    split at h4
    · cases h4
    · omega
  obtain ⟨p, rfl⟩ := Int.eq_ofNat_of_zero_le hqr.1
  have hp : p < s.E.length := by omega
  have hp4 : stE s.E p = 4 := by
    unfold stS at h4
    rw [if_neg (by omega)] at h4
    exact h4
  have htn : ((p : Nat) : Int).toNat = p := by omega
  rw [htn]
  refine lockE_sc ?_ (done_sj R hp hp4) (by simp only [setSt_len]; omega)
  have := C.setE (E' := setSt s.E p 5) (setSt_len _ _ _) (ft_set _ _ _) (fun k _ => by
    rw [st_set hp]
    by_cases e : k = p
    · rw [if_pos e, e, hp4]; simp
    · rw [if_neg e])
  exact ⟨this.c1, this.c2⟩
/-- When nobody is left all hangs on the log. -/
theorem SC.end_ (C : SC S0 s) (R : SR s) (h : ∀ i, i < s.E.length → stE s.E i = 5 ∨ stE s.E i = 6) : s.S = foldC S0 (wrs s.E) ∧ ∀ i, i < s.E.length → stE s.E i = if codeC S0 (wrs s.E) i = 5 then 6 else 5 := by
  have hn : s.nxt = s.E.length := by
    have := R.nl
    rcases Nat.lt_or_ge s.nxt s.E.length with q | q
    · have h1 := (R.a1 s.nxt q).2 (by have := h s.nxt q; omega)
      omega
    · omega
  refine ⟨?_, fun i hi => ?_⟩
  · rw [C.c1, hn, List.take_of_length_le (by rw [wrs_len]; exact Nat.le_refl _)]
  · have h1 := C.c2 i (by omega) hi
    by_cases e : codeC S0 (wrs s.E) i = 5
    · rw [if_pos e]; exact h1.2 e
    · rw [if_neg e]
      exact (h i hi).resolve_right (fun q => e (h1.1 q))
end
end Go.Proofs.YtgdbckjkeofoaaaGreat

namespace Go.Proofs.YtgdbckjkeofoaaaGreat
open Go.RowKit Go.Proofs.Eng Go.Proofs.Foot Go.Proofs.Locks Go.Proofs.Sched
set_option linter.unusedSimpArgs false
set_option linter.unusedVariables false set_option maxRecDepth 10000
attribute [local irreducible] T TL LV TH TA
set_option maxHeartbeats 3200000
/-- What is made: a scheduler, or none; it is as the document has it. -/
def okM (a b wn : Int) : Prop := ((1 ≤ a ∧ a ≤ 64) ∧ 1 ≤ b ∧ b ≤ 4096) ∧ 1 ≤ wn ∧ wn ≤ 4096
def S0E (a b : Int) (ks : List Tx) : StE := (claimE (newSt a.toNat b.toNat) (setT ks)).1
def MadeQ (w w' : World) (a b wn : Int) (ks : List Tx) (X X2 : Value) : Prop := X = .pointer none ∧ ¬ okM a b wn ∨ okM a b wn ∧ ∃ bs m h g f, X = pB m.p ∧ X2 = pB m.sm.sb ∧ w.heap.size ≤ bs ∧ SchedM w' bs m h g f (newSS wn.toNat (S0E a b ks)) ∧ SI 0 (newSS wn.toNat (S0E a b ks)) ∧ SR (newSS wn.toNat (S0E a b ks)) ∧ (wn.toNat : Int) = wn
theorem made2_c15 (a b wn : Int) (KA : Option Addr) (kn kc : Nat) (ks : List Tx) (A : Option Addr) (n c : Nat) (w : World) (hk : Rd w KA kn 1 (sv ks)) (hkn : kn ≤ 200) (hkl : ∀ y ∈ ks, y.length ≤ 1048576) :
    Ret Tryz.prog 7 [.agg #[.int .i64 a, .int .i64 b, .slice KA kn kc, .int .i64 wn, .slice A n c]] w (fun v w' => ∃ X X2 X3, v = .tuple #[X, X2, X3, .bool true] ∧ Ext w w' ∧ MadeQ w w' a b wn ks X X2) := by
  have hkl0 : ks.length = kn := by have := hk.1; rw [sv_length] at this; omega
  refine ret_T (n := 88) Tryz.func7 rfl rfl ?_
  repeat (first | refine T_seq ?_ | refine T_region ?_)
  refine TL_box (hk := ?_); intro b1 w1 e1 h1 h1' k1
  replace k1 : Blk w1 b1 25 [.int .i64 a, .int .i64 b, .slice KA kn kc, .int .i64 wn, .slice A n c] := k1
  have z1 := e1.size
  by_cases hg : (1 ≤ a ∧ a ≤ 64) ∧ 1 ≤ b ∧ b ≤ 4096
  case neg =>
    repeat (first | refine T_seq ?_ | refine T_region ?_ | refine TL_nil ?_ | refine TL_assign (hk := ?_) | refine TL_load TE (hk := ?_) | refine TL_fieldAddr TE (hk := ?_))
    refine TL_call TE (hc := StNewBad_c a b w1 hg) (hk := ?_)
    rintro _ w2 ⟨rfl, e2⟩
    have k2 := k1.be e2
    clear k1
    repeat (first | refine T_seq ?_ | refine T_region ?_ | refine TL_nil ?_ | refine TL_move (hk := ?_) | refine TL_assign (hk := ?_) | refine TL_load TE (hk := ?_) | refine TL_fieldAddr TE (hk := ?_) | refine TL_extract (hk := ?_))
    refine TL_call TE (hc := RStNew_c a b w2) (hk := ?_)
    rintro _ w3 ⟨e3, ⟨hg2, _⟩ | ⟨_, rfl⟩⟩
    · exact absurd hg2 hg
    repeat (first | refine T_seq ?_ | refine T_region ?_ | refine TL_nil ?_ | refine TL_move (hk := ?_) | refine TL_assign (hk := ?_) | refine TL_extract (hk := ?_))
    refine TL_call TE (hc := num_c15 2 w3) (hk := ?_)
    rintro _ w4 ⟨rfl, e4⟩
    repeat (first | refine T_seq ?_ | refine T_region ?_ | refine T_cond_true rfl ?_ | refine TL_ne_t (hk := ?_) | refine TL_ne_f (hk := ?_) | refine TL_nil ?_ | refine TL_move (hk := ?_) | refine TL_yes (hk := ?_) | refine TL_no (hk := ?_) | refine TL_pick_t (hk := ?_) | refine TL_pick_f (hk := ?_))
    refine TL_call TE (hc := num_c15 2 w4) (hk := ?_)
    rintro _ w5 ⟨rfl, e5⟩
    repeat (first | refine TL_eq_t (hk := ?_) | refine TL_nil ?_ | refine TL_move (hk := ?_) | refine TL_assign (hk := ?_))
    exact T_ret4 rfl rfl rfl rfl rfl ⟨_, _, _, rfl, (((e1.ext e2).ext e3).ext e4).ext e5, .inl ⟨rfl, fun q => hg q.1⟩⟩
  obtain ⟨P, rfl⟩ := Int.eq_ofNat_of_zero_le (show 0 ≤ a by omega)
  obtain ⟨r, rfl⟩ := Int.eq_ofNat_of_zero_le (show 0 ≤ b by omega)
  have hP : 1 ≤ P ∧ P ≤ 64 := by omega
  have hR : 1 ≤ r ∧ r ≤ 4096 := by omega
  repeat (first | refine T_seq ?_ | refine T_region ?_ | refine TL_nil ?_ | refine TL_assign (hk := ?_) | refine TL_load TE (hk := ?_) | refine TL_fieldAddr TE (hk := ?_))
  refine TL_call TE (hc := StNew_c P r w1 hP hR) (hk := ?_)
  rintro _ w2 ⟨ms, g2, rfl, e2, M2⟩
  have k2 := k1.be e2
  clear k1
  repeat (first | refine T_seq ?_ | refine T_region ?_ | refine TL_nil ?_ | refine TL_move (hk := ?_) | refine TL_assign (hk := ?_) | refine TL_load TE (hk := ?_) | refine TL_fieldAddr TE (hk := ?_) | refine TL_extract (hk := ?_))
  refine TL_call TE (hc := RStNew_c (P : Int) (r : Int) w2) (hk := ?_)
  rintro _ w3 ⟨e3, h3⟩
  obtain ⟨_, b3, rfl, hb3, kb3⟩ := h3.resolve_right (fun q => q.1 hg)
  have hb3l := kb3.lt
  have z2 := e2.size
  have k3 := k2.be e3
  have M3 := M2.ext e3
  clear k2
  repeat (first | refine T_seq ?_ | refine T_region ?_ | refine TL_nil ?_ | refine TL_move (hk := ?_) | refine TL_assign (hk := ?_) | refine TL_extract (hk := ?_))
  refine TL_call TE (hc := num_c15 0 w3) (hk := ?_)
  rintro _ w4 ⟨rfl, e4⟩
  have k4 := k3.be e4
  have M4 := M3.ext e4
  have kb4 := kb3.be e4
  have E4 := ((e1.ext e2).ext e3).ext e4
  clear k3 kb3
  repeat (first | refine T_seq ?_ | refine T_region ?_ | refine T_cond_false rfl ?_ | refine T_skip ?_ | refine TL_ne_f (hk := ?_) | refine TL_pnil_f TE (hk := ?_) | refine TL_nil ?_ | refine TL_move (hk := ?_) | refine TL_load TE (hk := ?_) | refine TL_fieldAddr TE (hk := ?_) | refine TL_yes (hk := ?_) | refine TL_pick_f (hk := ?_))
  refine TL_call TE (hc := Set_c KA kn kc ks w4 (hk.be E4) (by omega)) (hk := ?_)
  rintro _ w5 ⟨SA, sc, rfl, e5, oS5⟩
  have k5 := k4.be e5
  have M5 := M4.ext e5
  have kb5 := kb4.be e5
  have hsl := setT_len ks
  obtain ⟨Q, hQ⟩ : ∃ Q, setT ks = Q := ⟨_, rfl⟩
  rw [hQ] at oS5 hsl ⊢
  have hQm : ∀ y ∈ Q, y.length ≤ 9223372036854775807 := fun y hy => by
    rw [← hQ, set_mem] at hy
    have := hkl y hy; omega
  clear k4 kb4
  repeat (first | refine T_seq ?_ | refine T_region ?_ | refine TL_nil ?_ | refine TL_move (hk := ?_) | refine TL_assign (hk := ?_))
  refine TL_buildSlice0 TE (hk := ?_); intro b6 w6 e6 h6 h6' k6
  have o6 : Own w6 w5.heap.size 9 1 (some ⟨b6, 0, none⟩) 0 0 [] := Own.of_blk k6 h6 rfl (by decide)
  have z6 := e6.size
  have hs6 := (oS5.be e6).rd
  repeat (refine TL_move (hk := ?_))
  refine TL_append TE (ho := o6) (hr := hs6) (h1 := sv_one _) (hk := ?_); intro A7 c7 w7 o7 m7 n7
  rw [List.nil_append] at o7
  have E57 : Ext w5 w7 := e6.own m7 o6.hi
  have M7 := M5.ext E57
  have k7 := k5.be E57
  have kb7 := kb5.be E57
  have oS7 := oS5.be E57
  have z57 := E57.size
  clear k5 kb5 k6 hs6
  have hql : Q.length ≤ 200 := by omega
  have hCl : (newSt P r).C.length = P := by simp [newSt]
  have hCz : ∀ c ∈ (newSt P r).C, c.length ≤ 0 := fun c hc => by
    simp only [newSt] at hc
    rw [(List.mem_replicate.1 hc).2]; simp
  have hgz : ∀ u, w5.heap.size ≤ u → g2 u = 0 := fun u hu => M5.new0 hu
  have cC := Claim_c A7 (0 + Q.length) c7 Q w7 M7 (by omega) (by omega) hR.2 (fun c hc => by have := hCz c hc; omega) o7.rd (by omega) hQm (fun u hu => hgz u (o7.bl u hu).1)
  --
  refine TL_call TE (hc := cC) (hk := ?_)
  rintro _ w8 ⟨rfl, M8, t8⟩
  obtain ⟨C8, hC8⟩ : ∃ C8, (claimE (newSt P r) Q).2 = C8 := ⟨_, rfl⟩
  have hb3g : g2 b3 = 0 := M2.new0 hb3
  have z45 := (e4.ext e5).size
  have hb3s := kb7.lt
  have kb8 : Blk w8 b3 89 [.int .i64 (P : Int), .int .i64 (r : Int), .slice none 0 0] := by
    obtain ⟨⟨S, q1, q2⟩, _, _⟩ := t8
    exact kb7.mod q1 (fun q => q2 _ q hb3g)
  have hb1g : g2 b1 = 0 := by
    by_cases y : g2 b1 = 0
    · exact y
    · have := (M2.old b1 y).1; omega
  have k8 : Blk w8 b1 25 [.int .i64 (P : Int), .int .i64 (r : Int), .slice KA kn kc, .int .i64 wn, .slice A n c] := by
    obtain ⟨⟨S, q1, q2⟩, _, _⟩ := t8
    exact k7.mod q1 (fun q => q2 _ q hb1g)
  have rS8 : Rd w8 SA Q.length 1 (sv Q) := by
    obtain ⟨⟨S, q1, q2⟩, _, _⟩ := t8
    exact oS7.rd.mod q1 (off_ofL fun u hu q => q2 _ q (M4.new0 (oS5.bl u hu).1))
  have E8 : Ext w w8 := t8.ext0 ((E4.ext e5).ext E57) (fun u q => by have := (M2.old u q).1; omega)
  clear kb7 k7 oS7 cC
  --
  refine TL_call TE (hc := num_c15 ((claimE (newSt P r) Q).2 : Int) w8) (hk := ?_)
  rintro _ w9 ⟨rfl, e9⟩
  have M9 := M8.ext e9
  have k9 := k8.be e9
  have kb9 := kb8.be e9
  have E9 := E8.ext e9
  clear k8 kb8
  have cR := RClaim0_c b3 P r SA Q.length sc Q w9 kb9 hP hR (rS8.be e9) (by omega) hQm (fun q => by
    have h1 := (oS5.bl b3 q).1
    have h2 := e4.size
    have h3 := hb3
    have hlt := kb9.lt
    have := (M2.old ms.sb (by rw [M2.gb]; decide)).2
    omega)
  repeat (refine TL_move (hk := ?_))
  refine TL_call TE (hc := cR) (hk := ?_)
  rintro _ w10 ⟨rfl, m10⟩
  have M10 := M9.mod m10 (fun u hu => by rw [List.mem_singleton.1 hu]; exact hb3g)
  have hb13 : b1 ∉ [b3] := by simp; omega
  have k10 := k9.mod m10 hb13
  have E10 : Ext w w10 := Mod.step E9 m10 (fun u hu => .inr (by rw [List.mem_singleton.1 hu]; have := e2.size; omega))
  clear k9 kb9 cR
  have hbas : w.heap.size ≤ w1.heap.size := z1
  have hcl := claim_cl (S := newSt P r) (ks := Q) (B := 0) hCz
  have hS0 : S0E (P : Int) (r : Int) ks = (claimE (newSt P r) Q).1 := by
    unfold S0E
    rw [hQ, show ((P : Nat) : Int).toNat = P by omega, show ((r : Nat) : Int).toNat = r by omega]
  obtain ⟨S', hS'⟩ : ∃ S', (claimE (newSt P r) Q).1 = S' := ⟨_, rfl⟩
  rw [hS'] at hS0
  rw [hS'] at M10 hcl
  by_cases hw : 1 ≤ wn ∧ wn ≤ 4096
  · obtain ⟨W, rfl⟩ := Int.eq_ofNat_of_zero_le (show 0 ≤ wn by omega)
    have hW : 1 ≤ W ∧ W ≤ 4096 := by omega
    repeat (first | refine T_seq ?_ | refine T_region ?_ | refine T_cond_false rfl ?_ | refine T_skip ?_ | refine TL_ne_f (hk := ?_) | refine TL_nil ?_ | refine TL_move (hk := ?_) | refine TL_load TE (hk := ?_) | refine TL_fieldAddr TE (hk := ?_))
    refine TL_call TE (hc := ScNew_c W w10 M10 hW) (hk := ?_)
    rintro _ w11 ⟨m11, h11, f11, rfl, hm11, e11, M11, o11⟩
    have k11 := k10.be e11
    clear k10
    repeat (first | refine T_seq ?_ | refine T_region ?_ | refine TL_nil ?_ | refine TL_move (hk := ?_) | refine TL_assign (hk := ?_) | refine TL_load TE (hk := ?_) | refine TL_fieldAddr TE (hk := ?_) | refine TL_extract (hk := ?_))
    refine TL_call TE (hc := R15New_c (W : Int) b3 w11) (hk := ?_)
    rintro _ w12 ⟨e12, h12⟩
    obtain ⟨_, y12, rfl⟩ := h12.resolve_right (fun q => q.1 hw)
    repeat (first | refine T_seq ?_ | refine T_region ?_ | refine TL_nil ?_ | refine TL_move (hk := ?_) | refine TL_assign (hk := ?_) | refine TL_extract (hk := ?_))
    refine TL_call TE (hc := num_c15 0 w12) (hk := ?_)
    rintro _ w13 ⟨rfl, e13⟩
    have hWn : ((W : Nat) : Int).toNat = W := by omega
    repeat (first | refine TL_eq_t (hk := ?_) | refine TL_pnil_f TE (hk := ?_) | refine TL_beq TE (hk := ?_) | refine TL_nil ?_ | refine TL_move (hk := ?_) | refine TL_assign (hk := ?_) | refine TL_yes (hk := ?_) | refine TL_pick_t (hk := ?_))
    refine T_ret4 rfl rfl rfl rfl rfl ⟨_, _, _, rfl, ((E10.ext e11).ext e12).ext e13, .inr ⟨⟨hg, hw⟩, w1.heap.size, m11, h11, g2, f11, rfl, by rw [hm11], z1, ?_, ?_, ?_, by rw [hWn]⟩⟩
    · rw [hWn, hS0]; exact (M11.ext e12).ext e13
    · rw [hWn, hS0]; exact newSS_si hW (by rw [hcl.1, hCl]; exact hP) (by rw [hcl.2.1]; exact hR.2) (fun c hc => by have := hcl.2.2 c hc; omega)
    · rw [hWn, hS0]; exact SJ.start W hW.1 S'
  · repeat (first | refine T_seq ?_ | refine T_region ?_ | refine T_cond_false rfl ?_ | refine T_skip ?_ | refine TL_ne_f (hk := ?_) | refine TL_nil ?_ | refine TL_move (hk := ?_) | refine TL_load TE (hk := ?_) | refine TL_fieldAddr TE (hk := ?_))
    refine TL_call TE (hc := ScNewBad_c wn ms.sb w10 hw) (hk := ?_)
    rintro _ w11 ⟨rfl, e11⟩
    have k11 := k10.be e11
    clear k10
    repeat (first | refine T_seq ?_ | refine T_region ?_ | refine TL_nil ?_ | refine TL_move (hk := ?_) | refine TL_assign (hk := ?_) | refine TL_load TE (hk := ?_) | refine TL_fieldAddr TE (hk := ?_) | refine TL_extract (hk := ?_))
    refine TL_call TE (hc := R15New_c wn b3 w11) (hk := ?_)
    rintro _ w12 ⟨e12, ⟨hg2, _⟩ | ⟨_, rfl⟩⟩
    · exact absurd hg2 hw
    repeat (first | refine T_seq ?_ | refine T_region ?_ | refine TL_nil ?_ | refine TL_move (hk := ?_) | refine TL_assign (hk := ?_) | refine TL_extract (hk := ?_))
    refine TL_call TE (hc := num_c15 2 w12) (hk := ?_)
    rintro _ w13 ⟨rfl, e13⟩
    repeat (first | refine TL_eq_t (hk := ?_) | refine TL_pnil_t TE (hk := ?_) | refine TL_beq TE (hk := ?_) | refine TL_nil ?_ | refine TL_move (hk := ?_) | refine TL_assign (hk := ?_) | refine TL_yes (hk := ?_) | refine TL_pick_t (hk := ?_))
    exact T_ret4 rfl rfl rfl rfl rfl ⟨_, _, _, rfl, ((E10.ext e11).ext e12).ext e13, .inl ⟨rfl, fun q => hw q.2⟩⟩
end Go.Proofs.YtgdbckjkeofoaaaGreat

namespace Go.Proofs.YtgdbckjkeofoaaaGreat
open Go.RowKit Go.Proofs.Eng Go.Proofs.Foot Go.Proofs.Locks Go.Proofs.Sched
set_option linter.unusedSimpArgs false
set_option linter.unusedVariables false set_option maxRecDepth 10000
attribute [local irreducible] T TL LV TH TA
set_option maxHeartbeats 3200000
def allU (s : StE) (i : Nat) : List Tx := ((s.C.take i).map fun c => c.map (·.1)).flatten
def keysS (s : StE) : List Tx := (allU s s.C.length).mergeSort le2
theorem allU_succ (s : StE) (i : Nat) (h : i < s.C.length) : allU s (i + 1) = allU s i ++ (s.C.getD i []).map (·.1) := by
  unfold allU
  rw [List.take_succ_eq_append_getElem h, List.map_append, List.flatten_append, List.getD_eq_getElem?_getD, List.getElem?_eq_getElem h]
  simp
theorem allU_mono (s : StE) : ∀ (k i : Nat), (allU s i).length ≤ (allU s (i + k)).length
  | 0, i => Nat.le_refl _
  | k + 1, i => by
    refine Nat.le_trans (allU_mono s k i) ?_
    by_cases h : i + k < s.C.length
    · have := congrArg List.length (allU_succ s (i + k) h)
      rw [List.length_append] at this
      show (allU s (i + k)).length ≤ (allU s (i + k + 1)).length
      omega
    · unfold allU
      rw [List.take_of_length_le (by omega), List.take_of_length_le (by omega)]
      exact Nat.le_refl _
section
variable {w w' : World} {base : Nat} {m : StM} {g : Nat → Nat} {s : StE}
theorem Keys_c15 (w : World) (h : StoreM w base m g s) (hC : (allU s s.C.length).length ≤ 10000000000) (h64 : s.C.length ≤ 64) :
    Ret Tryz.prog 42 [pB m.sb] w (fun v w' => ∃ x : SL, v = sL x ∧ Ext w w' ∧ Own w' w.heap.size 9 1 x.1 x.2.1 x.2.2 (sv (keysS s))) := by
  have hb := h.blk
  have hcl := h.cl
  have hmono := fun i (hi : i ≤ s.C.length) => allU_mono s (s.C.length - i) i
  refine ret_T (n := 32) Tryz.func42 rfl rfl ?_
  repeat (first | refine T_seq ?_ | refine T_region ?_ | refine T_cond_false rfl ?_ | refine T_block ?_ | refine T_skip ?_ | refine TL_pnil_f TE (hk := ?_) | refine TL_nil ?_ | refine TL_move (hk := ?_) | refine TL_assign (hk := ?_) | refine TL_load TE (hk := ?_) | refine TL_fieldAddr TE (hk := ?_) | refine TL_len TE (hk := ?_) | refine TL_nilCheck (hk := ?_))
  refine T_loop (ι := Nat × SL × List Tx) (fun i => [(14, .int .i64 (i.1 : Int)), (13, .int .i64 (m.cs.2.1 : Int)), (12, sL m.cs), (3, sL i.2.1)])
    (fun i w' => i.1 ≤ s.C.length ∧ Ext w w' ∧ Own w' w.heap.size 9 1 i.2.1.1 i.2.1.2.1 i.2.1.2.2 (sv i.2.2) ∧ i.2.2.Perm (allU s i.1)) (fun i => s.C.length - i.1) (0, (none, 0, 0), []) (.c rfl (.c rfl (.c rfl (.c rfl (.n))))) ⟨Nat.zero_le _, Mod.refl _ _, Own.nil _ _ _ _, List.Perm.nil⟩ ?_
  rintro ⟨i, y0, acc0⟩ w1 ⟨hi, e1, o1, hpm0⟩ ih
  simp only at hi o1 hpm0 ih ⊢
  have h1 := h.ext e1
  have z1 := e1.size
  by_cases hlt : i < s.C.length
  · have hco := h1.co.rd
    have hA : m.cs.1 ≠ none := by obtain ⟨_, _, hq, _⟩ := hco.2 (by omega); rw [hq]; simp
    have hv := mapsV_get m.bs i (by rw [h1.ln]; exact hlt)
    have mp := h1.ml i hlt
    have hsu := allU_succ s i hlt
    have hm1 := hmono (i + 1) (by omega)
    rw [show i + 1 + (s.C.length - (i + 1)) = s.C.length by omega] at hm1
    have hl1 := congrArg List.length hsu
    rw [List.length_append, List.length_map] at hl1
    generalize s.C.getD i [] = C at mp hsu hl1
    have hmg := mp.lt
    have hmb0 := (h.old (m.bs.getD i 0) (by rw [h.gm i hlt]; omega)).2
    generalize m.bs.getD i 0 = mb at mp hv hmg hmb0
    repeat (first | refine T_seq ?_ | refine T_region ?_ | refine T_cond_true rfl ?_ | refine T_block ?_ | refine T_skip ?_ | refine TL_lt_t (hk := ?_) | refine TL_nil ?_ | refine TL_move (hk := ?_) | refine TL_assign (hk := ?_) | refine TL_load_rd TE (hk := ?_) | refine TL_indexAddr1n TE (hk := ?_))
    refine TL_range TE (.string) (hk := ?_); intro r w2 e2 hr1 hr2 it
    have z2 := e2.size
    have o2 := o1.be e2
    have hry0 : r ∉ blkL y0.1 := fun q => by have := (o1.bl r q).2; omega
    repeat (first | refine T_block ?_ | refine TL_nil ?_)
    refine T_loop (ι := SL × List Tx × CL) (fun j => [(19, .pointer (some ⟨r, 0, none⟩)), (14, .int .i64 (i : Int)), (13, .int .i64 (m.cs.2.1 : Int)), (12, sL m.cs), (3, sL j.1)])
      (fun j w' => Ext w w' ∧ It w' r mb tK iV C j.2.2 ∧ Own w' w.heap.size 9 1 j.1.1 j.1.2.1 j.1.2.2 (sv j.2.1) ∧ r ∉ blkL j.1.1 ∧ (j.2.1 ++ j.2.2.map (·.1)).Perm (allU s (i + 1))) (fun j => j.2.2.length) (y0, acc0, C) (.c rfl (.c rfl (.c rfl (.c rfl (.c rfl (.n)))))) ⟨e1.ext e2, it, o2, hry0, by rw [hsu]; exact hpm0.append_right _⟩ ?_
    clear it mp o1 o2 hry0
    rintro ⟨y, acc, left⟩ w3 ⟨e3, it, ry, hry, hpm⟩ ih2
    simp only at it ry hry hpm ih2 ⊢
    have lr := it.lt
    have hyl : acc.length = y.2.1 := by have := ry.len; simpa using this
    have hpl := hpm.length_eq
    rw [List.length_append, List.length_map] at hpl
    repeat (first | refine T_seq ?_ | refine T_region ?_)
    refine TL_next (h0 := ?_) (h1 := ?_)
    · rintro rfl
      rw [List.map_nil, List.append_nil] at hpm
      clear ih2
      repeat (first | refine T_seq ?_ | refine T_region ?_ | refine T_cond_false rfl ?_ | refine T_inBlock ?_ | refine T_exit rfl ?_ | refine TL_add (hk := ?_) | refine TL_nil ?_ | refine TL_move (hk := ?_) | refine TL_extract (hk := ?_))
      exact ih (i + 1, y, acc) w3 _ (by simp only; omega) ⟨by simp only; omega, e3, ry, hpm⟩ (.c rfl (.c rfl (.c rfl (.c rfl (.n)))))
    · rintro l1 x l2 w4 rfl m4 s4 it4 cur
      have e4 : Ext w w4 := Mod.step e3 m4 (by simp; omega)
      have ry4 := ry.modL m4 (fun b hb q => by rw [List.mem_singleton] at q; exact hry (q ▸ hb))
      have z4 := e4.size
      simp only [List.length_append, List.length_cons] at hpl
      clear it
      repeat (first | refine T_seq ?_ | refine T_region ?_ | refine T_cond_true rfl ?_ | refine T_block ?_ | refine T_skip ?_ | refine TL_nil ?_ | refine TL_move (hk := ?_) | refine TL_assign (hk := ?_) | refine TL_extract (hk := ?_) | refine TL_entry (hk := ?_))
      refine TL_buildSlice TE (hk := ?_); intro b5 w5 e5 h51 h52 k5
      replace k5 : Blk w5 b5 9 (sv [x.1]) := k5
      have r5 : Rd w5 (some ⟨b5, 0, none⟩) 1 1 (sv [x.1]) := Rd.blk k5 rfl
      have ry5 := Own.be e5 ry4
      have z5 := e5.size
      --
      refine TL_append TE (ho := ry5) (hr := r5) (h1 := sv_one _) (hk := ?_); intro A6 c6 w6 o6 m6 n6
      rw [← sv_append] at o6
      have lr4 := it4.lt
      repeat (first | refine T_inBlock ?_ | refine TL_nil ?_ | refine TL_assign (hk := ?_))
      refine ih2 ((A6, y.2.1 + 1, c6), acc ++ [x.1], l1 ++ l2) w6 _ (by simp) ⟨(e4.ext e5).own m6 ry.hi, (it4.be e5).mod m6 hry (fun q => by have := (ry.bl _ q).1; omega), o6, fun q => ?_, ?_⟩ (.c rfl (.c rfl (.c rfl (.c rfl (.c rfl (.n))))))
      · rcases n6.mem r q with q | q
        · exact hry q
        · omega
      · refine List.Perm.trans ?_ hpm
        simp only [List.map_append, List.map_cons, List.append_assoc, List.cons_append, List.nil_append]
        exact List.Perm.append_left acc List.perm_middle.symm
  · clear ih
    have hie : i = s.C.length := by omega
    subst hie
    have hpl := hpm0.length_eq
    have hyl : acc0.length = y0.2.1 := by have := o1.len; simpa using this
    repeat (first | refine T_seq ?_ | refine T_region ?_ | refine T_cond_false rfl ?_ | refine T_exit rfl ?_ | refine TL_lt_f (hk := ?_) | refine TL_nil ?_ | refine TL_move (hk := ?_))
    refine TL_call TE (hc := Sort_c y0.1 y0.2.1 y0.2.2 _ acc0 w1 o1 (by omega)) (hk := ?_)
    rintro _ w3 ⟨rfl, m3, o3⟩
    repeat (first | refine T_seq ?_ | refine T_region ?_ | refine TL_nil ?_ | refine TL_move (hk := ?_) | refine TL_assign (hk := ?_))
    refine T_ret1 rfl rfl ⟨y0, rfl, e1.own m3 o1.hi, ?_⟩
    have : acc0.mergeSort le2 = keysS s := mergeSort_of_perm hpm0
    rw [← this]
    exact o3
end
end Go.Proofs.YtgdbckjkeofoaaaGreat

/- Clash by locks (lines of FLaw3 and FW19, without what the codec wants). -/
namespace Go.Proofs.YtgdbckjkeofoaaaGreat
open Go.Proofs.Eng Go.Proofs.Foot
set_option linter.unusedSimpArgs false
set_option linter.unusedVariables false
def meetL (la lb : List (Tx × Bool)) : Bool := la.any fun x => lb.any fun y => decide (x.1 = y.1) && (x.2 || y.2)
end Go.Proofs.YtgdbckjkeofoaaaGreat

namespace Go.Proofs.YtgdbckjkeofoaaaGreat
open Go.RowKit Go.Proofs.Eng Go.Proofs.Foot
set_option linter.unusedSimpArgs false
set_option linter.unusedVariables false set_option maxRecDepth 10000
attribute [local irreducible] T TL LV TH TA
theorem short_append {r k : List Tx} (sr : Short r) (sk : Short k) : Short (r ++ k) := fun i hi => by
  simp only [List.length_append] at hi
  by_cases h : i < r.length
  · have := sr i h
    simpa [List.getD_eq_getElem?_getD, List.getElem?_append_left h] using this
  · have := sk (i - r.length) (by omega)
    simpa [List.getD_eq_getElem?_getD, List.getElem?_append_right (by omega : r.length ≤ i)] using this
end Go.Proofs.YtgdbckjkeofoaaaGreat

namespace Go.Proofs.YtgdbckjkeofoaaaGreat
open Go.RowKit Go.Proofs.Eng Go.Proofs.Foot
set_option linter.unusedSimpArgs false
set_option linter.unusedVariables false set_option maxRecDepth 10000
attribute [local irreducible] T TL LV TH TA































































































end Go.Proofs.YtgdbckjkeofoaaaGreat

namespace Go.Proofs.YtgdbckjkeofoaaaGreat
open Go.RowKit Go.Proofs.Eng Go.Proofs.Foot Go.Proofs.Locks Go.Proofs.Sched
set_option linter.unusedSimpArgs false
set_option linter.unusedVariables false set_option maxRecDepth 10000
attribute [local irreducible] T TL LV TH TA
set_option maxHeartbeats 3200000
/-- A footprint in a row of the statement's. -/
structure FR where
  A : Option Addr
  n : Nat
  c : Nat
  B : Option Addr
  m : Nat
  d : Nat
  r : List Tx
  k : List Tx
def fr0 : FR := ⟨none, 0, 0, none, 0, 0, [], []⟩
def frV (x : FR) : List Value := [.slice x.A x.n x.c, .slice x.B x.m x.d]
theorem frV_len (x : FR) : (frV x).length = 2 := rfl
theorem frV_one : ∀ x, ∀ u ∈ frV x, u.oneCell' = true := by
  intro x u hu
  simp [frV] at hu
  rcases hu with rfl | rfl <;> rfl
structure FootsM (w0 w : World) (base : Nat) (qo : Nat → Nat) (y : SL) (fs : List FR) : Prop where
  o : Own w base 35 2 y.1 y.2.1 y.2.2 (rowV frV fs)
  z : ∀ b ∈ blkL y.1, qo b = 0
  g : ∀ x ∈ fs, Rd w0 x.A x.n 1 (sv x.r) ∧ Rd w0 x.B x.m 1 (sv x.k) ∧ x.n ≤ 3000 ∧ x.m ≤ 3000
structure TS5 (w0 w : World) (bs p N : Nat) (m : SM) (h g : Nat → Nat) (f : Nat → Ow) (s : SS) : Prop where
  e : Ext w0 w
  hp : m.p = p
  M : SchedM w bs m h g f s
  I : SI N s
  R : SR s
  hb : w0.heap.size ≤ bs
section
variable {w0 w w' : World} {base bs p N N' : Nat} {m m' : SM} {h h' g g' : Nat → Nat} {f f' : Nat → Ow} {s s' : SS} {o o' : Nat → Nat} {y : SL} {fs : List FR}
theorem FootsM.len (F : FootsM w0 w base o y fs) : fs.length = y.2.1 := by
  have := F.o.len
  rw [rowV_len frV_len] at this
  omega
theorem FootsM.tn (F : FootsM w0 w base o y fs) (t : Tn o o' w w') : FootsM w0 w' base o' y fs := by
  obtain ⟨h1, h2⟩ := F.o.tn t F.z
  exact ⟨h1, h2, F.g⟩
theorem FootsM.ext (F : FootsM w0 w base o y fs) (e : Ext w w') : FootsM w0 w' base o y fs := ⟨F.o.be e, F.z, F.g⟩
theorem TS5.ext (T0 : TS5 w0 w bs p N m h g f s) (e : Ext w w') : TS5 w0 w' bs p N m h g f s := ⟨T0.e.ext e, T0.hp, T0.M.ext e, T0.I, T0.R, T0.hb⟩
theorem TS5.turn (T0 : TS5 w0 w bs p N m h g f s) (hp : m'.p = m.p) (M : SchedM w' bs m' h' g' f' s') (t : Tn (oA h g f) (oA h' g' f') w w') (I : SI N' s') (R : SR s') : TS5 w0 w' bs p N' m' h' g' f' s' :=
  ⟨t.ext0 T0.e (fun b q => by have := (T0.M.oold q).1; have := T0.hb; omega), hp.trans T0.hp, M, I, R, T0.hb⟩
theorem stS_at {i : Nat} (hi : i < s.E.length) : stS s (i : Int) = stE s.E i := by
  unfold stS stE
  rw [if_neg (by omega), show ((i : Nat) : Int).toNat = i by omega]
def fB (E : List EnE) (i : Nat) : Bool := (List.range i).all fun k => decide (stE E k = 5 ∨ stE E k = 6)
def lB (z : Nat) : Bool := !decide (z = 5 ∨ z = 6)
def onB (z : Nat) : Bool := decide (z = 3 ∨ z = 4 ∨ z = 5)
end
end Go.Proofs.YtgdbckjkeofoaaaGreat

namespace Go.Proofs.YtgdbckjkeofoaaaGreat
open Go.RowKit Go.Proofs.Eng Go.Proofs.Foot Go.Proofs.Locks Go.Proofs.Sched
set_option linter.unusedSimpArgs false
set_option linter.unusedVariables false set_option maxRecDepth 10000
attribute [local irreducible] T TL LV TH TA
set_option maxHeartbeats 3200000
/-- What stands at an act's end. -/
def PlayO (w0 w' : World) (bs p N W : Nat) (y : SL) : Prop := ∃ m h g f s fs, TS5 w0 w' bs p N m h g f s ∧ FootsM w0 w' w0.heap.size (oA h g f) y fs ∧ s.E.map ftE = fs.map (fun x => (x.r, x.k)) ∧ s.win = W
end Go.Proofs.YtgdbckjkeofoaaaGreat

/- What locking, adding, taking, doing turn of the states. -/
namespace Go.Proofs.YtgdbckjkeofoaaaGreat
open Go.RowKit Go.Proofs.Eng Go.Proofs.Foot Go.Proofs.Locks Go.Proofs.Sched
set_option linter.unusedSimpArgs false
set_option linter.unusedVariables false set_option maxRecDepth 10000
attribute [local irreducible] T TL LV TH TA
/-- From one row of entries to another: who was ready, taken, done or full is as before; the others may be locked, ready or full. -/
def StepE (E E' : List EnE) : Prop := E'.length = E.length ∧ ∀ i, i < E.length → (3 ≤ stE E i → stE E' i = stE E i) ∧ (stE E i ≤ 2 → stE E' i ≤ 3 ∨ stE E' i = 6)
section
variable {E E' E2 : List EnE} {s : SS} {i : Nat}
theorem StepE.refl (E : List EnE) : StepE E E := ⟨rfl, fun i _ => ⟨fun _ => rfl, fun h => .inl (by omega)⟩⟩
theorem StepE.trans (h : StepE E E') (g : StepE E' E2) : StepE E E2 := by
  refine ⟨g.1.trans h.1, fun i hi => ?_⟩
  obtain ⟨h1, h2⟩ := h.2 i hi
  obtain ⟨g1, g2⟩ := g.2 i (by rw [h.1]; exact hi)
  refine ⟨fun q => by rw [g1 (by rw [h1 q]; exact q), h1 q], fun q => ?_⟩
  by_cases e : 3 ≤ stE E' i
  · rw [g1 e]; exact h2 q
  · exact g2 (by omega)
theorem lockS_step (J : SJ s) (h1 : s.nxt < s.E.length) : StepE s.E (lockS s).E := by
  have hst1 : stE s.E s.nxt = 1 := Classical.byContradiction fun q => by
    have := (J.a1 s.nxt h1).2 q
    omega
  have gen : ∀ z, z = 6 ∨ z = 2 → StepE s.E (setSt s.E s.nxt z) := fun z hz => by
    refine ⟨setSt_len _ _ _, fun i hi => ?_⟩
    rw [st_set h1]
    by_cases e : i = s.nxt
    · rw [if_pos e, e, hst1]; omega
    · rw [if_neg e]; exact ⟨fun _ => rfl, fun h => .inl (by omega)⟩
  unfold lockS
  simp only
  split
  · exact gen 6 (.inl rfl)
  · exact gen 2 (.inr rfl)
theorem lockL_step : ∀ (f : Nat) (s : SS), SJ s → s.E.length ≤ 1000 → StepE s.E (lockL f s).E
  | 0, s, _, _ => StepE.refl _
  | f + 1, s, J, hl => by
    by_cases h : s.nxt < s.E.length ∧ s.t.E.length < s.win
    · rw [lockL_go h.1 h.2]
      obtain ⟨J2, _, l2⟩ := lockS_sj J h.1 h.2 (by omega)
      exact (lockS_step J h.1).trans (lockL_step f _ J2 (by omega))
    · rw [lockL_stop h]
      exact StepE.refl _
theorem lockE_step (J : SJ s) (hl : s.E.length ≤ 1000) : StepE s.E (lockE s).E := by
  have h1 := lockL_step (s.E.length - s.nxt) s J hl
  obtain ⟨J1, _, _⟩ := lockL_sj (s.E.length - s.nxt) s J hl (Nat.le_refl _)
  change StepE s.E (lockU s).E at h1
  change SJ (lockU s) at J1
  refine h1.trans ?_
  unfold lockE
  simp only
  generalize lockU s = u at J1
  have hrg : ∀ q ∈ readiesE u.t, 0 ≤ q ∧ q < (u.E.length : Int) := fun q hq => by
    unfold readiesE allE at hq
    obtain ⟨e, he, rfl⟩ := List.mem_map.1 (List.mem_filter.1 hq).1
    rw [J1.a3] at he
    obtain ⟨k, h1, _, rfl⟩ := mem_fly.1 he
    have := J1.nl
    show 0 ≤ (k : Int) ∧ (k : Int) < _
    omega
  refine ⟨rdys_len _ _, fun i hi => ?_⟩
  rw [(rdys_st _ _ hrg i).2]
  by_cases e : stE u.E i = 2 ∧ (i : Int) ∈ readiesE u.t
  · rw [if_pos e, e.1]; omega
  · rw [if_neg e]; exact ⟨fun _ => rfl, fun h => .inl (by omega)⟩
/-- A normal footprint is added. -/
theorem add_ok (R : SR s) (hl : s.E.length + 1 ≤ 1000) {r k : List Tx} (hn : normF r k = ((r, k), 0)) : (addE s (s.E.length : Int) r k).2 = 0 ∧ StepE (s.E ++ [⟨r, k, 1⟩]) (addE s (s.E.length : Int) r k).1.E := by
  unfold addE
  rw [if_neg (by simp), hn]
  simp only
  rw [if_neg (by simp), if_neg (by simp)]
  exact ⟨rfl, lockE_step (push_sj R.toSJ (chk_norm (by rw [hn]))) (by simp; omega)⟩
theorem take_st (s : SS) : ((takeS s).2 = none ∧ (takeS s).1 = s ∧ ∀ i, i < s.E.length → stE s.E i ≠ 3) ∨ ∃ q, (takeS s).2 = some q ∧ q < s.E.length ∧ stE s.E q = 3 ∧ (∀ i, i < q → stE s.E i ≠ 3) ∧ (takeS s).1.E = setSt s.E q 4 := by
  unfold takeS
  cases hw : withS s.E [3] with
  | nil =>
    refine .inl ⟨rfl, rfl, fun i hi h => ?_⟩
    have : i ∈ withS s.E [3] := by
      unfold withS
      exact List.mem_filter.2 ⟨List.mem_range.2 hi, decide_eq_true (List.mem_singleton.2 h)⟩
    rw [hw] at this
    cases this
  | cons q l =>
    have hq : q ∈ withS s.E [3] := by rw [hw]; simp
    unfold withS at hq
    obtain ⟨hq1, hq2⟩ := List.mem_filter.1 hq
    refine .inr ⟨q, rfl, List.mem_range.1 hq1, List.mem_singleton.1 (of_decide_eq_true hq2), fun i hi h => ?_, rfl⟩
    have hin : i ∈ withS s.E [3] := by
      unfold withS
      exact List.mem_filter.2 ⟨List.mem_range.2 (by have := List.mem_range.1 hq1; omega), decide_eq_true (List.mem_singleton.2 h)⟩
    have hp : (withS s.E [3]).Pairwise (· < ·) := by
      unfold withS
      exact List.Pairwise.filter _ List.pairwise_lt_range
    rw [hw] at hin hp
    rcases List.mem_cons.1 hin with e | e
    · omega
    · have := (List.pairwise_cons.1 hp).1 i e; omega
/-- Who was taken is done. -/
theorem done_st (R : SR s) (hl : s.E.length ≤ 1000) {q : Nat} (hq : q < s.E.length) (h4 : stE s.E q = 4) : (doneE s (q : Int)).2 = 0 ∧ StepE (setSt s.E q 5) (doneE s (q : Int)).1.E := by
  unfold doneE
  have hst : stS s (q : Int) = 4 := by
    unfold stS
    rw [if_neg (by omega)]
    exact h4
  have htn : ((q : Nat) : Int).toNat = q := by omega
  rw [if_neg (by rw [hst]; simp), htn]
  exact ⟨rfl, lockE_step (done_sj R hq h4) (by simp only [setSt_len]; omega)⟩
/-- The first of those left is done behind each round. -/
theorem first_done (R : SR s) {i : Nat} (hi : i < s.E.length) (hb : ∀ k, k < i → stE s.E k = 5 ∨ stE s.E k = 6) : (stE s.E i = 5 ∨ stE s.E i = 6) ∨ stE s.E i = 4 ∨ stE s.E i = 3 ∧ (takeS s).2 = some i := by
  by_cases h56 : stE s.E i = 5 ∨ stE s.E i = 6
  · exact .inl h56
  · right
    rcases R.first hi ⟨fun q => h56 (.inl q), fun q => h56 (.inr q)⟩ hb with h3 | h4
    · right
      refine ⟨h3, ?_⟩
      rcases take_st s with ⟨_, _, h⟩ | ⟨q, h1, h2, h5, h6, _⟩
      · exact absurd h3 (h i hi)
      · rw [h1]
        congr 1
        rcases Nat.lt_trichotomy q i with e | e | e
        · have := hb q e; omega
        · exact e
        · exact absurd h3 (h6 i e)
    · exact .inl h4
end
end Go.Proofs.YtgdbckjkeofoaaaGreat

/- Who is taken: the statement's list. -/
namespace Go.Proofs.YtgdbckjkeofoaaaGreat
open Go.RowKit Go.Proofs.Eng Go.Proofs.Foot Go.Proofs.Locks Go.Proofs.Sched
set_option linter.unusedSimpArgs false
set_option linter.unusedVariables false set_option maxRecDepth 10000
attribute [local irreducible] T TL LV TH TA
structure TkI (s : SS) (tk : List Nat) : Prop where
  nd : tk.Nodup
  t4 : ∀ q ∈ tk, q < s.E.length ∧ stE s.E q = 4
  al : ∀ i, i < s.E.length → stE s.E i = 4 → i ∈ tk
section
variable {s s' : SS} {tk : List Nat} {q : Nat}
theorem TkI.start (n : Nat) (S0 : StE) : TkI (newSS n S0) [] := ⟨List.nodup_nil, (fun q h => by cases h), fun i h => by simp [newSS] at h⟩
theorem TkI.add {r k : List Tx} (T0 : TkI s tk) (h : StepE (s.E ++ [⟨r, k, 1⟩]) s'.E) : TkI s' tk := by
  have hl : s'.E.length = s.E.length + 1 := by rw [h.1]; simp
  refine ⟨T0.nd, fun q hq => ?_, fun i hi h4 => ?_⟩
  · obtain ⟨h1, h2⟩ := T0.t4 q hq
    have := (h.2 q (by simp; omega)).1 (by rw [st_app h1]; omega)
    rw [st_app h1] at this
    exact ⟨by omega, by omega⟩
  · have h2 := h.2 i (by simp; omega)
    by_cases e : i < s.E.length
    · rw [st_app e] at h2
      refine T0.al i e ?_
      by_cases g : 3 ≤ stE s.E i
      · have := h2.1 g; omega
      · have := h2.2 (by omega); omega
    · have e2 : i = s.E.length := by omega
      subst e2
      rw [st_new] at h2
      have := h2.2 (by simp)
      omega
theorem TkI.take (T0 : TkI s tk) (hq : q < s.E.length) (h3 : stE s.E q = 3) (hE : s'.E = setSt s.E q 4) : (∀ tk', tk'.Perm (q :: tk) → TkI s' tk') := fun tk' hp => by
  have hn : q ∉ tk := fun h => by have := (T0.t4 q h).2; omega
  refine ⟨hp.nodup_iff.2 (List.nodup_cons.2 ⟨hn, T0.nd⟩), fun z hz => ?_, fun i hi h4 => ?_⟩
  · rw [hE, setSt_len, st_set hq]
    rcases List.mem_cons.1 (hp.mem_iff.1 hz) with e | e
    · rw [if_pos e]; exact ⟨by omega, rfl⟩
    · have := T0.t4 z e
      by_cases e2 : z = q
      · rw [if_pos e2]; exact ⟨this.1, rfl⟩
      · rw [if_neg e2]; exact this
  · rw [hE, setSt_len] at hi
    rw [hE, st_set hq] at h4
    refine hp.mem_iff.2 ?_
    by_cases e : i = q
    · rw [e]; simp
    · rw [if_neg e] at h4
      exact List.mem_cons_of_mem _ (T0.al i hi h4)
theorem TkI.done (T0 : TkI s (q :: tk)) (h : StepE (setSt s.E q 5) s'.E) : TkI s' tk := by
  obtain ⟨hq, hq4⟩ := T0.t4 q (by simp)
  have hnd := List.nodup_cons.1 T0.nd
  have hl : s'.E.length = s.E.length := by rw [h.1, setSt_len]
  refine ⟨hnd.2, fun z hz => ?_, fun i hi h4 => ?_⟩
  · obtain ⟨h1, h2⟩ := T0.t4 z (by simp [hz])
    have hne : z ≠ q := fun e => hnd.1 (by rw [← e]; exact hz)
    have := (h.2 z (by rw [setSt_len]; exact h1)).1 (by rw [st_set hq, if_neg hne]; omega)
    rw [st_set hq, if_neg hne] at this
    exact ⟨by omega, by omega⟩
  · have h2 := h.2 i (by rw [setSt_len]; omega)
    rw [st_set hq] at h2
    by_cases e : i = q
    · rw [if_pos e] at h2
      have := h2.1 (by omega)
      omega
    · rw [if_neg e] at h2
      have h5 : i ∈ q :: tk := T0.al i (by omega) (by
        by_cases g : 3 ≤ stE s.E i
        · have := h2.1 g; omega
        · have := h2.2 (by omega); omega)
      rcases List.mem_cons.1 h5 with e2 | e2
      · exact absurd e2 e
      · exact e2
/-- Who was done or full stays so. -/
theorem step_56 {E E' : List EnE} (h : StepE E E') {i : Nat} (hi : i < E.length) (h5 : stE E i = 5 ∨ stE E i = 6) : stE E' i = 5 ∨ stE E' i = 6 := by
  have := (h.2 i hi).1 (by omega)
  omega
end
end Go.Proofs.YtgdbckjkeofoaaaGreat

/- What is left of a division, whatever the sign. -/
namespace Go.Proofs.Eng
open Go.RowKit
set_option linter.unusedSimpArgs false
set_option linter.unusedVariables false
set_option linter.unusedSectionVars false
section
variable {q : Qm} {P : Program} {fn : Func} {R : Ending → World → Prop} {M : Md} {n : Nat} {st : Slots} {k : List Item} {w : World} {ops rest : List Oper}
  {d : Nat} {ty : TypeId} {ps : String} {af : Array Edge} {X Y : Operand} {t t2 : TypeId} {K : IntKind} {x y : Int}
theorem TL_rem_any (hx : ev st X = some (.int K x) := by exact rfl) (hy : ev st Y = some (.int K y) := by exact rfl) (h1 : 0 < y := by first | assumption | omega) (hd : Nat.blt d n = true := by exact rfl) (hk : TL q P fn R M n ((d, .int K (Int.tmod x y)) :: st) ops rest k w) : TL q P fn R M n st ops (⟨some d, .binOp .rem t X Y t2, ty, ps, af, none⟩ :: rest) k w :=
  TL_val_w hd (fun w ρ h => by
    have : ¬ y = 0 := by omega
    simp [execOp, h _ _ hx, h _ _ hy, eqGuard, binOp, Op.intDiv, this]) hk
theorem tmod3 (x : Int) : -3 < Int.tmod x 3 ∧ Int.tmod x 3 < 3 := ⟨Int.lt_tmod_of_pos x (by decide), Int.tmod_lt_of_pos x (by decide)⟩
end
end Go.Proofs.Eng

/- A stretch of an own row: what is cut off its front, what is laid behind it. -/
namespace Go.Proofs.Eng
open Go.RowKit
set_option linter.unusedSimpArgs false
set_option linter.unusedVariables false
set_option linter.unusedSectionVars false
def Seg (w : World) (base : Nat) (e : TypeId) (s : Nat) (A : Option Addr) (n c : Nat) (xs : List Value) : Prop :=
  xs.length = n * s ∧ ((A = none ∧ n = 0 ∧ c = 0) ∨ ∃ g o cur, A = some ⟨g, o, none⟩ ∧ base ≤ g ∧ w.heap[g]? = some (.cells cur e (0, 0)) ∧ n ≤ c ∧ c ≤ maxLen ∧ o + c * s ≤ cur.size ∧ (cur.toList.drop o).take (n * s) = xs)
section
variable {w w' : World} {base s n c : Nat} {e : TypeId} {A : Option Addr} {xs : List Value}
theorem Seg.nil (w : World) (base : Nat) (e : TypeId) (s : Nat) : Seg w base e s none 0 0 [] := ⟨by simp, .inl ⟨rfl, rfl, rfl⟩⟩
theorem Own.seg (h : Own w base e s A n c xs) : Seg w base e s A n c xs := by
  obtain ⟨hl, ⟨hv, h0⟩ | ⟨g, cap, cur, hv, hg, hh, hnc, hcm, hcs, htk⟩⟩ := h
  · cases hv
    exact ⟨hl, .inl ⟨rfl, rfl, rfl⟩⟩
  · cases hv
    exact ⟨hl, .inr ⟨g, 0, cur, rfl, hg, hh, hnc, hcm, by omega, by simpa using htk⟩⟩
theorem Seg.len (h : Seg w base e s A n c xs) : xs.length = n * s := h.1
theorem Seg.cap (h : Seg w base e s A n c xs) : n ≤ c ∧ c ≤ maxLen := by
  obtain ⟨_, ⟨_, h0, h1⟩ | ⟨g, o, cur, _, _, _, hnc, hcm, _⟩⟩ := h
  · subst h0 h1; exact ⟨Nat.le_refl _, by decide⟩
  · exact ⟨hnc, hcm⟩
theorem Seg.hi (h : Seg w base e s A n c xs) : Hi A base := fun ad ea => by
  obtain ⟨_, ⟨h0, _⟩ | ⟨g, o, cur, h0, hg, _⟩⟩ := h
  · rw [h0] at ea; cases ea
  · rw [h0] at ea; cases ea; exact hg
theorem Seg.lo (h : Seg w base e s A n c xs) : Lo A w.heap.size := fun ad ea => by
  obtain ⟨_, ⟨h0, _⟩ | ⟨g, o, cur, h0, hg, hh, _⟩⟩ := h
  · rw [h0] at ea; cases ea
  · rw [h0] at ea; cases ea; exact heap_lt hh
theorem Seg.mod {S : List Nat} (h : Seg w base e s A n c xs) (hm : Mod S w w') (hS : Off A S) : Seg w' base e s A n c xs := by
  obtain ⟨hl, h | ⟨g, o, cur, rfl, hg, hh, r⟩⟩ := h
  · exact ⟨hl, .inl h⟩
  · exact ⟨hl, .inr ⟨g, o, cur, rfl, hg, by rw [hm.block g (heap_lt hh) (hS _ rfl)]; exact hh, r⟩⟩
theorem Seg.ext (h : Seg w base e s A n c xs) (hm : Ext w w') : Seg w' base e s A n c xs := h.mod hm (.nil A)
theorem Seg.be (hm : Ext w w') (h : Seg w base e s A n c xs) : Seg w' base e s A n c xs := h.ext hm
theorem Seg.weaken {base' : Nat} (h : Seg w base e s A n c xs) (hb : base' ≤ base) : Seg w base' e s A n c xs := by
  obtain ⟨hl, h | ⟨g, o, cur, h1, hg, r⟩⟩ := h
  · exact ⟨hl, .inl h⟩
  · exact ⟨hl, .inr ⟨g, o, cur, h1, by omega, r⟩⟩
theorem Seg.rd (h : Seg w base e s A n c xs) : Rd w A n s xs := by
  obtain ⟨hl, ⟨_, h0, _⟩ | ⟨g, o, cur, rfl, hg, hh, hnc, hcm, hcs, htk⟩⟩ := h
  · exact ⟨hl, fun hn => by omega⟩
  · refine ⟨hl, fun hn => ⟨g, o, rfl, heap_lt hh, fun j u hu => ?_⟩⟩
    rw [← htk] at hu
    rw [List.getElem?_take] at hu
    split at hu
    · rw [List.getElem?_drop] at hu
      simp only [World.cell?, hh]
      simpa using hu
    · cases hu
theorem Seg.cut {l : Nat} (h : Seg w base e s A n c xs) (hl : l ≤ n) : Seg w base e s (cutA A c l s) (n - l) (c - l) (xs.drop (l * s)) := by
  have hlen : (xs.drop (l * s)).length = (n - l) * s := by rw [List.length_drop, h.1, Nat.sub_mul]
  obtain ⟨hx, ⟨rfl, h0, h1⟩ | ⟨g, o, cur, rfl, hg, hh, hnc, hcm, hcs, htk⟩⟩ := h
  · refine ⟨hlen, .inl ⟨?_, by omega, by omega⟩⟩
    unfold cutA; split <;> rfl
  · refine ⟨hlen, .inr ?_⟩
    by_cases hcl : c = l
    · refine ⟨g, o, cur, by simp [cutA, hcl], hg, hh, by omega, by omega, by simp [hcl]; omega, ?_⟩
      have : n - l = 0 := by omega
      rw [this, Nat.zero_mul, List.take_zero, List.drop_of_length_le]
      rw [hx]
      exact Nat.mul_le_mul_right _ (by omega)
    · refine ⟨g, o + l * s, cur, ?_, hg, hh, by omega, by omega, ?_, ?_⟩
      · simp only [cutA, hcl, if_false, Option.map_some, Addr.add]
        by_cases h0 : l * s = 0 <;> simp [h0]
      · rw [Nat.add_assoc, ← Nat.add_mul, show l + (c - l) = c by omega]
        exact hcs
      · rw [← htk, List.drop_take, List.drop_drop]
        congr 1
        rw [Nat.sub_mul]
end
section
variable {q : Qm} {P : Program} {fn : Func} {R : Ending → World → Prop} {M : Md} {n : Nat} {st : Slots} {k : List Item} {w : World} {ops rest : List Oper}
  {d : Nat} {ty : TypeId} {ps : String} {af : Array Edge} {X Y : Operand} {t e : TypeId} {by_ s base m c m2 c2 : Nat} {z : Value} {A A2 : Option Addr} {xs ys : List Value}
theorem run_append_seg (ht : P.underlying t = some (.slice e)) (hi : ∃ i, P.info? e = some i ∧ i.size = s ∧ i.bytes = by_ ∧ i.zero = some z) (hzs : z.cells.size = s) (hsz : 0 < s)
    (ho : Seg w base e s A m c xs) (hr : Rd w A2 m2 s ys) (h1 : ∀ u ∈ ys, u.oneCell' = true) (hb1 : m + m2 ≤ maxLen) (hb2 : (m + m2) * by_ ≤ 140737488355328) (hb : base ≤ w.heap.size) (tt : TypeId) :
    ∃ A' c' w', (Builtin.append_ #[t, t] tt #[.slice A m c, .slice A2 m2 c2]).run P w = .ok (.slice A' (m + m2) c') w' ∧ Seg w' base e s A' (m + m2) c' (xs ++ ys) ∧ Mod (blkL A) w w' ∧ Near A A' w := by
  obtain ⟨hxl, ⟨rfl, h0, h1'⟩ | ⟨g, o, cur, rfl, hg, hh, hnc, hcm, hcs, htk⟩⟩ := id ho
  · subst h0 h1'
    have hx : xs = [] := List.eq_nil_of_length_eq_zero (by simpa using hxl)
    subst hx
    obtain ⟨A', c', w', g1, g2, g3, g4⟩ := run_append_any (c2 := c2) ht hi hzs hsz (Own.nil w base e s) hr h1 hb1 hb2 hb tt
    exact ⟨A', c', w', g1, g2.seg, g3, g4⟩
  · obtain ⟨i, i1, i2, i3, i4⟩ := id hi
    by_cases hm0 : m2 = 0
    · subst hm0
      have hy : ys = [] := List.eq_nil_of_length_eq_zero (by simpa using hr.1)
      subst hy
      refine ⟨some ⟨g, o, none⟩, c, w, ?_, by simpa using ho, Mod.refl _ _, fun ad e => .inl e⟩
      have hl : ∀ (x : Addr), (loadCells x 0).run P w = .ok #[] w := fun x => by simpa using run_loadCells_list (P := P) w x [] (by simp)
      cases A2 <;> simp [Builtin.append_, run_underlying ht, sizeOf, typeInfo, i1, Builtin.lenOf, Builtin.firstCells, hnc, storeCells, hl]
    · obtain ⟨b2, o2, rfl, hb2', hc2⟩ := hr.2 (by omega)
      have hsrc : ∀ j u, ys[j]? = some u → w.cell? ((⟨b2, o2, none⟩ : Addr).add j) = some u := fun j u hu => by
        rw [← hc2 j u hu]
        congr 1
        unfold Addr.add
        by_cases h : j = 0 <;> simp [h]
      by_cases hroom : m + m2 ≤ c
      · have hk : Blk w g e cur.toList := by unfold Blk; simpa using hh
        have hfit : o + m * s + 0 + ys.length ≤ cur.toList.length := by
          rw [hr.1]
          have h9 : (m + m2) * s ≤ c * s := Nat.mul_le_mul_right _ hroom
          rw [Nat.add_mul] at h9
          have : cur.toList.length = cur.size := Array.length_toList
          omega
        obtain ⟨w', g1, g2, g3, g4⟩ := run_storeAll (P := P) (b := g) (o := o + m * s) ys cur.toList 0 w hk hfit h1
        rw [Nat.add_zero] at g4 hfit
        have hfc := run_firstCells_some (P := P) w i.size m2 ⟨b2, o2, none⟩ m2 c2 ys (by rw [i2]; exact hr.1) hsrc
        refine ⟨some ⟨g, o, none⟩, c, w', ?_, ⟨by rw [List.length_append, hxl, hr.1, Nat.add_mul], .inr ⟨g, o, (setAll cur.toList (o + m * s) ys).toArray, rfl, hg, g4, hroom, hcm, by simp [setAll_length]; exact hcs, ?_⟩⟩, g2, fun ad ea => .inl ea⟩
        · rw [i2] at hfc
          simp [Builtin.append_, run_underlying ht, sizeOf, typeInfo, i1, i2, Builtin.lenOf, hroom, hfc, Addr.add_lit, g1]
        · simp only [List.toList_toArray]
          rw [setAll_eq _ _ _ hfit, ← htk]
          have hl1 : (cur.toList.take (o + m * s)).length = o + m * s := by rw [List.length_take]; omega
          have hys := hr.1
          have hcl : cur.toList.length = cur.size := Array.length_toList
          have h8 : (m + m2) * s = m * s + m2 * s := Nat.add_mul _ _ _
          rw [h8]
          apply List.ext_getElem?
          intro j
          simp only [List.getElem?_take, List.getElem?_append, List.getElem?_drop, List.length_append, List.length_take, List.length_drop, hys]
          grind
      · have holds : ∀ j u, xs[j]? = some u → w.cell? ((⟨g, o, none⟩ : Addr).add j) = some u := fun j u hu => by
          have h9 := ho.rd.cell hu
          rw [← h9]
          congr 1
          unfold Addr.add adr
          by_cases h : j = 0 <;> simp [h]
        obtain ⟨v', w', g1, g2, g3⟩ := run_append_arg_grows (P := P) w t tt e i z s by_ ht i1 i4 i2 i3 hzs hsz ⟨g, o, none⟩ m c xs hxl holds ⟨b2, o2, none⟩ m2 c2 ys hr.1 hsrc (by omega) hb1 hb2
        obtain ⟨A', c', rfl, ho'⟩ := own_form g2
        have hext : Ext w w' := by have := Mod.of_grown g3; simpa using this
        refine ⟨A', c', w', g1, (Own.seg ho').weaken hb, hext.mono (fun x hx => by cases hx), fun ad ea => .inr (ho'.hi ad ea)⟩
theorem TL_append_g (E : Env P) (ho : Seg w base e s A m c xs) (hr : Rd w A2 m2 s ys) (h1 : ∀ u ∈ ys, u.oneCell' = true) (hx : ev st X = some (.slice A m c) := by exact rfl) (hy : ev st Y = some (.slice A2 m2 c2) := by exact rfl) (ht : E.und t = some (.slice e) := by exact rfl) (he : E.inf e = some (s, by_, z) := by exact rfl) (hzs : z.cells.size = s := by exact rfl) (hsz : Nat.blt 0 s = true := by exact rfl) (hd : Nat.blt d n = true := by exact rfl)
    (hb1 : m + m2 ≤ 140737488355328 := by omega) (hb2 : (m + m2) * by_ ≤ 140737488355328 := by omega) (hb : base ≤ w.heap.size := by first | assumption | omega)
    (hf : Fl q (rest.length + 1) := by first | exact trivial | exact rfl) (hq : ∀ w', Mod (blkL A) w w' → Kp q w' := by exact fun _ _ => trivial)
    (hk : ∀ A' c' w', Seg w' base e s A' (m + m2) c' (xs ++ ys) → Mod (blkL A) w w' → Near A A' w → TL q P fn R M n ((d, .slice A' (m + m2) c') :: st) ops rest k w') :
    TL q P fn R M n st ops (⟨some d, .call { callee := .builtin .append, args := #[X, Y], argTypes := #[t, t] }, ty, ps, af, none⟩ :: rest) k w := by
  obtain ⟨A', c', w', hrun, h2, h3, h4⟩ := run_append_seg (E.und_ok _ _ ht) (E.inf_ok _ _ _ _ he) hzs (by simpa [Nat.blt_eq] using hsz) ho hr h1 (by unfold maxLen; omega) hb2 hb (c2 := c2) ty
  refine TL_new (w' := w') hd (fun ρ h => ?_) hf (hq _ h3) (hk A' c' w' h2 h3 h4)
  simp only [execOp, resolve, invoke, builtin, Sem.run_bind, Sem.run_pure, Result.andThen_ok, List.map_toArray, List.map_cons, List.map_nil, h _ _ hx, h _ _ hy, hrun]
end
end Go.Proofs.Eng

namespace Go.Proofs.YtgdbckjkeofoaaaGreat
open Go.RowKit Go.Proofs.Eng Go.Proofs.Foot Go.Proofs.Locks Go.Proofs.Sched
set_option linter.unusedSimpArgs false
set_option linter.unusedVariables false set_option maxRecDepth 10000
attribute [local irreducible] T TL LV TH TA
set_option maxHeartbeats 6400000
/-- The statement's list of those taken. -/
structure TkM (w0 w : World) (o : Nat → Nat) (y : SL) (tk : List Nat) : Prop where
  sg : Seg w w0.heap.size 2 1 y.1 y.2.1 y.2.2 (nzV tk)
  zz : ∀ b ∈ blkL y.1, o b = 0
section
variable {w0 w w' : World} {o o' : Nat → Nat} {y : SL} {tk : List Nat}
theorem TkM.len (K : TkM w0 w o y tk) : y.2.1 = tk.length := by
  have := K.sg.len
  rw [nzV_len] at this
  omega
theorem TkM.tn (K : TkM w0 w o y tk) (t : Tn o o' w w') : TkM w0 w' o' y tk := by
  obtain ⟨⟨S, m1, s1⟩, n1, z1⟩ := id t
  exact ⟨K.sg.mod m1 (off_ofL fun b q q' => s1 b q' (K.zz b q)), fun b q => t.old (K.zz b q) (Lo.mem K.sg.lo b q)⟩
theorem TkM.ext (K : TkM w0 w o y tk) (e : Ext w w') : TkM w0 w' o y tk := K.tn (Tn.ext e)
theorem TkM.tail {q : Nat} (K : TkM w0 w o y (q :: tk)) : TkM w0 w o (cutA y.1 y.2.2 1 1, y.2.1 - 1, y.2.2 - 1) tk := by
  have hl := K.len
  rw [List.length_cons] at hl
  refine ⟨?_, fun b q => K.zz b ?_⟩
  · have := K.sg.cut (l := 1) (by omega)
    exact this
  · simp only at q
    unfold cutA at q
    split at q
    · exact q
    · cases hA : y.1 with
      | none => rw [hA] at q; simp [blkL] at q
      | some a => rw [hA] at q; simpa [blkL, Addr.add] using q
end
/-- What stands while a scheduler is worked off. -/
def EndP (w0 w : World) (bs p n : Nat) (S0 : StE) (sm : StM) (FT : List (List Tx × List Tx)) (y : SL) (tk : List Nat) (Q : SS → Prop) : Prop :=
  ∃ m h g f s, TS5 w0 w bs p n m h g f s ∧ m.sm = sm ∧ SC S0 s ∧ TkI s tk ∧ TkM w0 w (oA h g f) y tk ∧ s.E.length = n ∧ s.E.map ftE = FT.take n ∧ Q s
section
variable {w0 w w' : World} {bs p n : Nat} {S0 : StE} {sm : StM} {FT : List (List Tx × List Tx)} {y : SL} {tk : List Nat} {Q Q' : SS → Prop}
theorem EndP.ext (h : EndP w0 w bs p n S0 sm FT y tk Q) (e : Ext w w') : EndP w0 w' bs p n S0 sm FT y tk Q := by
  obtain ⟨m, h, g, f, s, a1, a2, a3, a4, a5, a6, a7, a8⟩ := h
  exact ⟨m, h, g, f, s, a1.ext e, a2, a3, a4, a5.ext e, a6, a7, a8⟩
/-- taken = append(taken, q) -/
theorem TkM.push {m : SM} {h g : Nat → Nat} {f : Nat → Ow} {s : SS} (T0 : TS5 w0 w bs p n m h g f s) (K : TkM w0 w (oA h g f) y tk) (q : Nat) {A9 : Option Addr} {c9 : Nat} {w9 : World} (o9 : Seg w9 w0.heap.size 2 1 A9 (y.2.1 + 1) c9 (nzV (tk ++ [q]))) (m9 : Eng.Mod (blkL y.1) w w9) (n9 : Near y.1 A9 w) :
    TS5 w0 w9 bs p n m h g f s ∧ TkM w0 w9 (oA h g f) (A9, y.2.1 + 1, c9) (tk ++ [q]) := by
  refine ⟨⟨T0.e.step m9 (fun b q => .inr (Hi.mem K.sg.hi b q)), T0.hp, T0.M.mod m9 K.zz, T0.I, T0.R, T0.hb⟩, o9, fun b q => ?_⟩
  rcases Near.mem n9 b q with q | q
  · exact K.zz b q
  · exact T0.M.new0 q
end
end Go.Proofs.YtgdbckjkeofoaaaGreat
