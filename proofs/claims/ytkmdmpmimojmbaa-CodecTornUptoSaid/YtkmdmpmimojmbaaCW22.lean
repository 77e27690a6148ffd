import Derived.Test.YtkmdmpmimojmbaaCW21
import Derived.Test.YtkmdmpmimojmbaaCLaw4
namespace Go.Proofs.Ytkmdmpmimojmbaa
open Go.RowKit Go.Proofs.Eng Go.Proofs.Codec
set_option linter.unusedSimpArgs false
set_option linter.unusedVariables false
attribute [local irreducible] T TL LV TH
set_option maxHeartbeats 2000000

theorem CodecTurned_c (A : Option Addr) (n c : Nat) (l : List UInt8) (at_ pat : Int) (w : World) (hA : Rd w A n 1 (bv l)) (hnc : n ≤ c) (hcm : c ≤ maxLen) (hat : (Lit.int .i64 at_).wf = true) (hpat : (Lit.int .u32 pat).wf = true) :
    Ret Try.prog 5 [.slice A n c, .int .i64 at_, .int .u32 pat] w (fun v w' => v = .bool true ∧ Ext w w') := by
  have hat := fits_of_wf hat
  have hpat := fits_of_wf hpat
  unfold Fits at hat hpat
  unfold maxLen at hcm
  obtain ⟨p, rfl⟩ := Int.eq_ofNat_of_zero_le hpat.1
  have hlen : l.length = n := by simpa using hA.1
  by_cases g1 : 65536 < n
  · refine ret_T (n := 124) Try.func5 rfl rfl ?_
    repeat (first | refine T_seq ?_ | refine T_region ?_ | refine TL_nil ?_ | refine TL_move (hk := ?_) | refine TL_assign (hk := ?_))
    refine TL_call TE (hc := Seal_c2 A n c w g1) (hk := ?_)
    rintro _ w ⟨rfl, rfl⟩
    repeat (first | refine T_seq ?_ | refine T_region ?_ | refine T_cond_true rfl ?_ | refine TL_gt_t (hk := ?_) | refine TL_nil ?_ | refine TL_move (hk := ?_) | refine TL_assign (hk := ?_) | refine TL_len TE (hk := ?_) | refine TL_extract (hk := ?_))
    refine TL_call TE (hc := num_c 1 w) (hk := ?_)
    rintro _ w ⟨rfl, rfl⟩
    repeat (first | refine TL_eq_t (hk := ?_) | refine TL_move (hk := ?_) | refine TL_yes (hk := ?_))
    refine TL_call TE (hc := live_c w) (hk := ?_)
    rintro _ w1 ⟨rfl, e1⟩
    repeat (first | refine TL_nil ?_ | refine TL_assign (hk := ?_) | refine TL_pick_t (hk := ?_))
    exact T_ret1 rfl rfl ⟨rfl, e1⟩
  have hd : ∃ a0 : Nat, a0 < 2 ^ 63 ∧ (at_ = -(a0 : Int) - 1 ∨ at_ = (a0 : Int)) := by
    rcases Int.lt_or_le at_ 0 with h | h
    · exact ⟨(-(at_ + 1)).toNat, by omega, .inl (by omega)⟩
    · exact ⟨at_.toNat, by omega, .inr (by omega)⟩
  obtain ⟨a0, ha0, hor⟩ := hd
  have q1 : -(-(a0 : Int) - 1 + 1) = (a0 : Int) := by omega
  have q2 : (a0 : Int) % (8 * ((n : Int) + 4)) = ((a0 % (8 * (n + 4)) : Nat) : Int) := by simp
  have ha : a0 % (8 * (n + 4)) < 8 * (n + 4) := Nat.mod_lt _ (by omega)
  generalize a0 % (8 * (n + 4)) = a at q2 ha
  rcases hor with rfl | rfl
  all_goals
    refine ret_T (n := 124) Try.func5 rfl rfl ?_
    repeat (first | refine T_seq ?_ | refine T_region ?_ | refine TL_nil ?_ | refine TL_move (hk := ?_) | refine TL_assign (hk := ?_))
    refine TL_call TE (hc := Seal_c A n c l w hA (by omega)) (hk := ?_)
    rintro _ w1 ⟨Ap, cp, rfl, e1, op⟩
    have hiP := op.hi
    repeat (first | refine T_seq ?_ | refine T_region ?_ | refine T_cond_false rfl ?_ | refine T_skip ?_ | refine TL_gt_f (hk := ?_) | refine TL_nil ?_ | refine TL_move (hk := ?_) | refine TL_assign (hk := ?_) | refine TL_len TE (hk := ?_) | refine TL_extract (hk := ?_))
    refine TL_call TE (hc := num_c 0 w1) (hk := ?_)
    rintro _ w1 ⟨rfl, rfl⟩
    repeat (first | refine T_seq ?_ | refine T_region ?_ | refine T_cond_true rfl ?_ | refine T_cond_false rfl ?_ | refine T_block ?_ | refine T_skip ?_ | refine TL_add (hk := ?_) | refine TL_mul (hk := ?_) | refine TL_rem (hk := ?_) | refine TL_lt_t (hk := ?_) | refine TL_lt_f (hk := ?_) | refine TL_ne_f (hk := ?_) | refine TL_nil ?_ | refine TL_move (hk := ?_) | refine TL_assign (hk := ?_) | refine TL_len TE (hk := ?_) | refine TL_yes (hk := ?_) | refine TL_pick_f (hk := ?_) | refine TL_neg (hk := ?_))
    first | rw [q1, q2] | rw [q2]
    refine T_loop (ι := Nat × List UInt8 × Nat) (fun i => [(11, .int .i64 (i.1 : Int)), (10, .int .i64 (i.2.2 : Int)), (1, .int .i64 (a : Int)), (9, .int .i64 (8 * ((n : Int) + 4))), (2, .int .u32 (p : Int)), (7, .slice Ap (n + 8) cp), (0, .slice A n c)])
      (fun i w' => i.1 ≤ 32 ∧ Own w' w.heap.size 5 1 Ap (n + 8) cp (bv i.2.1) ∧ num i.2.1 = num (frame l) ^^^ (2 ^ (32 + a) * (p % 2 ^ i.1)) ∧ (i.2.2 = 0 ↔ p % 2 ^ i.1 = 0) ∧ i.2.2 ≤ i.1 ∧ Ext w w') (fun i => 32 - i.1) (0, frame l, 0) (.c rfl (.c rfl (.c rfl (.c rfl (.c rfl (.c rfl (.c rfl (.n))))))))
      ⟨by simp, op, by simp [Nat.mod_one], by simp [Nat.mod_one], by simp, e1⟩ ?_
    clear op e1
    rintro ⟨k, pl, tu⟩ w2 ⟨hk, o2, hn, htu, htk, e2⟩ ih
    simp only at hk o2 hn htu htk e2 ih ⊢
    have hpl : pl.length = n + 8 := by have := o2.len; simpa using this
    by_cases hgo : k < 32 ∧ a + k < 8 * (n + 4)
    · obtain ⟨hk32, hak⟩ := hgo
      have hpk : p / 2 ^ k < 2 ^ 32 := Nat.lt_of_le_of_lt (Nat.div_le_self _ _) (by omega)
      have hbit := mod_succ_bit p k
      have hand : p / 2 ^ k &&& 1 = p / 2 ^ k % 2 := Nat.and_one_is_mod _
      have hlt : p % 2 ^ k < 2 ^ k := Nat.mod_lt _ (Nat.two_pow_pos k)
      repeat (first | refine T_seq ?_ | refine T_region ?_ | refine T_cond_true rfl ?_ | refine T_block ?_ | refine T_skip ?_ | refine TL_add (hk := ?_) | refine TL_lt_t (hk := ?_) | refine TL_nil ?_ | refine TL_move (hk := ?_) | refine TL_yes (hk := ?_) | refine TL_pick_t (hk := ?_) | refine TL_conv TE (hk := ?_))
      refine TL_shr (a := p) (c := k) (m := 32) (hc := by simp; omega) (hk := ?_)
      by_cases hb : p / 2 ^ k % 2 = 1
      · rw [hb, Nat.mul_one] at hbit
        repeat (first | refine T_seq ?_ | refine T_region ?_ | refine T_cond_true rfl ?_ | refine TL_add (hk := ?_) | refine TL_quo (hk := ?_) | refine TL_rem (hk := ?_) | refine TL_eq_t (hk := ?_) | (refine TL_and (hk := ?_); intro _) | refine TL_nil ?_ | refine TL_move (hk := ?_) | refine TL_assign (hk := ?_) | (refine TL_load_b TE (hk := ?_); intro _) | refine TL_indexAddr1 TE (hk := ?_) | refine TL_conv TE (hk := ?_))
        refine TL_shl (a := 1) (c := (32 + a + k) % 8) (hyb := by omega) (hk := ?_)
        have hg := gb_lt pl ((32 + (a : Int) + (k : Int)) / 8).toNat
        have hs8 : 1 * 2 ^ ((32 + a + k) % 8) % 2 ^ 8 = 2 ^ ((32 + a + k) % 8) := by
          rw [Nat.one_mul, Nat.mod_eq_of_lt (Nat.pow_lt_pow_right (by decide) (by omega))]
        have hs9 : 1 * 2 ^ ((32 + a + k) % 8) % 2 ^ 8 < 2 ^ 8 := Nat.mod_lt _ (by decide)
        repeat (first | (refine TL_xor (hk := ?_); intro _) | refine TL_indexAddr1 TE (hk := ?_))
        refine TL_store_own TE (hk := ?_); intro w3 m3 s3 o3
        repeat (first | refine T_region ?_ | refine T_inBlock ?_ | refine TL_add (hk := ?_) | refine TL_nil ?_ | refine TL_move (hk := ?_) | refine TL_assign (hk := ?_))
        have hj : ((32 + (a : Int) + (k : Int)) / 8).toNat = (32 + a + k) / 8 := by omega
        have hx : gb pl ((32 + a + k) / 8) ^^^ 2 ^ ((32 + a + k) % 8) < 256 := Nat.xor_lt_two_pow (n := 8) (gb_lt _ _) (by rw [← hs8]; exact hs9)
        have o4 : Own w3 w.heap.size 5 1 Ap (n + 8) cp (bv (pl.set ((32 + a + k) / 8) (UInt8.ofNat (gb pl ((32 + a + k) / 8) ^^^ 2 ^ ((32 + a + k) % 8))))) := by
          rw [← bv_set _ _ _ hx, ← hs8, ← hj]
          exact o3
        refine ih (k + 1, _, tu + 1) w3 _ (by simp only; omega) ⟨by simp only; omega, o4, ?_, ?_, by simp only; omega, e2.own m3 hiP⟩ (.c rfl (.c rfl (.c rfl (.c rfl (.c rfl (.c rfl (.c rfl (.n))))))))
        · simp only
          rw [num_set _ _ _ (by omega) (by omega), hn, hbit, show 8 * ((32 + a + k) / 8) + (32 + a + k) % 8 = 32 + a + k by omega, Nat.xor_assoc]
          congr 1
          rw [Nat.pow_add 2 (32 + a) k, two_mul_xor]
          congr 1
          have := xor_add (a := p % 2 ^ k) (b := 1) (k := k) hlt
          rw [Nat.mul_one] at this
          exact this
        · simp only
          have := Nat.two_pow_pos k
          omega
      · have hb0 : p / 2 ^ k % 2 = 0 := by omega
        rw [hb0, Nat.mul_zero, Nat.add_zero] at hbit
        repeat (first | refine T_region ?_ | refine T_cond_false rfl ?_ | refine T_inBlock ?_ | refine T_skip ?_ | refine TL_add (hk := ?_) | refine TL_eq_f (hk := ?_) | (refine TL_and (hk := ?_); intro _) | refine TL_nil ?_ | refine TL_move (hk := ?_) | refine TL_assign (hk := ?_))
        exact ih (k + 1, pl, tu) w2 _ (by simp only; omega) ⟨by simp only; omega, o2, by simp only; rw [hbit]; exact hn, by simp only; rw [hbit]; exact htu, by simp only; omega, e2⟩ (.c rfl (.c rfl (.c rfl (.c rfl (.c rfl (.c rfl (.c rfl (.n))))))))
    have hpk : p % 2 ^ k < 2 ^ 32 := Nat.lt_of_lt_of_le (Nat.mod_lt _ (Nat.two_pow_pos k)) (Nat.pow_le_pow_right (by decide) hk)
    have hopen : (tu = 0 → openF pl = (l, l.length + 8, 0)) ∧ (tu ≠ 0 → openF pl = ([], 0, 12)) := by
      constructor
      · intro h0
        rw [htu.1 h0, Nat.mul_zero, Nat.xor_zero] at hn
        rw [num_inj (by rw [frame_len]; omega) hn]
        exact openF_frame l (by omega)
      · intro h0
        exact turned_open l pl a (p % 2 ^ k) (by omega) (by omega) hn hpk (fun h => h0 (htu.2 h))
    have hAe := hA.ext e2
    have hc := o2.cap
    clear hn htu ih
    by_cases hk32 : k < 32
    all_goals
      repeat (first | refine T_seq ?_ | refine T_region ?_ | refine T_cond_false rfl ?_ | refine T_exit rfl ?_ | refine TL_add (hk := ?_) | refine TL_lt_t (hk := ?_) | refine TL_lt_f (hk := ?_) | refine TL_nil ?_ | refine TL_move (hk := ?_) | refine TL_yes (hk := ?_) | refine TL_no (hk := ?_) | refine TL_pick_t (hk := ?_) | refine TL_pick_f (hk := ?_))
      refine TL_call TE (hc := Open_c Ap (n + 8) cp pl w2 o2.rd (by omega) (by omega)) (hk := ?_)
      rintro _ w3 ⟨Ax, nx, cx, rfl, e3, ox⟩
      by_cases h0 : tu = 0
      · rw [hopen.1 h0] at ox ⊢
        simp only at ox ⊢
        repeat (first | refine T_seq ?_ | refine T_region ?_ | refine T_cond_true rfl ?_ | refine TL_eq_t (hk := ?_) | refine TL_nil ?_ | refine TL_move (hk := ?_) | refine TL_assign (hk := ?_) | refine TL_extract (hk := ?_))
        refine TL_call TE (hc := num_c 0 w3) (hk := ?_)
        rintro _ w3 ⟨rfl, rfl⟩
        repeat (first | refine TL_eq_t (hk := ?_) | refine TL_move (hk := ?_) | refine TL_yes (hk := ?_))
        refine TL_call TE (hc := same_t Ax A nx n cx c l w3 ox.rd (hAe.ext e3)) (hk := ?_)
        rintro _ w3 ⟨rfl, rfl⟩
        repeat (first | refine TL_move (hk := ?_) | refine TL_yes (hk := ?_) | refine TL_pick_t (hk := ?_))
        refine TL_call TE (hc := live_c w3) (hk := ?_)
        rintro _ w4 ⟨rfl, e4⟩
        repeat (first | refine TL_nil ?_ | refine TL_assign (hk := ?_) | refine TL_pick_t (hk := ?_))
        exact T_ret1 rfl rfl ⟨rfl, (e2.ext e3).ext e4⟩
      · rw [hopen.2 h0] at ox ⊢
        simp only at ox ⊢
        have hnx : nx = 0 := by have := ox.len; simpa using this.symm
        repeat (first | refine T_seq ?_ | refine T_region ?_ | refine T_cond_false rfl ?_ | refine T_skip ?_ | refine TL_eq_f (hk := ?_) | refine TL_nil ?_ | refine TL_move (hk := ?_) | refine TL_assign (hk := ?_) | refine TL_extract (hk := ?_))
        refine TL_call TE (hc := num_c 12 w3) (hk := ?_)
        rintro _ w3 ⟨rfl, rfl⟩
        repeat (first | refine TL_eq_t (hk := ?_) | refine TL_move (hk := ?_) | refine TL_len TE (hk := ?_) | refine TL_yes (hk := ?_) | refine TL_pick_t (hk := ?_))
        refine TL_call TE (hc := live_c w3) (hk := ?_)
        rintro _ w4 ⟨rfl, e4⟩
        repeat (first | refine TL_nil ?_ | refine TL_assign (hk := ?_) | refine TL_pick_t (hk := ?_))
        exact T_ret1 rfl rfl ⟨rfl, (e2.ext e3).ext e4⟩
end Go.Proofs.Ytkmdmpmimojmbaa
