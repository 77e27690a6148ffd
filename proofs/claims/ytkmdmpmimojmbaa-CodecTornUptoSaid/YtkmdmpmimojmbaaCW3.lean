import Derived.Test.YtkmdmpmimojmbaaCW2
namespace Go.Proofs.Ytkmdmpmimojmbaa
open Go.RowKit Go.Proofs.Eng Go.Proofs.Codec
set_option linter.unusedSimpArgs false
set_option linter.unusedVariables false
attribute [local irreducible] T TL LV TH
set_option maxHeartbeats 1000000


theorem Sum_c (A : Option Addr) (n c : Nat) (l : List UInt8) (w : World) (h : Rd w A n 1 (bv l)) (hn : n ≤ 70368744177664) :
    Ret Try.prog 34 [.slice A n c] w (fun v w' => v = .int .u32 (crc l : Nat) ∧ w' = w) := by
  have hlen : l.length = n := by simpa using h.1
  refine ret_T (n := 30) Try.func34 rfl rfl ?_
  repeat (first | refine T_seq ?_ | refine T_region ?_ | refine T_block ?_ | refine TL_nil ?_ | refine TL_move (hk := ?_) | refine TL_assign (hk := ?_) | refine TL_len TE (hk := ?_))
  refine T_loop (ι := Nat × Nat) (fun i => [(6, .slice A n c), (7, .int .i64 (n : Int)), (8, .int .i64 (i.1 : Int)), (3, .int .u32 (i.2 : Int))])
    (fun i w' => w' = w ∧ i.1 ≤ n ∧ i.2 < 2 ^ 32 ∧ crcAll (l.drop i.1) i.2 = crcAll l 4294967295) (fun i => n - i.1) (0, 4294967295) (.c rfl (.c rfl (.c rfl (.c rfl (.n))))) ⟨rfl, by simp, by simp, rfl⟩ ?_
  rintro ⟨k, z⟩ w1 ⟨rfl, hk, hz, hinv⟩ ih
  simp only at hk hz hinv ih ⊢
  by_cases hkn : k < n
  · repeat (first | refine T_seq ?_ | refine T_region ?_ | refine T_cond_true rfl ?_ | refine T_block ?_ | refine T_skip ?_ | refine TL_lt_t (hk := ?_) | (refine TL_xor (hk := ?_); intro _) | refine TL_nil ?_ | refine TL_move (hk := ?_) | refine TL_assign (hk := ?_) | (refine TL_load_b TE (hk := ?_); intro _) | refine TL_indexAddr1n TE (hk := ?_) | refine TL_conv TE (hk := ?_))
    refine T_loop (ι := Nat × Nat) (fun i => [(16, .int .i64 (i.1 : Int)), (3, .int .u32 (i.2 : Int)), (6, .slice A n c), (7, .int .i64 (n : Int)), (8, .int .i64 (k : Int))])
      (fun i w' => w' = w1 ∧ i.1 ≤ 8 ∧ i.2 < 2 ^ 32 ∧ crc8 (8 - i.1) i.2 = crc8 8 (z ^^^ gb l k)) (fun i => 8 - i.1) (0, z ^^^ gb l k) (.c rfl (.c rfl (.c rfl (.c rfl (.c rfl (.n)))))) ⟨rfl, by simp, by assumption, rfl⟩ ?_
    rintro ⟨j, y⟩ w2 ⟨rfl, hj, hy, hinv2⟩ ih2
    simp only at hj hy hinv2 ih2 ⊢
    by_cases hj8 : j < 8
    · have ey : y &&& 1 = y % 2 := Nat.and_one_is_mod y
      have e8 : 8 - j = (8 - (j + 1)) + 1 := by omega
      rw [e8, crc8_succ] at hinv2
      have hlt := crcStep_lt hy
      by_cases hy2 : y % 2 = 1
      · rw [crcStep_odd hy2] at hinv2 hlt
        repeat (first | refine T_seq ?_ | refine T_region ?_ | refine T_cond_true rfl ?_ | refine T_block ?_ | refine T_inBlock ?_ | refine T_skip ?_ | refine TL_add (hk := ?_) | refine TL_lt_t (hk := ?_) | refine TL_eq_t (hk := ?_) | (refine TL_and (hk := ?_); intro _) | (refine TL_xor (hk := ?_); intro _) | refine TL_shr (hk := ?_) | refine TL_nil ?_ | refine TL_move (hk := ?_) | refine TL_assign (hk := ?_))
        exact ih2 (j + 1, y / 2 ^ 1 ^^^ 3988292384) _ _ (by simp only; omega) ⟨rfl, by simp only; omega, hlt, hinv2⟩ (.c rfl (.c rfl (.c rfl (.c rfl (.c rfl (.n))))))
      · rw [crcStep_even hy2] at hinv2 hlt
        repeat (first | refine T_seq ?_ | refine T_region ?_ | refine T_cond_true rfl ?_ | refine T_cond_false rfl ?_ | refine T_block ?_ | refine T_inBlock ?_ | refine T_skip ?_ | refine TL_add (hk := ?_) | refine TL_lt_t (hk := ?_) | refine TL_eq_f (hk := ?_) | (refine TL_and (hk := ?_); intro _) | refine TL_shr (hk := ?_) | refine TL_nil ?_ | refine TL_move (hk := ?_) | refine TL_assign (hk := ?_))
        exact ih2 (j + 1, y / 2 ^ 1) _ _ (by simp only; omega) ⟨rfl, by simp only; omega, hlt, hinv2⟩ (.c rfl (.c rfl (.c rfl (.c rfl (.c rfl (.n))))))
    · have : j = 8 := by omega
      subst this
      repeat (first | refine T_seq ?_ | refine T_region ?_ | refine T_cond_false rfl ?_ | refine T_inBlock ?_ | refine T_exit rfl ?_ | refine TL_add (hk := ?_) | refine TL_lt_f (hk := ?_) | refine TL_nil ?_ | refine TL_move (hk := ?_))
      refine ih (k + 1, y) _ _ (by simp only; omega) ⟨rfl, by simp only; omega, hy, ?_⟩ (.c rfl (.c rfl (.c rfl (.c rfl (.n)))))
      rw [← hinv, crcAll_take l z k (by omega), ← hinv2]
      rfl
  · have : k = n := by omega
    subst this
    repeat (first | refine T_seq ?_ | refine T_region ?_ | refine T_cond_false rfl ?_ | refine T_exit rfl ?_ | refine TL_lt_f (hk := ?_) | refine TL_nil ?_ | refine TL_move (hk := ?_) | refine TL_assign (hk := ?_) | (refine TL_compl (hk := ?_); intro _))
    refine T_ret1 rfl rfl ⟨?_, rfl⟩
    have e : z = crcAll l 4294967295 := by rw [← hinv, List.drop_of_length_le (by omega)]; rfl
    unfold crc
    rw [← e]
theorem RSum_c (A : Option Addr) (n c : Nat) (l : List UInt8) (w : World) (h : Rd w A n 1 (bv l)) (hn : n ≤ 70368744177664) :
    Ret Try.prog 35 [.slice A n c] w (fun v w' => v = .int .u32 (crc l : Nat) ∧ w' = w) := by
  have hlen : l.length = n := by simpa using h.1
  refine ret_T (n := 33) Try.func35 rfl rfl ?_
  repeat (first | refine T_seq ?_ | refine T_region ?_ | refine T_block ?_ | refine TL_nil ?_ | refine TL_assign (hk := ?_))
  refine T_loop (ι := Nat × Nat) (fun i => [(0, .slice A n c), (4, .int .i64 (i.1 : Int)), (3, .int .u32 (i.2 : Int))])
    (fun i w' => w' = w ∧ i.1 ≤ n ∧ i.2 < 2 ^ 32 ∧ crcAll (l.drop i.1) i.2 = crcAll l 4294967295) (fun i => n - i.1) (0, 4294967295) (.c rfl (.c rfl (.c rfl (.n)))) ⟨rfl, by simp, by simp, rfl⟩ ?_
  rintro ⟨k, z⟩ w1 ⟨rfl, hk, hz, hinv⟩ ih
  simp only at hk hz hinv ih ⊢
  by_cases hkn : k < n
  · repeat (first | refine T_seq ?_ | refine T_region ?_ | refine T_cond_true rfl ?_ | refine T_block ?_ | refine T_skip ?_ | refine TL_lt_t (hk := ?_) | (refine TL_xor (hk := ?_); intro _) | refine TL_nil ?_ | refine TL_move (hk := ?_) | refine TL_assign (hk := ?_) | (refine TL_load_b TE (hk := ?_); intro _) | refine TL_indexAddr1n TE (hk := ?_) | refine TL_len TE (hk := ?_) | refine TL_conv TE (hk := ?_))
    refine T_loop (ι := Nat × Nat) (fun i => [(5, .int .i64 (i.1 : Int)), (3, .int .u32 (i.2 : Int)), (0, .slice A n c), (4, .int .i64 (k : Int))])
      (fun i w' => w' = w1 ∧ i.1 ≤ 8 ∧ i.2 < 2 ^ 32 ∧ crc8 (8 - i.1) i.2 = crc8 8 (z ^^^ gb l k)) (fun i => 8 - i.1) (0, z ^^^ gb l k) (.c rfl (.c rfl (.c rfl (.c rfl (.n))))) ⟨rfl, by simp, by assumption, rfl⟩ ?_
    rintro ⟨j, y⟩ w2 ⟨rfl, hj, hy, hinv2⟩ ih2
    simp only at hj hy hinv2 ih2 ⊢
    by_cases hj8 : j < 8
    · have ey : y &&& 1 = y % 2 := Nat.and_one_is_mod y
      have e8 : 8 - j = (8 - (j + 1)) + 1 := by omega
      rw [e8, crc8_succ] at hinv2
      have hlt := crcStep_lt hy
      by_cases hy2 : y % 2 = 1
      · rw [crcStep_odd hy2] at hinv2 hlt
        repeat (first | refine T_seq ?_ | refine T_region ?_ | refine T_cond_true rfl ?_ | refine T_block ?_ | refine T_inBlock ?_ | refine T_skip ?_ | refine TL_add (hk := ?_) | refine TL_rem (hk := ?_) | refine TL_lt_t (hk := ?_) | refine TL_eq_t (hk := ?_) | (refine TL_xor (hk := ?_); intro _) | refine TL_shr (hk := ?_) | refine TL_nil ?_ | refine TL_move (hk := ?_) | refine TL_assign (hk := ?_))
        exact ih2 (j + 1, y / 2 ^ 1 ^^^ 3988292384) _ _ (by simp only; omega) ⟨rfl, by simp only; omega, hlt, hinv2⟩ (.c rfl (.c rfl (.c rfl (.c rfl (.n)))))
      · rw [crcStep_even hy2] at hinv2 hlt
        repeat (first | refine T_seq ?_ | refine T_region ?_ | refine T_cond_true rfl ?_ | refine T_cond_false rfl ?_ | refine T_block ?_ | refine T_inBlock ?_ | refine T_skip ?_ | refine TL_add (hk := ?_) | refine TL_rem (hk := ?_) | refine TL_lt_t (hk := ?_) | refine TL_eq_f (hk := ?_) | refine TL_shr (hk := ?_) | refine TL_nil ?_ | refine TL_move (hk := ?_) | refine TL_assign (hk := ?_))
        exact ih2 (j + 1, y / 2 ^ 1) _ _ (by simp only; omega) ⟨rfl, by simp only; omega, hlt, hinv2⟩ (.c rfl (.c rfl (.c rfl (.c rfl (.n)))))
    · have : j = 8 := by omega
      subst this
      repeat (first | refine T_seq ?_ | refine T_region ?_ | refine T_cond_false rfl ?_ | refine T_inBlock ?_ | refine T_exit rfl ?_ | refine TL_add (hk := ?_) | refine TL_lt_f (hk := ?_) | refine TL_nil ?_ | refine TL_move (hk := ?_) | refine TL_assign (hk := ?_))
      refine ih (k + 1, y) _ _ (by simp only; omega) ⟨rfl, by simp only; omega, hy, ?_⟩ (.c rfl (.c rfl (.c rfl (.n))))
      rw [← hinv, crcAll_take l z k (by omega), ← hinv2]
      rfl
  · have : k = n := by omega
    subst this
    repeat (first | refine T_seq ?_ | refine T_region ?_ | refine T_cond_false rfl ?_ | refine T_exit rfl ?_ | refine TL_lt_f (hk := ?_) | refine TL_nil ?_ | refine TL_move (hk := ?_) | refine TL_assign (hk := ?_) | refine TL_len TE (hk := ?_) | (refine TL_compl (hk := ?_); intro _))
    refine T_ret1 rfl rfl ⟨?_, rfl⟩
    have e : z = crcAll l 4294967295 := by rw [← hinv, List.drop_of_length_le (by omega)]; rfl
    unfold crc
    rw [← e]
end Go.Proofs.Ytkmdmpmimojmbaa
