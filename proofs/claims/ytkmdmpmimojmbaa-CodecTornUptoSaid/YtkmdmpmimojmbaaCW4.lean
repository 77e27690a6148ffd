import Derived.Test.YtkmdmpmimojmbaaCW2
namespace Go.Proofs.Ytkmdmpmimojmbaa
open Go.RowKit Go.Proofs.Eng Go.Proofs.Codec
set_option linter.unusedSimpArgs false
set_option linter.unusedVariables false
attribute [local irreducible] T TL LV TH
set_option maxHeartbeats 1000000

theorem RPutUint_c (A : Option Addr) (n c : Nat) (l : List UInt8) (x : Nat) (w : World) {z : Int} (hz : z = (x : Int)) (h : Rd w A n 1 (bv l)) (hn : n ≤ 70368744177000) (hx : x < 2 ^ 64) :
    Ret Try.prog 18 [.slice A n c, .int .u64 z] w (fun v w' => ∃ A' n' c', v = .slice A' n' c' ∧ Ext w w' ∧ Own w' w.heap.size 5 1 A' n' c' (bv (l ++ encU x))) := by
  subst hz
  have hlen : l.length = n := by simpa using h.1
  refine ret_T (n := 25) Try.func18 rfl rfl ?_
  repeat (first | refine T_seq ?_ | refine T_region ?_ | refine TL_nil ?_ | refine TL_assign (hk := ?_))
  refine TL_buildSlice TE (hk := ?_); intro b1 w1 e1 h1 h2 k1
  have o1 : Own w1 w.heap.size 5 1 (some ⟨b1, 0, none⟩) 0 0 [] := Own.of_blk k1 h1 rfl (by decide)
  have s1 := e1.size
  repeat (refine TL_move (hk := ?_))
  refine TL_append TE (hk := ?_); intro A1 c1 wb ob mb nb
  have e1 : Ext w wb := e1.own mb o1.hi
  have s1 := mb.size
  repeat (first | refine T_seq ?_ | refine T_block ?_ | refine TL_nil ?_ | refine TL_assign (hk := ?_))
  refine T_loop (ι := (Option Addr × Nat × Nat) × List UInt8 × Nat) (fun i => [(5, .slice i.1.1 i.1.2.1 i.1.2.2), (1, .int .u64 (i.2.2 : Int))])
    (fun i w' => Ext w w' ∧ Own w' w.heap.size 5 1 i.1.1 i.1.2.1 i.1.2.2 (bv (l ++ i.2.1)) ∧ i.2.1 ++ encU i.2.2 = encU x ∧ i.2.2 < 2 ^ 64) (fun i => i.2.2) ((A1, 0 + n, c1), [], x) (.c rfl (.c rfl (.n))) ⟨e1, by simpa using ob, rfl, hx⟩ ?_
  rintro ⟨⟨A2, n2, c2⟩, pre, m⟩ w2 ⟨e2, o2, hpre, hm⟩ ih
  simp only at e2 o2 hpre hm ih ⊢
  have s2 := e2.size
  have hn2 := o2.len
  have hl10 := encU_len64 hx
  rw [← hpre] at hl10
  simp only [bv_length, List.length_append, Nat.mul_one] at hn2 hl10
  have hp := encU_pos m
  by_cases h128 : m < 128
  · repeat (first | refine T_seq ?_ | refine T_region ?_ | refine T_cond_false rfl ?_ | refine T_exit rfl ?_ | refine TL_gt_f (hk := ?_) | refine TL_nil ?_ | refine TL_move (hk := ?_) | refine TL_conv TE (hk := ?_))
    refine TL_buildSlice TE (hk := ?_); intro b3 w3 e3 h31 h32 k3
    have s3 := e3.size
    --
    refine TL_append TE (hk := ?_); intro A4 c4 w4 o4 m4 n4
    repeat (first | refine TL_nil ?_ | refine TL_assign (hk := ?_))
    refine T_ret1 rfl rfl ⟨A4, _, c4, rfl, (e2.ext e3).own m4 o2.hi, ?_⟩
    rw [bv_snoc _ _ (by omega), List.append_assoc] at o4
    rw [← hpre, encU_lt h128]
    exact o4
  · repeat (first | refine T_seq ?_ | refine T_region ?_ | refine T_cond_true rfl ?_ | refine T_block ?_ | refine T_skip ?_ | refine TL_add (hk := ?_) | refine TL_rem (hk := ?_) | refine TL_gt_t (hk := ?_) | refine TL_nil ?_ | refine TL_move (hk := ?_) | refine TL_conv TE (hk := ?_))
    refine TL_buildSlice TE (hk := ?_); intro b3 w3 e3 h31 h32 k3
    have s3 := e3.size
    --
    refine TL_append TE (hk := ?_); intro A4 c4 w4 o4 m4 n4
    repeat (first | refine T_region ?_ | refine T_inBlock ?_ | refine TL_quo (hk := ?_) | refine TL_nil ?_ | refine TL_move (hk := ?_) | refine TL_assign (hk := ?_))
    have ho : Own w4 w.heap.size 5 1 A4 (n2 + 1) c4 (bv (l ++ (pre ++ [UInt8.ofNat (m % 128 + 128)]))) := by
      have o5 : Own w4 w.heap.size 5 1 A4 (n2 + 1) c4 (bv (l ++ pre) ++ [.int .u8 ((m % 128 + 128 : Nat) : Int)]) := o4
      rw [bv_snoc _ _ (by omega), List.append_assoc] at o5
      exact o5
    refine ih ⟨(A4, n2 + 1, c4), pre ++ [UInt8.ofNat (m % 128 + 128)], m / 128⟩ w4 _ (by simp only; omega) ⟨(e2.ext e3).own m4 o2.hi, ho, ?_, by simp only; omega⟩ (.c rfl (.c rfl (.n)))
    rw [← hpre, encU_ge h128]; simp

theorem fdiv63 (i : Int) (h : -9223372036854775808 ≤ i ∧ i ≤ 9223372036854775807) : Int.fdiv i (2 ^ 63) = if 0 ≤ i then 0 else -1 := by
  rw [Int.fdiv_eq_ediv_of_nonneg _ (by decide)]
  split <;> omega
theorem PutInt_c (A : Option Addr) (n c : Nat) (l : List UInt8) (i : Int) (w : World) (h : Rd w A n 1 (bv l)) (hn : n ≤ 70368744177000) (hi : -9223372036854775808 ≤ i ∧ i ≤ 9223372036854775807) :
    Ret Try.prog 15 [.slice A n c, .int .i64 i] w (fun v w' => ∃ A' n' c', v = .slice A' n' c' ∧ Ext w w' ∧ Own w' w.heap.size 5 1 A' n' c' (bv (l ++ encU (zig i)))) := by
  obtain ⟨i0, i1⟩ := hi
  by_cases h0 : 0 ≤ i
  · obtain ⟨m, rfl⟩ := Int.eq_ofNat_of_zero_le h0
    refine ret_T (n := 14) Try.func15 rfl rfl ?_
    repeat (first | refine T_seq ?_ | refine T_region ?_ | (refine TL_xor (hk := ?_); intro _) | refine TL_shr (hk := ?_) | refine TL_shl (hk := ?_) | refine TL_nil ?_ | refine TL_move (hk := ?_) | refine TL_assign (hk := ?_) | refine TL_conv TE (hk := ?_))
    have ez : zig (m : Int) = 2 * m := by unfold zig; rw [if_pos h0]; rfl
    rw [ez]
    refine TL_call TE (hc := PutUint_c A n c l (2 * m) w (by rw [show m / 2 ^ 63 = 0 from by omega, Nat.xor_zero]; omega) h hn (by omega)) (hk := ?_)
    rintro _ w1 ⟨A1, n1, c1, rfl, e1, o1⟩
    repeat (first | refine TL_nil ?_ | refine TL_assign (hk := ?_))
    exact T_ret1 rfl rfl ⟨A1, n1, c1, rfl, e1, o1⟩
  · obtain ⟨m, hm⟩ := Int.eq_ofNat_of_zero_le (a := -(i + 1)) (by omega)
    have ez : zig i = 2 * m + 1 := by unfold zig; rw [if_neg h0, hm]; rfl
    have hw : IntKind.u64.wrap i = ((2 ^ 64 - 1 - m : Nat) : Int) := by
      unfold IntKind.wrap
      dsimp only [IntKind.bits, IntKind.signed]
      simp
      omega
    have hw1 : IntKind.u64.wrap (-1) = ((2 ^ 64 - 1 : Nat) : Int) := by decide
    have hf := fdiv63 i ⟨i0, i1⟩
    rw [if_neg h0] at hf
    refine ret_T (n := 14) Try.func15 rfl rfl ?_
    repeat (first | refine T_seq ?_ | refine T_region ?_ | refine TL_nil ?_ | refine TL_move (hk := ?_) | refine TL_assign (hk := ?_))
    refine TL_conv_wrap TE rfl rfl rfl rfl ?_
    rw [hw]
    repeat (first | refine TL_shl (hk := ?_) | refine TL_move (hk := ?_))
    refine TL_shr_z rfl rfl (litZ _) rfl rfl rfl hf ?_
    --
    refine TL_conv_wrap TE rfl rfl rfl rfl ?_
    rw [hw1]
    repeat ((refine TL_xor (hk := ?_); intro _))
    rw [ez]
    refine TL_call TE (hc := PutUint_c A n c l (2 * m + 1) w (by rw [xor_ones (by omega)]; omega) h hn (by omega)) (hk := ?_)
    rintro _ w1 ⟨A1, n1, c1, rfl, e1, o1⟩
    repeat (first | refine TL_nil ?_ | refine TL_assign (hk := ?_))
    exact T_ret1 rfl rfl ⟨A1, n1, c1, rfl, e1, o1⟩
theorem PutText_c (A : Option Addr) (n c : Nat) (l : List UInt8) (S : ByteArray) (w : World) (h : Rd w A n 1 (bv l)) (hn : n ≤ 7036874417) (hs : S.size ≤ 7036874417) :
    Ret Try.prog 16 [.slice A n c, .string S] w (fun v w' => ∃ A' n' c', v = .slice A' n' c' ∧ Ext w w' ∧ Own w' w.heap.size 5 1 A' n' c' (bv (l ++ (encU S.size ++ S.data.toList)))) := by
  have hlen : l.length = n := by simpa using h.1
  refine ret_T (n := 12) Try.func16 rfl rfl ?_
  repeat (first | refine T_seq ?_ | refine T_region ?_ | refine TL_nil ?_ | refine TL_move (hk := ?_) | refine TL_assign (hk := ?_) | refine TL_len_s TE (hk := ?_) | refine TL_conv TE (hk := ?_))
  refine TL_call TE (hc := PutUint_c A n c l S.size w rfl h (by omega) (by omega)) (hk := ?_)
  rintro _ w1 ⟨A1, n1, c1, rfl, e1, o1⟩
  have s1 := e1.size
  have hn1 := o1.len
  have h10 := encU_len64 (n := S.size) (by omega)
  simp only [bv_length, List.length_append, Nat.mul_one] at hn1
  repeat (refine TL_move (hk := ?_))
  refine TL_append_s TE (hk := ?_); intro A2 c2 w2 o2 m2 n2
  repeat (first | refine TL_nil ?_ | refine TL_assign (hk := ?_))
  refine T_ret1 rfl rfl ⟨A2, _, c2, rfl, e1.own m2 o1.hi, ?_⟩
  rw [← bv_append, List.append_assoc] at o2
  exact o2
theorem RPutInt_c (A : Option Addr) (n c : Nat) (l : List UInt8) (i : Int) (w : World) (h : Rd w A n 1 (bv l)) (hn : n ≤ 70368744177000) (hi : -9223372036854775808 ≤ i ∧ i ≤ 9223372036854775807) :
    Ret Try.prog 19 [.slice A n c, .int .i64 i] w (fun v w' => ∃ A' n' c', v = .slice A' n' c' ∧ Ext w w' ∧ Own w' w.heap.size 5 1 A' n' c' (bv (l ++ encU (zig i)))) := by
  obtain ⟨i0, i1⟩ := hi
  by_cases h0 : 0 ≤ i
  · obtain ⟨m, rfl⟩ := Int.eq_ofNat_of_zero_le h0
    have ez : zig (m : Int) = 2 * m := by unfold zig; rw [if_pos h0]; rfl
    refine ret_T (n := 20) Try.func19 rfl rfl ?_
    repeat (first | refine T_seq ?_ | refine T_region ?_ | refine T_cond_true rfl ?_ | refine TL_mul (hk := ?_) | refine TL_ge_t (hk := ?_) | refine TL_nil ?_ | refine TL_move (hk := ?_) | refine TL_assign (hk := ?_) | refine TL_conv TE (hk := ?_))
    rw [ez]
    refine TL_call TE (hc := RPutUint_c A n c l (2 * m) w (by omega) h hn (by omega)) (hk := ?_)
    rintro _ w1 ⟨A1, n1, c1, rfl, e1, o1⟩
    repeat (first | refine TL_nil ?_ | refine TL_assign (hk := ?_))
    exact T_ret1 rfl rfl ⟨A1, n1, c1, rfl, e1, o1⟩
  · obtain ⟨m, hm⟩ := Int.eq_ofNat_of_zero_le (a := -(i + 1)) (by omega)
    have ez : zig i = 2 * m + 1 := by unfold zig; rw [if_neg h0, hm]; rfl
    obtain rfl : i = -(m : Int) - 1 := by omega
    clear hm
    refine ret_T (n := 20) Try.func19 rfl rfl ?_
    repeat (first | refine T_seq ?_ | refine T_region ?_ | refine T_cond_false rfl ?_ | refine T_skip ?_ | refine TL_add (hk := ?_) | refine TL_mul (hk := ?_) | refine TL_ge_f (hk := ?_) | refine TL_nil ?_ | refine TL_move (hk := ?_) | refine TL_assign (hk := ?_) | refine TL_conv TE (hk := ?_) | refine TL_neg (hk := ?_))
    rw [ez]
    refine TL_call TE (hc := RPutUint_c A n c l (2 * m + 1) w (by omega) h hn (by omega)) (hk := ?_)
    rintro _ w1 ⟨A1, n1, c1, rfl, e1, o1⟩
    repeat (first | refine TL_nil ?_ | refine TL_assign (hk := ?_))
    exact T_ret1 rfl rfl ⟨A1, n1, c1, rfl, e1, o1⟩
end Go.Proofs.Ytkmdmpmimojmbaa
