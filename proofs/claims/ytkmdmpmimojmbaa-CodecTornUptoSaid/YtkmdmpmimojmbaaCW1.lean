import Derived.Test.YtkmdmpmimojmbaaTab
import Derived.Test.YtkmdmpmimojmbaaCSpec
namespace Go.Proofs.Ytkmdmpmimojmbaa
open Go.RowKit Go.Proofs.Eng Go.Proofs.Codec
set_option linter.unusedSimpArgs false
set_option linter.unusedVariables false
attribute [local irreducible] T TL LV TH

theorem Clone_c (A : Option Addr) (n c : Nat) (l : List UInt8) (w : World) (h : Rd w A n 1 (bv l)) (hn : n ≤ 70368744177664) :
    Ret Try.prog 43 [.slice A n c] w (fun v w' => ∃ A' c', v = .slice A' n c' ∧ Ext w w' ∧ Own w' w.heap.size 5 1 A' n c' (bv l)) := by
  cases A with
  | none =>
    obtain ⟨rfl, hl⟩ := h.none
    rw [hl]
    refine ret_T (n := 8) Try.func43 rfl rfl ?_
    repeat (first | refine T_seq ?_ | refine T_region ?_ | refine T_cond_true rfl ?_ | refine TL_nil_t TE (hk := ?_) | refine TL_nil ?_ | refine TL_move (hk := ?_) | refine TL_assign (hk := ?_))
    exact T_ret1 rfl rfl ⟨none, 0, rfl, Mod.refl _ _, Own.nil _ _ _ _⟩
  | some a =>
    refine ret_T (n := 8) Try.func43 rfl rfl ?_
    repeat (first | refine T_seq ?_ | refine T_region ?_ | refine T_cond_false rfl ?_ | refine T_skip ?_ | refine TL_nil_f TE (hk := ?_) | refine TL_nil ?_ | refine TL_move (hk := ?_) | refine TL_assign (hk := ?_))
    refine TL_buildSlice TE (hk := ?_); intro b1 w1 e1 h1 h2 k1
    have o1 : Own w1 w.heap.size 5 1 (some ⟨b1, 0, none⟩) 0 0 [] := Own.of_blk k1 h1 rfl (by decide)
    have s1 := e1.size
    repeat (refine TL_move (hk := ?_))
    refine TL_append TE (hk := ?_); intro A2 c2 w2 o2 m2 n2
    repeat (first | refine TL_nil ?_ | refine TL_assign (hk := ?_))
    refine T_ret1 rfl rfl ⟨A2, c2, by simp, e1.step m2 (fun x hx => .inr (by simp [blkL] at hx; omega)), ?_⟩
    simpa using o2

theorem PutUint_c (A : Option Addr) (n c : Nat) (l : List UInt8) (x : Nat) (w : World) {z : Int} (hz : z = (x : Int)) (h : Rd w A n 1 (bv l)) (hn : n ≤ 70368744177000) (hx : x < 2 ^ 64) :
    Ret Try.prog 14 [.slice A n c, .int .u64 z] w (fun v w' => ∃ A' n' c', v = .slice A' n' c' ∧ Ext w w' ∧ Own w' w.heap.size 5 1 A' n' c' (bv (l ++ encU x))) := by
  subst hz
  have hlen : l.length = n := by simpa using h.1
  refine ret_T (n := 23) Try.func14 rfl rfl ?_
  repeat (first | refine T_seq ?_ | refine T_region ?_ | refine TL_nil ?_ | refine TL_move (hk := ?_) | refine TL_assign (hk := ?_))
  refine TL_call TE (hc := Clone_c A n c l w h (by omega)) (hk := ?_)
  rintro _ w1 ⟨A1, c1, rfl, e1, o1⟩
  have s1 := e1.size
  repeat (first | refine T_seq ?_ | refine T_block ?_ | refine TL_nil ?_ | refine TL_assign (hk := ?_))
  refine T_loop (ι := (Option Addr × Nat × Nat) × List UInt8 × Nat) (fun i => [(5, .slice i.1.1 i.1.2.1 i.1.2.2), (1, .int .u64 (i.2.2 : Int))])
    (fun i w' => Ext w w' ∧ Own w' w.heap.size 5 1 i.1.1 i.1.2.1 i.1.2.2 (bv (l ++ i.2.1)) ∧ i.2.1 ++ encU i.2.2 = encU x ∧ i.2.2 < 2 ^ 64) (fun i => i.2.2) ((A1, n, c1), [], x) (.c rfl (.c rfl (.n))) ⟨e1, by simpa using o1, rfl, hx⟩ ?_
  rintro ⟨⟨A2, n2, c2⟩, pre, m⟩ w2 ⟨e2, o2, hpre, hm⟩ ih
  simp only at e2 o2 hpre hm ih ⊢
  have s2 := e2.size
  have hn2 := o2.len
  have hl10 := encU_len64 hx
  rw [← hpre] at hl10
  simp only [bv_length, List.length_append, Nat.mul_one] at hn2 hl10
  have hp := encU_pos m
  by_cases h128 : m < 128
  · repeat (first | refine T_seq ?_ | refine T_region ?_ | refine T_cond_false rfl ?_ | refine T_exit rfl ?_ | refine TL_ge_f (hk := ?_) | refine TL_nil ?_ | refine TL_move (hk := ?_) | refine TL_conv TE (hk := ?_))
    refine TL_buildSlice TE (hk := ?_); intro b3 w3 e3 h31 h32 k3
    have s3 := e3.size
    --
    refine TL_append TE (hk := ?_); intro A4 c4 w4 o4 m4 n4
    repeat (first | refine TL_nil ?_ | refine TL_assign (hk := ?_))
    refine T_ret1 rfl rfl ⟨A4, _, c4, rfl, (e2.ext e3).step m4 (fun y hy => .inr ?_), ?_⟩
    · cases A2 with
      | none => simp [blkL] at hy
      | some ad => simp [blkL] at hy; rw [hy]; exact o2.hi ad rfl
    · rw [bv_snoc _ _ (by omega), List.append_assoc] at o4
      rw [← hpre, encU_lt h128]
      exact o4
  · repeat (first | refine T_seq ?_ | refine T_region ?_ | refine T_cond_true rfl ?_ | refine T_block ?_ | refine T_skip ?_ | refine TL_ge_t (hk := ?_) | (refine TL_or (hk := ?_); intro _) | refine TL_nil ?_ | refine TL_move (hk := ?_) | refine TL_conv_nat TE (hk := ?_))
    refine TL_buildSlice TE (hk := ?_); intro b3 w3 e3 h31 h32 k3
    have s3 := e3.size
    --
    refine TL_append TE (hk := ?_); intro A4 c4 w4 o4 m4 n4
    repeat (first | refine T_region ?_ | refine T_inBlock ?_ | refine TL_shr (hk := ?_) | refine TL_nil ?_ | refine TL_move (hk := ?_) | refine TL_assign (hk := ?_))
    have ho : Own w4 w.heap.size 5 1 A4 (n2 + 1) c4 (bv (l ++ (pre ++ [UInt8.ofNat (m % 128 + 128)]))) := by
      have e : m % 2 ^ 8 ||| 128 = m % 128 + 128 := by rw [or128 _ (by omega)]; omega
      have o5 : Own w4 w.heap.size 5 1 A4 (n2 + 1) c4 (bv (l ++ pre) ++ [.int .u8 ((m % 2 ^ 8 ||| 128 : Nat) : Int)]) := o4
      rw [e, bv_snoc _ _ (by omega), List.append_assoc] at o5
      exact o5
    refine ih ⟨(A4, n2 + 1, c4), pre ++ [UInt8.ofNat (m % 128 + 128)], m / 128⟩ w4 _ (by simp only; omega) ⟨(e2.ext e3).step m4 (fun y hy => .inr ?_), ho, ?_, by simp only; omega⟩ (.c rfl (.c rfl (.n)))
    · cases A2 with
      | none => simp [blkL] at hy
      | some ad => simp [blkL] at hy; rw [hy]; exact o2.hi ad rfl
    · rw [← hpre, encU_ge h128]; simp
end Go.Proofs.Ytkmdmpmimojmbaa
