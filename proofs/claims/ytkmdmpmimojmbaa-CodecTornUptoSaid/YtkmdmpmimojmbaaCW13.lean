import Derived.Test.YtkmdmpmimojmbaaCW4
import Derived.Test.YtkmdmpmimojmbaaCW6
namespace Go.Proofs.Ytkmdmpmimojmbaa
open Go.RowKit Go.Proofs.Eng Go.Proofs.Codec
set_option linter.unusedSimpArgs false
set_option linter.unusedVariables false
attribute [local irreducible] T TL LV TH
set_option maxHeartbeats 1000000

theorem RPutText_c (A : Option Addr) (n c : Nat) (l : List UInt8) (S : ByteArray) (w : World) (h : Rd w A n 1 (bv l)) (hn : n ≤ 7036874417) (hs : S.size ≤ 7036874417) :
    Ret Try.prog 20 [.slice A n c, .string S] w (fun v w' => ∃ A' n' c', v = .slice A' n' c' ∧ Ext w w' ∧ Own w' w.heap.size 5 1 A' n' c' (bv (l ++ (encU S.size ++ S.data.toList)))) := by
  have hlen : l.length = n := by simpa using h.1
  refine ret_T (n := 12) Try.func20 rfl rfl ?_
  repeat (first | refine T_seq ?_ | refine T_region ?_ | refine TL_nil ?_ | refine TL_move (hk := ?_) | refine TL_assign (hk := ?_) | refine TL_len_s TE (hk := ?_) | refine TL_conv TE (hk := ?_))
  refine TL_call TE (hc := RPutUint_c A n c l S.size w rfl h (by omega) (by omega)) (hk := ?_)
  rintro _ w1 ⟨A1, n1, c1, rfl, e1, o1⟩
  have s1 := e1.size
  have hn1 := o1.len
  have h10 := encU_len64 (n := S.size) (by omega)
  simp only [bv_length, List.length_append, Nat.mul_one] at hn1
  repeat (refine TL_move (hk := ?_))
  refine TL_append_s TE (hk := ?_); intro A2 c2 w2 o2 m2 n2
  repeat (first | refine TL_nil ?_ | refine TL_assign (hk := ?_))
  refine T_ret1 rfl rfl ⟨A2, _, c2, rfl, e1.own m2 o1.hi, ?_⟩
  rw [← bv_append, List.append_assoc] at o2
  exact o2

def numV : Except Int (Nat × Nat) → Value
  | .ok (r, k) => .tuple #[.int .u64 (r : Int), .int .i64 (k : Int), .int .i64 0]
  | .error e => .tuple #[.int .u64 0, .int .i64 0, .int .i64 e]
theorem number_c (A : Option Addr) (n c : Nat) (l : List UInt8) (w : World) (h : Rd w A n 1 (bv l)) (hn : n ≤ 70368744177664) :
    Ret Try.prog 71 [.slice A n c] w (fun v w' => v = numV (num0 l) ∧ w' = w) := by
  have hlen : l.length = n := by simpa using h.1
  refine ret_T (n := 53) Try.func71 rfl rfl ?_
  repeat (first | refine T_seq ?_ | refine T_region ?_ | refine T_block ?_ | refine TL_nil ?_ | refine TL_assign (hk := ?_))
  refine T_loop (ι := Nat × Nat) (fun i => [(6, .int .i64 (i.1 : Int)), (5, .int .u64 (i.2 : Int)), (0, .slice A n c)])
    (fun i w' => w' = w ∧ i.1 ≤ 9 ∧ i.2 < 2 ^ (7 * i.1) ∧ numF (10 - i.1) i.1 i.2 (l.drop i.1) = num0 l) (fun i => 10 - i.1) (0, 0) (.c rfl (.c rfl (.c rfl (.n)))) ⟨rfl, by decide, by decide, rfl⟩ ?_
  rintro ⟨i, N⟩ w1 ⟨rfl, hi, hN, hF⟩ ih
  simp only at hi hN hF ih ⊢
  obtain ⟨f, hf⟩ : ∃ f, 10 - i = f + 1 := ⟨9 - i, by omega⟩
  rw [hf] at hF
  by_cases hin : i < n
  · have hd : l.drop i = l[i] :: l.drop (i + 1) := List.drop_eq_getElem_cons _
    have hg := gb_get l i (by omega)
    have hc := gb_lt l i
    rw [hd] at hF
    simp only [numF, ← hg] at hF
    by_cases h9 : i = 9 ∧ 1 < gb l i
    · rw [if_pos h9] at hF
      obtain ⟨rfl, h91⟩ := h9
      repeat (first | refine T_seq ?_ | refine T_region ?_ | refine T_cond_true rfl ?_ | refine T_cond_false rfl ?_ | refine T_block ?_ | refine T_skip ?_ | refine TL_lt_t (hk := ?_) | refine TL_gt_t (hk := ?_) | refine TL_ge_f (hk := ?_) | refine TL_eq_t (hk := ?_) | refine TL_nil ?_ | refine TL_move (hk := ?_) | refine TL_assign (hk := ?_) | (refine TL_load_b TE (hk := ?_); intro _) | refine TL_indexAddr1n TE (hk := ?_) | refine TL_len TE (hk := ?_) | refine TL_yes (hk := ?_) | refine TL_pick_t (hk := ?_))
      exact T_ret3 rfl rfl rfl rfl ⟨by rw [← hF]; rfl, rfl⟩
    · rw [if_neg h9] at hF
      have hp : 2 ^ (7 * (i + 1)) = 2 ^ (7 * i) * 128 := by rw [show 7 * (i + 1) = 7 * i + 7 from by omega, Nat.pow_add]
      have hm : N + gb l i % 128 * 2 ^ (7 * i) < 2 ^ (7 * (i + 1)) := by
        rw [hp]
        have : gb l i % 128 * 2 ^ (7 * i) ≤ 127 * 2 ^ (7 * i) := Nat.mul_le_mul_right _ (by omega)
        omega
      have hp9 : 2 ^ (7 * i) ≤ 2 ^ 63 := Nat.pow_le_pow_right (by decide) (by omega)
      have hb : N + gb l i % 128 * 2 ^ (7 * i) < 2 ^ 64 := by
        by_cases h9' : i = 9
        · have : gb l i % 128 * 2 ^ (7 * i) ≤ 1 * 2 ^ (7 * i) := Nat.mul_le_mul_right _ (by omega)
          omega
        · have : 2 ^ (7 * (i + 1)) ≤ 2 ^ 63 := Nat.pow_le_pow_right (by decide) (by omega)
          omega
      have hor : gb l i % 128 * 2 ^ (7 * i) % 2 ^ 64 = gb l i % 128 * 2 ^ (7 * i) := Nat.mod_eq_of_lt (by omega)
      have hq : N + gb l i % 128 * 2 ^ (7 * i) % 2 ^ 64 < 2 ^ 64 := by rw [hor]; exact hb
      by_cases i9 : i = 9
      · repeat (first | refine T_seq ?_ | refine T_region ?_ | refine T_cond_true rfl ?_ | refine T_cond_false rfl ?_ | refine T_block ?_ | refine T_skip ?_ | refine TL_mul (hk := ?_) | refine TL_rem (hk := ?_) | refine TL_lt_t (hk := ?_) | refine TL_gt_f (hk := ?_) | refine TL_ge_f (hk := ?_) | refine TL_eq_t (hk := ?_) | refine TL_nil ?_ | refine TL_move (hk := ?_) | (refine TL_load_b TE (hk := ?_); intro _) | refine TL_indexAddr1n TE (hk := ?_) | refine TL_len TE (hk := ?_) | refine TL_yes (hk := ?_) | refine TL_pick_t (hk := ?_) | refine TL_conv TE (hk := ?_))
        refine TL_shl rfl rfl (a := gb l i % 128) (c := 7 * i) (by omega) (by omega) rfl (by omega) rfl ?_
        repeat (first | refine T_seq ?_ | refine T_region ?_ | refine T_cond_true rfl ?_ | refine TL_add (hk := ?_) | refine TL_lt_t (hk := ?_) | refine TL_gt_t (hk := ?_) | refine TL_nil ?_ | refine TL_move (hk := ?_) | refine TL_assign (hk := ?_) | (refine TL_load_b TE (hk := ?_); intro _) | refine TL_indexAddr1n TE (hk := ?_) | refine TL_yes (hk := ?_))
        by_cases hlt : gb l i < 128
        · rw [if_pos hlt] at hF
          by_cases h0 : 0 < i
          · by_cases hz : gb l i = 0
            · rw [if_pos ⟨h0, hz⟩] at hF
              repeat (first | refine T_seq ?_ | refine T_region ?_ | refine T_cond_true rfl ?_ | refine TL_eq_t (hk := ?_) | refine TL_nil ?_ | refine TL_assign (hk := ?_) | refine TL_pick_t (hk := ?_))
              exact T_ret3 rfl rfl rfl rfl ⟨by rw [← hF]; rfl, rfl⟩
            · rw [if_neg (by omega)] at hF
              repeat (first | refine T_seq ?_ | refine T_region ?_ | refine T_cond_false rfl ?_ | refine T_skip ?_ | refine TL_add (hk := ?_) | refine TL_eq_f (hk := ?_) | refine TL_nil ?_ | refine TL_move (hk := ?_) | refine TL_assign (hk := ?_) | refine TL_pick_t (hk := ?_))
              exact T_ret3 rfl rfl rfl rfl ⟨by rw [← hF, hor]; rfl, rfl⟩
          · first
            | (exfalso; omega)
            | skip
              rw [if_neg (by omega)] at hF
              --
              exact T_ret3 rfl rfl rfl rfl ⟨by rw [← hF, hor]; rfl, rfl⟩
        · first
          | (exfalso; omega)
          | skip
            rw [if_neg hlt] at hF
            --
            refine ih (i + 1, N + gb l i % 128 * 2 ^ (7 * i)) _ _ (by simp only; omega) ⟨rfl, by simp only; omega, hm, ?_⟩ ?_
            · simp only
              rw [show 10 - (i + 1) = f by omega]
              exact hF
            · rw [hor]
              exact (.c rfl (.c rfl (.c rfl (.n))))
      · repeat (first | refine T_seq ?_ | refine T_region ?_ | refine T_cond_true rfl ?_ | refine T_cond_false rfl ?_ | refine T_block ?_ | refine T_skip ?_ | refine TL_mul (hk := ?_) | refine TL_rem (hk := ?_) | refine TL_lt_t (hk := ?_) | refine TL_ge_f (hk := ?_) | refine TL_eq_f (hk := ?_) | refine TL_nil ?_ | refine TL_move (hk := ?_) | (refine TL_load_b TE (hk := ?_); intro _) | refine TL_indexAddr1n TE (hk := ?_) | refine TL_len TE (hk := ?_) | refine TL_no (hk := ?_) | refine TL_pick_f (hk := ?_) | refine TL_conv TE (hk := ?_))
        refine TL_shl rfl rfl (a := gb l i % 128) (c := 7 * i) (by omega) (by omega) rfl (by omega) rfl ?_
        repeat (first | refine T_seq ?_ | refine T_region ?_ | refine TL_add (hk := ?_) | refine TL_nil ?_ | refine TL_move (hk := ?_) | refine TL_assign (hk := ?_) | (refine TL_load_b TE (hk := ?_); intro _) | refine TL_indexAddr1n TE (hk := ?_))
        by_cases hlt : gb l i < 128
        · rw [if_pos hlt] at hF
          by_cases h0 : 0 < i
          · by_cases hz : gb l i = 0
            · rw [if_pos ⟨h0, hz⟩] at hF
              repeat (first | refine T_seq ?_ | refine T_region ?_ | refine T_cond_true rfl ?_ | refine TL_lt_t (hk := ?_) | refine TL_gt_t (hk := ?_) | refine TL_eq_t (hk := ?_) | refine TL_nil ?_ | refine TL_move (hk := ?_) | refine TL_assign (hk := ?_) | (refine TL_load_b TE (hk := ?_); intro _) | refine TL_indexAddr1n TE (hk := ?_) | refine TL_yes (hk := ?_) | refine TL_pick_t (hk := ?_))
              exact T_ret3 rfl rfl rfl rfl ⟨by rw [← hF]; rfl, rfl⟩
            · rw [if_neg (by omega)] at hF
              repeat (first | refine T_seq ?_ | refine T_region ?_ | refine T_cond_true rfl ?_ | refine T_cond_false rfl ?_ | refine T_skip ?_ | refine TL_add (hk := ?_) | refine TL_lt_t (hk := ?_) | refine TL_gt_t (hk := ?_) | refine TL_eq_f (hk := ?_) | refine TL_nil ?_ | refine TL_move (hk := ?_) | refine TL_assign (hk := ?_) | (refine TL_load_b TE (hk := ?_); intro _) | refine TL_indexAddr1n TE (hk := ?_) | refine TL_yes (hk := ?_) | refine TL_pick_t (hk := ?_))
              exact T_ret3 rfl rfl rfl rfl ⟨by rw [← hF, hor]; rfl, rfl⟩
          · first
            | (exfalso; omega)
            | skip
              rw [if_neg (by omega)] at hF
              repeat (first | refine T_seq ?_ | refine T_region ?_ | refine T_cond_true rfl ?_ | refine T_cond_false rfl ?_ | refine T_skip ?_ | refine TL_add (hk := ?_) | refine TL_lt_t (hk := ?_) | refine TL_gt_f (hk := ?_) | refine TL_nil ?_ | refine TL_move (hk := ?_) | refine TL_assign (hk := ?_) | refine TL_no (hk := ?_) | refine TL_pick_f (hk := ?_))
              exact T_ret3 rfl rfl rfl rfl ⟨by rw [← hF, hor]; rfl, rfl⟩
        · first
          | (exfalso; omega)
          | skip
            rw [if_neg hlt] at hF
            repeat (first | refine T_region ?_ | refine T_cond_false rfl ?_ | refine T_inBlock ?_ | refine T_skip ?_ | refine TL_add (hk := ?_) | refine TL_lt_f (hk := ?_) | refine TL_nil ?_ | refine TL_move (hk := ?_) | refine TL_assign (hk := ?_))
            refine ih (i + 1, N + gb l i % 128 * 2 ^ (7 * i)) _ _ (by simp only; omega) ⟨rfl, by simp only; omega, hm, ?_⟩ ?_
            · simp only
              rw [show 10 - (i + 1) = f by omega]
              exact hF
            · rw [hor]
              exact (.c rfl (.c rfl (.c rfl (.n))))
  · rw [List.drop_of_length_le (by omega)] at hF
    repeat (first | refine T_seq ?_ | refine T_region ?_ | refine T_cond_true rfl ?_ | refine T_block ?_ | refine T_skip ?_ | refine TL_lt_t (hk := ?_) | refine TL_ge_t (hk := ?_) | refine TL_nil ?_ | refine TL_move (hk := ?_) | refine TL_assign (hk := ?_) | refine TL_len TE (hk := ?_))
    exact T_ret3 rfl rfl rfl rfl ⟨by rw [← hF]; rfl, rfl⟩

theorem New_c (A : Option Addr) (n c : Nat) (l : List UInt8) (w : World) (h : Rd w A n 1 (bv l)) (hn : n ≤ 7036874417) :
    Ret Try.prog 36 [.slice A n c] w (fun v w' => ∃ b A' n' c', v = ptr b ∧ Ext w w' ∧ w.heap.size ≤ b ∧ Hi A' w.heap.size ∧ Rdr w' 67 b ⟨l, 0, 0, 0, 0⟩ A' n' c') := by
  refine ret_T (n := 8) Try.func36 rfl rfl ?_
  repeat (first | refine T_seq ?_ | refine T_region ?_ | refine TL_nil ?_ | refine TL_assign (hk := ?_))
  refine TL_buildSlice TE (hk := ?_); intro b0 w0 e0 h0 h0' k0
  have o0 : Own w0 w.heap.size 5 1 (some ⟨b0, 0, none⟩) 0 0 [] := Own.of_blk k0 h0 rfl (by decide)
  have s0 := e0.size
  repeat (refine TL_move (hk := ?_))
  refine TL_append TE (hk := ?_); intro A1 c1 w1 o1 m1 n1
  have e1 : Ext w w1 := e0.own m1 o0.hi
  repeat (refine TL_build TE (hk := ?_))
  refine TL_box (hk := ?_); intro b w2 e2 h1 h2 k
  repeat (first | refine TL_nil ?_ | refine TL_assign (hk := ?_))
  have hs := e1.size
  refine T_ret1 rfl rfl ⟨b, A1, 0 + n, c1, rfl, e1.ext e2, by omega, o1.hi, ?_⟩
  exact ⟨k, (o1.be e2).rd, Off.lo o1.lo h1, by have := h.1; simpa using this, Nat.zero_le _, Nat.zero_le _, by simpa using hn, o1.cap.1⟩
end Go.Proofs.Ytkmdmpmimojmbaa
