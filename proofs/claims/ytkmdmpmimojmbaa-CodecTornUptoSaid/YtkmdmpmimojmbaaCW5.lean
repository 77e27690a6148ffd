import Derived.Test.YtkmdmpmimojmbaaCW3
namespace Go.Proofs.Ytkmdmpmimojmbaa
open Go.RowKit Go.Proofs.Eng Go.Proofs.Codec
set_option linter.unusedSimpArgs false
set_option linter.unusedVariables false
attribute [local irreducible] T TL LV TH
set_option maxHeartbeats 1000000

theorem kept_c (A B : Option Addr) (n m c d : Nat) (l k : List UInt8) (w : World) (h : Rd w A n 1 (bv l)) (g : Rd w B m 1 (bv k)) (hm : m ≤ 70368744177000) :
    Ret Try.prog 21 [.slice A n c, .slice B m d] w (fun v w' => v = .bool (decide (l = k ++ [9, 8])) ∧ Ext w w') := by
  refine ret_T (n := 12) Try.func21 rfl rfl ?_
  repeat (first | refine T_seq ?_ | refine T_region ?_ | refine TL_nil ?_ | refine TL_move (hk := ?_) | refine TL_assign (hk := ?_))
  refine TL_buildSlice TE (hk := ?_); intro b1 w1 e1 h1 h2 k1
  have o1 : Own w1 w.heap.size 5 1 (some ⟨b1, 0, none⟩) 0 0 [] := Own.of_blk k1 h1 rfl (by decide)
  have s1 := e1.size
  repeat (refine TL_move (hk := ?_))
  refine TL_append TE (hk := ?_); intro A2 c2 w2 o2 m2 n2
  have e2 : Ext w w2 := e1.own m2 o1.hi
  have s2 := m2.size
  --
  refine TL_buildSlice TE (hk := ?_); intro b3 w3 e3 h31 h32 k3
  have s3 := e3.size
  refine TL_append TE (hk := ?_); intro A4 c4 w4 o4 m4 n4
  have e4 : Ext w w4 := (e2.ext e3).own m4 o2.hi
  have o5 : Own w4 w.heap.size 5 1 A4 (0 + m + 2) c4 (bv (k ++ [9, 8])) := by rw [bv_append]; exact o4
  have r5 : Rd w4 A n 1 (bv l) := h.ext e4
  refine TL_call TE (hc := same_c A A4 n (0 + m + 2) c c4 l (k ++ [9, 8]) w4 r5 o5.rd) (hk := ?_)
  rintro _ w5 ⟨rfl, rfl⟩
  repeat (first | refine TL_nil ?_ | refine TL_assign (hk := ?_))
  exact T_ret1 rfl rfl ⟨rfl, e4⟩

/-- A frame. -/
def frame (l : List UInt8) : List UInt8 := (four l.length ++ l) ++ four (crc (four l.length ++ l))
theorem Seal_c (A : Option Addr) (n c : Nat) (l : List UInt8) (w : World) (h : Rd w A n 1 (bv l)) (hn : n ≤ 65536) :
    Ret Try.prog 22 [.slice A n c] w (fun v w' => ∃ A' c', v = .tuple #[.slice A' (n + 8) c', .int .i64 0] ∧ Ext w w' ∧ Own w' w.heap.size 5 1 A' (n + 8) c' (bv (frame l))) := by
  have hlen : l.length = n := by simpa using h.1
  refine ret_T (n := 18) Try.func22 rfl rfl ?_
  repeat (first | refine T_seq ?_ | refine T_region ?_ | refine T_cond_false rfl ?_ | refine T_skip ?_ | refine TL_gt_f (hk := ?_) | refine TL_nil ?_ | refine TL_move (hk := ?_) | refine TL_assign (hk := ?_) | refine TL_len TE (hk := ?_) | refine TL_conv TE (hk := ?_))
  refine TL_call TE (hc := put4_c none 0 0 n w.heap.size [] w (Own.nil _ _ _ _) (Nat.le_refl _) (by omega) (by omega)) (hk := ?_)
  rintro _ w1 ⟨A1, c1, rfl, m1, n1, o1⟩
  have e1 : Ext w w1 := m1
  have s1 := m1.size
  repeat (refine TL_move (hk := ?_))
  refine TL_append TE (hk := ?_); intro A2 c2 w2 o2 m2 n2
  have e2 : Ext w w2 := e1.own m2 o1.hi
  have s2 := m2.size
  have o2' : Own w2 w.heap.size 5 1 A2 (0 + 4 + n) c2 (bv (four n ++ l)) := by rw [bv_append]; exact o2
  repeat (first | refine T_seq ?_ | refine T_region ?_ | refine TL_nil ?_ | refine TL_move (hk := ?_) | refine TL_assign (hk := ?_))
  refine TL_call TE (hc := Sum_c A2 (0 + 4 + n) c2 (four n ++ l) w2 o2'.rd (by omega)) (hk := ?_)
  rintro _ w3 ⟨rfl, rfl⟩
  refine TL_call TE (hc := put4_c A2 (0 + 4 + n) c2 (crc (four n ++ l)) w.heap.size (four n ++ l) _ o2' (by omega) (by omega) (crc_lt _)) (hk := ?_)
  rintro _ w4 ⟨A4, c4, rfl, m4, n4, o4⟩
  repeat (first | refine TL_nil ?_ | refine TL_assign (hk := ?_))
  refine T_ret2 rfl rfl rfl ⟨A4, c4, ?_, e2.own m4 o2'.hi, ?_⟩
  · rw [show 0 + 4 + n + 4 = n + 8 from by omega]
  · rw [show n + 8 = 0 + 4 + n + 4 from by omega]
    unfold frame
    rw [hlen]
    exact o4
theorem Seal_c2 (A : Option Addr) (n c : Nat) (w : World) (hn : 65536 < n) :
    Ret Try.prog 22 [.slice A n c] w (fun v w' => v = .tuple #[.slice none 0 0, .int .i64 1] ∧ w' = w) := by
  refine ret_T (n := 18) Try.func22 rfl rfl ?_
  repeat (first | refine T_seq ?_ | refine T_region ?_ | refine T_cond_true rfl ?_ | refine TL_gt_t (hk := ?_) | refine TL_nil ?_ | refine TL_move (hk := ?_) | refine TL_assign (hk := ?_) | refine TL_len TE (hk := ?_))
  exact T_ret2 rfl rfl rfl ⟨rfl, rfl⟩
theorem RSeal_c (A : Option Addr) (n c : Nat) (l : List UInt8) (w : World) (h : Rd w A n 1 (bv l)) (hn : n ≤ 65536) :
    Ret Try.prog 30 [.slice A n c] w (fun v w' => ∃ A' c', v = .tuple #[.slice A' (n + 8) c', .int .i64 0] ∧ Ext w w' ∧ Own w' w.heap.size 5 1 A' (n + 8) c' (bv (frame l))) := by
  have hlen : l.length = n := by simpa using h.1
  refine ret_T (n := 18) Try.func30 rfl rfl ?_
  repeat (first | refine T_seq ?_ | refine T_region ?_ | refine T_cond_false rfl ?_ | refine T_skip ?_ | refine TL_gt_f (hk := ?_) | refine TL_nil ?_ | refine TL_move (hk := ?_) | refine TL_assign (hk := ?_) | refine TL_len TE (hk := ?_) | refine TL_conv TE (hk := ?_))
  refine TL_call TE (hc := four_c none 0 0 n w.heap.size [] w (Own.nil _ _ _ _) (Nat.le_refl _) (by omega) (by omega)) (hk := ?_)
  rintro _ w1 ⟨A1, c1, rfl, m1, n1, o1⟩
  have e1 : Ext w w1 := m1
  have s1 := m1.size
  repeat (refine TL_move (hk := ?_))
  refine TL_append TE (hk := ?_); intro A2 c2 w2 o2 m2 n2
  have e2 : Ext w w2 := e1.own m2 o1.hi
  have s2 := m2.size
  have o2' : Own w2 w.heap.size 5 1 A2 (0 + 4 + n) c2 (bv (four n ++ l)) := by rw [bv_append]; exact o2
  repeat (first | refine T_seq ?_ | refine T_region ?_ | refine TL_nil ?_ | refine TL_move (hk := ?_) | refine TL_assign (hk := ?_))
  refine TL_call TE (hc := RSum_c A2 (0 + 4 + n) c2 (four n ++ l) w2 o2'.rd (by omega)) (hk := ?_)
  rintro _ w3 ⟨rfl, rfl⟩
  refine TL_call TE (hc := four_c A2 (0 + 4 + n) c2 (crc (four n ++ l)) w.heap.size (four n ++ l) _ o2' (by omega) (by omega) (crc_lt _)) (hk := ?_)
  rintro _ w4 ⟨A4, c4, rfl, m4, n4, o4⟩
  repeat (first | refine TL_nil ?_ | refine TL_assign (hk := ?_))
  refine T_ret2 rfl rfl rfl ⟨A4, c4, ?_, e2.own m4 o2'.hi, ?_⟩
  · rw [show 0 + 4 + n + 4 = n + 8 from by omega]
  · rw [show n + 8 = 0 + 4 + n + 4 from by omega]
    unfold frame
    rw [hlen]
    exact o4
theorem RSeal_c2 (A : Option Addr) (n c : Nat) (w : World) (hn : 65536 < n) :
    Ret Try.prog 30 [.slice A n c] w (fun v w' => v = .tuple #[.slice none 0 0, .int .i64 1] ∧ w' = w) := by
  refine ret_T (n := 18) Try.func30 rfl rfl ?_
  repeat (first | refine T_seq ?_ | refine T_region ?_ | refine T_cond_true rfl ?_ | refine TL_gt_t (hk := ?_) | refine TL_nil ?_ | refine TL_move (hk := ?_) | refine TL_assign (hk := ?_) | refine TL_len TE (hk := ?_))
  exact T_ret2 rfl rfl rfl ⟨rfl, rfl⟩

/-- What Open answers: the load's bytes, how many bytes it takes, the error. -/
def openF (l : List UInt8) : List UInt8 × Nat × Int :=
  if l.length < 4 then ([], 0, 3) else if 65536 < le4 l then ([], 0, 1) else if l.length < le4 l + 8 then ([], 0, 3) else
  if crc (l.take (le4 l + 4)) = le4 (l.drop (le4 l + 4)) then ((l.drop 4).take (le4 l), le4 l + 8, 0) else ([], 0, 12)
theorem Open_c (A : Option Addr) (n c : Nat) (l : List UInt8) (w : World) (h : Rd w A n 1 (bv l)) (hn : n ≤ 7036874417) (hc : n ≤ c) :
    Ret Try.prog 23 [.slice A n c] w (fun v w' => ∃ A' n' c', v = .tuple #[.slice A' n' c', .int .i64 ((openF l).2.1 : Nat), .int .i64 (openF l).2.2] ∧ Ext w w' ∧ Own w' w.heap.size 5 1 A' n' c' (bv (openF l).1)) := by
  have hlen : l.length = n := by simpa using h.1
  have h4 := le4_lt l
  by_cases g0 : n < 4
  · have eo : openF l = ([], 0, 3) := by unfold openF; rw [if_pos (by omega)]
    rw [eo]
    refine ret_T (n := 39) Try.func23 rfl rfl ?_
    repeat (first | refine T_seq ?_ | refine T_region ?_ | refine T_cond_true rfl ?_ | refine TL_lt_t (hk := ?_) | refine TL_nil ?_ | refine TL_move (hk := ?_) | refine TL_assign (hk := ?_) | refine TL_len TE (hk := ?_))
    exact T_ret3 rfl rfl rfl rfl ⟨none, 0, 0, rfl, Mod.refl _ _, Own.nil _ _ _ _⟩
  by_cases g1 : 65536 < le4 l
  · have eo : openF l = ([], 0, 1) := by unfold openF; rw [if_neg (by omega), if_pos g1]
    rw [eo]
    refine ret_T (n := 39) Try.func23 rfl rfl ?_
    repeat (first | refine T_seq ?_ | refine T_region ?_ | refine T_cond_false rfl ?_ | refine T_skip ?_ | refine TL_lt_f (hk := ?_) | refine TL_nil ?_ | refine TL_move (hk := ?_) | refine TL_assign (hk := ?_) | refine TL_len TE (hk := ?_))
    refine TL_call TE (hc := get4_c A n c l w h (by omega)) (hk := ?_)
    rintro _ w1 ⟨rfl, e1⟩
    repeat (first | refine T_seq ?_ | refine T_region ?_ | refine T_cond_true rfl ?_ | refine TL_gt_t (hk := ?_) | refine TL_nil ?_ | refine TL_move (hk := ?_) | refine TL_assign (hk := ?_))
    exact T_ret3 rfl rfl rfl rfl ⟨none, 0, 0, rfl, e1, Own.nil _ _ _ _⟩
  by_cases g2 : n < le4 l + 8
  · have eo : openF l = ([], 0, 3) := by unfold openF; rw [if_neg (by omega), if_neg g1, if_pos (by omega)]
    rw [eo]
    refine ret_T (n := 39) Try.func23 rfl rfl ?_
    repeat (first | refine T_seq ?_ | refine T_region ?_ | refine T_cond_false rfl ?_ | refine T_skip ?_ | refine TL_lt_f (hk := ?_) | refine TL_nil ?_ | refine TL_move (hk := ?_) | refine TL_assign (hk := ?_) | refine TL_len TE (hk := ?_))
    refine TL_call TE (hc := get4_c A n c l w h (by omega)) (hk := ?_)
    rintro _ w1 ⟨rfl, e1⟩
    repeat (first | refine T_seq ?_ | refine T_region ?_ | refine T_cond_true rfl ?_ | refine T_cond_false rfl ?_ | refine T_block ?_ | refine T_skip ?_ | refine TL_add (hk := ?_) | refine TL_lt_t (hk := ?_) | refine TL_gt_f (hk := ?_) | refine TL_nil ?_ | refine TL_move (hk := ?_) | refine TL_assign (hk := ?_) | refine TL_len TE (hk := ?_) | refine TL_conv TE (hk := ?_))
    exact T_ret3 rfl rfl rfl rfl ⟨none, 0, 0, rfl, e1, Own.nil _ _ _ _⟩
  have hcl := crc_lt (l.take (le4 l + 4))
  have hdl := le4_lt (l.drop (le4 l + 4))
  have eo : openF l = if crc (l.take (le4 l + 4)) = le4 (l.drop (le4 l + 4)) then ((l.drop 4).take (le4 l), le4 l + 8, 0) else ([], 0, 12) := by
    unfold openF; rw [if_neg (by omega), if_neg g1, if_neg (by omega)]
  generalize hk : le4 l = k at h4 g1 g2 hcl hdl eo
  have ek : (4 + (k : Int)).toNat = k + 4 := by omega
  have ra : ∀ w', Ext w w' → Rd w' A (k + 4) 1 (bv (l.take (k + 4))) := fun w' e => by
    have := (h.ext e).take (h := k + 4) (by omega)
    simpa [bv] using this
  have rb : ∀ w', Ext w w' → Rd w' (cutA A c (k + 4) 1) (n - (k + 4)) 1 (bv (l.drop (k + 4))) := fun w' e => by
    have := (h.ext e).cut (c := c) (l := k + 4) (h := n) (by omega) (by omega) (by omega)
    have e9 : ((bv l).drop ((k + 4) * 1)).take ((n - (k + 4)) * 1) = bv (l.drop (k + 4)) := by
      rw [List.take_of_length_le (by simp; omega)]; simp [bv]
    rwa [e9] at this
  have rc : ∀ w', Ext w w' → Rd w' (cutA A c 4 1) (k + 4 - 4) 1 (bv ((l.drop 4).take k)) := fun w' e => by
    have := (h.ext e).cut (c := c) (l := 4) (h := k + 4) (by omega) (by omega) (by omega)
    have e9 : ((bv l).drop (4 * 1)).take ((k + 4 - 4) * 1) = bv ((l.drop 4).take k) := by
      rw [show (k + 4 - 4) * 1 = k from by omega]; simp [bv]
    rwa [e9] at this
  by_cases hs : crc (l.take (k + 4)) = le4 (l.drop (k + 4))
  all_goals
    first | rw [if_pos hs] at eo | rw [if_neg hs] at eo
    rw [eo]
    refine ret_T (n := 39) Try.func23 rfl rfl ?_
    repeat (first | refine T_seq ?_ | refine T_region ?_ | refine T_cond_false rfl ?_ | refine T_skip ?_ | refine TL_lt_f (hk := ?_) | refine TL_nil ?_ | refine TL_move (hk := ?_) | refine TL_assign (hk := ?_) | refine TL_len TE (hk := ?_))
    refine TL_call TE (hc := get4_c A n c l w h (by omega)) (hk := ?_)
    rintro _ w1 ⟨rfl, e1⟩
    rw [hk]
    repeat (first | refine T_seq ?_ | refine T_region ?_ | refine T_region_q TE.mixed (by kernel_rfl) ?_ | refine T_cond_false rfl ?_ | refine T_block ?_ | refine T_skip ?_ | refine TL_add (hk := ?_) | refine TL_lt_f (hk := ?_) | refine TL_gt_f (hk := ?_) | refine TL_nil ?_ | refine TL_move (hk := ?_) | refine TL_assign (hk := ?_) | refine TL_len TE (hk := ?_) | refine TL_slice_hi TE (hk := ?_) | refine TL_conv TE (hk := ?_))
    rw [ek]
    refine TL_call_q TE rfl rfl rfl ((fun w' e' => (Sum_c A (k + 4) c _ w' (ra w' (e1.ext e')) (by omega)).mono fun v w'' ⟨a, b⟩ => ⟨a, b ▸ Mod.refl _ _⟩)) ?_
    repeat (first | refine TL_move (hk := ?_) | refine TL_slice_lo TE (hk := ?_))
    rw [ek]
    refine TL_call_q TE rfl rfl rfl ((fun w' e' => get4_c (cutA A c (k + 4) 1) (n - (k + 4)) (c - (k + 4)) _ w' (rb w' (e1.ext e')) (by omega))) ?_
    repeat (first | refine TL_ne_t (hk := ?_) | refine TL_ne_f (hk := ?_) | refine TL_assign (hk := ?_))
    refine TL_nil_q ?_; intro w2 e2
    repeat (first | refine T_seq ?_ | refine T_region ?_ | refine T_cond_true rfl ?_ | refine T_cond_false rfl ?_ | refine T_inBlock ?_ | refine T_skip ?_ | refine TL_nil ?_ | refine TL_move (hk := ?_) | refine TL_assign (hk := ?_) | refine TL_slice_lh TE (hk := ?_))
  · rw [ek]
    refine TL_call TE (hc := Clone_c (cutA A c 4 1) (k + 4 - 4) (c - 4) _ w2 (rc w2 (e1.ext e2)) (by omega)) (hk := ?_)
    rintro _ w3 ⟨A3, c3, rfl, e3, o3⟩
    repeat (first | refine TL_add (hk := ?_) | refine TL_nil ?_ | refine TL_move (hk := ?_) | refine TL_assign (hk := ?_))
    have s2 := (e1.ext e2).size
    refine T_ret3 rfl rfl rfl rfl ⟨A3, _, c3, ?_, (e1.ext e2).ext e3, o3.weaken s2⟩
    rw [show ((k + 8 : Nat) : Int) = 4 + (k : Int) + 4 from by omega]
  · exact T_ret3 rfl rfl rfl rfl ⟨none, 0, 0, rfl, e1.ext e2, Own.nil _ _ _ _⟩
end Go.Proofs.Ytkmdmpmimojmbaa
