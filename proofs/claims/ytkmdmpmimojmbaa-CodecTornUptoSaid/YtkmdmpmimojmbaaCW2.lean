import Derived.Test.YtkmdmpmimojmbaaCW1
namespace Go.Proofs.Ytkmdmpmimojmbaa
open Go.RowKit Go.Proofs.Eng Go.Proofs.Codec
set_option linter.unusedSimpArgs false
set_option linter.unusedVariables false
attribute [local irreducible] T TL LV TH

theorem num_c (z : Int) (w : World) : Ret Try.prog 11 [.int .i64 z] w (fun v w' => v = .int .i64 z ∧ w' = w) := by
  refine ret_T (n := 4) Try.func11 rfl rfl ?_
  repeat (first | refine T_seq ?_ | refine T_region ?_ | refine TL_nil ?_ | refine TL_move (hk := ?_) | refine TL_assign (hk := ?_))
  exact T_ret1 rfl rfl ⟨rfl, rfl⟩
theorem same_c (A B : Option Addr) (n m c d : Nat) (l k : List UInt8) (w : World) (h : Rd w A n 1 (bv l)) (g : Rd w B m 1 (bv k)) :
    Ret Try.prog 17 [.slice A n c, .slice B m d] w (fun v w' => v = .bool (decide (l = k)) ∧ w' = w) := by
  by_cases e : l = k
  · subst e
    refine ret_T (n := 10) Try.func17 rfl rfl ?_
    repeat (first | refine T_seq ?_ | refine T_region ?_ | refine TL_seq_t (hk := ?_) | refine TL_nil ?_ | refine TL_move (hk := ?_) | refine TL_assign (hk := ?_) | refine TL_conv_bs TE (hk := ?_))
    exact T_ret1 rfl rfl ⟨by simp, rfl⟩
  · have e' : ¬ ofL l = ofL k := fun h => e (by have := congrArg (fun b : ByteArray => b.data.toList) h; simpa [ofL] using this)
    refine ret_T (n := 10) Try.func17 rfl rfl ?_
    repeat (first | refine T_seq ?_ | refine T_region ?_ | refine TL_seq_f (hk := ?_) | refine TL_nil ?_ | refine TL_move (hk := ?_) | refine TL_assign (hk := ?_) | refine TL_conv_bs TE (hk := ?_))
    exact T_ret1 rfl rfl ⟨by simp [e], rfl⟩
theorem lent_c (A : Option Addr) (n c : Nat) (l : List UInt8) (w : World) (h : Rd w A n 1 (bv l)) (hn : n ≤ 70368744177000) :
    Ret Try.prog 13 [.slice A n c] w (fun v w' => ∃ A' c', v = .slice A' (n + 2) c' ∧ Ext w w' ∧ Own w' w.heap.size 5 1 A' (n + 2) c' (bv (l ++ [9, 8]))) := by
  refine ret_T (n := 8) Try.func13 rfl rfl ?_
  repeat (first | refine T_seq ?_ | refine T_region ?_ | refine TL_nil ?_ | refine TL_assign (hk := ?_))
  refine TL_buildSlice TE (hk := ?_); intro b1 w1 e1 h1 h2 k1
  have o1 : Own w1 w.heap.size 5 1 (some ⟨b1, 0, none⟩) 0 0 [] := Own.of_blk k1 h1 rfl (by decide)
  have s1 := e1.size
  repeat (refine TL_move (hk := ?_))
  refine TL_append TE (hk := ?_); intro A2 c2 w2 o2 m2 n2
  have e2 : Ext w w2 := e1.own m2 o1.hi
  have s2 := m2.size
  --
  refine TL_buildSlice TE (hk := ?_); intro b3 w3 e3 h31 h32 k3
  have s3 := e3.size
  --
  refine TL_append TE (hk := ?_); intro A4 c4 w4 o4 m4 n4
  repeat (first | refine TL_nil ?_ | refine TL_assign (hk := ?_))
  refine T_ret1 rfl rfl ⟨A4, c4, by simp, (e2.ext e3).own m4 o2.hi, ?_⟩
  have o5 : Own w4 w.heap.size 5 1 A4 (0 + n + 2) c4 (bv (l ++ [9, 8])) := by rw [bv_append]; exact o4
  simpa using o5
theorem get4_c (A : Option Addr) (n c : Nat) (l : List UInt8) (w : World) (h : Rd w A n 1 (bv l)) (hn : 4 ≤ n) :
    Ret Try.prog 45 [.slice A n c] w (fun v w' => v = .int .u32 (le4 l : Nat) ∧ Ext w w') := by
  refine ret_T (n := 25) Try.func45 rfl rfl ?_
  repeat (first | refine T_seq ?_ | refine T_region ?_ | refine T_region_q TE.mixed (by kernel_rfl) ?_ | (refine TL_or (hk := ?_); intro _) | refine TL_shl (hk := ?_) | refine TL_nil ?_ | refine TL_move (hk := ?_) | refine TL_assign (hk := ?_) | (refine TL_load_b TE (hk := ?_); intro _) | refine TL_indexAddr1n TE (hk := ?_) | refine TL_conv TE (hk := ?_))
  refine TL_nil_q ?_; intro w1 e1
  --
  exact T_ret1 rfl rfl ⟨rfl, e1⟩
theorem of_c (A : Option Addr) (n c : Nat) (l : List UInt8) (w : World) (h : Rd w A n 1 (bv l)) (hn : 4 ≤ n) :
    Ret Try.prog 54 [.slice A n c] w (fun v w' => v = .int .u32 (le4 l : Nat) ∧ Ext w w') := by
  refine ret_T (n := 25) Try.func54 rfl rfl ?_
  repeat (first | refine T_seq ?_ | refine T_region ?_ | refine T_region_q TE.mixed (by kernel_rfl) ?_ | (refine TL_or (hk := ?_); intro _) | refine TL_shl (hk := ?_) | refine TL_nil ?_ | refine TL_move (hk := ?_) | refine TL_assign (hk := ?_) | (refine TL_load_b TE (hk := ?_); intro _) | refine TL_indexAddr1n TE (hk := ?_) | refine TL_conv TE (hk := ?_))
  refine TL_nil_q ?_; intro w1 e1
  --
  exact T_ret1 rfl rfl ⟨rfl, e1⟩
theorem put4_c (A : Option Addr) (n c x base : Nat) (l : List UInt8) (w : World) (h : Own w base 5 1 A n c (bv l)) (hb : base ≤ w.heap.size) (hn : n ≤ 70368744177000) (hx : x < 2 ^ 32) :
    Ret Try.prog 44 [.slice A n c, .int .u32 (x : Int)] w (fun v w' => ∃ A' c', v = .slice A' (n + 4) c' ∧ Mod (blkL A) w w' ∧ Near A A' w ∧ Own w' base 5 1 A' (n + 4) c' (bv (l ++ four x))) := by
  refine ret_T (n := 19) Try.func44 rfl rfl ?_
  repeat (first | refine T_seq ?_ | refine T_region ?_ | refine TL_shr (hk := ?_) | refine TL_nil ?_ | refine TL_move (hk := ?_) | refine TL_assign (hk := ?_) | refine TL_conv TE (hk := ?_) | refine TL_conv_nat TE (hk := ?_))
  refine TL_buildSlice TE (hk := ?_); intro b1 w1 e1 h1 h2 k1
  have s1 := e1.size
  refine TL_append TE (hk := ?_); intro A4 c4 w4 o4 m4 n4
  repeat (first | refine TL_nil ?_ | refine TL_assign (hk := ?_))
  refine T_ret1 rfl rfl ⟨A4, c4, rfl, Mod.step (Mod.mono e1 (fun _ h => by cases h)) m4 (fun y hy => .inl hy), fun ad ea => (n4 ad ea).imp id (fun h => by omega), ?_⟩
  have e : bv (four x) = [.int .u8 ((x % 2 ^ 8 : Nat) : Int), .int .u8 ((x / 2 ^ 8 % 2 ^ 8 : Nat) : Int), .int .u8 ((x / 2 ^ 16 % 2 ^ 8 : Nat) : Int), .int .u8 ((x / 2 ^ 24 : Nat) : Int)] := by
    have e4 : x / 2 ^ 24 % 256 = x / 2 ^ 24 := by omega
    simp only [four, bv, List.map_cons, List.map_nil, e4]
    rw [ofNat_u8 (by omega), ofNat_u8 (by omega), ofNat_u8 (by omega), ofNat_u8 (by omega)]
  rw [bv_append, e]
  exact o4
theorem four_c (A : Option Addr) (n c x base : Nat) (l : List UInt8) (w : World) (h : Own w base 5 1 A n c (bv l)) (hb : base ≤ w.heap.size) (hn : n ≤ 70368744177000) (hx : x < 2 ^ 32) :
    Ret Try.prog 53 [.slice A n c, .int .u32 (x : Int)] w (fun v w' => ∃ A' c', v = .slice A' (n + 4) c' ∧ Mod (blkL A) w w' ∧ Near A A' w ∧ Own w' base 5 1 A' (n + 4) c' (bv (l ++ four x))) := by
  refine ret_T (n := 19) Try.func53 rfl rfl ?_
  repeat (first | refine T_seq ?_ | refine T_region ?_ | refine TL_shr (hk := ?_) | refine TL_nil ?_ | refine TL_move (hk := ?_) | refine TL_assign (hk := ?_) | refine TL_conv TE (hk := ?_) | refine TL_conv_nat TE (hk := ?_))
  refine TL_buildSlice TE (hk := ?_); intro b1 w1 e1 h1 h2 k1
  have s1 := e1.size
  refine TL_append TE (hk := ?_); intro A4 c4 w4 o4 m4 n4
  repeat (first | refine TL_nil ?_ | refine TL_assign (hk := ?_))
  refine T_ret1 rfl rfl ⟨A4, c4, rfl, Mod.step (Mod.mono e1 (fun _ h => by cases h)) m4 (fun y hy => .inl hy), fun ad ea => (n4 ad ea).imp id (fun h => by omega), ?_⟩
  have e : bv (four x) = [.int .u8 ((x % 2 ^ 8 : Nat) : Int), .int .u8 ((x / 2 ^ 8 % 2 ^ 8 : Nat) : Int), .int .u8 ((x / 2 ^ 16 % 2 ^ 8 : Nat) : Int), .int .u8 ((x / 2 ^ 24 : Nat) : Int)] := by
    have e4 : x / 2 ^ 24 % 256 = x / 2 ^ 24 := by omega
    simp only [four, bv, List.map_cons, List.map_nil, e4]
    rw [ofNat_u8 (by omega), ofNat_u8 (by omega), ofNat_u8 (by omega), ofNat_u8 (by omega)]
  rw [bv_append, e]
  exact o4
end Go.Proofs.Ytkmdmpmimojmbaa
