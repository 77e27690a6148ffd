import Derived.Test.YtkmdmpmimojmbaaCW12
import Derived.Test.YtkmdmpmimojmbaaCLaw1
import Derived.Test.YtkmdmpmimojmbaaEng9
namespace Go.Proofs.Ytkmdmpmimojmbaa
open Go.RowKit Go.Proofs.Eng Go.Proofs.Codec
set_option linter.unusedSimpArgs false
set_option linter.unusedVariables false
attribute [local irreducible] T TL LV TH
set_option maxHeartbeats 2000000

theorem take_dropped {α : Type} {b : List UInt8} {p q : Nat} {z0 v : α} {k : Nat} {t : List UInt8 → Except Int (α × Nat)} {r : List UInt8} (hb : b.drop p = r) (h : t r = .ok (v, k)) : RS.take ⟨b, p, q, 0, 0⟩ z0 t = (v, ⟨b, p + k, p, 0, 0⟩) := by
  unfold RS.take
  rw [if_pos rfl]
  simp only [hb, h]
theorem CodecBack_c (N : Int) (I : Int) (S : ByteArray) (A : Option Addr) (n c : Nat) (l : List UInt8) (w : World) (hN : (Lit.int .u64 N).wf = true) (hI : (Lit.int .i64 I).wf = true) (hS : S.size ≤ maxLen) (hb : Rd w A n 1 (bv l)) (hnc : n ≤ c) (hcm : c ≤ maxLen) :
    Ret Try.prog 6 [.int .u64 N, .int .i64 I, .string S, .slice A n c] w (fun v w' => v = .bool true ∧ Ext w w') := by
  have hN := fits_of_wf hN
  have hI := fits_of_wf hI
  unfold Fits at hN hI
  unfold maxLen at hcm hS
  obtain ⟨x, rfl⟩ := Int.eq_ofNat_of_zero_le hN.1
  have hlen : l.length = n := by simpa using hb.1
  have hx : x < 2 ^ 64 := by omega
  by_cases g1 : 200000 < S.size
  · refine ret_T (n := 107) Try.func6 rfl rfl ?_
    repeat (first | refine T_seq ?_ | refine T_region ?_ | refine T_cond_true rfl ?_ | refine TL_gt_t (hk := ?_) | refine TL_nil ?_ | refine TL_move (hk := ?_) | refine TL_assign (hk := ?_) | refine TL_len_s TE (hk := ?_) | refine TL_no (hk := ?_) | refine TL_pick_t (hk := ?_))
    refine TL_call TE (hc := live_c w) (hk := ?_)
    rintro _ w1 ⟨rfl, e1⟩
    repeat (first | refine TL_nil ?_ | refine TL_assign (hk := ?_))
    exact T_ret1 rfl rfl ⟨rfl, e1⟩
  by_cases g2 : 200000 < n
  · refine ret_T (n := 107) Try.func6 rfl rfl ?_
    repeat (first | refine T_seq ?_ | refine T_region ?_ | refine T_cond_true rfl ?_ | refine TL_gt_t (hk := ?_) | refine TL_gt_f (hk := ?_) | refine TL_nil ?_ | refine TL_move (hk := ?_) | refine TL_assign (hk := ?_) | refine TL_len TE (hk := ?_) | refine TL_len_s TE (hk := ?_) | refine TL_yes (hk := ?_) | refine TL_pick_f (hk := ?_))
    refine TL_call TE (hc := live_c w) (hk := ?_)
    rintro _ w1 ⟨rfl, e1⟩
    repeat (first | refine TL_nil ?_ | refine TL_assign (hk := ?_))
    exact T_ret1 rfl rfl ⟨rfl, e1⟩
  have hl1 := encU_len64 hx
  have hl2 := encU_len64 (zig_lt hI)
  have hl3 := encU_len64 (n := S.size) (by omega)
  have hp1 := encU_pos x
  have hp2 := encU_pos (zig I)
  refine ret_T (n := 107) Try.func6 rfl rfl ?_
  repeat (first | refine T_seq ?_ | refine T_region ?_ | refine T_cond_false rfl ?_ | refine T_skip ?_ | refine TL_gt_f (hk := ?_) | refine TL_nil ?_ | refine TL_move (hk := ?_) | refine TL_assign (hk := ?_) | refine TL_len TE (hk := ?_) | refine TL_len_s TE (hk := ?_) | refine TL_yes (hk := ?_) | refine TL_pick_f (hk := ?_))
  refine TL_call TE (hc := PutUint_c none 0 0 [] x w rfl (Own.nil w 0 5 1).rd (by omega) hx) (hk := ?_)
  rintro _ w1 ⟨A1, n1, c1, rfl, e1, o1⟩
  rw [List.nil_append] at o1
  have q1 := o1.len
  rw [bv_length, Nat.mul_one] at q1
  repeat (refine TL_move (hk := ?_))
  refine TL_call TE (hc := PutInt_c A1 n1 c1 (encU x) I w1 o1.rd (by omega) hI) (hk := ?_)
  rintro _ w2 ⟨A2, n2, c2, rfl, e2, o2⟩
  have q2 := o2.len
  rw [bv_length, Nat.mul_one, List.length_append] at q2
  repeat (refine TL_move (hk := ?_))
  refine TL_call TE (hc := PutText_c A2 n2 c2 (encU x ++ encU (zig I)) S w2 o2.rd (by omega) (by omega)) (hk := ?_)
  rintro _ w3 ⟨A3, n3, c3, rfl, e3, o3⟩
  have q3 := o3.len
  simp only [bv_length, Nat.mul_one, List.length_append, Array.length_toList] at q3
  have hss : S.data.size = S.size := rfl
  have e03 : Ext w w3 := (e1.ext e2).ext e3
  have hb3 := hb.ext e03
  have z1 := e1.size
  have z2 := e2.size
  have z3 := e3.size
  clear e1 e2 e3 o1 o2
  repeat (refine TL_move (hk := ?_))
  refine TL_append TE (hk := ?_); intro A4 c4 w4 o4 m4 n4
  have e04 : Ext w w4 := Mod.own e03 m4 (o3.hi.mono (by omega))
  have hb4 := hb.ext e04
  rw [← bv_append] at o4
  generalize hB : encU x ++ encU (zig I) ++ (encU S.size ++ S.data.toList) ++ l = B at o4
  have hB1 : B = encU x ++ (encU (zig I) ++ (encU S.size ++ (S.data.toList ++ l))) := by rw [← hB]; simp
  have hBl : B.length = n3 + n := by have := o4.len; simpa using this
  clear m4 n4 hb3
  repeat (first | refine T_seq ?_ | refine T_region ?_ | refine TL_nil ?_ | refine TL_move (hk := ?_) | refine TL_assign (hk := ?_))
  refine TL_call TE (hc := NewReader_c A4 (n3 + n) c4 B w4 o4.rd (by omega)) (hk := ?_)
  rintro _ w5 ⟨b, A5, n5, c5, rfl, e5, hb5, hi5, lo5, R5⟩
  have z5 := e5.size
  have z4 := e04.size
  repeat (first | refine T_seq ?_ | refine T_region ?_ | refine TL_pnil_f TE (hk := ?_) | refine TL_nil ?_ | refine TL_move (hk := ?_) | refine TL_assign (hk := ?_) | refine TL_yes (hk := ?_))
  refine TL_call TE (hc := Uint_c b _ A5 n5 c5 w5 R5) (hk := ?_)
  rintro _ w6 ⟨rfl, m6, R6⟩
  have t6 : RS.take ⟨B, 0, 0, 0, 0⟩ (0 : Nat) num0 = (x, ⟨B, 0 + (encU x).length, 0, 0, 0⟩) := take_dropped (r := B) (by simp) (by rw [hB1]; exact num0_enc _ hx)
  rw [t6] at R6 ⊢
  repeat (first | refine TL_ne_f (hk := ?_) | refine TL_move (hk := ?_) | refine TL_yes (hk := ?_) | refine TL_pick_f (hk := ?_))
  refine TL_call TE (hc := Int_c b _ A5 n5 c5 w6 R6) (hk := ?_)
  rintro _ w7 ⟨rfl, m7, R7⟩
  have t7 : RS.take ⟨B, 0 + (encU x).length, 0, 0, 0⟩ (0 : Int) tInt = (I, ⟨B, 0 + (encU x).length + (encU (zig I)).length, 0 + (encU x).length, 0, 0⟩) :=
    take_dropped (r := encU (zig I) ++ (encU S.size ++ (S.data.toList ++ l))) (by rw [hB1, Nat.zero_add, List.drop_left]) (tInt_enc I _ hI)
  rw [t7] at R7 ⊢
  repeat (first | refine TL_ne_f (hk := ?_) | refine TL_move (hk := ?_) | refine TL_len_s TE (hk := ?_) | refine TL_yes (hk := ?_) | refine TL_pick_f (hk := ?_))
  refine TL_call TE (hc := Text_c b _ A5 n5 c5 (S.size : Int) (by omega) w7 R7) (hk := ?_)
  rintro _ w8 ⟨rfl, m8, R8⟩
  have t8 : RS.take ⟨B, 0 + (encU x).length + (encU (zig I)).length, 0 + (encU x).length, 0, 0⟩ ([] : List UInt8) (tText (S.size : Int)) = (S.data.toList, ⟨B, 0 + (encU x).length + (encU (zig I)).length + ((encU S.size).length + S.size), 0 + (encU x).length + (encU (zig I)).length, 0, 0⟩) :=
    take_dropped (r := encU S.size ++ (S.data.toList ++ l)) (by rw [hB1, Nat.zero_add, ← List.drop_drop, List.drop_left, List.drop_left]) (by have := tText_enc S.data.toList l (by simp; omega); simpa using this)
  rw [t8] at R8 ⊢
  have eS : (⟨S.data.toList.toArray⟩ : ByteArray) = S := by simp
  simp only [eS]
  have e08 : Ext w w8 := Mod.step (e04.ext e5) ((m6.trans m7).trans m8) (fun y hy => .inr (by simp only [List.mem_singleton] at hy; omega))
  clear m6 m7 m8 R5 R6 R7 e5 o4 t6 t7 t8
  repeat (first | refine TL_sne_f (hk := ?_) | refine TL_move (hk := ?_) | refine TL_yes (hk := ?_) | refine TL_pick_f (hk := ?_))
  refine TL_call TE (hc := Rest_c b _ A5 n5 c5 w8 R8) (hk := ?_)
  rintro _ w9 ⟨rfl, e9⟩
  have hrest : (RS.rest ⟨B, 0 + (encU x).length + (encU (zig I)).length + ((encU S.size).length + S.size), 0 + (encU x).length + (encU (zig I)).length, 0, 0⟩) = n := by
    unfold RS.rest
    rw [if_pos rfl]
    simp only
    omega
  rw [hrest]
  have e09 := e08.ext e9
  have hb9 := hb.ext e09
  clear R8 e9 e08 e04 hb4
  repeat (first | refine T_seq ?_ | refine T_region ?_ | refine T_cond_false rfl ?_ | refine T_skip ?_ | refine TL_ne_f (hk := ?_) | refine TL_nil ?_ | refine TL_move (hk := ?_) | refine TL_len TE (hk := ?_) | refine TL_yes (hk := ?_) | refine TL_pick_f (hk := ?_))
  refine TL_call TE (hc := NewReader_c A n c l w9 hb9 (by omega)) (hk := ?_)
  rintro _ w10 ⟨d, A6, n6, c6, rfl, e10, hd10, hi6, lo6, R10⟩
  have z9 := e09.size
  repeat (first | refine T_seq ?_ | refine T_region ?_ | refine T_cond_false rfl ?_ | refine T_skip ?_ | refine TL_pnil_f TE (hk := ?_) | refine TL_nil ?_ | refine TL_move (hk := ?_) | refine TL_assign (hk := ?_))
  refine TL_call TE (hc := Uint_c d _ A6 n6 c6 w10 R10) (hk := ?_)
  rintro _ w11 ⟨rfl, m11, R11⟩
  have e011 : Ext w w11 := Mod.step (e09.ext e10) m11 (fun y hy => .inr (by simp only [List.mem_singleton] at hy; omega))
  repeat (first | refine T_seq ?_ | refine T_region ?_ | refine TL_nil ?_ | refine TL_move (hk := ?_) | refine TL_assign (hk := ?_))
  refine TL_call TE (hc := Why_c d _ A6 n6 c6 w11 R11) (hk := ?_)
  rintro _ w12 ⟨rfl, e12⟩
  have R12 := R11.ext e12
  have e012 := e011.ext e12
  clear R10 R11 e10 e12 e011
  cases hr : num0 l with
  | error e =>
    have hne := num0_err hr
    have ht : RS.take ⟨l, 0, 0, 0, 0⟩ (0 : Nat) num0 = (0, ⟨l, 0, 0, e, 0⟩) := by unfold RS.take; rw [if_pos rfl]; simp only [List.drop_zero, hr]
    rw [ht] at R12 ⊢
    simp only
    repeat (first | refine T_seq ?_ | refine T_region ?_ | refine TL_nil ?_ | refine TL_move (hk := ?_) | refine TL_assign (hk := ?_) | refine TL_extract (hk := ?_))
    refine TL_call TE (hc := num_c e w12) (hk := ?_)
    rintro _ w12 ⟨rfl, rfl⟩
    repeat (first | refine T_seq ?_ | refine T_region ?_ | refine T_cond_true rfl ?_ | refine TL_eq_t (hk := ?_) | refine TL_ne_t (hk := ?_) | refine TL_nil ?_ | refine TL_move (hk := ?_) | refine TL_yes (hk := ?_))
    refine TL_call TE (hc := live_c w12) (hk := ?_)
    rintro _ w13 ⟨rfl, e13⟩
    repeat (first | refine TL_nil ?_ | refine TL_assign (hk := ?_) | refine TL_pick_t (hk := ?_))
    exact T_ret1 rfl rfl ⟨rfl, e012.ext e13⟩
  | ok y =>
    obtain ⟨y, k⟩ := y
    have hy := num0_ok hr
    have hbk := num0_back hr
    have ht : RS.take ⟨l, 0, 0, 0, 0⟩ (0 : Nat) num0 = (y, ⟨l, 0 + k, 0, 0, 0⟩) := take_dropped (r := l) (by simp) hr
    rw [ht] at R12 ⊢
    simp only
    have hrk : RS.rest ⟨l, 0 + k, 0, 0, 0⟩ = n - k := by unfold RS.rest; rw [if_pos rfl]; simp only; omega
    have hb12 := hb.ext e012
    repeat (first | refine T_seq ?_ | refine T_region ?_ | refine TL_nil ?_ | refine TL_move (hk := ?_) | refine TL_assign (hk := ?_) | refine TL_extract (hk := ?_))
    refine TL_call TE (hc := num_c 0 w12) (hk := ?_)
    rintro _ w12 ⟨rfl, rfl⟩
    repeat (first | refine T_seq ?_ | refine T_region ?_ | refine T_cond_false rfl ?_ | refine T_skip ?_ | refine TL_ne_f (hk := ?_) | refine TL_nil ?_ | refine TL_move (hk := ?_) | refine TL_len TE (hk := ?_))
    refine TL_call TE (hc := Rest_c d _ A6 n6 c6 w12 R12) (hk := ?_)
    rintro _ w13 ⟨rfl, e13⟩
    rw [hrk]
    have e013 := e012.ext e13
    clear e012 e13 hb12
    repeat (first | refine T_seq ?_ | refine TL_sub (hk := ?_) | refine TL_nil ?_ | refine TL_assign (hk := ?_))
    rw [show (n : Int) - ((n - k : Nat) : Int) = (k : Int) by omega]
    --
    refine T_region_held TE.mixed [] [(0, true), (1, true), (2, true), (3, true), (4, true), (5, true), (6, true), (7, true), (8, true), (9, true), (11, true), (12, true), (13, true), (10, false), (14, false), (15, true), (16, true), (17, false), (18, true), (19, true)] rfl (by kernel_rfl) rfl (by kernel_rfl) ?_; intro w13a e13a s13a
    have e013a := e013.ext e13a
    repeat (first | refine TL_le_t (hk := ?_) | refine TL_ge_t (hk := ?_) | refine TL_move (hk := ?_) | refine TL_len TE (hk := ?_) | refine TL_yes (hk := ?_) | refine TL_pick_t (hk := ?_) | refine TL_slice_hi TE (hk := ?_))
    refine TL_call TE (hc := PutUint_c none 0 0 [] y w13a rfl (Own.nil w13a 0 5 1).rd (by omega) hy.1) (hq := fun v w' h => by obtain ⟨_, _, _, _, h, _⟩ := h; exact h) (hk := ?_)
    rintro _ w14 ⟨A7, n7, c7, rfl, e14, o14⟩
    rw [List.nil_append] at o14
    have e014 := e013a.ext e14
    have hb14 := hb.ext e014
    have hcut : Rd w14 A k 1 (bv (l.take k)) := by have := hb14.take (h := k) (by omega); simpa [bv] using this
    clear e013 hb14
    repeat (refine TL_yes (hk := ?_))
    refine TL_call TE (hc := same_c A7 A n7 k c7 c (encU y) (l.take k) w14 o14.rd hcut) (hq := fun v w' h => h.2 ▸ e14) (hk := ?_)
    rintro _ w15 ⟨rfl, rfl⟩
    rw [decide_eq_true hbk]
    repeat (first | refine TL_move (hk := ?_) | refine TL_yes (hk := ?_) | refine TL_pick_t (hk := ?_))
    refine TL_call TE (hc := live_c w15) (hq := fun v w' h => e14.ext h.2) (hk := ?_)
    rintro _ w16 ⟨rfl, e16⟩
    repeat (first | refine TL_assign (hk := ?_) | refine TL_pick_t (hk := ?_))
    refine TL_nil_h ?_
    --
    exact T_ret1 rfl rfl ⟨rfl, e014.ext e16⟩
end Go.Proofs.Ytkmdmpmimojmbaa
