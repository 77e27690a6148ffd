import Derived.Test.YtkmdmpmimojmbaaCW5
import Derived.Test.YtkmdmpmimojmbaaCW4
import Derived.Test.YtkmdmpmimojmbaaCW9
import Derived.Test.YtkmdmpmimojmbaaCW10
import Derived.Test.YtkmdmpmimojmbaaEng7
namespace Go.Proofs.Ytkmdmpmimojmbaa
open Go.RowKit Go.Proofs.Eng Go.Proofs.Codec
set_option linter.unusedSimpArgs false
set_option linter.unusedVariables false
attribute [local irreducible] T TL LV TH
set_option maxHeartbeats 1000000
def liveB : List UInt8 := [172, 2, 9, 2, 97, 98]
theorem liveB_eq : (([] ++ encU 300) ++ encU (zig (-5))) ++ (encU (ByteArray.mk #[97, 98]).size ++ (ByteArray.mk #[97, 98]).data.toList) = liveB := by kernel_rfl
theorem live1 : RS.take ⟨liveB, 0, 0, 0, 0⟩ (0 : Nat) num0 = (300, ⟨liveB, 2, 0, 0, 0⟩) := by kernel_rfl
theorem live2 : RS.take ⟨liveB, 2, 0, 0, 0⟩ (0 : Int) tInt = (-5, ⟨liveB, 3, 2, 0, 0⟩) := by kernel_rfl
theorem live3 : RS.take ⟨liveB, 3, 2, 0, 0⟩ ([] : List UInt8) (tText 2) = ([97, 98], ⟨liveB, 6, 3, 0, 0⟩) := by kernel_rfl
theorem live4 : RS.fin ⟨liveB, 6, 3, 0, 0⟩ = ⟨liveB, 6, 3, 0, 0⟩ := by kernel_rfl
theorem live5a : (openF (frame [120, 121])).1 = [120, 121] := by kernel_rfl
theorem live5b : (openF (frame [120, 121])).2.1 = 10 := by kernel_rfl
theorem live5c : (openF (frame [120, 121])).2.2 = 0 := by kernel_rfl
theorem live6 : crc [49, 50, 51, 52, 53, 54, 55, 56, 57] = 3421780262 := by kernel_rfl
theorem live_c (w : World) : Ret Try.prog 12 [] w (fun v w' => v = .bool true ∧ Ext w w') := by
  refine ret_T (n := 71) Try.func12 rfl rfl ?_
  repeat (first | refine T_seq ?_ | refine T_region ?_ | refine TL_nil ?_ | refine TL_assign (hk := ?_))
  refine TL_call TE (hc := PutUint_c none 0 0 [] 300 w rfl (Own.nil w 0 5 1).rd (by omega) (by omega)) (hk := ?_)
  rintro _ w1 ⟨A1, n1, c1, rfl, e1, o1⟩
  have l1 : n1 = 2 := by have := o1.len; have h : (bv ([] ++ encU 300)).length = 2 := by kernel_rfl
                         omega
  --
  refine TL_call TE (hc := PutInt_c A1 n1 c1 ([] ++ encU 300) (-5) w1 o1.rd (by omega) (by omega)) (hk := ?_)
  rintro _ w2 ⟨A2, n2, c2, rfl, e2, o2⟩
  have l2 : n2 = 3 := by have := o2.len; have h : (bv (([] ++ encU 300) ++ encU (zig (-5)))).length = 3 := by kernel_rfl
                         omega
  --
  refine TL_call TE (hc := PutText_c A2 n2 c2 (([] ++ encU 300) ++ encU (zig (-5))) ⟨#[97, 98]⟩ w2 o2.rd (by omega) (by decide)) (hk := ?_)
  rintro _ w3 ⟨A3, n3, c3, rfl, e3, o3⟩
  rw [liveB_eq] at o3
  have l3 : n3 = 6 := by have := o3.len; have h : (bv liveB).length = 6 := by kernel_rfl
                         omega
  repeat (first | refine T_seq ?_ | refine T_region ?_ | refine TL_nil ?_ | refine TL_move (hk := ?_) | refine TL_assign (hk := ?_))
  refine TL_call TE (hc := NewReader_c A3 n3 c3 liveB w3 o3.rd (by omega)) (hk := ?_)
  rintro _ w4 ⟨b, A4, n4, c4, rfl, e4, hb4, hi4, lo4, R4⟩
  repeat (first | refine T_seq ?_ | refine T_region ?_ | refine TL_pnil_f TE (hk := ?_) | refine TL_nil ?_ | refine TL_move (hk := ?_) | refine TL_assign (hk := ?_) | refine TL_yes (hk := ?_))
  refine TL_call TE (hc := Uint_c b _ A4 n4 c4 w4 R4) (hk := ?_)
  rintro _ w5 ⟨rfl, m5, R5⟩
  rw [live1] at R5 ⊢
  repeat (first | refine TL_ne_f (hk := ?_) | refine TL_move (hk := ?_) | refine TL_yes (hk := ?_) | refine TL_pick_f (hk := ?_))
  refine TL_call TE (hc := Int_c b _ A4 n4 c4 w5 R5) (hk := ?_)
  rintro _ w6 ⟨rfl, m6, R6⟩
  rw [live2] at R6 ⊢
  repeat (first | refine TL_ne_f (hk := ?_) | refine TL_move (hk := ?_) | refine TL_yes (hk := ?_) | refine TL_pick_f (hk := ?_))
  refine TL_call TE (hc := Text_c b _ A4 n4 c4 2 (by omega) w6 R6) (hk := ?_)
  rintro _ w7 ⟨rfl, m7, R7⟩
  rw [live3] at R7 ⊢
  repeat (first | refine TL_sne_f (hk := ?_) | refine TL_move (hk := ?_) | refine TL_yes (hk := ?_) | refine TL_pick_f (hk := ?_))
  refine TL_call TE (hc := End_c b _ A4 n4 c4 w7 R7) (hk := ?_)
  rintro _ w8 ⟨rfl, m8, R8⟩
  rw [live4] at R8 ⊢
  repeat (refine TL_yes (hk := ?_))
  refine TL_call TE (hc := num_c 0 w8) (hk := ?_)
  rintro _ w8 ⟨rfl, rfl⟩
  repeat (first | refine T_seq ?_ | refine T_region ?_ | refine T_cond_false rfl ?_ | refine T_skip ?_ | refine TL_ne_f (hk := ?_) | refine TL_nil ?_ | refine TL_yes (hk := ?_) | refine TL_pick_f (hk := ?_))
  have e04 : Ext w w4 := ((e1.ext e2).ext e3).ext e4
  have hb0 : w.heap.size ≤ b := by have := e1.size; have := e2.size; have := e3.size; omega
  have e08 : Ext w w8 := by
    have a1 := ((m5.trans m6).trans m7).trans m8
    exact Mod.step e04 a1 (fun y hy => .inr (by simp only [List.mem_singleton] at hy; omega))
  clear e1 e2 e3 e4 m5 m6 m7 m8 R4 R5 R6 R7 R8 o1 o2 o3
  have s08 := e08.size
  refine TL_buildSlice TE (hk := ?_); intro b9 w9 e9 h91 h92 k9
  refine TL_conv_ss TE rfl rfl rfl rfl k9 rfl (hk := ?_)
  intro w10 m10 s10 r10
  have r10' : Rd w10 (some ⟨b9, 0, none⟩) 2 1 (bv [120, 121]) := r10
  have e010 : Ext w w10 := Mod.step (e08.ext e9) m10 (fun y hy => .inr (by simp only [List.mem_singleton] at hy; omega))
  clear e9 m10 r10
  refine TL_call TE (hc := Seal_c (some ⟨b9, 0, none⟩) 2 2 [120, 121] w10 r10' (by omega)) (hk := ?_)
  rintro _ w11 ⟨A11, c11, rfl, e11, o11⟩
  repeat (first | refine T_seq ?_ | refine T_region ?_ | refine TL_nil ?_ | refine TL_move (hk := ?_) | refine TL_assign (hk := ?_) | refine TL_extract (hk := ?_))
  refine TL_call TE (hc := Open_c A11 (2 + 8) c11 (frame [120, 121]) w11 o11.rd (by omega) o11.cap.1) (hk := ?_)
  rintro _ w12 ⟨A12, n12, c12, rfl, e12, o12⟩
  rw [live5a] at o12
  rw [live5b, live5c]
  have e012 : Ext w w12 := (e010.ext e11).ext e12
  clear e11 e12 e010
  repeat (first | refine T_seq ?_ | refine T_region ?_ | refine TL_nil ?_ | refine TL_move (hk := ?_) | refine TL_assign (hk := ?_) | refine TL_extract (hk := ?_))
  refine TL_call TE (hc := num_c 0 w12) (hk := ?_)
  rintro _ w12 ⟨rfl, rfl⟩
  repeat (first | refine TL_eq_t (hk := ?_) | refine TL_move (hk := ?_) | refine TL_yes (hk := ?_))
  refine TL_call TE (hc := num_c 0 w12) (hk := ?_)
  rintro _ w12 ⟨rfl, rfl⟩
  repeat (first | refine TL_eq_t (hk := ?_) | refine TL_seq_t (hk := ?_) | refine TL_move (hk := ?_) | refine TL_yes (hk := ?_) | refine TL_pick_t (hk := ?_) | refine TL_conv_bs TE (hk := ?_))
  refine TL_buildSlice TE (hk := ?_); intro b13 w13 e13 h131 h132 k13
  repeat (refine TL_yes (hk := ?_))
  refine TL_conv_ss TE rfl rfl rfl rfl k13 rfl (hk := ?_)
  intro w14 m14 s14 r14
  have r14' : Rd w14 (some ⟨b13, 0, none⟩) 9 1 (bv [49, 50, 51, 52, 53, 54, 55, 56, 57]) := r14
  have s012 := e012.size
  have e014 : Ext w w14 := Mod.step (e012.ext e13) m14 (fun y hy => .inr (by simp only [List.mem_singleton] at hy; omega))
  clear e13 m14 r14
  repeat (refine TL_yes (hk := ?_))
  refine TL_call TE (hc := Sum_c (some ⟨b13, 0, none⟩) 9 9 [49, 50, 51, 52, 53, 54, 55, 56, 57] w14 r14' (by omega)) (hk := ?_)
  rintro _ w14 ⟨rfl, rfl⟩
  rw [live6]
  repeat (first | refine TL_eq_t (hk := ?_) | refine TL_nil ?_ | refine TL_assign (hk := ?_) | refine TL_yes (hk := ?_) | refine TL_pick_t (hk := ?_))
  exact T_ret1 rfl rfl ⟨rfl, e014⟩
end Go.Proofs.Ytkmdmpmimojmbaa
