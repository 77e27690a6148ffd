import Derived.Test.YtkmdmpmimojmbaaCW12
import Derived.Test.YtkmdmpmimojmbaaCW15
import Derived.Test.YtkmdmpmimojmbaaEng9
namespace Go.Proofs.Ytkmdmpmimojmbaa
open Go.RowKit Go.Proofs.Eng Go.Proofs.Codec
set_option linter.unusedSimpArgs false
set_option linter.unusedVariables false
attribute [local irreducible] T TL LV TH
set_option maxHeartbeats 1000000

def readS (K m e : Int) (s : RS) : RS :=
  if K = 1 then (s.take (0 : Nat) tByte).2 else if K = 2 then (s.take (0 : Nat) num0).2 else if K = 3 then (s.take (0 : Int) tInt).2 else if K = 4 then (s.take (0 : Nat) (tLim m 6)).2
  else if K = 5 then (s.take ([] : List UInt8) (tText m)).2 else if K = 6 then s.fail e else if K = 7 then s.fin else s
theorem reads_c (bp br : Nat) (s : RS) (Ap Ar : Option Addr) (np cp nr cr : Nat) (K m e : Int) (hm : -9223372036854775808 ≤ m ∧ m ≤ 9223372036854775807) (w : World)
    (hp : Rdr w 76 bp s Ap np cp) (hr : Rdr w 67 br s Ar nr cr) (hne : bp ≠ br) (hA1 : Off Ap [br]) (hA2 : Off Ar [bp]) :
    Ret Try.prog 37 [ptr bp, ptr br, .agg #[.int .i64 K, .int .i64 m, .int .i64 e]] w (fun v w' => v = .bool true ∧ Mod [bp, br] w w' ∧
      Rdr w' 76 bp (readS K m e s) Ap np cp ∧ Rdr w' 67 br (readS K m e s) Ar nr cr) := by
  have lp := hp.blk.lt
  have lr := hr.blk.lt
  have n1 : br ∉ [bp] := by simpa using Ne.symm hne
  have n2 : bp ∉ [br] := by simpa using hne
  have g1 : ∀ {a b c : World}, Mod [bp, br] a b → Mod [bp] b c → Mod [bp, br] a c := fun h k => h.step k (fun q hq => .inl (by simp only [List.mem_cons, List.not_mem_nil, or_false] at hq ⊢; exact .inl hq))
  have g2 : ∀ {a b c : World}, Mod [bp, br] a b → Mod [br] b c → Mod [bp, br] a c := fun h k => h.step k (fun q hq => .inl (by simp only [List.mem_cons, List.not_mem_nil, or_false] at hq ⊢; exact .inr hq))
  unfold readS
  refine ret_T (n := 75) Try.func37 rfl rfl ?_
  repeat (first | refine T_seq ?_ | refine T_region ?_)
  refine TL_box (hk := ?_); intro x w1 e1 h1 h1' k1
  have hp1 := hp.ext e1
  have hr1 := hr.ext e1
  have d1 : Mod [bp, br] w w1 := Ext.mod e1
  by_cases K1 : K = 1
  · subst K1
    simp only [reduceIte, show ¬ ((2 : Int) = 1) by decide, show ¬ ((3 : Int) = 1) by decide, show ¬ ((3 : Int) = 2) by decide]
    repeat (first | refine T_seq ?_ | refine T_region ?_ | refine T_cond_true rfl ?_ | refine T_block ?_ | refine TL_eq_t (hk := ?_) | refine TL_nil ?_ | refine TL_move (hk := ?_) | refine TL_assign (hk := ?_) | refine TL_load TE (hk := ?_) | refine TL_fieldAddr TE (hk := ?_))
    refine TL_call TE (hc := Byte_c bp s Ap np cp w1 hp1) (hk := ?_)
    rintro _ w2 ⟨rfl, m2, hp2⟩
    have hr2 := hr1.mod m2 n1 hA2
    repeat (refine TL_move (hk := ?_))
    refine TL_call TE (hc := RByte_c br s Ar nr cr w2 hr2) (hk := ?_)
    rintro _ w3 ⟨rfl, m3, hr3⟩
    have hp3 := hp2.mod m3 n2 hA1
    repeat (first | refine TL_eq_t (hk := ?_) | refine TL_nil ?_ | refine TL_assign (hk := ?_))
    exact T_ret1 rfl rfl ⟨rfl, g2 (g1 d1 m2) m3, hp3, hr3⟩
  by_cases K2 : K = 2
  · subst K2
    simp only [reduceIte, show ¬ ((2 : Int) = 1) by decide, show ¬ ((3 : Int) = 1) by decide, show ¬ ((3 : Int) = 2) by decide]
    repeat (first | refine T_seq ?_ | refine T_region ?_ | refine T_cond_true rfl ?_ | refine T_cond_false rfl ?_ | refine T_block ?_ | refine TL_eq_t (hk := ?_) | refine TL_eq_f (hk := ?_) | refine TL_nil ?_ | refine TL_move (hk := ?_) | refine TL_assign (hk := ?_) | refine TL_load TE (hk := ?_) | refine TL_fieldAddr TE (hk := ?_))
    refine TL_call TE (hc := Uint_c bp s Ap np cp w1 hp1) (hk := ?_)
    rintro _ w2 ⟨rfl, m2, hp2⟩
    have hr2 := hr1.mod m2 n1 hA2
    repeat (refine TL_move (hk := ?_))
    refine TL_call TE (hc := RUint_c br s Ar nr cr w2 hr2) (hk := ?_)
    rintro _ w3 ⟨rfl, m3, hr3⟩
    have hp3 := hp2.mod m3 n2 hA1
    repeat (first | refine TL_eq_t (hk := ?_) | refine TL_nil ?_ | refine TL_assign (hk := ?_))
    exact T_ret1 rfl rfl ⟨rfl, g2 (g1 d1 m2) m3, hp3, hr3⟩
  by_cases K3 : K = 3
  · subst K3
    simp only [reduceIte, show ¬ ((2 : Int) = 1) by decide, show ¬ ((3 : Int) = 1) by decide, show ¬ ((3 : Int) = 2) by decide]
    repeat (first | refine T_seq ?_ | refine T_region ?_ | refine T_cond_true rfl ?_ | refine T_cond_false rfl ?_ | refine T_block ?_ | refine TL_eq_t (hk := ?_) | refine TL_eq_f (hk := ?_) | refine TL_nil ?_ | refine TL_move (hk := ?_) | refine TL_assign (hk := ?_) | refine TL_load TE (hk := ?_) | refine TL_fieldAddr TE (hk := ?_))
    refine TL_call TE (hc := Int_c bp s Ap np cp w1 hp1) (hk := ?_)
    rintro _ w2 ⟨rfl, m2, hp2⟩
    have hr2 := hr1.mod m2 n1 hA2
    repeat (refine TL_move (hk := ?_))
    refine TL_call TE (hc := RInt_c br s Ar nr cr w2 hr2) (hk := ?_)
    rintro _ w3 ⟨rfl, m3, hr3⟩
    have hp3 := hp2.mod m3 n2 hA1
    repeat (first | refine TL_eq_t (hk := ?_) | refine TL_nil ?_ | refine TL_assign (hk := ?_))
    exact T_ret1 rfl rfl ⟨rfl, g2 (g1 d1 m2) m3, hp3, hr3⟩
  rw [if_neg K1, if_neg K2, if_neg K3]
  by_cases K4 : K = 4
  · subst K4
    simp only [reduceIte, show ¬ ((5 : Int) = 4) by decide]
    repeat (first | refine T_seq ?_ | refine T_region ?_ | refine T_cond_true rfl ?_ | refine T_cond_false rfl ?_ | refine T_block ?_ | refine TL_eq_t (hk := ?_) | refine TL_eq_f (hk := ?_) | refine TL_nil ?_ | refine TL_assign (hk := ?_) | refine TL_load TE (hk := ?_) | refine TL_fieldAddr TE (hk := ?_))
    refine T_region_held TE.mixed [bp, br] [(0, true), (1, true), (2, true), (4, true), (5, true), (6, true), (3, false), (7, false), (8, true), (9, true)] rfl (by kernel_rfl) rfl (by kernel_rfl) ?_; intro w1a e1a s1a
    have d1a : Mod [bp, br] w1a w1a := Mod.refl _ _
    have hp1a := hp1.ext e1a
    have hr1a := hr1.ext e1a
    have k1a := k1.be e1a
    repeat (first | refine TL_move (hk := ?_) | refine TLH_load TE (hk := ?_) | refine TL_fieldAddr TE (hk := ?_))
    refine TL_call TE (hc := Count_c bp s Ap np cp m hm w1a hp1a) (hq := fun v w' h => g1 d1a h.2.1) (hk := ?_)
    rintro _ w2 ⟨rfl, m2, hp2⟩
    have hr2 := hr1a.mod m2 n1 hA2
    refine TL_call TE (hc := RCount_c br s Ar nr cr m hm w2 hr2) (hq := fun v w' h => g2 (g1 d1a m2) h.2.1) (hk := ?_)
    rintro _ w3 ⟨rfl, m3, hr3⟩
    have hp3 := hp2.mod m3 n2 hA1
    repeat (first | refine TL_eq_t (hk := ?_) | refine TL_assign (hk := ?_))
    refine TL_nil_h ?_
    --
    exact T_ret1 rfl rfl ⟨rfl, g2 (g1 (d1.ext e1a) m2) m3, hp3, hr3⟩
  by_cases K5 : K = 5
  · subst K5
    simp only [reduceIte, show ¬ ((5 : Int) = 4) by decide]
    repeat (first | refine T_seq ?_ | refine T_region ?_ | refine T_cond_true rfl ?_ | refine T_cond_false rfl ?_ | refine T_block ?_ | refine TL_eq_t (hk := ?_) | refine TL_eq_f (hk := ?_) | refine TL_nil ?_ | refine TL_assign (hk := ?_) | refine TL_load TE (hk := ?_) | refine TL_fieldAddr TE (hk := ?_))
    refine T_region_held TE.mixed [bp, br] [(0, true), (1, true), (2, true), (4, true), (5, true), (6, true), (3, false), (7, false), (8, true), (9, true)] rfl (by kernel_rfl) rfl (by kernel_rfl) ?_; intro w1a e1a s1a
    have d1a : Mod [bp, br] w1a w1a := Mod.refl _ _
    have hp1a := hp1.ext e1a
    have hr1a := hr1.ext e1a
    have k1a := k1.be e1a
    repeat (first | refine TL_move (hk := ?_) | refine TLH_load TE (hk := ?_) | refine TL_fieldAddr TE (hk := ?_))
    refine TL_call TE (hc := Text_c bp s Ap np cp m hm w1a hp1a) (hq := fun v w' h => g1 d1a h.2.1) (hk := ?_)
    rintro _ w2 ⟨rfl, m2, hp2⟩
    have hr2 := hr1a.mod m2 n1 hA2
    refine TL_call TE (hc := RText_c br s Ar nr cr m hm w2 hr2) (hq := fun v w' h => g2 (g1 d1a m2) h.2.1) (hk := ?_)
    rintro _ w3 ⟨rfl, m3, hr3⟩
    have hp3 := hp2.mod m3 n2 hA1
    repeat (first | refine TL_seq_t (hk := ?_) | refine TL_assign (hk := ?_))
    refine TL_nil_h ?_
    --
    exact T_ret1 rfl rfl ⟨rfl, g2 (g1 (d1.ext e1a) m2) m3, hp3, hr3⟩
  rw [if_neg K4, if_neg K5]
  by_cases K6 : K = 6
  · subst K6
    simp only [reduceIte]
    repeat (first | refine T_seq ?_ | refine T_region ?_ | refine T_cond_true rfl ?_ | refine T_cond_false rfl ?_ | refine T_block ?_ | refine TL_eq_t (hk := ?_) | refine TL_eq_f (hk := ?_) | refine TL_nil ?_ | refine TL_move (hk := ?_) | refine TL_assign (hk := ?_) | refine TL_load TE (hk := ?_) | refine TL_fieldAddr TE (hk := ?_))
    refine TL_call TE (hc := Fail_c bp s Ap np cp e w1 hp1) (hk := ?_)
    rintro _ w2 ⟨rfl, m2, hp2⟩
    have hr2 := hr1.mod m2 n1 hA2
    have k2 := k1.mod m2 (by simp only [List.mem_cons, List.not_mem_nil, or_false]; omega)
    repeat (first | refine T_region ?_ | refine TL_nil ?_ | refine TL_move (hk := ?_) | refine TL_load TE (hk := ?_) | refine TL_fieldAddr TE (hk := ?_))
    refine TL_call TE (hc := RFail_c br s Ar nr cr e w2 hr2) (hk := ?_)
    rintro _ w3 ⟨rfl, m3, hr3⟩
    have hp3 := hp2.mod m3 n2 hA1
    repeat (first | refine T_seq ?_ | refine T_region ?_ | refine T_inBlock ?_ | refine TL_nil ?_ | refine TL_move (hk := ?_))
    refine TL_call TE (hc := Rest_c bp _ Ap np cp w3 hp3) (hk := ?_)
    rintro _ w4 ⟨rfl, e4⟩
    repeat (refine TL_move (hk := ?_))
    refine TL_call TE (hc := RRest_c br _ Ar nr cr w4 (hr3.ext e4)) (hk := ?_)
    rintro _ w5 ⟨rfl, e5⟩
    repeat (first | refine TL_eq_t (hk := ?_) | refine TL_nil ?_ | refine TL_assign (hk := ?_))
    exact T_ret1 rfl rfl ⟨rfl, (g2 (g1 d1 m2) m3).ext (e4.ext e5), hp3.ext (e4.ext e5), hr3.ext (e4.ext e5)⟩
  rw [if_neg K6]
  by_cases K7 : K = 7
  · subst K7
    simp only [reduceIte]
    repeat (first | refine T_seq ?_ | refine T_region ?_ | refine T_cond_true rfl ?_ | refine T_cond_false rfl ?_ | refine T_block ?_ | refine TL_eq_t (hk := ?_) | refine TL_eq_f (hk := ?_) | refine TL_nil ?_ | refine TL_move (hk := ?_) | refine TL_assign (hk := ?_) | refine TL_load TE (hk := ?_) | refine TL_fieldAddr TE (hk := ?_))
    refine TL_call TE (hc := End_c bp s Ap np cp w1 hp1) (hk := ?_)
    rintro _ w2 ⟨rfl, m2, hp2⟩
    have hr2 := hr1.mod m2 n1 hA2
    --
    refine TL_call TE (hc := num_c _ w2) (hk := ?_)
    rintro _ w2 ⟨rfl, rfl⟩
    repeat (refine TL_move (hk := ?_))
    refine TL_call TE (hc := REnd_c br s Ar nr cr w2 hr2) (hk := ?_)
    rintro _ w3 ⟨rfl, m3, hr3⟩
    have hp3 := hp2.mod m3 n2 hA1
    repeat (first | refine TL_eq_t (hk := ?_) | refine TL_nil ?_ | refine TL_assign (hk := ?_))
    exact T_ret1 rfl rfl ⟨rfl, g2 (g1 d1 m2) m3, hp3, hr3⟩
  rw [if_neg K7]
  repeat (first | refine T_seq ?_ | refine T_region ?_ | refine T_cond_false rfl ?_ | refine T_block ?_ | refine T_inBlock ?_ | refine T_skip ?_ | refine TL_eq_f (hk := ?_) | refine TL_nil ?_ | refine TL_move (hk := ?_) | refine TL_assign (hk := ?_) | refine TL_load TE (hk := ?_) | refine TL_fieldAddr TE (hk := ?_))
  refine TL_call TE (hc := Rest_c bp _ Ap np cp w1 hp1) (hk := ?_)
  rintro _ w4 ⟨rfl, e4⟩
  repeat (refine TL_move (hk := ?_))
  refine TL_call TE (hc := RRest_c br _ Ar nr cr w4 (hr1.ext e4)) (hk := ?_)
  rintro _ w5 ⟨rfl, e5⟩
  repeat (first | refine TL_eq_t (hk := ?_) | refine TL_nil ?_ | refine TL_assign (hk := ?_))
  exact T_ret1 rfl rfl ⟨rfl, d1.ext (e4.ext e5), hp1.ext (e4.ext e5), hr1.ext (e4.ext e5)⟩
end Go.Proofs.Ytkmdmpmimojmbaa
