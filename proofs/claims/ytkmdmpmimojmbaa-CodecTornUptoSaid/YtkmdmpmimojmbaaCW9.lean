import Derived.Test.YtkmdmpmimojmbaaCW8
import Derived.Test.YtkmdmpmimojmbaaCW8n
namespace Go.Proofs.Ytkmdmpmimojmbaa
open Go.RowKit Go.Proofs.Eng Go.Proofs.Codec
set_option linter.unusedSimpArgs false
set_option linter.unusedVariables false
attribute [local irreducible] T TL LV TH
set_option maxHeartbeats 1000000
theorem Byte_c (b : Nat) (s : RS) (A : Option Addr) (n c : Nat) (w : World) (h : Rdr w 76 b s A n c) :
    Ret Try.prog 40 [ptr b] w (fun v w' => v = (fun x : Nat => Value.int .u8 (x : Int)) (s.take (0 : Nat) tByte).1 ∧ Mod [b] w w' ∧ Rdr w' 76 b (s.take (0 : Nat) tByte).2 A n c) := by
  refine ret_T (n := 7) Try.func40 rfl rfl ?_
  repeat (first | refine T_seq ?_ | refine T_region ?_ | refine TL_nil ?_ | refine TL_move (hk := ?_) | refine TL_assign (hk := ?_) | refine TL_makeFunc (hk := ?_))
  refine TL_call TE (hc := rd_byte b s A n c w 63 [ptr b] [] (fun x : Nat => Value.int .u8 (x : Int)) (0 : Nat) rfl (fun _ => rfl) tByte rfl h (fun w' e => byte_c b s A n c w' (h.ext e))) (hk := ?_)
  rintro _ w1 ⟨rfl, m1, h1⟩
  repeat (first | refine TL_nil ?_ | refine TL_assign (hk := ?_))
  exact T_ret1 rfl rfl ⟨rfl, m1, h1⟩
theorem Byte_n (w : World) : Ret Try.prog 40 [.pointer none] w (fun v w' => v = (fun x : Nat => Value.int .u8 (x : Int)) (0 : Nat) ∧ Ext w w') := by
  refine ret_T (n := 7) Try.func40 rfl rfl ?_
  repeat (first | refine T_seq ?_ | refine T_region ?_ | refine TL_nil ?_ | refine TL_move (hk := ?_) | refine TL_assign (hk := ?_) | refine TL_makeFunc (hk := ?_))
  refine TL_call TE (hc := rdn_byte w (.func 63) [.pointer none] []) (hk := ?_)
  rintro _ w1 ⟨rfl, m1⟩
  repeat (first | refine TL_nil ?_ | refine TL_assign (hk := ?_))
  exact T_ret1 rfl rfl ⟨rfl, m1⟩
theorem Uint_c (b : Nat) (s : RS) (A : Option Addr) (n c : Nat) (w : World) (h : Rdr w 76 b s A n c) :
    Ret Try.prog 25 [ptr b] w (fun v w' => v = (fun x : Nat => Value.int .u64 (x : Int)) (s.take (0 : Nat) num0).1 ∧ Mod [b] w w' ∧ Rdr w' 76 b (s.take (0 : Nat) num0).2 A n c) := by
  refine ret_T (n := 7) Try.func25 rfl rfl ?_
  repeat (first | refine T_seq ?_ | refine T_region ?_ | refine TL_nil ?_ | refine TL_move (hk := ?_) | refine TL_assign (hk := ?_) | refine TL_makeFunc (hk := ?_))
  refine TL_call TE (hc := rd_uint64 b s A n c w 47 [ptr b] [] (fun x : Nat => Value.int .u64 (x : Int)) (0 : Nat) rfl (fun _ => rfl) num0 rfl h (fun w' e => uint_c b s A n c w' (h.ext e))) (hk := ?_)
  rintro _ w1 ⟨rfl, m1, h1⟩
  repeat (first | refine TL_nil ?_ | refine TL_assign (hk := ?_))
  exact T_ret1 rfl rfl ⟨rfl, m1, h1⟩
theorem Uint_n (w : World) : Ret Try.prog 25 [.pointer none] w (fun v w' => v = (fun x : Nat => Value.int .u64 (x : Int)) (0 : Nat) ∧ Ext w w') := by
  refine ret_T (n := 7) Try.func25 rfl rfl ?_
  repeat (first | refine T_seq ?_ | refine T_region ?_ | refine TL_nil ?_ | refine TL_move (hk := ?_) | refine TL_assign (hk := ?_) | refine TL_makeFunc (hk := ?_))
  refine TL_call TE (hc := rdn_uint64 w (.func 47) [.pointer none] []) (hk := ?_)
  rintro _ w1 ⟨rfl, m1⟩
  repeat (first | refine TL_nil ?_ | refine TL_assign (hk := ?_))
  exact T_ret1 rfl rfl ⟨rfl, m1⟩
theorem Int_c (b : Nat) (s : RS) (A : Option Addr) (n c : Nat) (w : World) (h : Rdr w 76 b s A n c) :
    Ret Try.prog 26 [ptr b] w (fun v w' => v = (fun x : Int => Value.int .i64 x) (s.take (0 : Int) tInt).1 ∧ Mod [b] w w' ∧ Rdr w' 76 b (s.take (0 : Int) tInt).2 A n c) := by
  refine ret_T (n := 7) Try.func26 rfl rfl ?_
  repeat (first | refine T_seq ?_ | refine T_region ?_ | refine TL_nil ?_ | refine TL_move (hk := ?_) | refine TL_assign (hk := ?_) | refine TL_makeFunc (hk := ?_))
  refine TL_call TE (hc := rd_int64 b s A n c w 49 [ptr b] [] (fun x : Int => Value.int .i64 x) (0 : Int) rfl (fun _ => rfl) tInt rfl h (fun w' e => int_c b s A n c w' (h.ext e))) (hk := ?_)
  rintro _ w1 ⟨rfl, m1, h1⟩
  repeat (first | refine TL_nil ?_ | refine TL_assign (hk := ?_))
  exact T_ret1 rfl rfl ⟨rfl, m1, h1⟩
theorem Int_n (w : World) : Ret Try.prog 26 [.pointer none] w (fun v w' => v = (fun x : Int => Value.int .i64 x) (0 : Int) ∧ Ext w w') := by
  refine ret_T (n := 7) Try.func26 rfl rfl ?_
  repeat (first | refine T_seq ?_ | refine T_region ?_ | refine TL_nil ?_ | refine TL_move (hk := ?_) | refine TL_assign (hk := ?_) | refine TL_makeFunc (hk := ?_))
  refine TL_call TE (hc := rdn_int64 w (.func 49) [.pointer none] []) (hk := ?_)
  rintro _ w1 ⟨rfl, m1⟩
  repeat (first | refine TL_nil ?_ | refine TL_assign (hk := ?_))
  exact T_ret1 rfl rfl ⟨rfl, m1⟩
theorem Count_c (b : Nat) (s : RS) (A : Option Addr) (n c : Nat) (most : Int) (hmo : -9223372036854775808 ≤ most ∧ most ≤ 9223372036854775807) (w : World) (h : Rdr w 76 b s A n c) :
    Ret Try.prog 41 [ptr b, .int .i64 most] w (fun v w' => v = (fun x : Nat => Value.int .i64 (x : Int)) (s.take (0 : Nat) (tLim most 6)).1 ∧ Mod [b] w w' ∧ Rdr w' 76 b (s.take (0 : Nat) (tLim most 6)).2 A n c) := by
  refine ret_T (n := 8) Try.func41 rfl rfl ?_
  repeat (first | refine T_seq ?_ | refine T_region ?_)
  refine TL_box (hk := ?_); intro x1 w1 e1 g1 g1' k1
  --
  refine TL_box (hk := ?_); intro x2 w2 e2 g2 g2' k2
  have k12 : Blk w2 x1 _ [ptr b] := k1.be e2
  have k22 : Blk w2 x2 _ [.int .i64 most] := k2
  have e02 : Ext w w2 := e1.ext e2
  have lb := h.blk.lt
  repeat (first | refine T_seq ?_ | refine T_region ?_ | refine TL_nil ?_ | refine TL_assign (hk := ?_) | refine TL_load TE (hk := ?_) | refine TL_makeFunc (hk := ?_))
  refine TL_call TE (hc := rd_int b s A n c w2 65 [] [ptr x1, ptr x2] (fun x : Nat => Value.int .i64 (x : Int)) (0 : Nat) rfl (fun _ => rfl) (tLim most 6) rfl (h.ext e02) (fun w' e => Count1_c b x1 x2 _ _ s A n c most hmo w' ((h.ext e02).ext e) (k12.ext e) (k22.ext e) )) (hk := ?_)
  rintro _ w3 ⟨rfl, m3, h3⟩
  repeat (first | refine TL_nil ?_ | refine TL_assign (hk := ?_))
  exact T_ret1 rfl rfl ⟨rfl, (Ext.mod e02).trans m3, h3⟩
theorem Count_n (most : Int) (w : World) : Ret Try.prog 41 [.pointer none, .int .i64 most] w (fun v w' => v = (fun x : Nat => Value.int .i64 (x : Int)) (0 : Nat) ∧ Ext w w') := by
  refine ret_T (n := 8) Try.func41 rfl rfl ?_
  repeat (first | refine T_seq ?_ | refine T_region ?_)
  refine TL_box (hk := ?_); intro x1 w1 e1 g1 g1' k1
  --
  refine TL_box (hk := ?_); intro x2 w2 e2 g2 g2' k2
  have k12 := k1.be e2
  repeat (first | refine T_seq ?_ | refine T_region ?_ | refine TL_nil ?_ | refine TL_assign (hk := ?_) | refine TL_load TE (hk := ?_) | refine TL_makeFunc (hk := ?_))
  refine TL_call TE (hc := rdn_int w2 (.func 65) [] [ptr x1, ptr x2]) (hk := ?_)
  rintro _ w3 ⟨rfl, m3⟩
  repeat (first | refine TL_nil ?_ | refine TL_assign (hk := ?_))
  exact T_ret1 rfl rfl ⟨rfl, (e1.ext e2).ext m3⟩
theorem Text_c (b : Nat) (s : RS) (A : Option Addr) (n c : Nat) (most : Int) (hmo : -9223372036854775808 ≤ most ∧ most ≤ 9223372036854775807) (w : World) (h : Rdr w 76 b s A n c) :
    Ret Try.prog 27 [ptr b, .int .i64 most] w (fun v w' => v = (fun x : List UInt8 => Value.string ⟨x.toArray⟩) (s.take ([] : List UInt8) (tText most)).1 ∧ Mod [b] w w' ∧ Rdr w' 76 b (s.take ([] : List UInt8) (tText most)).2 A n c) := by
  refine ret_T (n := 8) Try.func27 rfl rfl ?_
  repeat (first | refine T_seq ?_ | refine T_region ?_)
  refine TL_box (hk := ?_); intro x1 w1 e1 g1 g1' k1
  --
  refine TL_box (hk := ?_); intro x2 w2 e2 g2 g2' k2
  have k12 : Blk w2 x1 _ [ptr b] := k1.be e2
  have k22 : Blk w2 x2 _ [.int .i64 most] := k2
  have e02 : Ext w w2 := e1.ext e2
  have lb := h.blk.lt
  repeat (first | refine T_seq ?_ | refine T_region ?_ | refine TL_nil ?_ | refine TL_assign (hk := ?_) | refine TL_load TE (hk := ?_) | refine TL_makeFunc (hk := ?_))
  refine TL_call TE (hc := rd_string b s A n c w2 51 [] [ptr x1, ptr x2] (fun x : List UInt8 => Value.string ⟨x.toArray⟩) ([] : List UInt8) rfl (fun _ => rfl) (tText most) rfl (h.ext e02) (fun w' e => Text1_c b x1 x2 _ _ s A n c most hmo w' ((h.ext e02).ext e) (k12.ext e) (k22.ext e) (by omega))) (hk := ?_)
  rintro _ w3 ⟨rfl, m3, h3⟩
  repeat (first | refine TL_nil ?_ | refine TL_assign (hk := ?_))
  exact T_ret1 rfl rfl ⟨rfl, (Ext.mod e02).trans m3, h3⟩
theorem Text_n (most : Int) (w : World) : Ret Try.prog 27 [.pointer none, .int .i64 most] w (fun v w' => v = (fun x : List UInt8 => Value.string ⟨x.toArray⟩) ([] : List UInt8) ∧ Ext w w') := by
  refine ret_T (n := 8) Try.func27 rfl rfl ?_
  repeat (first | refine T_seq ?_ | refine T_region ?_)
  refine TL_box (hk := ?_); intro x1 w1 e1 g1 g1' k1
  --
  refine TL_box (hk := ?_); intro x2 w2 e2 g2 g2' k2
  have k12 := k1.be e2
  repeat (first | refine T_seq ?_ | refine T_region ?_ | refine TL_nil ?_ | refine TL_assign (hk := ?_) | refine TL_load TE (hk := ?_) | refine TL_makeFunc (hk := ?_))
  refine TL_call TE (hc := rdn_string w2 (.func 51) [] [ptr x1, ptr x2]) (hk := ?_)
  rintro _ w3 ⟨rfl, m3⟩
  repeat (first | refine TL_nil ?_ | refine TL_assign (hk := ?_))
  exact T_ret1 rfl rfl ⟨rfl, (e1.ext e2).ext m3⟩
theorem Fail_c (b : Nat) (s : RS) (A : Option Addr) (n c : Nat) (e : Int) (w : World) (h : Rdr w 76 b s A n c) :
    Ret Try.prog 39 [ptr b, .int .i64 e] w (fun v w' => v = .tuple #[] ∧ Mod [b] w w' ∧ Rdr w' 76 b (s.fail e) A n c) := by
  have h0 := h
  obtain ⟨hb, hr, ho, hl, hp, hla, hbig, hcap⟩ := h
  refine ret_T (n := 28) Try.func39 rfl rfl ?_
  by_cases he : s.err = 0
  · by_cases he2 : e = 0
    · have hs : s.fail e = s := by unfold RS.fail; rw [if_neg (by omega)]
      rw [hs]
      repeat (first | refine T_seq ?_ | refine T_region ?_ | refine T_cond_false rfl ?_ | refine T_skip ?_ | refine TL_eq_t (hk := ?_) | refine TL_ne_f (hk := ?_) | refine TL_pnn_t TE (hk := ?_) | refine TL_nil ?_ | refine TL_move (hk := ?_) | refine TL_load TE (hk := ?_) | refine TL_fieldAddr TE (hk := ?_) | refine TL_yes (hk := ?_) | refine TL_pick_t (hk := ?_) | refine TL_nilCheck (hk := ?_))
      exact T_end0 rfl ⟨rfl, Mod.refl _ _, h0⟩
    · have hs : s.fail e = { s with err := e, spot := s.last } := by unfold RS.fail; rw [if_pos ⟨he, he2⟩]
      rw [hs]
      repeat (first | refine T_seq ?_ | refine T_region ?_ | refine T_cond_true rfl ?_ | refine TL_eq_t (hk := ?_) | refine TL_ne_t (hk := ?_) | refine TL_pnn_t TE (hk := ?_) | refine TL_nil ?_ | refine TL_move (hk := ?_) | refine TL_load TE (hk := ?_) | refine TL_fieldAddr TE (hk := ?_) | refine TL_yes (hk := ?_) | refine TL_pick_t (hk := ?_) | refine TL_nilCheck (hk := ?_))
      refine TL_store TE (hk := ?_); intro w1 m1 s1 k1
      repeat (first | refine TL_fieldAddr TE (hk := ?_) | refine TL_nilCheck (hk := ?_))
      refine TL_store TE (hk := ?_); intro w2 m2 s2 k2
      repeat (refine TL_nil ?_)
      have hm := m1.trans m2
      exact T_end0 rfl ⟨rfl, hm, ⟨k2, hr.mod hm ho, ho, hl, hp, hla, hbig, hcap⟩⟩
  · have hs : s.fail e = s := by unfold RS.fail; rw [if_neg (by omega)]
    rw [hs]
    repeat (first | refine T_seq ?_ | refine T_region ?_ | refine T_cond_false rfl ?_ | refine T_skip ?_ | refine TL_eq_f (hk := ?_) | refine TL_pnn_t TE (hk := ?_) | refine TL_nil ?_ | refine TL_move (hk := ?_) | refine TL_load TE (hk := ?_) | refine TL_fieldAddr TE (hk := ?_) | refine TL_yes (hk := ?_) | refine TL_no (hk := ?_) | refine TL_pick_t (hk := ?_) | refine TL_pick_f (hk := ?_) | refine TL_nilCheck (hk := ?_))
    exact T_end0 rfl ⟨rfl, Mod.refl _ _, h0⟩
theorem Fail_n (e : Int) (w : World) : Ret Try.prog 39 [.pointer none, .int .i64 e] w (fun v w' => v = .tuple #[] ∧ w' = w) := by
  refine ret_T (n := 28) Try.func39 rfl rfl ?_
  repeat (first | refine T_seq ?_ | refine T_region ?_ | refine T_cond_false rfl ?_ | refine T_skip ?_ | refine TL_pnn_f TE (hk := ?_) | refine TL_nil ?_ | refine TL_move (hk := ?_) | refine TL_no (hk := ?_) | refine TL_pick_f (hk := ?_))
  exact T_end0 rfl ⟨rfl, rfl⟩
theorem End_c (b : Nat) (s : RS) (A : Option Addr) (n c : Nat) (w : World) (h : Rdr w 76 b s A n c) :
    Ret Try.prog 42 [ptr b] w (fun v w' => v = .int .i64 s.fin.err ∧ Mod [b] w w' ∧ Rdr w' 76 b s.fin A n c) := by
  have h0 := h
  obtain ⟨hb, hr, ho, hl, hp, hla, hbig, hcap⟩ := h
  refine ret_T (n := 36) Try.func42 rfl rfl ?_
  by_cases he : s.err = 0
  · by_cases he2 : s.pos < n
    · have hs : s.fin = { s with err := 4, spot := s.pos } := by unfold RS.fin; rw [if_pos ⟨he, by omega⟩]
      rw [hs]
      repeat (first | refine T_seq ?_ | refine T_region ?_ | refine T_region_q TE.mixed (by kernel_rfl) ?_ | refine T_cond_false rfl ?_ | refine T_skip ?_ | refine TL_lt_t (hk := ?_) | refine TL_eq_t (hk := ?_) | refine TL_pnil_f TE (hk := ?_) | refine TL_nil ?_ | refine TL_move (hk := ?_) | refine TL_assign (hk := ?_) | refine TL_load TE (hk := ?_) | refine TL_fieldAddr TE (hk := ?_) | refine TL_len TE (hk := ?_) | refine TL_yes (hk := ?_) | refine TL_pick_t (hk := ?_) | refine TL_nilCheck (hk := ?_))
      refine TL_nil_q ?_; intro w1 e1
      repeat (first | refine T_region ?_ | refine T_cond_true rfl ?_ | refine TL_move (hk := ?_) | refine TL_load TE (hk := ?_) | refine TL_fieldAddr TE (hk := ?_) | refine TL_nilCheck (hk := ?_))
      refine TL_store TE (hk := ?_); intro w2 m2 s2 k2
      repeat (first | refine TL_fieldAddr TE (hk := ?_) | refine TL_nilCheck (hk := ?_))
      refine TL_store TE (hk := ?_); intro w3 m3 s3 k3
      repeat (first | refine T_seq ?_ | refine T_region ?_ | refine TL_nil ?_ | refine TL_move (hk := ?_) | refine TL_assign (hk := ?_) | refine TL_load TE (hk := ?_) | refine TL_fieldAddr TE (hk := ?_) | refine TL_nilCheck (hk := ?_))
      have hm := ((Ext.mod e1).trans m2).trans m3
      exact T_ret1 rfl rfl ⟨rfl, hm, ⟨k3, hr.mod hm ho, ho, hl, hp, hla, hbig, hcap⟩⟩
    · have hs : s.fin = s := by unfold RS.fin; rw [if_neg (by omega)]
      rw [hs]
      repeat (first | refine T_seq ?_ | refine T_region ?_ | refine T_region_q TE.mixed (by kernel_rfl) ?_ | refine T_cond_false rfl ?_ | refine T_skip ?_ | refine TL_lt_f (hk := ?_) | refine TL_eq_t (hk := ?_) | refine TL_pnil_f TE (hk := ?_) | refine TL_nil ?_ | refine TL_move (hk := ?_) | refine TL_assign (hk := ?_) | refine TL_load TE (hk := ?_) | refine TL_fieldAddr TE (hk := ?_) | refine TL_len TE (hk := ?_) | refine TL_yes (hk := ?_) | refine TL_pick_t (hk := ?_) | refine TL_nilCheck (hk := ?_))
      refine TL_nil_q ?_; intro w1 e1
      repeat (first | refine T_seq ?_ | refine T_region ?_ | refine T_cond_false rfl ?_ | refine T_skip ?_ | refine TL_nil ?_ | refine TL_move (hk := ?_) | refine TL_assign (hk := ?_) | refine TL_load TE (hk := ?_) | refine TL_fieldAddr TE (hk := ?_) | refine TL_nilCheck (hk := ?_))
      exact T_ret1 rfl rfl ⟨rfl, Ext.mod e1, h0.ext e1⟩
  · have hs : s.fin = s := by unfold RS.fin; rw [if_neg (by omega)]
    rw [hs]
    repeat (first | refine T_seq ?_ | refine T_region ?_ | refine T_region_q TE.mixed (by kernel_rfl) ?_ | refine T_cond_false rfl ?_ | refine T_skip ?_ | refine TL_eq_f (hk := ?_) | refine TL_pnil_f TE (hk := ?_) | refine TL_nil ?_ | refine TL_move (hk := ?_) | refine TL_assign (hk := ?_) | refine TL_load TE (hk := ?_) | refine TL_fieldAddr TE (hk := ?_) | refine TL_no (hk := ?_) | refine TL_pick_f (hk := ?_) | refine TL_nilCheck (hk := ?_))
    refine TL_nil_q ?_; intro w1 e1
    repeat (first | refine T_seq ?_ | refine T_region ?_ | refine T_cond_false rfl ?_ | refine T_skip ?_ | refine TL_nil ?_ | refine TL_move (hk := ?_) | refine TL_assign (hk := ?_) | refine TL_load TE (hk := ?_) | refine TL_fieldAddr TE (hk := ?_) | refine TL_nilCheck (hk := ?_))
    exact T_ret1 rfl rfl ⟨rfl, Ext.mod e1, h0.ext e1⟩
theorem End_n (w : World) : Ret Try.prog 42 [.pointer none] w (fun v w' => v = .int .i64 0 ∧ w' = w) := by
  refine ret_T (n := 36) Try.func42 rfl rfl ?_
  repeat (first | refine T_seq ?_ | refine T_region ?_ | refine T_cond_true rfl ?_ | refine TL_pnil_t TE (hk := ?_) | refine TL_nil ?_ | refine TL_move (hk := ?_) | refine TL_assign (hk := ?_))
  exact T_ret1 rfl rfl ⟨rfl, rfl⟩
theorem Why_c (b : Nat) (s : RS) (A : Option Addr) (n c : Nat) (w : World) (h : Rdr w 76 b s A n c) :
    Ret Try.prog 29 [ptr b] w (fun v w' => v = .tuple #[.int .i64 s.err, .int .i64 ((if s.err = 0 then 0 else s.spot : Nat) : Int)] ∧ Ext w w') := by
  have h0 := h
  obtain ⟨hb, hr, ho, hl, hp, hla, hbig, hcap⟩ := h
  refine ret_T (n := 21) Try.func29 rfl rfl ?_
  by_cases he : s.err = 0
  · rw [if_pos he, he]
    repeat (first | refine T_seq ?_ | refine T_region ?_ | refine T_cond_true rfl ?_ | refine TL_eq_t (hk := ?_) | refine TL_pnil_f TE (hk := ?_) | refine TL_nil ?_ | refine TL_move (hk := ?_) | refine TL_assign (hk := ?_) | refine TL_load TE (hk := ?_) | refine TL_fieldAddr TE (hk := ?_) | refine TL_yes (hk := ?_) | refine TL_pick_f (hk := ?_) | refine TL_nilCheck (hk := ?_))
    exact T_ret2 rfl rfl rfl ⟨rfl, Mod.refl _ _⟩
  · rw [if_neg he]
    repeat (first | refine T_seq ?_ | refine T_region ?_ | refine T_region_q TE.mixed (by kernel_rfl) ?_ | refine T_cond_false rfl ?_ | refine T_skip ?_ | refine TL_eq_f (hk := ?_) | refine TL_pnil_f TE (hk := ?_) | refine TL_nil ?_ | refine TL_move (hk := ?_) | refine TL_assign (hk := ?_) | refine TL_load TE (hk := ?_) | refine TL_fieldAddr TE (hk := ?_) | refine TL_yes (hk := ?_) | refine TL_pick_f (hk := ?_) | refine TL_nilCheck (hk := ?_))
    refine TL_nil_q ?_; intro w1 e1
    exact T_ret2 rfl rfl rfl ⟨rfl, e1⟩
theorem Why_n (w : World) : Ret Try.prog 29 [.pointer none] w (fun v w' => v = .tuple #[.int .i64 0, .int .i64 0] ∧ w' = w) := by
  refine ret_T (n := 21) Try.func29 rfl rfl ?_
  repeat (first | refine T_seq ?_ | refine T_region ?_ | refine T_cond_true rfl ?_ | refine TL_pnil_t TE (hk := ?_) | refine TL_nil ?_ | refine TL_move (hk := ?_) | refine TL_assign (hk := ?_) | refine TL_no (hk := ?_) | refine TL_pick_t (hk := ?_))
  exact T_ret2 rfl rfl rfl ⟨rfl, rfl⟩
theorem Rest_c (b : Nat) (s : RS) (A : Option Addr) (n c : Nat) (w : World) (h : Rdr w 76 b s A n c) :
    Ret Try.prog 28 [ptr b] w (fun v w' => v = .int .i64 (s.rest : Int) ∧ Ext w w') := by
  have h0 := h
  obtain ⟨hb, hr, ho, hl, hp, hla, hbig, hcap⟩ := h
  refine ret_T (n := 22) Try.func28 rfl rfl ?_
  by_cases he : s.err = 0
  · have hs : s.rest = n - s.pos := by unfold RS.rest; rw [if_pos he, hl]
    rw [hs]
    repeat (first | refine T_seq ?_ | refine T_region ?_ | refine T_region_q TE.mixed (by kernel_rfl) ?_ | refine T_cond_false rfl ?_ | refine T_skip ?_ | refine TL_sub (hk := ?_) | refine TL_ne_f (hk := ?_) | refine TL_pnil_f TE (hk := ?_) | refine TL_nil ?_ | refine TL_move (hk := ?_) | refine TL_assign (hk := ?_) | refine TL_load TE (hk := ?_) | refine TL_fieldAddr TE (hk := ?_) | refine TL_len TE (hk := ?_) | refine TL_yes (hk := ?_) | refine TL_pick_f (hk := ?_) | refine TL_nilCheck (hk := ?_))
    refine TL_nil_q ?_; intro w1 e1
    refine T_ret1 rfl rfl ⟨?_, e1⟩
    show Value.int .i64 ((n : Int) - (s.pos : Int)) = _
    rw [show ((n - s.pos : Nat) : Int) = (n : Int) - (s.pos : Int) by omega]
  · have hs : s.rest = 0 := by unfold RS.rest; rw [if_neg he]
    rw [hs]
    repeat (first | refine T_seq ?_ | refine T_region ?_ | refine T_cond_true rfl ?_ | refine TL_ne_t (hk := ?_) | refine TL_pnil_f TE (hk := ?_) | refine TL_nil ?_ | refine TL_move (hk := ?_) | refine TL_assign (hk := ?_) | refine TL_load TE (hk := ?_) | refine TL_fieldAddr TE (hk := ?_) | refine TL_yes (hk := ?_) | refine TL_pick_f (hk := ?_) | refine TL_nilCheck (hk := ?_))
    exact T_ret1 rfl rfl ⟨rfl, Mod.refl _ _⟩
theorem Rest_n (w : World) : Ret Try.prog 28 [.pointer none] w (fun v w' => v = .int .i64 0 ∧ w' = w) := by
  refine ret_T (n := 22) Try.func28 rfl rfl ?_
  repeat (first | refine T_seq ?_ | refine T_region ?_ | refine T_cond_true rfl ?_ | refine TL_pnil_t TE (hk := ?_) | refine TL_nil ?_ | refine TL_move (hk := ?_) | refine TL_assign (hk := ?_) | refine TL_no (hk := ?_) | refine TL_pick_t (hk := ?_))
  exact T_ret1 rfl rfl ⟨rfl, rfl⟩
end Go.Proofs.Ytkmdmpmimojmbaa
