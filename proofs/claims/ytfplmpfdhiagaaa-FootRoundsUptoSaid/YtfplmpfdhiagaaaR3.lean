import Derived.Test.YtfplmpfdhiagaaaR2
import Derived.SizedLaws
/- Parts: CW9 CW2 CW4 CW10 FW18 FW19 CW13 FW20 FW21 CW14 CW15 FW22 FW23 FW24 FW39 FW40 FW25 Eng18 FW26 Eng10 FW41 FSpec9 FSpec10 FSpec11 FW42 FW43 FSpec12 FW44 FW45 FSpec13 Eng22 FW46. -/
namespace Go.Proofs.Ytfplmpfdhiagaaa
open Go.RowKit Go.Proofs.Eng Go.Proofs.Codec
set_option linter.unusedSimpArgs false
set_option linter.unusedVariables false set_option maxRecDepth 10000
attribute [local irreducible] T TL LV TH TA
set_option maxHeartbeats 1000000
theorem Byte_c (b : Nat) (s : RS) (A : Option Addr) (n c : Nat) (w : World) (h : Rdr w 107 b s A n c) :
    Ret Try.prog 66 [ptr b] w (fun v w' => v = (fun x : Nat => Value.int .u8 (x : Int)) (s.take (0 : Nat) tByte).1 ∧ Mod [b] w w' ∧ Rdr w' 107 b (s.take (0 : Nat) tByte).2 A n c) := by
  refine ret_T (n := 7) Try.func66 rfl rfl ?_
  repeat (first | refine T_seq ?_ | refine T_region ?_ | refine TL_nil ?_ | refine TL_move (hk := ?_) | refine TL_assign (hk := ?_) | refine TL_makeFunc (hk := ?_))
  refine TL_call TE (hc := rd_byte b s A n c w 93 [ptr b] [] (fun x : Nat => Value.int .u8 (x : Int)) (0 : Nat) rfl (fun _ => rfl) tByte rfl h (fun w' e => byte_c b s A n c w' (h.ext e))) (hk := ?_)
  rintro _ w1 ⟨rfl, m1, h1⟩
  repeat (first | refine TL_nil ?_ | refine TL_assign (hk := ?_))
  exact T_ret1 rfl rfl ⟨rfl, m1, h1⟩
theorem Count_c (b : Nat) (s : RS) (A : Option Addr) (n c : Nat) (most : Int) (hmo : -9223372036854775808 ≤ most ∧ most ≤ 9223372036854775807) (w : World) (h : Rdr w 107 b s A n c) :
    Ret Try.prog 63 [ptr b, .int .i64 most] w (fun v w' => v = (fun x : Nat => Value.int .i64 (x : Int)) (s.take (0 : Nat) (tLim most 6)).1 ∧ Mod [b] w w' ∧ Rdr w' 107 b (s.take (0 : Nat) (tLim most 6)).2 A n c) := by
  refine ret_T (n := 8) Try.func63 rfl rfl ?_
  repeat (first | refine T_seq ?_ | refine T_region ?_)
  refine TL_box (hk := ?_); intro x1 w1 e1 g1 g1' k1
  --
  refine TL_box (hk := ?_); intro x2 w2 e2 g2 g2' k2
  have k12 : Blk w2 x1 _ [ptr b] := k1.be e2
  have k22 : Blk w2 x2 _ [.int .i64 most] := k2
  have e02 : Ext w w2 := e1.ext e2
  have lb := h.blk.lt
  repeat (first | refine T_seq ?_ | refine T_region ?_ | refine TL_nil ?_ | refine TL_assign (hk := ?_) | refine TL_load TE (hk := ?_) | refine TL_makeFunc (hk := ?_))
  refine TL_call TE (hc := rd_int b s A n c w2 88 [] [ptr x1, ptr x2] (fun x : Nat => Value.int .i64 (x : Int)) (0 : Nat) rfl (fun _ => rfl) (tLim most 6) rfl (h.ext e02) (fun w' e => Count1_c b x1 x2 _ _ s A n c most hmo w' ((h.ext e02).ext e) (k12.ext e) (k22.ext e) )) (hk := ?_)
  rintro _ w3 ⟨rfl, m3, h3⟩
  repeat (first | refine TL_nil ?_ | refine TL_assign (hk := ?_))
  exact T_ret1 rfl rfl ⟨rfl, (Ext.mod e02).trans m3, h3⟩
theorem Text_c (b : Nat) (s : RS) (A : Option Addr) (n c : Nat) (most : Int) (hmo : -9223372036854775808 ≤ most ∧ most ≤ 9223372036854775807) (w : World) (h : Rdr w 107 b s A n c) :
    Ret Try.prog 64 [ptr b, .int .i64 most] w (fun v w' => v = (fun x : List UInt8 => Value.string ⟨x.toArray⟩) (s.take ([] : List UInt8) (tText most)).1 ∧ Mod [b] w w' ∧ Rdr w' 107 b (s.take ([] : List UInt8) (tText most)).2 A n c) := by
  refine ret_T (n := 8) Try.func64 rfl rfl ?_
  repeat (first | refine T_seq ?_ | refine T_region ?_)
  refine TL_box (hk := ?_); intro x1 w1 e1 g1 g1' k1
  --
  refine TL_box (hk := ?_); intro x2 w2 e2 g2 g2' k2
  have k12 : Blk w2 x1 _ [ptr b] := k1.be e2
  have k22 : Blk w2 x2 _ [.int .i64 most] := k2
  have e02 : Ext w w2 := e1.ext e2
  have lb := h.blk.lt
  repeat (first | refine T_seq ?_ | refine T_region ?_ | refine TL_nil ?_ | refine TL_assign (hk := ?_) | refine TL_load TE (hk := ?_) | refine TL_makeFunc (hk := ?_))
  refine TL_call TE (hc := rd_string b s A n c w2 91 [] [ptr x1, ptr x2] (fun x : List UInt8 => Value.string ⟨x.toArray⟩) ([] : List UInt8) rfl (fun _ => rfl) (tText most) rfl (h.ext e02) (fun w' e => Text1_c b x1 x2 _ _ s A n c most hmo w' ((h.ext e02).ext e) (k12.ext e) (k22.ext e) (by omega))) (hk := ?_)
  rintro _ w3 ⟨rfl, m3, h3⟩
  repeat (first | refine TL_nil ?_ | refine TL_assign (hk := ?_))
  exact T_ret1 rfl rfl ⟨rfl, (Ext.mod e02).trans m3, h3⟩
theorem Fail_c (b : Nat) (s : RS) (A : Option Addr) (n c : Nat) (e : Int) (w : World) (h : Rdr w 107 b s A n c) :
    Ret Try.prog 65 [ptr b, .int .i64 e] w (fun v w' => v = .tuple #[] ∧ Mod [b] w w' ∧ Rdr w' 107 b (s.fail e) A n c) := by
  have h0 := h
  obtain ⟨hb, hr, ho, hl, hp, hla, hbig, hcap⟩ := h
  refine ret_T (n := 28) Try.func65 rfl rfl ?_
  by_cases he : s.err = 0
  · by_cases he2 : e = 0
    · have hs : s.fail e = s := by unfold RS.fail; rw [if_neg (by omega)]
      rw [hs]
      repeat (first | refine T_seq ?_ | refine T_region ?_ | refine T_cond_false rfl ?_ | refine T_skip ?_ | refine TL_eq_t (hk := ?_) | refine TL_ne_f (hk := ?_) | refine TL_pnn_t TE (hk := ?_) | refine TL_nil ?_ | refine TL_move (hk := ?_) | refine TL_load TE (hk := ?_) | refine TL_fieldAddr TE (hk := ?_) | refine TL_yes (hk := ?_) | refine TL_pick_t (hk := ?_) | refine TL_nilCheck (hk := ?_))
      exact T_end0 rfl ⟨rfl, Mod.refl _ _, h0⟩
    · have hs : s.fail e = { s with err := e, spot := s.last } := by unfold RS.fail; rw [if_pos ⟨he, he2⟩]
      rw [hs]
      repeat (first | refine T_seq ?_ | refine T_region ?_ | refine T_cond_true rfl ?_ | refine TL_eq_t (hk := ?_) | refine TL_ne_t (hk := ?_) | refine TL_pnn_t TE (hk := ?_) | refine TL_nil ?_ | refine TL_move (hk := ?_) | refine TL_load TE (hk := ?_) | refine TL_fieldAddr TE (hk := ?_) | refine TL_yes (hk := ?_) | refine TL_pick_t (hk := ?_) | refine TL_nilCheck (hk := ?_))
      refine TL_store TE (hk := ?_); intro w1 m1 s1 k1
      repeat (first | refine TL_fieldAddr TE (hk := ?_) | refine TL_nilCheck (hk := ?_))
      refine TL_store TE (hk := ?_); intro w2 m2 s2 k2
      repeat (refine TL_nil ?_)
      have hm := m1.trans m2
      exact T_end0 rfl ⟨rfl, hm, ⟨k2, hr.mod hm ho, ho, hl, hp, hla, hbig, hcap⟩⟩
  · have hs : s.fail e = s := by unfold RS.fail; rw [if_neg (by omega)]
    rw [hs]
    repeat (first | refine T_seq ?_ | refine T_region ?_ | refine T_cond_false rfl ?_ | refine T_skip ?_ | refine TL_eq_f (hk := ?_) | refine TL_pnn_t TE (hk := ?_) | refine TL_nil ?_ | refine TL_move (hk := ?_) | refine TL_load TE (hk := ?_) | refine TL_fieldAddr TE (hk := ?_) | refine TL_yes (hk := ?_) | refine TL_no (hk := ?_) | refine TL_pick_t (hk := ?_) | refine TL_pick_f (hk := ?_) | refine TL_nilCheck (hk := ?_))
    exact T_end0 rfl ⟨rfl, Mod.refl _ _, h0⟩
theorem Why_c (b : Nat) (s : RS) (A : Option Addr) (n c : Nat) (w : World) (h : Rdr w 107 b s A n c) :
    Ret Try.prog 67 [ptr b] w (fun v w' => v = .tuple #[.int .i64 s.err, .int .i64 ((if s.err = 0 then 0 else s.spot : Nat) : Int)] ∧ Ext w w') := by
  have h0 := h
  obtain ⟨hb, hr, ho, hl, hp, hla, hbig, hcap⟩ := h
  refine ret_T (n := 21) Try.func67 rfl rfl ?_
  by_cases he : s.err = 0
  · rw [if_pos he, he]
    repeat (first | refine T_seq ?_ | refine T_region ?_ | refine T_cond_true rfl ?_ | refine TL_eq_t (hk := ?_) | refine TL_pnil_f TE (hk := ?_) | refine TL_nil ?_ | refine TL_move (hk := ?_) | refine TL_assign (hk := ?_) | refine TL_load TE (hk := ?_) | refine TL_fieldAddr TE (hk := ?_) | refine TL_yes (hk := ?_) | refine TL_pick_f (hk := ?_) | refine TL_nilCheck (hk := ?_))
    exact T_ret2 rfl rfl rfl ⟨rfl, Mod.refl _ _⟩
  · rw [if_neg he]
    repeat (first | refine T_seq ?_ | refine T_region ?_ | refine T_region_q TE.mixed (by kernel_rfl) ?_ | refine T_cond_false rfl ?_ | refine T_skip ?_ | refine TL_eq_f (hk := ?_) | refine TL_pnil_f TE (hk := ?_) | refine TL_nil ?_ | refine TL_move (hk := ?_) | refine TL_assign (hk := ?_) | refine TL_load TE (hk := ?_) | refine TL_fieldAddr TE (hk := ?_) | refine TL_yes (hk := ?_) | refine TL_pick_f (hk := ?_) | refine TL_nilCheck (hk := ?_))
    refine TL_nil_q ?_; intro w1 e1
    exact T_ret2 rfl rfl rfl ⟨rfl, e1⟩
theorem Rest_c (b : Nat) (s : RS) (A : Option Addr) (n c : Nat) (w : World) (h : Rdr w 107 b s A n c) :
    Ret Try.prog 68 [ptr b] w (fun v w' => v = .int .i64 (s.rest : Int) ∧ Ext w w') := by
  have h0 := h
  obtain ⟨hb, hr, ho, hl, hp, hla, hbig, hcap⟩ := h
  refine ret_T (n := 22) Try.func68 rfl rfl ?_
  by_cases he : s.err = 0
  · have hs : s.rest = n - s.pos := by unfold RS.rest; rw [if_pos he, hl]
    rw [hs]
    repeat (first | refine T_seq ?_ | refine T_region ?_ | refine T_region_q TE.mixed (by kernel_rfl) ?_ | refine T_cond_false rfl ?_ | refine T_skip ?_ | refine TL_sub (hk := ?_) | refine TL_ne_f (hk := ?_) | refine TL_pnil_f TE (hk := ?_) | refine TL_nil ?_ | refine TL_move (hk := ?_) | refine TL_assign (hk := ?_) | refine TL_load TE (hk := ?_) | refine TL_fieldAddr TE (hk := ?_) | refine TL_len TE (hk := ?_) | refine TL_yes (hk := ?_) | refine TL_pick_f (hk := ?_) | refine TL_nilCheck (hk := ?_))
    refine TL_nil_q ?_; intro w1 e1
    refine T_ret1 rfl rfl ⟨?_, e1⟩
    show Value.int .i64 ((n : Int) - (s.pos : Int)) = _
    rw [show ((n - s.pos : Nat) : Int) = (n : Int) - (s.pos : Int) by omega]
  · have hs : s.rest = 0 := by unfold RS.rest; rw [if_neg he]
    rw [hs]
    repeat (first | refine T_seq ?_ | refine T_region ?_ | refine T_cond_true rfl ?_ | refine TL_ne_t (hk := ?_) | refine TL_pnil_f TE (hk := ?_) | refine TL_nil ?_ | refine TL_move (hk := ?_) | refine TL_assign (hk := ?_) | refine TL_load TE (hk := ?_) | refine TL_fieldAddr TE (hk := ?_) | refine TL_yes (hk := ?_) | refine TL_pick_f (hk := ?_) | refine TL_nilCheck (hk := ?_))
    exact T_ret1 rfl rfl ⟨rfl, Mod.refl _ _⟩
end Go.Proofs.Ytfplmpfdhiagaaa

namespace Go.Proofs.Ytfplmpfdhiagaaa
open Go.RowKit Go.Proofs.Eng Go.Proofs.Codec
set_option linter.unusedSimpArgs false
set_option linter.unusedVariables false set_option maxRecDepth 10000
attribute [local irreducible] T TL LV TH TA
















































































end Go.Proofs.Ytfplmpfdhiagaaa

namespace Go.Proofs.Ytfplmpfdhiagaaa
open Go.RowKit Go.Proofs.Eng Go.Proofs.Codec
set_option linter.unusedSimpArgs false
set_option linter.unusedVariables false set_option maxRecDepth 10000
attribute [local irreducible] T TL LV TH TA
set_option maxHeartbeats 1000000

theorem PutText_c (A : Option Addr) (n c : Nat) (l : List UInt8) (S : ByteArray) (w : World) (h : Rd w A n 1 (bv l)) (hn : n ≤ 7036874417) (hs : S.size ≤ 7036874417) :
    Ret Try.prog 57 [.slice A n c, .string S] w (fun v w' => ∃ A' n' c', v = .slice A' n' c' ∧ Ext w w' ∧ Own w' w.heap.size 5 1 A' n' c' (bv (l ++ (encU S.size ++ S.data.toList)))) := by
  have hlen : l.length = n := by simpa using h.1
  refine ret_T (n := 12) Try.func57 rfl rfl ?_
  repeat (first | refine T_seq ?_ | refine T_region ?_ | refine TL_nil ?_ | refine TL_move (hk := ?_) | refine TL_assign (hk := ?_) | refine TL_len_s TE (hk := ?_) | refine TL_conv TE (hk := ?_))
  refine TL_call TE (hc := PutUint_c A n c l S.size w rfl h (by omega) (by omega)) (hk := ?_)
  rintro _ w1 ⟨A1, n1, c1, rfl, e1, o1⟩
  have s1 := e1.size
  have hn1 := o1.len
  have h10 := encU_len64 (n := S.size) (by omega)
  simp only [bv_length, List.length_append, Nat.mul_one] at hn1
  repeat (refine TL_move (hk := ?_))
  refine TL_append_s TE (hk := ?_); intro A2 c2 w2 o2 m2 n2
  repeat (first | refine TL_nil ?_ | refine TL_assign (hk := ?_))
  refine T_ret1 rfl rfl ⟨A2, _, c2, rfl, e1.own m2 o1.hi, ?_⟩
  rw [← bv_append, List.append_assoc] at o2
  exact o2
























end Go.Proofs.Ytfplmpfdhiagaaa

namespace Go.Proofs.Ytfplmpfdhiagaaa
open Go.RowKit Go.Proofs.Eng Go.Proofs.Codec
set_option linter.unusedSimpArgs false
set_option linter.unusedVariables false set_option maxRecDepth 10000
attribute [local irreducible] T TL LV TH TA
set_option maxHeartbeats 1000000
theorem NewReader_c (A : Option Addr) (n c : Nat) (l : List UInt8) (w : World) (h : Rd w A n 1 (bv l)) (hn : n ≤ 7036874417) :
    Ret Try.prog 62 [.slice A n c] w (fun v w' => ∃ b A' n' c', v = ptr b ∧ Ext w w' ∧ w.heap.size ≤ b ∧ Hi A' w.heap.size ∧ Lo A' w'.heap.size ∧ Rdr w' 107 b ⟨l, 0, 0, 0, 0⟩ A' n' c') := by
  refine ret_T (n := 7) Try.func62 rfl rfl ?_
  repeat (first | refine T_seq ?_ | refine T_region ?_ | refine TL_nil ?_ | refine TL_move (hk := ?_) | refine TL_assign (hk := ?_))
  refine TL_call TE (hc := Clone_c A n c l w h (by omega)) (hk := ?_)
  rintro _ w1 ⟨A1, c1, rfl, e1, o1⟩
  repeat (refine TL_build TE (hk := ?_))
  refine TL_box (hk := ?_); intro b w2 e2 h1 h2 k
  repeat (first | refine TL_nil ?_ | refine TL_assign (hk := ?_))
  have hs := e1.size
  refine T_ret1 rfl rfl ⟨b, A1, n, c1, rfl, e1.ext e2, by omega, o1.hi, o1.lo.mono e2.size, ?_⟩
  exact ⟨k, (o1.be e2).rd, Off.lo o1.lo h1, by have := h.1; simpa using this, Nat.zero_le _, Nat.zero_le _, hn, o1.cap.1⟩
end Go.Proofs.Ytfplmpfdhiagaaa

namespace Go.Proofs.Ytfplmpfdhiagaaa
open Go.RowKit Go.Proofs.Eng Go.Proofs.Foot Go.Proofs.Codec
set_option linter.unusedSimpArgs false
set_option linter.unusedVariables false set_option maxRecDepth 10000
attribute [local irreducible] T TL LV TH TA
theorem norm_short {r k : List Tx} (h : isNorm r k = true) : (∀ t ∈ r ++ k, t.length ≤ 32) ∧ (ofM r k).length ≤ 64 := by
  unfold isNorm at h
  have h := of_decide_eq_true h
  have e := norm_eq r k
  rw [← of_len] at e
  rw [e] at h
  by_cases q : (r.all validT && k.all validT) = true
  · rw [if_pos q] at h
    by_cases g : 64 < (ofM r k).length
    · rw [if_pos g] at h; exact absurd h.1 (by decide)
    · refine ⟨fun t ht => ?_, by omega⟩
      simp only [Bool.and_eq_true, List.all_eq_true] at q
      have hv : validT t = true := by
        rcases List.mem_append.1 ht with h | h
        · exact q.1 t h
        · exact q.2 t h
      simp only [validT, Bool.and_eq_true, decide_eq_true_eq] at hv
      exact hv.2.2
  · rw [if_neg q] at h; exact absurd h.1 (by decide)
theorem keys3_short {r k : List Tx} (h : isNorm r k = true) : ∀ t ∈ keysM (ofM r k) 3, t.length ≤ 32 := fun t ht => by
  rw [keys3, set_mem] at ht
  exact (norm_short h).1 t ht
theorem entryB_len (m : TM) (t : Tx) (h : t.length ≤ 32) : (entryB m t).length ≤ 43 := by
  have := encU_len64 (n := t.length) (by omega)
  simp only [entryB, List.length_append, List.length_cons, List.length_nil]
  omega
theorem Put_c (B A C : Option Addr) (nb cb n c m d : Nat) (ahead : List UInt8) (r k : List Tx) (w : World) (hb : Rd w B nb 1 (bv ahead)) (h : Rd w A n 1 (sv r)) (g : Rd w C m 1 (sv k)) (hnb : nb ≤ 200000) (hn : n ≤ 50000) (hm : m ≤ 50000) (sr : Short r) (sk : Short k) :
    Ret Try.prog 16 [.slice B nb cb, .agg #[.slice A n c, .slice C m d]] w (fun v w' => ∃ P np cp, v = .tuple #[.slice P np cp, .int .i64 (if isNorm r k = true then 0 else 31)] ∧ Ext w w' ∧ Own w' w.heap.size 5 1 P np cp (if isNorm r k = true then bv (ahead ++ putB (ofM r k)) else [])) := by
  refine ret_T (n := 36) Try.func16 rfl rfl ?_
  repeat (first | refine T_seq ?_ | refine T_region ?_)
  refine TL_box (hk := ?_); intro b1 w1 e1 h1 h1' k1
  repeat (first | refine T_seq ?_ | refine T_region ?_ | refine TL_nil ?_ | refine TL_assign (hk := ?_))
  refine TL_loadb TE (cs := [.slice A n c, .slice C m d]) (o := 0) rfl rfl k1 rfl rfl (Nat.succ_pos _) (hk := ?_)
  refine TL_call TE (hc := normal_c A C n c m d r k _ (h.be e1) (g.be e1) hn hm sr sk) (hk := ?_)
  rintro _ w2 ⟨rfl, e2⟩
  by_cases hN : isNorm r k = true
  · rw [if_pos hN, if_pos hN]
    have hshort := keys3_short hN
    have h64 := (norm_short hN).2
    have hl3 := of_len3 r k
    rw [hN]
    have k12 := k1.be e2
    have e02 := e1.ext e2
    have hb2 := hb.be e02
    have hA2 := h.be e02
    have hC2 := g.be e02
    clear k1 h g
    repeat (first | refine T_seq ?_ | refine T_region ?_ | refine T_cond_false rfl ?_ | refine T_skip ?_ | refine TL_nil ?_ | refine TL_not (hk := ?_))
    refine TL_loadb TE (cs := [.slice A n c, .slice C m d]) (o := 0) rfl rfl k12 rfl rfl (Nat.succ_pos _) (hk := ?_)
    refine TL_call TE (hc := of_c A C n c m d r k _ hA2 hC2 (by omega) (by omega)) (hk := ?_)
    rintro _ w3 ⟨bm, rfl, e3, hbm, mp⟩
    have hb3 := hb2.be e3
    have z3 := e02.size
    have z3' := e3.size
    repeat (first | refine T_seq ?_ | refine T_region ?_ | refine TL_nil ?_ | refine TL_move (hk := ?_) | refine TL_assign (hk := ?_) | refine TL_conv TE (hk := ?_) | refine TL_len_m TE (hk := ?_))
    refine TL_call TE (hc := PutUint_c B nb cb ahead (ofM r k).length _ rfl hb3 (by omega) (by omega)) (hk := ?_)
    rintro _ w4 ⟨A4, n4, c4, rfl, e4, o4⟩
    have mp4 := mp.be e4
    have z4 := e4.size
    have hlb := hb.1
    have hlen4 := o4.len
    have henc := encU_len64 (n := (ofM r k).length) (by omega)
    simp only [bv_length, List.length_append, Nat.mul_one] at hlen4 hlb
    repeat (first | refine T_seq ?_ | refine T_region ?_ | refine TL_nil ?_ | refine TL_move (hk := ?_) | refine TL_assign (hk := ?_))
    refine TL_call TE (hc := keys_c bm 3 (ofM r k) _ mp4 (by decide) (of_lt4 r k) (by omega)) (hk := ?_)
    rintro _ w5 ⟨A5, n5, c5, rfl, e5, o5⟩
    have mp5 := mp4.be e5
    have z5 := e5.size
    obtain ⟨ks, hks⟩ : ∃ ks, keysM (ofM r k) 3 = ks := ⟨_, rfl⟩
    rw [hks] at o5 hshort hl3
    have hkl : ks.length = n5 := by simpa using o5.len
    have o45 := o4.be e5
    have e05 := ((e02.ext e3).ext e4).ext e5
    have hi5 := o5.hi
    clear mp mp4 o4 hb2 hb3 hA2 hC2
    repeat (first | refine T_block ?_ | refine TL_nil ?_ | refine TL_move (hk := ?_) | refine TL_len TE (hk := ?_))
    refine T_loop (ι := (Option Addr × Nat × Nat) × Nat) (fun i => [(22, .int .i64 (i.2 : Int)), (21, .int .i64 (n5 : Int)), (20, .slice A5 n5 c5), (6, .map (some bm)), (0, .slice i.1.1 i.1.2.1 i.1.2.2)])
      (fun i w' => Ext w w' ∧ Ext w5 w' ∧ i.2 ≤ n5 ∧ i.1.2.1 ≤ 200010 + 43 * i.2 ∧ Own w' w.heap.size 5 1 i.1.1 i.1.2.1 i.1.2.2 (bv (ahead ++ (encU n5 ++ bodyB (ofM r k) (ks.take i.2))))) (fun i => n5 - i.2) ((A4, n4, c4), 0) (.c rfl (.c rfl (.c rfl (.c rfl (.c rfl (.n))))))
      ⟨e05, Mod.refl _ _, Nat.zero_le _, by show n4 ≤ 200010 + 43 * 0; omega, ?_⟩ ?_
    · have := o45.weaken (base' := w.heap.size) (by omega)
      rw [hl3, hkl] at this
      simpa [bodyB] using this
    rintro ⟨⟨A6, n6, c6⟩, i⟩ w6 ⟨e6, e56, hi, hn6, o6⟩ ih
    simp only at hi hn6 o6 ih ⊢
    have z6 := e6.size
    by_cases hlt : i < n5
    · obtain ⟨t, ht⟩ : ∃ t, ks.getD i [] = t := ⟨_, rfl⟩
      have htm : t ∈ ks := by rw [← ht]; exact getD_mem (by omega)
      have ht32 := hshort t htm
      have hbt := bodyB_take (ofM r k) ks i (by omega)
      rw [ht] at hbt
      have hel := entryB_len (ofM r k) t ht32
      have hb4 := bits_lt4 r k t
      obtain ⟨u, hu⟩ : ∃ u, (mget (ofM r k) t).getD 0 = u := ⟨_, rfl⟩
      have hu' : bitsM (ofM r k) t = u := hu
      have mp6 := mp5.be e56
      have o56 := o5.be e56
      have e1t := encU_len64 (n := t.length) (by omega)
      have hsz := ofL_size t
      rw [hu'] at hb4
      clear hshort
      repeat (first | refine T_seq ?_ | refine T_region ?_ | refine T_cond_true rfl ?_ | refine T_block ?_ | refine T_skip ?_ | refine TL_lt_t (hk := ?_) | refine TL_nil ?_ | refine TL_assign (hk := ?_) | refine TL_indexAddr1n TE (hk := ?_) | refine TL_load_s TE (hk := ?_))
      rw [ht]
      --
      refine T_region_any TE.mixed [] ?_; intro w7 e7 z7
      have hd7 : Eng.Mod [] w7 w7 := Mod.refl _ _
      have mp7 := mp6.be e7
      have o7 := o6.be e7
      have e07 := e6.ext e7
      clear o6 mp6
      (refine TA_take 0 rfl (by kernel_rfl) (by kernel_rfl) (by kernel_rfl) ?_; (repeat (refine TL_move (hk := ?_))); refine TL_nil_p ?_); (refine TA_take 1 rfl (by kernel_rfl) (by kernel_rfl) (by kernel_rfl) ?_; (repeat (refine TL_move (hk := ?_))); refine TL_nil_p ?_); (refine TA_take 3 rfl (by kernel_rfl) (by kernel_rfl) (by kernel_rfl) ?_; (repeat (refine TL_move (hk := ?_))); refine TL_nil_p ?_); (refine TA_take 4 rfl (by kernel_rfl) (by kernel_rfl) (by kernel_rfl) ?_; (repeat (refine TL_move (hk := ?_))); refine TL_nil_p ?_)
      refine TA_take 5 rfl (by kernel_rfl) (by kernel_rfl) (by kernel_rfl) ?_
      refine TLP_lookup TE 0 mp7 (by simp) (hk := ?_)
      rw [hu]
      refine TL_nil_p ?_
      refine TA_two 2 6 rfl rfl (by kernel_rfl) (by kernel_rfl) ?_ ?_
      · refine TL_call TE (hc := PutText_c A6 n6 c6 _ (ofL t) w7 o7.rd (by omega) (by omega)) (hq := fun v w' ⟨_, _, _, _, h, _⟩ => hd7.ext h) (hk := ?_)
        rintro _ w8 ⟨A8, n8, c8, rfl, e8, o8⟩
        have z8 := e8.size
        refine TL_nil_p ?_
        refine TA_one 6 rfl (by kernel_rfl) (by kernel_rfl) ?_
        refine TL_buildSlice TE (hf := rfl) (hq := fun w' h => (hd7.ext e8).ext h) (hk := ?_); intro b9 w9 e9 h9 h9' k9
        have z9 := e9.size
        have o89 := o8.be e9
        have hl8 := o8.len
        simp only [bv_length, List.length_append, Nat.mul_one, ofL_toList, ofL_size] at hl8
        have hl7 := o7.len
        simp only [bv_length, List.length_append, Nat.mul_one] at hl7
        have E9 := e8.ext e9
        refine TL_nil_p ?_
        refine TA_one 7 rfl (by kernel_rfl) (by kernel_rfl) ?_
        refine TL_append TE (hf := rfl) (hq := fun w' m => Mod.own E9 m o8.hi) (hk := ?_); intro A10 c10 w10 o10 m10 n10
        have E10 : Ext w7 w10 := (Mod.own E9 m10 o8.hi)
        refine TL_nil_p ?_
        (refine TA_one 8 rfl (by kernel_rfl) (by kernel_rfl) ?_; (repeat (refine TL_assign (hk := ?_))); refine TL_nil_p ?_)
        refine TA_done (by kernel_rfl) ?_
        repeat (first | refine T_region ?_ | refine T_inBlock ?_ | refine TL_add (hk := ?_) | refine TL_nil ?_ | refine TL_move (hk := ?_))
        refine ih ((A10, n8 + 1, c10), i + 1) _ _ (by simp only; omega) ⟨e07.ext E10, (e56.ext e7).ext E10, by show i + 1 ≤ n5; omega, by show n8 + 1 ≤ 200010 + 43 * (i + 1); omega, ?_⟩ (.c rfl (.c rfl (.c rfl (.c rfl (.c rfl (.n))))))
        have o11 := o10.weaken (base' := w.heap.size) (by have := e07.size; omega)
        simp only
        rw [hbt, entryB, hu']
        have hv := bv_snoc (ahead ++ (encU n5 ++ bodyB (ofM r k) (ks.take i)) ++ (encU (ofL t).size ++ (ofL t).data.toList)) u (by omega)
        have hv2 : bv (ahead ++ (encU n5 ++ bodyB (ofM r k) (ks.take i)) ++ (encU (ofL t).size ++ (ofL t).data.toList)) ++ [uV u] = bv (ahead ++ (encU n5 ++ (bodyB (ofM r k) (ks.take i) ++ (encU t.length ++ t ++ [UInt8.ofNat u])))) := by
          rw [show uV u = Value.int .u8 (u : Int) from rfl, hv, ofL_toList, ofL_size]
          simp only [List.append_assoc]
        rw [← hv2]
        exact o11
      · refine TL_buildSlice TE (hf := rfl) (hq := fun w' h => hd7.ext h) (hk := ?_); intro b9 w9 e9 h9 h9' k9
        have z9 := e9.size
        have o79 := o7.be e9
        refine TL_nil_p ?_
        refine TA_one 2 rfl (by kernel_rfl) (by kernel_rfl) ?_
        refine TL_call TE (hc := PutText_c A6 n6 c6 _ (ofL t) w9 o79.rd (by omega) (by omega)) (hq := fun v w' ⟨_, _, _, _, h, _⟩ => (hd7.ext e9).ext h) (hk := ?_)
        rintro _ w8 ⟨A8, n8, c8, rfl, e8, o8⟩
        have z8 := e8.size
        have o89 := o8.weaken (base' := w7.heap.size) (by omega)
        have hl8 := o8.len
        simp only [bv_length, List.length_append, Nat.mul_one, ofL_toList, ofL_size] at hl8
        have hl7 := o7.len
        simp only [bv_length, List.length_append, Nat.mul_one] at hl7
        have k98 := k9.be e8
        have E9 := e9.ext e8
        refine TL_nil_p ?_
        refine TA_one 7 rfl (by kernel_rfl) (by kernel_rfl) ?_
        refine TL_append TE (hf := rfl) (hq := fun w' m => Mod.own E9 m o89.hi) (hk := ?_); intro A10 c10 w10 o10 m10 n10
        have E10 : Ext w7 w10 := (Mod.own E9 m10 o89.hi)
        refine TL_nil_p ?_
        (refine TA_one 8 rfl (by kernel_rfl) (by kernel_rfl) ?_; (repeat (refine TL_assign (hk := ?_))); refine TL_nil_p ?_)
        refine TA_done (by kernel_rfl) ?_
        repeat (first | refine T_region ?_ | refine T_inBlock ?_ | refine TL_add (hk := ?_) | refine TL_nil ?_ | refine TL_move (hk := ?_))
        refine ih ((A10, n8 + 1, c10), i + 1) _ _ (by simp only; omega) ⟨e07.ext E10, (e56.ext e7).ext E10, by show i + 1 ≤ n5; omega, by show n8 + 1 ≤ 200010 + 43 * (i + 1); omega, ?_⟩ (.c rfl (.c rfl (.c rfl (.c rfl (.c rfl (.n))))))
        have o11 := o10.weaken (base' := w.heap.size) (by have := e07.size; omega)
        simp only
        rw [hbt, entryB, hu']
        have hv := bv_snoc (ahead ++ (encU n5 ++ bodyB (ofM r k) (ks.take i)) ++ (encU (ofL t).size ++ (ofL t).data.toList)) u (by omega)
        have hv2 : bv (ahead ++ (encU n5 ++ bodyB (ofM r k) (ks.take i)) ++ (encU (ofL t).size ++ (ofL t).data.toList)) ++ [uV u] = bv (ahead ++ (encU n5 ++ (bodyB (ofM r k) (ks.take i) ++ (encU t.length ++ t ++ [UInt8.ofNat u])))) := by
          rw [show uV u = Value.int .u8 (u : Int) from rfl, hv, ofL_toList, ofL_size]
          simp only [List.append_assoc]
        rw [← hv2]
        exact o11
    · have hin : i = n5 := by omega
      have hall : ks.take i = ks := List.take_of_length_le (by omega)
      repeat (first | refine T_seq ?_ | refine T_region ?_ | refine T_cond_false rfl ?_ | refine T_exit rfl ?_ | refine TL_lt_f (hk := ?_) | refine TL_nil ?_ | refine TL_move (hk := ?_) | refine TL_assign (hk := ?_))
      refine T_ret2 rfl rfl rfl ⟨A6, n6, c6, rfl, e6, ?_⟩
      rw [hall] at o6
      unfold putB
      rw [hks, hkl]
      exact o6
  · have hN' : isNorm r k = false := by simpa using hN
    rw [hN']
    repeat (first | refine T_seq ?_ | refine T_region ?_ | refine T_cond_true rfl ?_ | refine TL_nil ?_ | refine TL_assign (hk := ?_) | refine TL_not (hk := ?_))
    exact T_ret2 rfl rfl rfl ⟨none, 0, 0, rfl, e1.ext e2, Own.nil _ _ _ _⟩
end Go.Proofs.Ytfplmpfdhiagaaa

namespace Go.Proofs.Ytfplmpfdhiagaaa
open Go.RowKit Go.Proofs.Eng Go.Proofs.Foot Go.Proofs.Codec
set_option linter.unusedSimpArgs false
set_option linter.unusedVariables false set_option maxRecDepth 10000
attribute [local irreducible] T TL LV TH TA
end Go.Proofs.Ytfplmpfdhiagaaa

namespace Go.Proofs.Ytfplmpfdhiagaaa
open Go.RowKit Go.Proofs.Eng Go.Proofs.Codec
set_option linter.unusedSimpArgs false
set_option linter.unusedVariables false set_option maxRecDepth 10000
attribute [local irreducible] T TL LV TH TA
set_option maxHeartbeats 1000000

def numV : Except Int (Nat × Nat) → Value
  | .ok (r, k) => .tuple #[.int .u64 (r : Int), .int .i64 (k : Int), .int .i64 0]
  | .error e => .tuple #[.int .u64 0, .int .i64 0, .int .i64 e]
end Go.Proofs.Ytfplmpfdhiagaaa

namespace Go.Proofs.Ytfplmpfdhiagaaa
open Go.RowKit Go.Proofs.Eng Go.Proofs.Foot Go.Proofs.Codec
set_option linter.unusedSimpArgs false
set_option linter.unusedVariables false set_option maxRecDepth 10000
attribute [local irreducible] T TL LV TH TA
theorem Rd.ne {w : World} {A : Option Addr} {n s : Nat} {xs : List Value} (h : Rd w A n s xs) (hn : 0 < n) : A ≠ none := by
  obtain ⟨b, off, rfl, _⟩ := h.2 hn
  exact fun h => by cases h
end Go.Proofs.Ytfplmpfdhiagaaa

namespace Go.Proofs.Ytfplmpfdhiagaaa
open Go.RowKit Go.Proofs.Eng Go.Proofs.Foot Go.Proofs.Codec
set_option linter.unusedSimpArgs false
set_option linter.unusedVariables false set_option maxRecDepth 10000
attribute [local irreducible] T TL LV TH TA
theorem off_none (S : List Nat) : Off none S := fun _ h => by cases h
theorem Count_s (b : Nat) (s : RS) (A : Option Addr) (n c : Nat) (w : World) (h : Rdr w 107 b s A n c) :
    Ret Try.prog 63 [ptr b, .int .i64 64] w (fun v w' => v = .int .i64 (((s.take (0 : Nat) (tLim 64 6)).1 : Nat) : Int) ∧ Mod [b] w w' ∧ Rdr w' 107 b (s.take (0 : Nat) (tLim 64 6)).2 A n c) :=
  Count_c b s A n c 64 (by decide) w h
theorem Text_s (b : Nat) (s : RS) (A : Option Addr) (n c : Nat) (w : World) (h : Rdr w 107 b s A n c) :
    Ret Try.prog 64 [ptr b, .int .i64 32] w (fun v w' => v = .string (ofL (s.take ([] : List UInt8) (tText 32)).1) ∧ Mod [b] w w' ∧ Rdr w' 107 b (s.take ([] : List UInt8) (tText 32)).2 A n c) :=
  Text_c b s A n c 32 (by decide) w h
theorem Byte_s (b : Nat) (s : RS) (A : Option Addr) (n c : Nat) (w : World) (h : Rdr w 107 b s A n c) :
    Ret Try.prog 66 [ptr b] w (fun v w' => v = .int .u8 (((s.take (0 : Nat) tByte).1 : Nat) : Int) ∧ Mod [b] w w' ∧ Rdr w' 107 b (s.take (0 : Nat) tByte).2 A n c) :=
  Byte_c b s A n c w h
/-- A list that grows by one text or stays. -/
def more (l : List Tx) (t : Tx) (z : Nat) : List Tx := if z = 0 then l else l ++ [t]
/-- What stays while a footprint is read. -/
structure GInv (tR : TypeId) (w w5 w' : World) (bR b6 : Nat) (s : RS) (A : Option Addr) (n c : Nat) (x y : Option Addr × Nat × Nat) (rd wr : List Tx) : Prop where
  ext : Ext w w'
  mod : Eng.Mod [bR, b6] w5 w'
  rdr : Rdr w' tR bR s A n c
  blk : Blk w' b6 28 [.slice x.1 x.2.1 x.2.2, .slice y.1 y.2.1 y.2.2]
  own1 : Own w' w5.heap.size 9 1 x.1 x.2.1 x.2.2 (sv rd)
  own2 : Own w' w5.heap.size 9 1 y.1 y.2.1 y.2.2 (sv wr)
  off1 : Off y.1 (blkL x.1)
  off2 : Off x.1 (blkL y.1)
  hR : w.heap.size ≤ bR
  hR5 : bR < w5.heap.size
  h6 : w.heap.size ≤ b6
  h65 : b6 < w5.heap.size
  hne : bR ≠ b6
  hA : Lo A w5.heap.size
  hA6 : Off A [b6]
theorem GInv.step {tR : TypeId} {w w5 w' w2 : World} {bR b6 : Nat} {s s' : RS} {A : Option Addr} {n c : Nat} {x y : Option Addr × Nat × Nat} {rd wr : List Tx} (I : GInv tR w w5 w' bR b6 s A n c x y rd wr) (m : Eng.Mod [bR] w' w2) (r : Rdr w2 tR bR s' A n c) : GInv tR w w5 w2 bR b6 s' A n c x y rd wr := by
  have z := I.mod.size
  have h1 := I.hR
  have h2 := I.hR5
  have h3 := I.hne
  exact ⟨Mod.step I.ext m (by simp; omega), Mod.step I.mod m (by simp), r, I.blk.mod m (by simp; omega), I.own1.mod m (Off.hi I.own1.hi (by omega)), I.own2.mod m (Off.hi I.own2.hi (by omega)), I.off1, I.off2, I.hR, I.hR5, I.h6, I.h65, I.hne, I.hA, I.hA6⟩
theorem GInv.ext2 {tR : TypeId} {w w5 w' w2 : World} {bR b6 : Nat} {s : RS} {A : Option Addr} {n c : Nat} {x y : Option Addr × Nat × Nat} {rd wr : List Tx} (I : GInv tR w w5 w' bR b6 s A n c x y rd wr) (m : Ext w' w2) : GInv tR w w5 w2 bR b6 s A n c x y rd wr :=
  ⟨I.ext.ext m, I.mod.ext m, I.rdr.ext m, I.blk.ext m, I.own1.ext m, I.own2.ext m, I.off1, I.off2, I.hR, I.hR5, I.h6, I.h65, I.hne, I.hA, I.hA6⟩
theorem Get_c (B : Option Addr) (nb cb : Nat) (b : List UInt8) (w : World) (hb : Rd w B nb 1 (bv b)) (hnb : nb ≤ 200000) :
    Ret Try.prog 18 [.slice B nb cb] w (fun v w' => ∃ u, v = .tuple #[u, .int .i64 ((getF b).1.2 : Nat), .int .i64 (getF b).2] ∧ Ext w w' ∧ FootO w' w.heap.size 9 u (getF b).1.1) := by
  have hlb := hb.1
  simp only [bv_length, Nat.mul_one] at hlb
  refine ret_T (n := 75) Try.func18 rfl rfl ?_
  repeat (first | refine T_seq ?_ | refine T_region ?_)
  refine TL_alloc TE (hk := ?_); intro b2 w2 e2 h2 h2' k2
  have z2 := e2.size
  repeat (first | refine T_seq ?_ | refine T_region ?_ | refine TL_nil ?_ | refine TL_move (hk := ?_) | refine TL_assign (hk := ?_))
  refine TL_call TE (hc := NewReader_c B nb cb b _ (hb.be e2) (by omega)) (hk := ?_)
  rintro _ w3 ⟨bR, A3, n3, c3, rfl, e3, hbR, hi3, lo3, rr⟩
  have z3 := e3.size
  have lR := rr.blk.lt
  have hn3 : b.length = n3 := rr.len
  repeat (first | refine T_seq ?_ | refine T_region ?_ | refine TL_nil ?_ | refine TL_assign (hk := ?_))
  refine TL_alloc TE (hk := ?_); intro b6 w4 e4 h6 h6' k6
  have k24 := (k2.be e3).be e4
  have rr4 := rr.ext e4
  have z4 := e4.size
  have e04 := (e2.ext e3).ext e4
  clear k2 rr
  repeat (first | refine T_seq ?_ | refine T_region ?_ | refine TL_nil ?_ | refine TL_move (hk := ?_) | refine TL_assign (hk := ?_))
  refine TL_call TE (hc := Count_s bR _ A3 n3 c3 w4 rr4) (hk := ?_)
  rintro _ w5 ⟨rfl, m5, rr5⟩
  obtain ⟨c0, hc0⟩ : ∃ c0, (RS.mk b 0 0 0 0).take (0 : Nat) (tLim 64 6) = c0 := ⟨_, rfl⟩
  have hgi : gInit b = c0 := hc0
  have hg64 := gInit_le b
  rw [hgi] at hg64
  rw [hc0] at rr5
  rw [hc0]
  have z5 := m5.size
  have e05 : Ext w w5 := Mod.step e04 m5 (by simp; omega)
  have k25 := k24.bm m5 (by simp; omega)
  have k65 := k6.bm m5 (by simp; omega)
  have hA3 : Lo A3 w5.heap.size := Lo.mono lo3 (by omega)
  obtain ⟨n0, hn0⟩ : ∃ n0, c0.1 = n0 := ⟨_, rfl⟩
  rw [hn0] at hg64 ⊢
  clear k24 k6 rr4 hb
  repeat (first | refine T_block ?_ | refine TL_nil ?_ | refine TL_move (hk := ?_))
  have I0 : GInv 107 w w5 w5 bR b6 c0.2 A3 n3 c3 (none, 0, 0) (none, 0, 0) [] [] := ⟨e05, Mod.refl _ _, rr5, k65, Own.nil _ _ _ _, Own.nil _ _ _ _, off_none _, off_none _, by omega, by omega, by omega, by omega, by omega, hA3, Off.lo lo3 (by omega)⟩
  have h25 : b2 < w3.heap.size := by omega
  refine T_loop (ι := (GS × Nat) × (Option Addr × Nat × Nat) × (Option Addr × Nat × Nat)) (fun i => [(16, .int .i64 (i.1.2 : Int)), (15, .int .i64 (n0 : Int)), (7, .string (ofL i.1.1.last)), (6, .pointer (some ⟨b6, 0, none⟩)), (5, ptr bR), (2, .pointer (some ⟨b2, 0, none⟩)), (0, .slice B nb cb)])
    (fun i w' => i.1.2 ≤ n0 ∧ i.1.1 = gIter i.1.2 ⟨c0.2, [], [], []⟩ ∧ GInv 107 w w5 w' bR b6 i.1.1.s A3 n3 c3 i.2.1 i.2.2 i.1.1.rd i.1.1.wr ∧ i.2.1.2.1 ≤ i.1.2 ∧ i.2.2.2.1 ≤ i.1.2) (fun i => n0 - i.1.2) ((⟨c0.2, [], [], []⟩, 0), (none, 0, 0), (none, 0, 0)) (.c rfl (.c rfl (.c rfl (.c rfl (.c rfl (.c rfl (.c rfl (.n))))))))
    ⟨Nat.zero_le _, rfl, I0, Nat.zero_le _, Nat.zero_le _⟩ ?_
  rintro ⟨⟨g, i⟩, x, y⟩ w6 ⟨hi, hg, I6, hnr, hnw⟩ ih
  simp only at hi hg I6 hnr hnw ih ⊢
  by_cases hlt : i < n0
  · repeat (first | refine T_seq ?_ | refine T_region ?_ | refine T_cond_true rfl ?_ | refine T_block ?_ | refine T_skip ?_ | refine TL_lt_t (hk := ?_) | refine TL_nil ?_ | refine TL_move (hk := ?_))
    refine TL_call TE (hc := Text_s bR _ A3 n3 c3 w6 I6.rdr) (hk := ?_)
    rintro _ w7 ⟨rfl, m7, rr7⟩
    have I7 := I6.step m7 rr7
    obtain ⟨p, hp⟩ : ∃ p, g.s.take ([] : List UInt8) (tText 32) = p := ⟨_, rfl⟩
    have hgt : gText g = p := hp
    have hp32 := gText_le g
    have hu256 := gUse_lt g
    rw [hgt] at hp32
    rw [hp] at I7
    rw [hp]
    repeat (first | refine T_seq ?_ | refine T_region ?_ | refine TL_nil ?_ | refine TL_move (hk := ?_) | refine TL_assign (hk := ?_))
    refine TL_call TE (hc := Valid_c p.1 (by omega) _) (hk := ?_)
    rintro _ _ ⟨rfl, rfl⟩
    repeat (first | refine TL_nil ?_ | refine TL_not (hk := ?_))
    refine T_join (ι := Unit) (fun _ => [(8, .string (ofL p.1)), (16, .int .i64 (i : Int)), (15, .int .i64 (n0 : Int)), (7, .string (ofL g.last)), (6, .pointer (some ⟨b6, 0, none⟩)), (5, ptr bR), (2, .pointer (some ⟨b2, 0, none⟩)), (0, .slice B nb cb)])
      (fun _ w' => GInv 107 w w5 w' bR b6 (gKey g) A3 n3 c3 x y g.rd g.wr) (fun kk join => ?_) ?_
    · by_cases hv : validT p.1 = true
      · rw [hv]
        repeat (first | refine T_cond_false rfl ?_ | refine T_skip ?_)
        have hgk : gKey g = p.2 := by unfold gKey; rw [hgt, if_pos hv]
        exact T.sub (join () _ (by rw [hgk]; exact I7)) (.c rfl (.c rfl (.c rfl (.c rfl (.c rfl (.c rfl (.c rfl (.c rfl (.n)))))))))
      · have hv' : validT p.1 = false := by simpa using hv
        rw [hv']
        repeat (first | refine T_region ?_ | refine T_cond_true rfl ?_ | refine TL_move (hk := ?_))
        refine TL_call TE (hc := Fail_c bR _ A3 n3 c3 30 _ I7.rdr) (hk := ?_)
        rintro _ w8 ⟨_, m8, rr8⟩
        repeat (refine TL_nil ?_)
        have hgk : gKey g = p.2.fail 30 := by unfold gKey; rw [hgt, if_neg hv]
        exact T.sub (join () _ (by rw [hgk]; exact I7.step m8 rr8)) (.c rfl (.c rfl (.c rfl (.c rfl (.c rfl (.c rfl (.c rfl (.c rfl (.n)))))))))
    rintro _ w8 I8
    clear I7 I6 rr7
    repeat (first | refine T_seq ?_ | refine T_region ?_ | refine TL_move (hk := ?_))
    refine TL_sle_d (hk := ?_)
    repeat (refine TL_nil ?_)
    refine T_join (ι := Unit) (fun _ => [(8, .string (ofL p.1)), (16, .int .i64 (i : Int)), (15, .int .i64 (n0 : Int)), (6, .pointer (some ⟨b6, 0, none⟩)), (5, ptr bR), (2, .pointer (some ⟨b2, 0, none⟩)), (0, .slice B nb cb)])
      (fun _ w' => GInv 107 w w5 w' bR b6 (gRise g) A3 n3 c3 x y g.rd g.wr) (fun kk join => ?_) ?_
    · by_cases hv : p.1 ≤ g.last
      · rw [decide_eq_true hv]
        repeat (first | refine T_region ?_ | refine T_cond_true rfl ?_ | refine TL_move (hk := ?_))
        refine TL_call TE (hc := Fail_c bR _ A3 n3 c3 31 _ I8.rdr) (hk := ?_)
        rintro _ w9 ⟨_, m9, rr9⟩
        repeat (refine TL_nil ?_)
        have hgk : gRise g = (gKey g).fail 31 := by unfold gRise; rw [hgt, if_pos hv]
        exact T.sub (join () _ (by rw [hgk]; exact I8.step m9 rr9)) (.c rfl (.c rfl (.c rfl (.c rfl (.c rfl (.c rfl (.c rfl (.n))))))))
      · rw [decide_eq_false hv]
        repeat (first | refine T_cond_false rfl ?_ | refine T_skip ?_)
        have hgk : gRise g = gKey g := by unfold gRise; rw [hgt, if_neg hv]
        exact T.sub (join () _ (by rw [hgk]; exact I8)) (.c rfl (.c rfl (.c rfl (.c rfl (.c rfl (.c rfl (.c rfl (.n))))))))
    rintro _ w9 I9
    clear I8
    repeat (first | refine T_seq ?_ | refine T_region ?_ | refine TL_nil ?_ | refine TL_move (hk := ?_) | refine TL_assign (hk := ?_))
    refine TL_call TE (hc := Byte_s bR _ A3 n3 c3 w9 I9.rdr) (hk := ?_)
    rintro _ w10 ⟨rfl, m10, rr10⟩
    have I10 := I9.step m10 rr10
    obtain ⟨q, hq⟩ : ∃ q, (gRise g).take (0 : Nat) tByte = q := ⟨_, rfl⟩
    have hgu : gUse g = q := hq
    rw [hgu] at hu256
    rw [hq] at I10
    rw [hq]
    obtain ⟨u, hu⟩ : ∃ u, q.1 = u := ⟨_, rfl⟩
    rw [hu] at hu256 ⊢
    clear I9 rr10
    repeat (first | refine TL_nil ?_ | refine TL_assign (hk := ?_))
    refine T_seq ?_
    refine T_join (ι := Unit) (fun _ => [(9, .int .u8 (u : Int)), (8, .string (ofL p.1)), (7, .string (ofL p.1)), (16, .int .i64 (i : Int)), (15, .int .i64 (n0 : Int)), (6, .pointer (some ⟨b6, 0, none⟩)), (5, ptr bR), (2, .pointer (some ⟨b2, 0, none⟩)), (0, .slice B nb cb)])
      (fun _ w' => GInv 107 w w5 w' bR b6 (gEnd g) A3 n3 c3 x y g.rd g.wr) (fun kk join => ?_) ?_
    · by_cases hv : u < 1
      · repeat (first | refine T_seq ?_ | refine T_region ?_ | refine T_cond_true rfl ?_ | refine TL_lt_t (hk := ?_) | refine TL_nil ?_ | refine TL_move (hk := ?_) | refine TL_no (hk := ?_) | refine TL_pick_t (hk := ?_))
        refine TL_call TE (hc := Fail_c bR _ A3 n3 c3 31 _ I10.rdr) (hk := ?_)
        rintro _ w11 ⟨_, m11, rr11⟩
        repeat (refine TL_nil ?_)
        have hgk : gEnd g = q.2.fail 31 := by unfold gEnd; rw [hgu, hu, if_pos (.inl hv)]
        exact T.sub (join () _ (by rw [hgk]; exact I10.step m11 rr11)) (.c rfl (.c rfl (.c rfl (.c rfl (.c rfl (.c rfl (.c rfl (.c rfl (.c rfl (.n))))))))))
      · by_cases hv3 : 3 < u
        · repeat (first | refine T_seq ?_ | refine T_region ?_ | refine T_cond_true rfl ?_ | refine TL_lt_f (hk := ?_) | refine TL_gt_t (hk := ?_) | refine TL_nil ?_ | refine TL_move (hk := ?_) | refine TL_yes (hk := ?_) | refine TL_pick_f (hk := ?_))
          refine TL_call TE (hc := Fail_c bR _ A3 n3 c3 31 _ I10.rdr) (hk := ?_)
          rintro _ w11 ⟨_, m11, rr11⟩
          repeat (refine TL_nil ?_)
          have hgk : gEnd g = q.2.fail 31 := by unfold gEnd; rw [hgu, hu, if_pos (.inr hv3)]
          exact T.sub (join () _ (by rw [hgk]; exact I10.step m11 rr11)) (.c rfl (.c rfl (.c rfl (.c rfl (.c rfl (.c rfl (.c rfl (.c rfl (.c rfl (.n))))))))))
        · repeat (first | refine T_seq ?_ | refine T_region ?_ | refine T_cond_false rfl ?_ | refine T_skip ?_ | refine TL_lt_f (hk := ?_) | refine TL_gt_f (hk := ?_) | refine TL_nil ?_ | refine TL_move (hk := ?_) | refine TL_yes (hk := ?_) | refine TL_pick_f (hk := ?_))
          have hgk : gEnd g = q.2 := by unfold gEnd; rw [hgu, hu, if_neg (by omega)]
          exact T.sub (join () _ (by rw [hgk]; exact I10)) (.c rfl (.c rfl (.c rfl (.c rfl (.c rfl (.c rfl (.c rfl (.c rfl (.c rfl (.n))))))))))
    rintro _ w11 I11
    clear I10
    repeat (first | refine T_seq ?_ | refine T_region ?_ | refine TL_move (hk := ?_))
    refine TL_and (hk := ?_); intro _
    refine TL_ne_d (hk := ?_)
    repeat (refine TL_nil ?_)
    refine T_join (ι := Option Addr × Nat × Nat) (fun _ => [(9, .int .u8 (u : Int)), (8, .string (ofL p.1)), (7, .string (ofL p.1)), (16, .int .i64 (i : Int)), (15, .int .i64 (n0 : Int)), (6, .pointer (some ⟨b6, 0, none⟩)), (5, ptr bR), (2, .pointer (some ⟨b2, 0, none⟩)), (0, .slice B nb cb)])
      (fun x' w' => GInv 107 w w5 w' bR b6 (gEnd g) A3 n3 c3 x' y (if u &&& 1 = 0 then g.rd else g.rd ++ [p.1]) g.wr ∧ x'.2.1 ≤ i + 1) (fun kk join => ?_) ?_
    · by_cases hv : u &&& 1 = 0
      · rw [if_pos hv] at join
        rw [show decide (((u &&& 1 : Nat) : Int) = 0) = true from decide_eq_true (by omega)]
        repeat (first | refine T_cond_false rfl ?_ | refine T_skip ?_)
        exact T.sub (join x _ ⟨I11, by omega⟩) (.c rfl (.c rfl (.c rfl (.c rfl (.c rfl (.c rfl (.c rfl (.c rfl (.c rfl (.n))))))))))
      · rw [if_neg hv] at join
        rw [show decide (((u &&& 1 : Nat) : Int) = 0) = false from decide_eq_false (by omega)]
        have k6 := I11.blk
        have o1 := I11.own1
        repeat (first | refine T_region ?_ | refine T_cond_true rfl ?_ | refine TL_move (hk := ?_) | refine TL_load TE (hk := ?_) | refine TL_fieldAddr TE (hk := ?_))
        refine TL_buildSlice TE (hk := ?_); intro b12 w12 e12 h12 h12' k12
        replace k12 : Blk w12 b12 9 [.string (ofL p.1)] := k12
        have z12 := e12.size
        have o12 := o1.be e12
        have z11 := I11.mod.size
        refine TL_append TE (hk := ?_); intro A13 c13 w13 o13 m13 n13
        have J12 := I11.ext2 e12
        have h65 := I11.h65
        have hRR := I11.hR5
        have hne := I11.hne
        have h6 := I11.h6
        have z13 := m13.size
        have k13 := J12.blk.mod m13 (hi_not o12.hi h65)
        have rr13 := J12.rdr.mod m13 (hi_not o12.hi hRR) (Off.lohi J12.hA o12.hi)
        have own2 := J12.own2.mod m13 J12.off1
        have e13 : Ext w w13 := J12.ext.own m13 (Hi.mono o12.hi (by have := e05.size; omega))
        have mm13 : Eng.Mod [bR, b6] w5 w13 := Mod.step J12.mod m13 (fun z hz => .inr (by
          cases hx : x.1 with
          | none => rw [hx] at hz; simp [blkL] at hz
          | some ad => rw [hx] at hz; simp [blkL] at hz; rw [hz]; exact o12.hi ad hx))
        have noff : Off y.1 (blkL A13) := by
          intro ad had hm
          cases A13 with
          | none => simp [blkL] at hm
          | some a2 =>
            simp [blkL] at hm
            rcases n13 a2 rfl with h | h
            · exact J12.off1 ad had (by rw [h]; simp [blkL, hm])
            · have := J12.own2.lo ad had; omega
        have noff2 : Off A13 (blkL y.1) := by
          intro ad had hm
          cases hy : y.1 with
          | none => rw [hy] at hm; simp [blkL] at hm
          | some a2 =>
            rw [hy] at hm
            simp [blkL] at hm
            rcases n13 ad had with h | h
            · exact J12.off2 ad h (by rw [hy]; simp [blkL, hm])
            · have := J12.own2.lo a2 hy; omega
        clear k6 o1 k12 I11
        repeat (refine TL_fieldAddr TE (hk := ?_))
        refine TL_store TE (hk := ?_); intro w14 m14 z14 k14
        repeat (refine TL_nil ?_)
        refine T.sub (join (A13, x.2.1 + 1, c13) _ ⟨⟨Mod.step e13 m14 (by simp; omega), Mod.step mm13 m14 (by simp), rr13.mod m14 (by simp; omega) J12.hA6, k14, ?_, own2.mod m14 (Off.hi own2.hi (by omega)), noff, noff2, J12.hR, J12.hR5, J12.h6, J12.h65, J12.hne, J12.hA, J12.hA6⟩, by show x.2.1 + 1 ≤ i + 1; omega⟩) (.c rfl (.c rfl (.c rfl (.c rfl (.c rfl (.c rfl (.c rfl (.c rfl (.c rfl (.n))))))))))
        rw [sv_append]
        exact o13.mod m14 (Off.hi o13.hi (by omega))
    rintro x' w12 ⟨I12, hnx⟩
    obtain ⟨rd', hrd⟩ : ∃ rd', (if u &&& 1 = 0 then g.rd else g.rd ++ [p.1]) = rd' := ⟨_, rfl⟩
    rw [hrd] at I12
    repeat (first | refine T_seq ?_ | refine T_region ?_ | refine TL_move (hk := ?_))
    refine TL_and (hk := ?_); intro _
    refine TL_ne_d (hk := ?_)
    repeat (refine TL_nil ?_)
    refine T_join (ι := Option Addr × Nat × Nat) (fun _ => [(9, .int .u8 (u : Int)), (8, .string (ofL p.1)), (7, .string (ofL p.1)), (16, .int .i64 (i : Int)), (15, .int .i64 (n0 : Int)), (6, .pointer (some ⟨b6, 0, none⟩)), (5, ptr bR), (2, .pointer (some ⟨b2, 0, none⟩)), (0, .slice B nb cb)])
      (fun y' w' => GInv 107 w w5 w' bR b6 (gEnd g) A3 n3 c3 x' y' rd' (if u &&& 2 = 0 then g.wr else g.wr ++ [p.1]) ∧ y'.2.1 ≤ i + 1) (fun kk join => ?_) ?_
    · by_cases hv : u &&& 2 = 0
      · rw [if_pos hv] at join
        rw [show decide (((u &&& 2 : Nat) : Int) = 0) = true from decide_eq_true (by omega)]
        repeat (first | refine T_cond_false rfl ?_ | refine T_skip ?_)
        exact T.sub (join y _ ⟨I12, by omega⟩) (.c rfl (.c rfl (.c rfl (.c rfl (.c rfl (.c rfl (.c rfl (.c rfl (.c rfl (.n))))))))))
      · rw [if_neg hv] at join
        rw [show decide (((u &&& 2 : Nat) : Int) = 0) = false from decide_eq_false (by omega)]
        have k6 := I12.blk
        have o1 := I12.own2
        repeat (first | refine T_region ?_ | refine T_cond_true rfl ?_ | refine TL_move (hk := ?_) | refine TL_load TE (hk := ?_) | refine TL_fieldAddr TE (hk := ?_))
        refine TL_buildSlice TE (hk := ?_); intro b12 w12 e12 h12 h12' k12
        replace k12 : Blk w12 b12 9 [.string (ofL p.1)] := k12
        have z12 := e12.size
        have o12 := o1.be e12
        have z11 := I12.mod.size
        refine TL_append TE (hk := ?_); intro A13 c13 w13 o13 m13 n13
        have J12 := I12.ext2 e12
        have h65 := I12.h65
        have hRR := I12.hR5
        have hne := I12.hne
        have h6 := I12.h6
        have z13 := m13.size
        have k13 := J12.blk.mod m13 (hi_not o12.hi h65)
        have rr13 := J12.rdr.mod m13 (hi_not o12.hi hRR) (Off.lohi J12.hA o12.hi)
        have own1 := J12.own1.mod m13 J12.off2
        have e13 : Ext w w13 := J12.ext.own m13 (Hi.mono o12.hi (by have := e05.size; omega))
        have mm13 : Eng.Mod [bR, b6] w5 w13 := Mod.step J12.mod m13 (fun z hz => .inr (by
          cases hx : y.1 with
          | none => rw [hx] at hz; simp [blkL] at hz
          | some ad => rw [hx] at hz; simp [blkL] at hz; rw [hz]; exact o12.hi ad hx))
        have noff : Off x'.1 (blkL A13) := by
          intro ad had hm
          cases A13 with
          | none => simp [blkL] at hm
          | some a2 =>
            simp [blkL] at hm
            rcases n13 a2 rfl with h | h
            · exact J12.off2 ad had (by rw [h]; simp [blkL, hm])
            · have := J12.own1.lo ad had; omega
        have noff2 : Off A13 (blkL x'.1) := by
          intro ad had hm
          cases hy : x'.1 with
          | none => rw [hy] at hm; simp [blkL] at hm
          | some a2 =>
            rw [hy] at hm
            simp [blkL] at hm
            rcases n13 ad had with h | h
            · exact J12.off1 ad h (by rw [hy]; simp [blkL, hm])
            · have := J12.own1.lo a2 hy; omega
        clear k6 o1 k12 I12
        repeat (refine TL_fieldAddr TE (hk := ?_))
        refine TL_store TE (hk := ?_); intro w14 m14 z14 k14
        repeat (refine TL_nil ?_)
        refine T.sub (join (A13, y.2.1 + 1, c13) _ ⟨⟨Mod.step e13 m14 (by simp; omega), Mod.step mm13 m14 (by simp), rr13.mod m14 (by simp; omega) J12.hA6, k14, own1.mod m14 (Off.hi own1.hi (by omega)), ?_, noff2, noff, J12.hR, J12.hR5, J12.h6, J12.h65, J12.hne, J12.hA, J12.hA6⟩, by show y.2.1 + 1 ≤ i + 1; omega⟩) (.c rfl (.c rfl (.c rfl (.c rfl (.c rfl (.c rfl (.c rfl (.c rfl (.c rfl (.n))))))))))
        rw [sv_append]
        exact o13.mod m14 (Off.hi o13.hi (by omega))
    rintro y' w13 ⟨I13, hny⟩
    obtain ⟨wr', hwr⟩ : ∃ wr', (if u &&& 2 = 0 then g.wr else g.wr ++ [p.1]) = wr' := ⟨_, rfl⟩
    rw [hwr] at I13
    have hstep : gStep g = ⟨gEnd g, p.1, rd', wr'⟩ := by unfold gStep; rw [hgt, hgu, hu, hrd, hwr]
    repeat (first | refine T_region ?_ | refine T_inBlock ?_ | refine TL_add (hk := ?_) | refine TL_nil ?_ | refine TL_move (hk := ?_))
    refine ih ((⟨gEnd g, p.1, rd', wr'⟩, i + 1), x', y') _ _ (by simp only; omega) ⟨by show i + 1 ≤ n0; omega, ?_, I13, hnx, hny⟩ (.c rfl (.c rfl (.c rfl (.c rfl (.c rfl (.c rfl (.c rfl (.n))))))))
    show _ = gStep (gIter i _)
    rw [← hg, hstep]
  · have hin : i = n0 := by omega
    have hall : gAll b = g := by unfold gAll; rw [hgi, hn0, ← hin]; exact hg.symm
    repeat (first | refine T_seq ?_ | refine T_region ?_ | refine T_cond_false rfl ?_ | refine T_exit rfl ?_ | refine TL_lt_f (hk := ?_) | refine TL_nil ?_ | refine TL_move (hk := ?_))
    refine TL_call TE (hc := Why_c bR _ A3 n3 c3 w6 I6.rdr) (hk := ?_)
    rintro _ w7 ⟨rfl, e7⟩
    have I7 := I6.ext2 e7
    have k27 : Blk w7 b2 28 [.slice none 0 0, .slice none 0 0] := (k25.mod I6.mod (by simp; omega)).ext e7
    have hrest : g.s.rest ≤ nb := by
      have h1 := I7.rdr.len
      unfold RS.rest
      split <;> omega
    clear I6
    by_cases he : g.s.err = 0
    · have hf : getF b = (((g.rd, g.wr), b.length - g.s.rest), 0) := by unfold getF; rw [hall, if_pos he]
      rw [hf]
      repeat (first | refine T_seq ?_ | refine T_region ?_ | refine T_cond_false rfl ?_ | refine T_skip ?_ | refine TL_ne_f (hk := ?_) | refine TL_nil ?_ | refine TL_move (hk := ?_) | refine TL_assign (hk := ?_) | refine TL_extract (hk := ?_))
      refine T_region_any TE.mixed [b2] ?_; intro w8 e8 z8
      have I8 := I7.ext2 e8
      have k28 := k27.ext e8
      have h62 : b6 ∉ [b2] := by simp; omega
      refine TA_take 0 rfl (by kernel_rfl) (by kernel_rfl) (by kernel_rfl) ?_
      refine TLP_loadb TE (cs := [.slice x.1 x.2.1 x.2.2, .slice y.1 y.2.1 y.2.2]) (o := 0) (hb := I8.blk) (hD := h62) (hk := ?_)
      refine TL_nil_p ?_
      (refine TA_take 1 rfl (by kernel_rfl) (by kernel_rfl) (by kernel_rfl) ?_; (repeat (first | refine TL_move (hk := ?_) | refine TL_len TE (hk := ?_))); refine TL_nil_p ?_); (refine TA_take 2 rfl (by kernel_rfl) (by kernel_rfl) (by kernel_rfl) ?_; (repeat (first | refine TL_move (hk := ?_) | refine TL_len TE (hk := ?_))); refine TL_nil_p ?_); (refine TA_take 3 rfl (by kernel_rfl) (by kernel_rfl) (by kernel_rfl) ?_; (repeat (first | refine TL_move (hk := ?_) | refine TL_len TE (hk := ?_))); refine TL_nil_p ?_)
      refine TA_one 4 rfl (by kernel_rfl) (by kernel_rfl) ?_
      refine TL_call TE (hc := Rest_c bR _ A3 n3 c3 w8 I8.rdr) (hq := fun v w' h => h.2.un) (hk := ?_)
      rintro _ w9 ⟨rfl, e9⟩
      have I9 := I8.ext2 e9
      have k29 := k28.ext e9
      refine TL_nil_p ?_
      (refine TA_take 5 rfl (by kernel_rfl) (by kernel_rfl) (by kernel_rfl) ?_; (repeat (refine TL_sub (hk := ?_))); refine TL_nil_p ?_)
      refine TA_one 6 rfl (by kernel_rfl) (by kernel_rfl) ?_
      refine TL_storea TE (hf := rfl) (hq := fun w' h _ => e9.un.trans h) (hk := ?_); intro w10 m10 z10 k10
      refine TL_nil_p ?_
      (refine TA_take 7 rfl (by kernel_rfl) (by kernel_rfl) (by kernel_rfl) ?_; (repeat (refine TL_assign (hk := ?_))); refine TL_nil_p ?_); (refine TA_take 8 rfl (by kernel_rfl) (by kernel_rfl) (by kernel_rfl) ?_; (repeat (refine TL_assign (hk := ?_))); refine TL_nil_p ?_)
      refine TA_done (by kernel_rfl) ?_
      --
      have hsub : (((nb : Nat) : Int) - ((g.s.rest : Nat) : Int)) = ((b.length - g.s.rest : Nat) : Int) := by omega
      have z6 := I9.mod.size
      refine T_retA3 TE (vs := [.slice x.1 x.2.1 x.2.2, .slice y.1 y.2.1 y.2.2]) (o := 0) rfl rfl rfl rfl rfl rfl k10 rfl (Nat.succ_pos _) ⟨.agg #[.slice x.1 x.2.1 x.2.2, .slice y.1 y.2.1 y.2.2], ?_, Mod.step I9.ext m10 (by simp; omega), x.1, x.2.1, x.2.2, y.1, y.2.1, y.2.2, rfl, ?_, ?_, I9.off1⟩
      · rw [hsub]
      · exact (I9.own1.mod m10 (Off.hi I9.own1.hi (by omega))).weaken (by have := e05.size; omega)
      · exact (I9.own2.mod m10 (Off.hi I9.own2.hi (by omega))).weaken (by have := e05.size; omega)
    · have hf : getF b = ((([], []), 0), g.s.err) := by unfold getF; rw [hall, if_neg he]
      rw [hf]
      repeat (first | refine T_seq ?_ | refine T_region ?_ | refine T_cond_true rfl ?_ | refine TL_ne_t (hk := ?_) | refine TL_nil ?_ | refine TL_move (hk := ?_) | refine TL_assign (hk := ?_) | refine TL_extract (hk := ?_) | refine TL_build TE (hk := ?_))
      refine TL_storea TE (hk := ?_); intro w8 m8 s8 k8
      repeat (first | refine TL_nil ?_ | refine TL_assign (hk := ?_))
      exact T_retA3 TE (vs := [.slice none 0 0, .slice none 0 0]) (o := 0) rfl rfl rfl rfl rfl rfl k8 rfl (Nat.succ_pos _) ⟨.agg #[.slice none 0 0, .slice none 0 0], rfl, Mod.step I7.ext m8 (by simp; omega), FootO.nil _ _ _⟩
end Go.Proofs.Ytfplmpfdhiagaaa

namespace Go.Proofs.Ytfplmpfdhiagaaa
open Go.RowKit Go.Proofs.Eng Go.Proofs.Codec
set_option linter.unusedSimpArgs false
set_option linter.unusedVariables false set_option maxRecDepth 10000
attribute [local irreducible] T TL LV TH TA
set_option maxHeartbeats 1000000

end Go.Proofs.Ytfplmpfdhiagaaa

namespace Go.Proofs.Ytfplmpfdhiagaaa
open Go.RowKit Go.Proofs.Eng Go.Proofs.Codec
set_option linter.unusedSimpArgs false
set_option linter.unusedVariables false set_option maxRecDepth 10000
attribute [local irreducible] T TL LV TH TA
set_option maxHeartbeats 1000000

end Go.Proofs.Ytfplmpfdhiagaaa

namespace Go.Proofs.Ytfplmpfdhiagaaa
open Go.RowKit Go.Proofs.Eng Go.Proofs.Foot Go.Proofs.Codec
set_option linter.unusedSimpArgs false
set_option linter.unusedVariables false set_option maxRecDepth 10000
attribute [local irreducible] T TL LV TH TA
theorem take_zero {α : Type} {s : RS} {z : α} {t : List UInt8 → Except Int (α × Nat)} (h : ¬ s.err = 0) : s.take z t = (z, s) := by unfold RS.take; rw [if_neg h]
end Go.Proofs.Ytfplmpfdhiagaaa

namespace Go.Proofs.Ytfplmpfdhiagaaa
open Go.RowKit Go.Proofs.Eng Go.Proofs.Foot Go.Proofs.Codec
set_option linter.unusedSimpArgs false
set_option linter.unusedVariables false set_option maxRecDepth 10000
attribute [local irreducible] T TL LV TH TA
theorem num_c3 (z : Int) (w : World) : Ret Try.prog 12 [.int .i64 z] w (fun v w' => v = .int .i64 z ∧ w' = w) := by
  refine ret_T (n := 4) Try.func12 rfl rfl ?_
  repeat (first | refine T_seq ?_ | refine T_region ?_ | refine TL_nil ?_ | refine TL_move (hk := ?_) | refine TL_assign (hk := ?_))
  exact T_ret1 rfl rfl ⟨rfl, rfl⟩
def behind : Tx := [98, 101, 104, 105, 110, 100]
/-- A footprint in lists of its own, with a text more behind each. -/
def GivenO (w : World) (base : Nat) (v : Value) (r k : List Tx) : Prop :=
  ∃ A c B d, v = .agg #[.slice A r.length c, .slice B k.length d] ∧ Own w base 9 1 A (r.length + 1) c (sv (r ++ [behind])) ∧ Own w base 9 1 B (k.length + 1) d (sv (k ++ [behind]))
theorem own_c3 (A B : Option Addr) (n c m d : Nat) (r k : List Tx) (w : World) (h : Rd w A n 1 (sv r)) (g : Rd w B m 1 (sv k)) (hn : n ≤ 50000) (hm : m ≤ 50000) :
    Ret Try.prog 15 [.agg #[.slice A n c, .slice B m d]] w (fun v w' => GivenO w' w.heap.size v r k ∧ Ext w w') := by
  have hr : r.length = n := by simpa using h.1
  have hk : k.length = m := by simpa using g.1
  have onr := sv_one r
  have onk := sv_one k
  have onb := sv_one [behind]
  refine ret_T (n := 28) Try.func15 rfl rfl ?_
  repeat (first | refine T_seq ?_ | refine T_region ?_)
  refine TL_box (hk := ?_); intro b1 w1 e1 h1 h1' k1
  refine TL_alloc TE (hk := ?_); intro b2 w2 e2 h2 h2' k2
  repeat (first | refine T_seq ?_ | refine T_region ?_ | refine TL_nil ?_)
  have e02 := e1.ext e2
  have k12 := k1.be e2
  have hA2 := h.be e02
  have hB2 := g.be e02
  have z1 := e1.size
  have z2 := e2.size
  clear k1 h g
  refine TL_buildSlice TE (hk := ?_); intro b3 w3 e3 h3 h3' k3
  have z3 := e3.size
  have o3 : Own w3 w2.heap.size 9 1 (some ⟨b3, 0, none⟩) 0 0 [] := Own.of_blk k3 h3 rfl (by decide)
  have k13 := k12.be e3
  have hA3 := hA2.be e3
  repeat (first | refine TL_load TE (hk := ?_) | refine TL_fieldAddr TE (hk := ?_))
  refine TL_append TE (hk := ?_); intro A4 c4 w4 o4 m4 n4
  have e24 : Ext w2 w4 := e3.own m4 o3.hi
  have z4 := m4.size
  clear k13 hA3 k3 o3
  --
  refine TL_buildSlice TE (hk := ?_); intro b5 w5 e5 h5 h5' k5
  replace k5 : Blk w5 b5 9 (sv [behind]) := k5
  have o45 := o4.be e5
  have z5 := e5.size
  refine TL_append TE (hk := ?_); intro A6 c6 w6 o6 m6 n6
  have e26 : Ext w2 w6 := (e24.ext e5).own m6 o45.hi
  have z6 := m6.size
  have k16 := k12.be e26
  have hB6 := hB2.be e26
  have k26 := k2.be e26
  clear k12 k2 hA2 hB2 o4 o45 k5
  repeat (first | refine T_seq ?_ | refine T_region ?_ | refine TL_nil ?_ | refine TL_assign (hk := ?_))
  refine TL_buildSlice TE (hk := ?_); intro b7 w7 e7 h7 h7' k7
  have z7 := e7.size
  have o7 : Own w7 w6.heap.size 9 1 (some ⟨b7, 0, none⟩) 0 0 [] := Own.of_blk k7 h7 rfl (by decide)
  have k17 := k16.be e7
  have hB7 := hB6.be e7
  repeat (first | refine TL_load TE (hk := ?_) | refine TL_fieldAddr TE (hk := ?_))
  refine TL_append TE (hk := ?_); intro A8 c8 w8 o8 m8 n8
  have e68 : Ext w6 w8 := e7.own m8 o7.hi
  have z8 := m8.size
  clear k17 hB7 k7 o7
  --
  refine TL_buildSlice TE (hk := ?_); intro b9 w9 e9 h9 h9' k9
  replace k9 : Blk w9 b9 9 (sv [behind]) := k9
  have o89 := o8.be e9
  have z9 := e9.size
  refine TL_append TE (hk := ?_); intro A10 c10 w10 o10 m10 n10
  have e610 : Ext w6 w10 := (e68.ext e9).own m10 o89.hi
  have o610 := o6.be e610
  have k110 := k16.be e610
  have k210 := k26.be e610
  clear o6 o8 o89 k9 k16 k26
  repeat (first | refine T_seq ?_ | refine TL_nil ?_ | refine TL_assign (hk := ?_))
  refine T_region_any TE.mixed [b2] ?_; intro w11 e11 z11
  have k111 := k110.be e11
  have k211 := k210.be e11
  have oA := o610.be e11
  have oB := o10.be e11
  have hb12 : b1 ≠ b2 := by omega
  have hb12' : b1 ∉ [b2] := by simp; omega
  have z10 := e610.size
  have cA := oA.cap
  have cB := oB.cap
  clear k110 k210 o610 o10
  (refine TA_take 0 rfl (by kernel_rfl) (by kernel_rfl) (by kernel_rfl) ?_; (repeat (first | refine TL_move (hk := ?_) | refine TLP_load TE (hk := ?_) | refine TL_fieldAddr TE (hk := ?_) | refine TL_len TE (hk := ?_) | refine TL_slice_hi TE (hk := ?_) | refine TL_build TE (hk := ?_))); refine TL_nil_p ?_); (refine TA_take 1 rfl (by kernel_rfl) (by kernel_rfl) (by kernel_rfl) ?_; (repeat (first | refine TL_move (hk := ?_) | refine TLP_load TE (hk := ?_) | refine TL_fieldAddr TE (hk := ?_) | refine TL_len TE (hk := ?_) | refine TL_slice_hi TE (hk := ?_) | refine TL_build TE (hk := ?_))); refine TL_nil_p ?_); (refine TA_take 2 rfl (by kernel_rfl) (by kernel_rfl) (by kernel_rfl) ?_; (repeat (first | refine TL_move (hk := ?_) | refine TLP_load TE (hk := ?_) | refine TL_fieldAddr TE (hk := ?_) | refine TL_len TE (hk := ?_) | refine TL_slice_hi TE (hk := ?_) | refine TL_build TE (hk := ?_))); refine TL_nil_p ?_); (refine TA_take 3 rfl (by kernel_rfl) (by kernel_rfl) (by kernel_rfl) ?_; (repeat (first | refine TL_move (hk := ?_) | refine TLP_load TE (hk := ?_) | refine TL_fieldAddr TE (hk := ?_) | refine TL_len TE (hk := ?_) | refine TL_slice_hi TE (hk := ?_) | refine TL_build TE (hk := ?_))); refine TL_nil_p ?_); (refine TA_take 4 rfl (by kernel_rfl) (by kernel_rfl) (by kernel_rfl) ?_; (repeat (first | refine TL_move (hk := ?_) | refine TLP_load TE (hk := ?_) | refine TL_fieldAddr TE (hk := ?_) | refine TL_len TE (hk := ?_) | refine TL_slice_hi TE (hk := ?_) | refine TL_build TE (hk := ?_))); refine TL_nil_p ?_); (refine TA_take 5 rfl (by kernel_rfl) (by kernel_rfl) (by kernel_rfl) ?_; (repeat (first | refine TL_move (hk := ?_) | refine TLP_load TE (hk := ?_) | refine TL_fieldAddr TE (hk := ?_) | refine TL_len TE (hk := ?_) | refine TL_slice_hi TE (hk := ?_) | refine TL_build TE (hk := ?_))); refine TL_nil_p ?_); (refine TA_take 6 rfl (by kernel_rfl) (by kernel_rfl) (by kernel_rfl) ?_; (repeat (first | refine TL_move (hk := ?_) | refine TLP_load TE (hk := ?_) | refine TL_fieldAddr TE (hk := ?_) | refine TL_len TE (hk := ?_) | refine TL_slice_hi TE (hk := ?_) | refine TL_build TE (hk := ?_))); refine TL_nil_p ?_); (refine TA_take 7 rfl (by kernel_rfl) (by kernel_rfl) (by kernel_rfl) ?_; (repeat (first | refine TL_move (hk := ?_) | refine TLP_load TE (hk := ?_) | refine TL_fieldAddr TE (hk := ?_) | refine TL_len TE (hk := ?_) | refine TL_slice_hi TE (hk := ?_) | refine TL_build TE (hk := ?_))); refine TL_nil_p ?_); (refine TA_take 8 rfl (by kernel_rfl) (by kernel_rfl) (by kernel_rfl) ?_; (repeat (first | refine TL_move (hk := ?_) | refine TLP_load TE (hk := ?_) | refine TL_fieldAddr TE (hk := ?_) | refine TL_len TE (hk := ?_) | refine TL_slice_hi TE (hk := ?_) | refine TL_build TE (hk := ?_))); refine TL_nil_p ?_); (refine TA_take 9 rfl (by kernel_rfl) (by kernel_rfl) (by kernel_rfl) ?_; (repeat (first | refine TL_move (hk := ?_) | refine TLP_load TE (hk := ?_) | refine TL_fieldAddr TE (hk := ?_) | refine TL_len TE (hk := ?_) | refine TL_slice_hi TE (hk := ?_) | refine TL_build TE (hk := ?_))); refine TL_nil_p ?_); (refine TA_take 10 rfl (by kernel_rfl) (by kernel_rfl) (by kernel_rfl) ?_; (repeat (first | refine TL_move (hk := ?_) | refine TLP_load TE (hk := ?_) | refine TL_fieldAddr TE (hk := ?_) | refine TL_len TE (hk := ?_) | refine TL_slice_hi TE (hk := ?_) | refine TL_build TE (hk := ?_))); refine TL_nil_p ?_)
  refine TA_one 11 rfl (by kernel_rfl) (by kernel_rfl) ?_
  refine TL_storea TE (hf := rfl) (hq := fun w' h _ => h) (hk := ?_); intro w12 m12 z12 k12
  refine TL_nil_p ?_
  refine TA_done (by kernel_rfl) ?_
  --
  have e012 : Ext w w12 := Mod.step (((e02.ext e26).ext e610).ext e11) m12 (by simp; omega)
  have oA12 := oA.mod m12 (Off.hi oA.hi (by omega))
  have oB12 := oB.mod m12 (Off.hi oB.hi (by omega))
  refine T_retA1 TE (vs := [.slice A6 n c6, .slice A10 m c10]) (o := 0) rfl rfl rfl rfl k12 rfl (Nat.succ_pos _) ⟨⟨A6, c6, A10, c10, by rw [hr, hk], ?_, ?_⟩, e012⟩
  · have := oA12.weaken (base' := w.heap.size) (by omega)
    rw [hr, sv_append]
    simpa using this
  · have := oB12.weaken (base' := w.heap.size) (by omega)
    rw [hk, sv_append]
    simpa using this
end Go.Proofs.Ytfplmpfdhiagaaa

namespace Go.Proofs.Ytfplmpfdhiagaaa
open Go.RowKit Go.Proofs.Eng Go.Proofs.Foot Go.Proofs.Codec
set_option linter.unusedSimpArgs false
set_option linter.unusedVariables false set_option maxRecDepth 10000
attribute [local irreducible] T TL LV TH TA
theorem take_behind {w : World} {A : Option Addr} {r : List Tx} {n : Nat} (h : Rd w A (n + 1) 1 (sv (r ++ [behind]))) (hn : r.length = n) : Rd w A n 1 (sv r) := by
  have := h.take (h := n) (by omega)
  rw [sv_append, Nat.mul_one, List.take_append_of_le_length (by simp [hn]), List.take_of_length_le (by simp [hn])] at this
  exact this
end Go.Proofs.Ytfplmpfdhiagaaa

namespace Go.Proofs.Ytfplmpfdhiagaaa
open Go.RowKit Go.Proofs.Eng Go.Proofs.Foot
set_option linter.unusedSimpArgs false
set_option linter.unusedVariables false set_option maxRecDepth 10000
attribute [local irreducible] T TL LV TH TA
/-- A footprint in lists of its own, a text more behind each. -/
def Giv (w : World) (base : Nat) (x : FV) : Prop :=
  Own w base 9 1 x.A (x.n + 1) x.c (sv (x.t.1 ++ [behind])) ∧ Own w base 9 1 x.B (x.m + 1) x.d (sv (x.t.2 ++ [behind])) ∧ x.t.1.length = x.n ∧ x.t.2.length = x.m
theorem Giv.mod {w w' : World} {base : Nat} {x : FV} {S : List Nat} (h : Giv w base x) (hm : Eng.Mod S w w') (h1 : Off x.A S) (h2 : Off x.B S) : Giv w' base x := ⟨h.1.mod hm h1, h.2.1.mod hm h2, h.2.2⟩
theorem Giv.be {w w' : World} {base : Nat} {x : FV} (e : Ext w w') (h : Giv w base x) : Giv w' base x := ⟨h.1.be e, h.2.1.be e, h.2.2⟩
theorem Giv.fin {w : World} {base : Nat} {x : FV} (h : Giv w base x) (h1 : x.n ≤ 50000) (h2 : x.m ≤ 50000) : FIn w x := ⟨take_behind h.1.rd h.2.2.1, take_behind h.2.1.rd h.2.2.2, h1, h2⟩
theorem Off.nb' {A C : Option Addr} {x : Nat} (hA : Lo A x) (hC : Hi C x) : Off C (blkL A) := fun ad e hm => by
  cases A with
  | none => simp [blkL] at hm
  | some a => simp [blkL] at hm; have := hA a rfl; have := hC ad e; omega
theorem off_near {A A' C : Option Addr} {w : World} (h : Near A A' w) (hC : Off C (blkL A)) (hl : Lo C w.heap.size) : Off C (blkL A') := fun ad ea hm => by
  cases A' with
  | none => simp [blkL] at hm
  | some a =>
    simp [blkL] at hm
    have h1 := hl ad ea
    rcases h a rfl with q | q
    · exact hC ad ea (by rw [q]; simp [blkL, hm])
    · omega
theorem feet_c (A : Option Addr) (n c : Nat) (l : List FV) (w : World) (hf : Feet w A n l) (hn : n ≤ 1000) :
    Ret Try.prog 46 [.slice A n c] w (fun v w' => ∃ P cp gl, v = .slice P n cp ∧ Ext w w' ∧ Own w' w.heap.size 28 2 P n cp (fvs gl) ∧ fts gl = fts l ∧ (∀ x ∈ gl, Giv w' w.heap.size x) ∧ ∀ x ∈ gl, x.n ≤ 50000 ∧ x.m ≤ 50000) := by
  have hl := hf.len
  refine ret_T (n := 20) Try.func46 rfl rfl ?_
  repeat (first | refine T_seq ?_ | refine T_region ?_ | refine T_block ?_ | refine TL_nil ?_ | refine TL_assign (hk := ?_))
  refine T_loop (ι := Nat × (Option Addr × Nat) × List FV) (fun i => [(4, .int .i64 (i.1 : Int)), (3, .slice i.2.1.1 i.1 i.2.1.2), (0, .slice A n c)])
    (fun i w' => i.1 ≤ n ∧ Ext w w' ∧ Own w' w.heap.size 28 2 i.2.1.1 i.1 i.2.1.2 (fvs i.2.2) ∧ fts i.2.2 = (fts l).take i.1 ∧ (∀ x ∈ i.2.2, Giv w' w.heap.size x ∧ x.n ≤ 50000 ∧ x.m ≤ 50000 ∧ Off x.A (blkL i.2.1.1) ∧ Off x.B (blkL i.2.1.1))) (fun i => n - i.1) (0, (none, 0), []) (.c rfl (.c rfl (.c rfl (.n)))) ⟨Nat.zero_le _, Mod.refl _ _, Own.nil _ _ _ _, rfl, fun x hx => by cases hx⟩ ?_
  rintro ⟨i, ⟨O, oc⟩, gl⟩ w1 ⟨hi, e1, o1, hgl, hgv⟩ ih
  simp only at hi e1 o1 hgl hgv ih ⊢
  have ol := o1.len
  by_cases hlt : i < n
  · have f1 := hf.be e1
    have t1 := fvs_two l i (by omega)
    have g1 := f1.get i hlt
    have hft : (fts l).take (i + 1) = (fts l).take i ++ [(l.getD i fv0).t] := by
      rw [← fts_get, List.take_succ_eq_append_getElem (by simp [fts]; omega)]
      simp [List.getD_eq_getElem?_getD, List.getElem?_eq_getElem (show i < (fts l).length by simp [fts]; omega)]
    generalize l.getD i fv0 = x at t1 g1 hft
    have r1 := f1.rd
    have hx1 : x.t.1.length = x.n := by simpa using g1.1.1
    have hx2 : x.t.2.length = x.m := by simpa using g1.2.1.1
    have z1 := e1.size
    have loO := o1.lo
    repeat (first | refine T_seq ?_ | refine T_region ?_ | refine T_cond_true rfl ?_ | refine T_block ?_ | refine T_skip ?_ | refine TL_lt_t (hk := ?_) | refine TL_nil ?_ | refine TL_move (hk := ?_) | refine TL_indexAddrn TE (hk := ?_) | refine TL_len TE (hk := ?_))
    refine TL_loada TE (cs := [.slice x.A x.n x.c, .slice x.B x.m x.d]) (hx := rfl) (ht := rfl) (hi := rfl) (hr := r1) (hc := t1) (h0 := Nat.succ_pos _) (hk := ?_)
    refine TL_call TE (hc := own_c3 x.A x.B x.n x.c x.m x.d x.t.1 x.t.2 _ g1.1 g1.2.1 g1.2.2.1 g1.2.2.2) (hk := ?_)
    rintro _ w2 ⟨⟨GA, gc, GB, gd, rfl, oGA, oGB⟩, e2⟩
    rw [hx1] at oGA
    rw [hx2] at oGB
    rw [hx1, hx2]
    have z2 := e2.size
    have o2 := o1.be e2
    clear r1 o1
    refine TL_buildSliceA TE (hk := ?_); intro b3 w3 e3 h3 h3' k3
    replace k3 : Blk w3 b3 28 (fvs [⟨GA, x.n, gc, GB, x.m, gd, x.t⟩]) := k3
    have z3 := e3.size
    have o3 := o2.be e3
    have r3 : Rd w3 (some ⟨b3, 0, none⟩) 1 2 (fvs [⟨GA, x.n, gc, GB, x.m, gd, x.t⟩]) := Rd.blk k3 rfl
    have hone : ∀ u ∈ fvs [⟨GA, x.n, gc, GB, x.m, gd, x.t⟩], u.oneCell' = true := by intro u hu; simp [fvs] at hu; rcases hu with rfl | rfl <;> rfl
    clear o2
    --
    refine TL_append TE (hk := ?_); intro O6 c6 w6 o6 m6 n6
    rw [← fvs_append] at o6
    have e13 := e2.ext e3
    have e06 : Ext w w6 := (e1.ext e13).own m6 o3.hi
    have offA : Off GA (blkL O) := Off.nb' loO oGA.hi
    have offB : Off GB (blkL O) := Off.nb' loO oGB.hi
    repeat (first | refine T_region ?_ | refine T_inBlock ?_ | refine TL_add (hk := ?_) | refine TL_nil ?_ | refine TL_move (hk := ?_) | refine TL_assign (hk := ?_))
    refine ih (i + 1, (O6, c6), gl ++ [⟨GA, x.n, gc, GB, x.m, gd, x.t⟩]) w6 _ (by simp only; omega) ⟨by simp only; omega, e06, o6, ?_, ?_⟩ (.c rfl (.c rfl (.c rfl (.n))))
    · simp only
      rw [hft, ← hgl]
      simp [fts]
    · intro y hy
      simp only at hy ⊢
      rcases List.mem_append.1 hy with hy | hy
      · obtain ⟨a1, a2, a3, a4, a5⟩ := hgv y hy
        have b1 := a1.be e13
        exact ⟨b1.mod m6 a4 a5, a2, a3, off_near n6 a4 b1.1.lo, off_near n6 a5 b1.2.1.lo⟩
      · simp only [List.mem_singleton] at hy
        subst hy
        have b1 : Giv w3 w.heap.size ⟨GA, x.n, gc, GB, x.m, gd, x.t⟩ := ⟨(oGA.be e3).weaken (by omega), (oGB.be e3).weaken (by omega), hx1, hx2⟩
        exact ⟨b1.mod m6 offA offB, g1.2.2.1, g1.2.2.2, off_near n6 offA b1.1.lo, off_near n6 offB b1.2.1.lo⟩
  · have : i = n := by omega
    subst this
    clear ih
    repeat (first | refine T_seq ?_ | refine T_region ?_ | refine T_cond_false rfl ?_ | refine T_exit rfl ?_ | refine TL_lt_f (hk := ?_) | refine TL_nil ?_ | refine TL_move (hk := ?_) | refine TL_assign (hk := ?_) | refine TL_len TE (hk := ?_))
    refine T_ret1 rfl rfl ⟨O, oc, gl, rfl, e1, o1, ?_, fun x hx => (hgv x hx).1, fun x hx => ⟨(hgv x hx).2.1, (hgv x hx).2.2.1⟩⟩
    rw [hgl, List.take_of_length_le (by simp [fts]; omega)]
end Go.Proofs.Ytfplmpfdhiagaaa

namespace Go.Proofs.Ytfplmpfdhiagaaa
open Go.RowKit Go.Proofs.Eng Go.Proofs.Foot
set_option linter.unusedSimpArgs false
set_option linter.unusedVariables false set_option maxRecDepth 10000
attribute [local irreducible] T TL LV TH TA
theorem IndexFunc_c (A : Option Addr) (n c : Nat) (la : List Nat) (cap : List Value) (pr : Nat → Bool) (w : World) (h : Rd w A n 1 (nv la)) (hn : n ≤ 100000)
    (hp : ∀ x ∈ la, ∀ w', Ext w w' → Ret Try.prog 82 (.int .i64 (x : Int) :: cap) w' (fun v w'' => v = .bool (pr x) ∧ Ext w' w'')) :
    Ret Try.prog 99 [.slice A n c, .func (.func 82) #[] cap.toArray] w (fun v w' => (∃ z : Int, v = .int .i64 z ∧ -1 ≤ z ∧ z ≤ 100000 ∧ (0 ≤ z ↔ la.any pr = true)) ∧ Ext w w') := by
  have hla : la.length = n := by have := h.1; rw [nv_length] at this; omega
  refine ret_T (n := 19) Try.func99 rfl rfl ?_
  repeat (first | refine T_seq ?_ | refine T_region ?_ | refine T_block ?_ | refine TL_nil ?_ | refine TL_move (hk := ?_) | refine TL_assign (hk := ?_) | refine TL_len TE (hk := ?_))
  refine T_loop (ι := Nat) (fun i => [(8, .int .i64 (i : Int)), (7, .int .i64 (n : Int)), (0, .slice A n c), (1, .func (.func 82) #[] cap.toArray)]) (fun i w' => Ext w w' ∧ i ≤ n ∧ ∀ j, j < i → pr (la.getD j 0) = false) (fun i => n - i) 0 (.c rfl (.c rfl (.c rfl (.c rfl (.n))))) ⟨Mod.refl _ _, Nat.zero_le _, fun j h => absurd h (by omega)⟩ ?_
  rintro i w1 ⟨e1, hi, hu⟩ ih
  have h1 := h.be e1
  by_cases hlt : i < n
  · have hv := nv_get la i (by omega)
    have hm : la.getD i 0 ∈ la := by rw [List.getD_eq_getElem?_getD, List.getElem?_eq_getElem (by omega)]; exact List.getElem_mem _
    obtain ⟨x, hx⟩ : ∃ x, la.getD i 0 = x := ⟨_, rfl⟩
    rw [hx] at hv hm
    repeat (first | refine T_seq ?_ | refine T_region ?_ | refine T_cond_true rfl ?_ | refine T_block ?_ | refine T_skip ?_ | refine TL_lt_t (hk := ?_) | refine TL_nil ?_ | refine TL_move (hk := ?_) | refine TL_assign (hk := ?_) | refine TL_load_rd TE (hk := ?_) | refine TL_indexAddr1n TE (hk := ?_))
    refine TL_callc TE (fst := []) (cap := cap) rfl rfl rfl rfl (R' := RR (fun v w'' => v = .bool (pr x) ∧ Ext w1 w'')) (by have := hp x hm w1 e1; unfold Ret at this; simpa using this) ?_ (fun _ _ h => h.elim) (fun _ h => h)
    rintro _ w2 ⟨rfl, e2⟩
    by_cases hb : pr x = true
    · rw [hb]
      repeat (first | refine T_seq ?_ | refine T_region ?_ | refine T_cond_true rfl ?_ | refine TL_nil ?_ | refine TL_move (hk := ?_) | refine TL_assign (hk := ?_))
      refine T_ret1 rfl rfl ⟨⟨(i : Int), rfl, by omega, by omega, ?_⟩, e1.ext e2⟩
      refine ⟨fun _ => List.any_eq_true.2 ⟨x, hm, hb⟩, fun _ => by omega⟩
    · have hb' : pr x = false := by simpa using hb
      rw [hb']
      repeat (first | refine T_region ?_ | refine T_cond_false rfl ?_ | refine T_inBlock ?_ | refine T_skip ?_ | refine TL_add (hk := ?_) | refine TL_nil ?_ | refine TL_move (hk := ?_))
      exact ih (i + 1) _ _ (by omega) ⟨e1.ext e2, by omega, fun j hj => by
        by_cases q : j = i
        · rw [q, hx, hb']
        · exact hu j (by omega)⟩ (.c rfl (.c rfl (.c rfl (.c rfl (.n)))))
  · clear ih
    repeat (first | refine T_seq ?_ | refine T_region ?_ | refine T_cond_false rfl ?_ | refine T_exit rfl ?_ | refine TL_lt_f (hk := ?_) | refine TL_nil ?_ | refine TL_assign (hk := ?_))
    refine T_ret1 rfl rfl ⟨⟨-1, rfl, by omega, by omega, ?_⟩, e1⟩
    refine ⟨fun h => absurd h (by omega), fun h => ?_⟩
    obtain ⟨x, hx, hb⟩ := List.any_eq_true.1 h
    obtain ⟨j, hj, rfl⟩ := List.mem_iff_getElem.1 hx
    have := hu j (by omega)
    rw [List.getD_eq_getElem?_getD, List.getElem?_eq_getElem hj] at this
    simp only [Option.getD_some] at this
    rw [this] at hb
    cases hb
theorem ContainsFunc_c (A : Option Addr) (n c : Nat) (la : List Nat) (cap : List Value) (pr : Nat → Bool) (w : World) (h : Rd w A n 1 (nv la)) (hn : n ≤ 100000)
    (hp : ∀ x ∈ la, ∀ w', Ext w w' → Ret Try.prog 82 (.int .i64 (x : Int) :: cap) w' (fun v w'' => v = .bool (pr x) ∧ Ext w' w'')) :
    Ret Try.prog 81 [.slice A n c, .func (.func 82) #[] cap.toArray] w (fun v w' => v = .bool (la.any pr) ∧ Ext w w') := by
  refine ret_T (n := 9) Try.func81 rfl rfl ?_
  repeat (first | refine T_seq ?_ | refine T_region ?_ | refine TL_nil ?_ | refine TL_move (hk := ?_) | refine TL_assign (hk := ?_))
  refine TL_call TE (hc := IndexFunc_c A n c la cap pr _ h hn hp) (hk := ?_)
  rintro _ w1 ⟨⟨z, rfl, z1, z2, hz⟩, e1⟩
  by_cases h0 : 0 ≤ z
  · rw [hz.1 h0]
    repeat (first | refine TL_ge_t (hk := ?_) | refine TL_nil ?_ | refine TL_assign (hk := ?_))
    exact T_ret1 rfl rfl ⟨rfl, e1⟩
  · have : la.any pr = false := by
      cases hq : la.any pr with
      | false => rfl
      | true => exact absurd (hz.2 hq) h0
    rw [this]
    repeat (first | refine TL_ge_f (hk := ?_) | refine TL_nil ?_ | refine TL_assign (hk := ?_))
    exact T_ret1 rfl rfl ⟨rfl, e1⟩
end Go.Proofs.Ytfplmpfdhiagaaa

namespace Go.Proofs.Ytfplmpfdhiagaaa
open Go.RowKit Go.Proofs.Eng Go.Proofs.Foot Go.Proofs.Codec
set_option linter.unusedSimpArgs false
set_option linter.unusedVariables false set_option maxRecDepth 10000
attribute [local irreducible] T TL LV TH TA
abbrev tA : Tx := [97]
abbrev tB : Tx := [98]
theorem live_norm : normF [tB, tA, tB] [tA] = (([tA, tB], [tA]), 0) := by rw [norm_eq]; decide +kernel
theorem live_is : isNorm [tA, tB] [tA] = true := by
  have : normF [tA, tB] [tA] = (([tA, tB], [tA]), 0) := by rw [norm_eq]; decide +kernel
  unfold isNorm
  rw [this]
  decide
theorem live_put : putB (ofM [tA, tB] [tA]) = [2, 1, 97, 3, 1, 98, 1] := by
  unfold putB
  rw [keys3]
  have : setT ([tA, tB] ++ [tA]) = [tA, tB] := by decide +kernel
  rw [this]
  unfold bodyB entryB
  have h1 : bitsM (ofM [tA, tB] [tA]) tA = 3 := by decide +kernel
  have h2 : bitsM (ofM [tA, tB] [tA]) tB = 1 := by decide +kernel
  simp only [List.map_cons, List.map_nil, h1, h2, List.length_cons, List.length_nil, encU_lt (n := 0 + 1 + 1) (by decide), encU_lt (n := 0 + 1) (by decide)]
  decide
theorem live_get : getF [2, 1, 97, 3, 1, 98, 1] = ((([tA, tB], [tA]), 7), 0) := by decide +kernel
theorem short_of {l : List Tx} (h : (l.all fun x => Nat.ble x.length 32) = true) : Short l := fun i hi => by
  have h1 := List.all_eq_true.1 h (l.getD i []) (getD_mem hi)
  have := Nat.le_of_ble_eq_true h1
  omega
theorem live_c3 (w : World) : Ret Try.prog 13 [] w (fun v w' => v = .bool true ∧ Ext w w') := by
  refine ret_T (n := 74) Try.func13 rfl rfl ?_
  repeat (first | refine T_seq ?_ | refine T_region ?_ | refine TL_nil ?_ | refine TL_assign (hk := ?_))
  refine TL_buildSlice TE (hk := ?_); intro b1 w1 e1 h1 h1' k1
  replace k1 : Blk w1 b1 9 (sv [tB, tA, tB]) := k1
  refine TL_buildSlice TE (hk := ?_); intro b2 w2 e2 h2 h2' k2
  replace k2 : Blk w2 b2 9 (sv [tA]) := k2
  have e02 := e1.ext e2
  repeat (refine TL_build TE (hk := ?_))
  refine TL_call TE (hc := Norm_c (some ⟨b1, 0, none⟩) (some ⟨b2, 0, none⟩) 3 3 1 1 [tB, tA, tB] [tA] w2 (Rd.blk (k1.be e2) rfl) (Rd.blk k2 rfl) (by omega) (by omega) (short_of rfl) (short_of rfl)) (hk := ?_)
  rw [live_norm]
  rintro _ w3 ⟨_, rfl, e3, A, n, c, B, m, d, rfl, oA, oB, off⟩
  have hn : n = 2 := by have := oA.len; simpa using this.symm
  have hm : m = 1 := by have := oB.len; simpa using this.symm
  subst hn hm
  repeat (first | refine TL_move (hk := ?_) | refine TL_extract (hk := ?_))
  refine TL_alloc TE (hk := ?_); intro b4 w4 e4 h4 h4' k4
  --
  refine TL_storea TE (hk := ?_); intro w5 m5 z5 k5
  have z1 := e1.size
  have z2 := e2.size
  have z3 := e3.size
  have z4 := e4.size
  have e05 : Ext w w5 := Mod.step ((e02.ext e3).ext e4) m5 (by simp; omega)
  have oA5 := (oA.be e4).mod m5 (Off.lo oA.lo (by omega))
  have oB5 := (oB.be e4).mod m5 (Off.lo oB.lo (by omega))
  clear oA oB k1 k2 k4
  repeat (first | refine T_seq ?_ | refine T_region ?_ | refine TL_nil ?_ | refine TL_move (hk := ?_) | refine TL_assign (hk := ?_))
  refine TL_call TE (hc := num_c3 0 _) (hk := ?_)
  rintro _ _ ⟨rfl, rfl⟩
  repeat (first | refine TL_ne_f (hk := ?_) | refine TL_move (hk := ?_) | refine TL_yes (hk := ?_))
  refine TL_loadb TE (cs := [.slice A 2 c, .slice B 1 d]) (o := 0) rfl rfl k5 rfl rfl (Nat.succ_pos _) (hk := ?_)
  repeat (refine TL_yes (hk := ?_))
  refine TL_buildSlice TE (hk := ?_); intro b6 w6 e6 h6 h6' k6
  replace k6 : Blk w6 b6 9 (sv [tA, tB]) := k6
  repeat (refine TL_yes (hk := ?_))
  refine TL_buildSlice TE (hk := ?_); intro b7 w7 e7 h7 h7' k7
  replace k7 : Blk w7 b7 9 (sv [tA]) := k7
  have e57 := e6.ext e7
  repeat (first | refine TL_yes (hk := ?_) | refine TL_build TE (hk := ?_))
  refine TL_call TE (hc := Same_c A B (some ⟨b6, 0, none⟩) (some ⟨b7, 0, none⟩) 2 1 2 1 c d 2 1 [tA, tB] [tA] [tA, tB] [tA] w7 (oA5.rd.be e57) (oB5.rd.be e57) (Rd.blk (k6.be e7) rfl) (Rd.blk k7 rfl) (by omega) (by omega) (by omega) (by omega)) (hk := ?_)
  rintro _ w8 ⟨rfl, e8⟩
  have e58 := e57.ext e8
  have k58 := k5.be e58
  have oA8 := oA5.be e58
  have oB8 := oB5.be e58
  have e08 := e05.ext e58
  clear k5 oA5 oB5 k6 k7
  rw [show decide ([tA, tB] = [tA, tB] ∧ [tA] = [tA]) = true by decide]
  repeat (first | refine T_seq ?_ | refine T_region ?_ | refine T_cond_false rfl ?_ | refine T_skip ?_ | refine TL_nil ?_ | refine TL_yes (hk := ?_) | refine TL_pick_f (hk := ?_) | refine TL_not (hk := ?_))
  refine TL_loadb TE (cs := [.slice A 2 c, .slice B 1 d]) (o := 0) rfl rfl k58 rfl rfl (Nat.succ_pos _) (hk := ?_)
  refine TL_call TE (hc := Put_c none A B 0 0 2 c 1 d [] [tA, tB] [tA] w8 (Rd.nil _ _ _) oA8.rd oB8.rd (by omega) (by omega) (by omega) (short_of rfl) (short_of rfl)) (hk := ?_)
  rw [if_pos live_is, if_pos live_is, live_put]
  rintro _ w9 ⟨Q, nq, cq, rfl, e9, oQ⟩
  have hnq : nq = 7 := by have := oQ.len; simpa using this.symm
  subst hnq
  repeat (first | refine T_seq ?_ | refine T_region ?_ | refine TL_nil ?_ | refine TL_move (hk := ?_) | refine TL_assign (hk := ?_) | refine TL_extract (hk := ?_))
  refine TL_call TE (hc := Get_c Q 7 cq [2, 1, 97, 3, 1, 98, 1] w9 oQ.rd (by omega)) (hk := ?_)
  rw [live_get]
  rintro _ w10 ⟨_, rfl, e10, A2, n2, c2, B2, m2, d2, rfl, oA2, oB2, off2⟩
  have hn2 : n2 = 2 := by have := oA2.len; simpa using this.symm
  have hm2 : m2 = 1 := by have := oB2.len; simpa using this.symm
  subst hn2 hm2
  have h77 : ((((([tA, tB], [tA]), 7), 0) : ((List Tx × List Tx) × Nat) × Int).fst.snd : Int) = 7 := rfl
  have e810 := e9.ext e10
  have z8 := e08.size
  have z9 := e9.size
  have z10 := e10.size
  have k510 := k58.be e810
  have oA10 := oA8.be e810
  have oB10 := oB8.be e810
  have e010 := e08.ext e810
  clear k58 oA8 oB8 oQ
  repeat (first | refine TL_move (hk := ?_) | refine TL_extract (hk := ?_))
  refine TL_alloc TE (hk := ?_); intro b11 w11 e11 h11 h11' k11
  --
  refine TL_storea TE (hk := ?_); intro w12 m12 z12 k12
  have z11 := e11.size
  have e1012 : Ext w10 w12 := Mod.step e11 m12 (by simp; omega)
  have oA12 := oA10.be e1012
  have oB12 := oB10.be e1012
  have k512 := k510.be e1012
  have o2A := oA2.be e1012
  have o2B := oB2.be e1012
  clear oA10 oB10 k510 oA2 oB2 k11
  repeat (first | refine T_seq ?_ | refine T_region ?_ | refine TL_nil ?_ | refine TL_move (hk := ?_) | refine TL_assign (hk := ?_))
  refine TL_call TE (hc := num_c3 0 _) (hk := ?_)
  rintro _ _ ⟨rfl, rfl⟩
  repeat (first | refine TL_eq_t (hk := ?_) | refine TL_move (hk := ?_) | refine TL_yes (hk := ?_))
  refine TL_call TE (hc := num_c3 0 _) (hk := ?_)
  rintro _ _ ⟨rfl, rfl⟩
  repeat (first | refine TL_eq_t (hk := ?_) | refine TL_move (hk := ?_) | refine TL_yes (hk := ?_) | refine TL_pick_t (hk := ?_))
  refine TL_loadb TE (cs := [.slice A2 2 c2, .slice B2 1 d2]) (o := 0) rfl rfl k12 rfl rfl (Nat.succ_pos _) (hk := ?_)
  repeat (refine TL_yes (hk := ?_))
  refine TL_loadb TE (cs := [.slice A 2 c, .slice B 1 d]) (o := 0) rfl rfl k512 rfl rfl (Nat.succ_pos _) (hk := ?_)
  repeat (refine TL_yes (hk := ?_))
  refine TL_call TE (hc := Same_c A2 B2 A B 2 1 2 1 c2 d2 c d [tA, tB] [tA] [tA, tB] [tA] _ o2A.rd o2B.rd oA12.rd oB12.rd (by omega) (by omega) (by omega) (by omega)) (hk := ?_)
  rintro _ w13 ⟨rfl, e13⟩
  rw [show decide ([tA, tB] = [tA, tB] ∧ [tA] = [tA]) = true by decide]
  have k513 := k512.be e13
  have oA13 := oA12.be e13
  have oB13 := oB12.be e13
  have e013 := (e010.ext e1012).ext e13
  clear k512 oA12 oB12 o2A o2B k12
  repeat (first | refine TL_move (hk := ?_) | refine TL_yes (hk := ?_) | refine TL_pick_t (hk := ?_))
  refine TL_loadb TE (cs := [.slice A 2 c, .slice B 1 d]) (o := 0) rfl rfl k513 rfl rfl (Nat.succ_pos _) (hk := ?_)
  repeat (refine TL_yes (hk := ?_))
  refine TL_buildSlice TE (hk := ?_); intro b14 w14 e14 h14 h14' k14
  replace k14 : Blk w14 b14 9 (sv [tA]) := k14
  repeat (first | refine TL_yes (hk := ?_) | refine TL_build TE (hk := ?_))
  refine TL_call TE (hc := Clash_c A B (some ⟨b14, 0, none⟩) none 2 1 1 0 c d 1 0 [tA, tB] [tA] [tA] [] _ (oA13.rd.be e14) (oB13.rd.be e14) (Rd.blk k14 rfl) (Rd.nil _ _ _) (by omega) (by omega) (by omega) (by omega)) (hk := ?_)
  rintro _ w15 ⟨rfl, e15⟩
  rw [show (ofM [tA, tB] [tA]).any (clash1 (ofM [tA] [])) = true by decide +kernel]
  have e1315 := e14.ext e15
  have k515 := k513.be e1315
  have oA15 := oA13.be e1315
  have oB15 := oB13.be e1315
  have e015 := e013.ext e1315
  clear k513 oA13 oB13 k14
  repeat (first | refine TL_move (hk := ?_) | refine TL_yes (hk := ?_) | refine TL_pick_t (hk := ?_))
  refine TL_loadb TE (cs := [.slice A 2 c, .slice B 1 d]) (o := 0) rfl rfl k515 rfl rfl (Nat.succ_pos _) (hk := ?_)
  repeat (refine TL_yes (hk := ?_))
  refine TL_buildSlice TE (hk := ?_); intro b16 w16 e16 h16 h16' k16
  replace k16 : Blk w16 b16 9 (sv [tB]) := k16
  repeat (first | refine TL_yes (hk := ?_) | refine TL_build TE (hk := ?_))
  refine TL_call TE (hc := Clash_c A B (some ⟨b16, 0, none⟩) none 2 1 1 0 c d 1 0 [tA, tB] [tA] [tB] [] _ (oA15.rd.be e16) (oB15.rd.be e16) (Rd.blk k16 rfl) (Rd.nil _ _ _) (by omega) (by omega) (by omega) (by omega)) (hk := ?_)
  rintro _ w17 ⟨rfl, e17⟩
  rw [show (ofM [tA, tB] [tA]).any (clash1 (ofM [tB] [])) = false by decide +kernel]
  have e017 := e015.ext (e16.ext e17)
  clear k515 oA15 oB15 k16
  repeat (first | refine TL_move (hk := ?_) | refine TL_yes (hk := ?_) | refine TL_pick_t (hk := ?_) | refine TL_not (hk := ?_))
  refine TL_call TE (hc := Valid_c tA (by decide) _) (hk := ?_)
  rintro _ _ ⟨rfl, rfl⟩
  rw [show validT tA = true by decide]
  repeat (first | refine TL_move (hk := ?_) | refine TL_yes (hk := ?_) | refine TL_pick_t (hk := ?_))
  refine TL_call TE (hc := Hash_c tA (by decide) _) (hk := ?_)
  rintro _ _ ⟨rfl, rfl⟩
  rw [show hashT tA = 12638187200555641996 by decide +kernel]
  repeat (first | refine TL_eq_t (hk := ?_) | refine TL_nil ?_ | refine TL_assign (hk := ?_) | refine TL_yes (hk := ?_) | refine TL_pick_t (hk := ?_))
  exact T_ret1 rfl rfl ⟨rfl, e017⟩
end Go.Proofs.Ytfplmpfdhiagaaa

/- What an argument that reads as data looks like, when each row and text of it lies within the reach. -/
namespace Go.Proofs.Eng
open Go.RowKit Go.WideShapes
set_option linter.unusedSimpArgs false
set_option linter.unusedVariables false
/-- Bytes of a type, at least. -/
def Ty.wt : Ty → Nat
  | .int _ => 1
  | .bool => 1
  | .str => 16
  | .slice _ => 24
  | .unit => 0
  | .cons a b => a.wt + b.wt
  | .struct p => p.wt
  | .array n e => n * e.wt
def FitS (w : World) : Ty → List Value → Prop
  | .int k, cs => ∃ n, cs = [.int k n] ∧ Fits k n
  | .bool, cs => ∃ b, cs = [.bool b]
  | .str, cs => ∃ s : ByteArray, cs = [.string s] ∧ s.size ≤ 140737488351232
  | .slice e, cs => ∃ (A : Option Addr) (n c : Nat) (xs : List (List Value)), cs = [.slice A n c] ∧ n ≤ c ∧ c ≤ maxLen ∧ c * e.wt ≤ 140737488351232 ∧ xs.length = n ∧ Rd w A n e.size xs.flatten ∧ ∀ x ∈ xs, x.length = e.size ∧ FitS w e x
  | .unit, cs => cs = []
  | .cons a b, cs => ∃ x y, cs = x ++ y ∧ x.length = a.size ∧ FitS w a x ∧ FitS w b y
  | .struct p, cs => FitS w p cs
  | .array n e, cs => ∃ xs : List (List Value), cs = xs.flatten ∧ xs.length = n ∧ ∀ x ∈ xs, x.length = e.size ∧ FitS w e x
def tyW {P : Program} (E : Env P) : Ty → Where → Bool
  | .slice e, .at t => match E.und t with
    | some (.slice u) => match E.inf u with
      | some (_, b, _) => Nat.ble e.wt b && tyW E e (.at u)
      | none => false
    | _ => false
  | .array n e, .at t => match E.und t with
    | some (.array m u) => tyW E e (.at u)
    | _ => false
  | .struct p, .at t => match E.fld t with
    | some fl => tyW E p (.from 0 fl)
    | none => false
  | .cons a b, .from off ((o, t) :: fl) => tyW E a (.at t) && tyW E b (.from (off + a.size) fl)
  | _, _ => true
section
variable {H : Type} {enc : TypeId × Value → H} {P : Program} {w : World} {base : Nat} {held : Bool}
theorem weightsAll_mem {e : TypeId} : ∀ {l : List (DataW H)} {d : DataW H}, d ∈ l → ∀ k ∈ d.weights P e, k ∈ DataW.weightsAll P e l
  | a :: l, d, h, k, hk => by
    simp only [DataW.weightsAll, List.mem_append]
    rcases List.mem_cons.1 h with rfl | h
    · exact .inl hk
    · exact .inr (weightsAll_mem h k hk)
theorem fits_of_trod (E : Env P) : ∀ (ty : Ty),
    (∀ t, tyOk E ty (.at t) = true → tyW E ty (.at t) = true → ∀ fuel cs x, DataW.trod enc P w base (fun _ => true) held fuel t cs = some x → (∀ k ∈ x.1.weights P t, k ≤ reachBytes) → FitS w ty cs) ∧
    (∀ off fl, tyOk E ty (.from off fl) = true → tyW E ty (.from off fl) = true → ∀ (cs : List Value) (ys : List (DataW H × List MemPlace)), cs.length = off + ty.size → ys.length = fl.length →
      (∀ (i : Nat) (o : Nat) (t : TypeId) y, fl[i]? = some (o, t) → ys[i]? = some y → ∃ n, DataW.trod enc P w base (fun _ => true) held n t ((cs.drop o).take (P.cellsOf t)) = some y) →
      (∀ k ∈ DataW.weightsEach P (fl.map (·.2)) (ys.map (·.1)), k ≤ reachBytes) → FitS w ty (cs.drop off)) := by
  intro ty
  induction ty with
  | int k =>
    refine ⟨fun t h _ fuel cs x hd _ => ?_, fun _ _ h => by simp [tyOk] at h⟩
    obtain ⟨n, h1, h3, h2⟩ := DataW.trod_int (und_int h) hd
    exact ⟨n, h1, fits_of_wf h2⟩
  | bool =>
    refine ⟨fun t h _ fuel cs x hd _ => ?_, fun _ _ h => by simp [tyOk] at h⟩
    obtain ⟨b, h1, h3⟩ := DataW.trod_bool (und_bool h) hd
    exact ⟨b, h1⟩
  | str =>
    refine ⟨fun t h _ fuel cs x hd hw => ?_, fun _ _ h => by simp [tyOk] at h⟩
    obtain ⟨s, h1, h3, h2⟩ := DataW.trod_string (und_str h) hd
    rw [h3] at hw
    have := hw s.data.toList.length (by simp [DataW.weights])
    refine ⟨s, h1, ?_⟩
    simpa [reachBytes] using this
  | slice e ih =>
    refine ⟨fun t h hW fuel cs x hd hw => ?_, fun _ _ h => by simp [tyOk] at h⟩
    simp only [tyOk] at h
    simp only [tyW] at hW
    split at h
    · rename_i u hu
      simp only [Bool.and_eq_true] at h
      obtain ⟨⟨h1, h2⟩, h3⟩ := h
      rw [hu] at hW
      simp only at hW
      split at hW
      · rename_i s' by_ z' hinf
        simp only [Bool.and_eq_true] at hW
        obtain ⟨hW1, hW2⟩ := hW
        have hW1 := Nat.le_of_ble_eq_true hW1
        have hsz := sizeIs_ok h2
        have h0 : 0 < e.size := by simpa [Nat.blt_eq] using h3
        have hund := E.und_ok _ _ hu
        have hbytes : P.bytesOf u = by_ := by
          obtain ⟨i, i1, i2, i3, i4⟩ := E.inf_ok _ _ _ _ hinf
          simp [Program.bytesOf, i1, i3]
        rcases DataW.trod_slice hund hd with ⟨rfl, hx⟩ | ⟨a, len, cap, elems, rest, n, _, rfl, hx, hb, hl, hm, hlen, hel, hsp, _⟩
        · exact ⟨none, 0, 0, [], rfl, Nat.le_refl _, by decide, by simp, rfl, Rd.nil _ _ _, by simp⟩
        · have hrest := (hsp rfl).1
          rw [hx] at hw
          simp only [DataW.weights, hund, List.length_map, hbytes] at hw
          have hcap := hw _ (List.mem_cons_self ..)
          rw [hlen, hrest] at hcap
          have hcap2 : cap * e.wt ≤ 140737488351232 := by
            have e1 : len + (cap - len) = cap := by omega
            rw [e1] at hcap
            have := Nat.mul_le_mul_left cap hW1
            simp only [reachBytes] at hcap
            omega
          rw [hsz] at hel
          have hget : ∀ i, i < len → ∃ y z, w.cells? base (a.add (i * e.size)) e.size = some y ∧ elems[i]? = some z ∧ DataW.trod enc P w base (fun _ => true) held n u y = some z := fun i hi => by
            have h4 := hel i hi
            rw [List.getElem?_eq_getElem (by omega)] at h4
            cases hc : w.cells? base (a.add (i * e.size)) e.size with
            | none => rw [hc] at h4; simp at h4
            | some y => rw [hc] at h4; simp at h4; exact ⟨y, _, rfl, List.getElem?_eq_getElem (by omega), h4⟩
          have hsome : ∀ (i : Nat) (x : List Value), ((List.range len).map fun i => (w.cells? base (a.add (i * e.size)) e.size).getD [])[i]? = some x → w.cells? base (a.add (i * e.size)) e.size = some x ∧ x.length = e.size ∧ FitS w e x := fun i x hx => by
            have hi : i < len := by have := (List.getElem?_eq_some_iff.1 hx).1; simpa using this
            obtain ⟨y, z, hy, hz, ht⟩ := hget i hi
            rw [List.getElem?_map, List.getElem?_range hi] at hx
            simp only [Option.map_some, hy, Option.getD_some, Option.some.injEq] at hx
            subst hx
            refine ⟨hy, (World.cells?_some hy).2.1, ih.1 u h1 hW2 n y z ht fun k hk => hw k (List.mem_cons_of_mem _ (List.mem_append_left _ ?_))⟩
            exact weightsAll_mem (List.mem_map_of_mem (List.mem_of_getElem? hz)) k hk
          have hmem : ∀ x ∈ (List.range len).map (fun i => (w.cells? base (a.add (i * e.size)) e.size).getD []), x.length = e.size ∧ FitS w e x := fun x hx => by
            obtain ⟨i, hi⟩ := List.getElem?_of_mem hx
            exact (hsome i x hi).2
          exact ⟨some a, len, cap, _, rfl, hl, hm, hcap2, by simp, rows_read h0 (by simp) (fun i x hx => (hsome i x hx).1) (fun x hx => (hmem x hx).1), hmem⟩
      · cases hW
    · cases h
  | unit =>
    refine ⟨fun t h => by simp [tyOk] at h, fun off fl h _ cs ys hl _ _ _ => ?_⟩
    show cs.drop off = []
    exact List.drop_of_length_le (by simp only [Ty.size] at hl; omega)
  | cons a b iha ihb =>
    refine ⟨fun t h => by simp [tyOk] at h, fun off fl h hW cs ys hl hyl hf hw => ?_⟩
    cases fl with
    | nil => simp [tyOk] at h
    | cons p fl =>
      cases ys with
      | nil => simp at hyl
      | cons y ys =>
        obtain ⟨o, t⟩ := p
        simp only [tyOk, Bool.and_eq_true] at h
        simp only [tyW, Bool.and_eq_true] at hW
        obtain ⟨⟨⟨h1, h2⟩, h3⟩, h4⟩ := h
        have ho := Nat.eq_of_beq_eq_true h1
        subst ho
        simp only [Ty.size] at hl
        have hsz := sizeIs_ok h3
        obtain ⟨n, hx⟩ := hf 0 o t y rfl rfl
        rw [hsz] at hx
        simp only [List.map_cons, DataW.weightsEach, List.mem_append] at hw
        refine ⟨(cs.drop o).take a.size, cs.drop (o + a.size), ?_, by simp; omega, iha.1 t h2 hW.1 n _ y hx (fun k hk => hw k (.inl hk)), ?_⟩
        · rw [← List.drop_drop, List.take_append_drop]
        · exact ihb.2 (o + a.size) fl h4 hW.2 cs ys (by omega) (by simpa using hyl) (fun i o' t' y' h' g' => hf (i + 1) o' t' y' (by simpa using h') (by simpa using g')) (fun k hk => hw k (.inr hk))
  | struct p ih =>
    refine ⟨fun t h hW fuel cs x hd hw => ?_, fun _ _ h => by simp [tyOk] at h⟩
    simp only [tyOk] at h
    simp only [tyW] at hW
    split at h
    · rename_i fl hfl
      rw [hfl] at hW
      simp only [Bool.and_eq_true] at h
      obtain ⟨h1, h2⟩ := h
      obtain ⟨fs, hu, hmap⟩ := E.fld_ok _ _ hfl
      obtain ⟨xs, n, _, hx, hl, hxl, hfs⟩ := DataW.trod_struct hu hd
      rw [sizeIs_ok h2] at hl
      have e9 : fl.map (·.2) = fs.toList.map (·.type) := by rw [← hmap]; simp
      have := ih.2 0 fl h1 hW cs xs (by omega) (by rw [hxl, ← hmap]; simp) (fun i o t y h' g' => by
        rw [← hmap, List.getElem?_map] at h'
        cases hf : fs.toList[i]? with
        | none => rw [hf] at h'; cases h'
        | some f =>
          rw [hf] at h'
          cases h'
          have hf' : fs[i]? = some f := by simpa using hf
          have h5 := hfs i f hf'
          rw [g'] at h5
          exact ⟨n, h5⟩) (fun k hk => hw k (by rw [hx]; simp only [DataW.weights, hu]; rw [← e9]; exact hk))
      simpa [FitS] using this
    · cases h
  | array n e ih =>
    refine ⟨fun t h hW fuel cs x hd hw => ?_, fun _ _ h => by simp [tyOk] at h⟩
    simp only [tyOk] at h
    simp only [tyW] at hW
    split at h
    · rename_i m u hu
      rw [hu] at hW
      simp only [Bool.and_eq_true] at h
      obtain ⟨⟨⟨h1, h2⟩, h3⟩, h4⟩ := h
      have hm := Nat.eq_of_beq_eq_true h1
      subst hm
      have hund := E.und_ok _ _ hu
      obtain ⟨xs, q, _, hx, hl, hxl, hel⟩ := DataW.trod_array hund hd
      rw [sizeIs_ok h4] at hl
      rw [sizeIs_ok h3] at hel
      refine ⟨(List.range m).map fun i => (cs.drop (i * e.size)).take e.size, (take_drop_chunks m cs hl).symm, by simp, fun y hy => ?_⟩
      obtain ⟨i, hi, rfl⟩ := List.mem_map.1 hy
      have hi' : i < m := by simpa using hi
      have h5 := hel i hi'
      cases ht : DataW.trod enc P w base (fun _ => true) held q u ((cs.drop (i * e.size)).take e.size) with
      | none => rw [ht] at h5; rw [List.getElem?_eq_getElem (by omega)] at h5; cases h5
      | some z =>
        refine ⟨?_, ih.1 u h2 hW q _ _ ht fun k hk => hw k ?_⟩
        · have : (i + 1) * e.size ≤ m * e.size := Nat.mul_le_mul_right _ hi'
          rw [Nat.succ_mul] at this
          simp; omega
        · rw [hx]
          simp only [DataW.weights, hund]
          rw [ht] at h5
          exact weightsAll_mem (List.mem_map_of_mem (List.mem_of_getElem? h5.symm)) k hk
    · cases h
/-- An argument that reads as data, each row and text of it within the reach. -/
def ReadsS (P : Program) (w : World) (base : Nat) (t : TypeId) (v : Value) : Prop :=
  ∃ (H : Type) (enc : TypeId × Value → H) (d : DataW H) (ps : List MemPlace), DataW.Trod enc P w 0 (fun _ => true) true t v d ps ∧ Value.okWide P w .any base t v ∧ ∀ k ∈ d.weights P t, k ≤ reachBytes
theorem ReadsS.fit {t : TypeId} {v : Value} (E : Env P) (h : ReadsS P w base t v) (ty : Ty) (hok : tyOk E ty (.at t) = true) (hW : tyW E ty (.at t) = true) : FitS w ty v.cells.toList := by
  obtain ⟨H, enc, d, ps, ⟨fuel, hf⟩, _, hm⟩ := h
  exact (fits_of_trod E ty).1 t hok hW fuel _ _ hf hm
theorem ReadsS.slice {t e : TypeId} {v : Value} (E : Env P) (h : ReadsS P w base t v) (ht : E.und t = some (.slice e)) : ∃ A n c, v = .slice A n c := by
  obtain ⟨_, _, _, _, _, hv, _⟩ := h
  exact okWide_slice (E.und_ok _ _ ht) hv
theorem FitS.fit : ∀ {ty : Ty} {cs : List Value}, FitS w ty cs → Fit w ty cs
  | .int _, _, h => h
  | .bool, _, h => h
  | .str, _, ⟨s, h1, h2⟩ => ⟨s, h1, by unfold maxLen; omega⟩
  | .slice _, _, ⟨A, n, c, xs, h1, h2, h3, _, h5, h6, h7⟩ => ⟨A, n, c, xs, h1, h2, h3, h5, h6, fun x hx => ⟨(h7 x hx).1, FitS.fit (h7 x hx).2⟩⟩
  | .unit, _, h => h
  | .cons _ _, _, ⟨x, y, h1, h2, h3, h4⟩ => ⟨x, y, h1, h2, FitS.fit h3, FitS.fit h4⟩
  | .struct p, _, h => FitS.fit (ty := p) h
  | .array _ _, _, ⟨xs, h1, h2, h3⟩ => ⟨xs, h1, h2, fun x hx => ⟨(h3 x hx).1, FitS.fit (h3 x hx).2⟩⟩
theorem FitS.bytes {A : Option Addr} {n c : Nat} (h : FitS w (.slice (.int .u8)) [.slice A n c]) : ∃ l, Rd w A n 1 (bv l) ∧ n ≤ c ∧ c ≤ 140737488351232 := by
  obtain ⟨l, h1, h2, _⟩ := Fit.bytes h.fit
  obtain ⟨A', n', c', xs, hv, _, _, h3, _⟩ := h
  cases hv
  exact ⟨l, h1, h2, by simpa [Ty.wt] using h3⟩
theorem bytes_inS {H : Type} {enc : TypeId × Value → H} (E : Env P) {t : TypeId} {A : Option Addr} {n c : Nat} {d : DataW H} {ps : List MemPlace} (hok : tyOk E (.slice (.int .u8)) (.at t) = true) (hW : tyW E (.slice (.int .u8)) (.at t) = true)
    (h : DataW.Trod enc P w 0 (fun _ => true) true t (.slice A n c) d ps) (hw : ∀ k ∈ d.weights P t, k ≤ reachBytes) : ∃ l, Rd w A n 1 (bv l) ∧ n ≤ c ∧ c ≤ 140737488351232 := by
  obtain ⟨fuel, hf⟩ := h
  exact FitS.bytes ((fits_of_trod E _).1 t hok hW fuel _ _ hf hw)
theorem each_one {H : Type} {P : Program} {t : TypeId} {ts : List TypeId} {d : DataW H} {ds : List (DataW H)} (h : ∀ k ∈ DataW.weightsEach P (t :: ts) (d :: ds), k ≤ reachBytes) : (∀ k ∈ d.weights P t, k ≤ reachBytes) ∧ ∀ k ∈ DataW.weightsEach P ts ds, k ≤ reachBytes :=
  ⟨fun k hk => h k (by simp only [DataW.weightsEach, List.mem_append]; exact .inl hk), fun k hk => h k (by simp only [DataW.weightsEach, List.mem_append]; exact .inr hk)⟩
end
end Go.Proofs.Eng

namespace Go.Proofs.Ytfplmpfdhiagaaa
open Go.RowKit Go.Proofs.Eng Go.Proofs.Foot Go.Proofs.Codec
set_option linter.unusedSimpArgs false
set_option linter.unusedVariables false set_option maxRecDepth 10000
attribute [local irreducible] T TL LV TH TA
abbrev tyFoot : Ty := .struct (.cons (.slice .str) (.cons (.slice .str) .unit))
end Go.Proofs.Ytfplmpfdhiagaaa

/- What an argument that reads as data looks like, and how much it holds. -/
namespace Go.Proofs.Eng
open Go.RowKit Go.WideShapes
set_option linter.unusedSimpArgs false
set_option linter.unusedVariables false
/-- How much a reading holds. -/
structure Bulk (H : Type) where
  one : DataW H → Nat
  all : List (DataW H) → Nat
  lit : ∀ l, 1 ≤ one (.lit l)
  str : ∀ b, one (.lit (.string b)) = b.length + 1
  nil : one .nil = 1
  slice : ∀ e s, one (.slice e s) = all e + all s + 1
  agg : ∀ p, one (.agg p) = all p + 1
  none : all [] = 0
  some : ∀ d r, all (d :: r) = one d + all r
def FitB (w : World) : Ty → List Value → Nat → Prop
  | .int k, cs, m => 1 ≤ m ∧ ∃ n, cs = [.int k n] ∧ Fits k n
  | .bool, cs, m => 1 ≤ m ∧ ∃ b, cs = [.bool b]
  | .str, cs, m => ∃ s : ByteArray, cs = [.string s] ∧ s.size ≤ maxLen ∧ s.size + 1 ≤ m
  | .slice e, cs, m => ∃ (A : Option Addr) (n c : Nat) (xs : List (List Value)) (ms : List Nat), cs = [.slice A n c] ∧ n ≤ c ∧ c ≤ maxLen ∧ xs.length = n ∧ ms.length = n ∧ ms.sum + 1 ≤ m ∧ Rd w A n e.size xs.flatten ∧
      ∀ (i : Nat) (x : List Value) (k : Nat), xs[i]? = some x → ms[i]? = some k → x.length = e.size ∧ FitB w e x k
  | .unit, cs, _ => cs = []
  | .cons a b, cs, m => ∃ x y p q, cs = x ++ y ∧ x.length = a.size ∧ p + q ≤ m ∧ FitB w a x p ∧ FitB w b y q
  | .struct p, cs, m => FitB w p cs m
  | .array n e, cs, m => ∃ (xs : List (List Value)) (ms : List Nat), cs = xs.flatten ∧ xs.length = n ∧ ms.length = n ∧ ms.sum ≤ m ∧ ∀ (i : Nat) (x : List Value) (k : Nat), xs[i]? = some x → ms[i]? = some k → x.length = e.size ∧ FitB w e x k
theorem FitB.mono {w : World} : ∀ {ty : Ty} {cs : List Value} {m m' : Nat}, FitB w ty cs m → m ≤ m' → FitB w ty cs m'
  | .int _, _, _, _, ⟨h, r⟩, hm => ⟨Nat.le_trans h hm, r⟩
  | .bool, _, _, _, ⟨h, r⟩, hm => ⟨Nat.le_trans h hm, r⟩
  | .str, _, _, _, ⟨s, h1, h2, h3⟩, hm => ⟨s, h1, h2, Nat.le_trans h3 hm⟩
  | .slice _, _, _, _, ⟨A, n, c, xs, ms, h1, h2, h3, h4, h5, h6, h7⟩, hm => ⟨A, n, c, xs, ms, h1, h2, h3, h4, h5, Nat.le_trans h6 hm, h7⟩
  | .unit, _, _, _, h, _ => h
  | .cons _ _, _, _, _, ⟨x, y, p, q, h1, h2, h3, h4⟩, hm => ⟨x, y, p, q, h1, h2, Nat.le_trans h3 hm, h4⟩
  | .struct p, _, _, _, h, hm => FitB.mono (ty := p) h hm
  | .array _ _, _, _, _, ⟨xs, ms, h1, h2, h3, h4, h5⟩, hm => ⟨xs, ms, h1, h2, h3, Nat.le_trans h4 hm, h5⟩
section
variable {H : Type} {enc : TypeId × Value → H} {P : Program} {w : World} {base : Nat} {spare : Nat → Bool} {held : Bool}
theorem Bulk.map_sum (K : Bulk H) (l : List (DataW H × List MemPlace)) : K.all (l.map (·.1)) = (l.map fun x => K.one x.1).sum := by
  induction l with
  | nil => simp [K.none]
  | cons a l ih => simp [K.some, ih]
theorem fitb_of_trod (E : Env P) (K : Bulk H) : ∀ (ty : Ty),
    (∀ t, tyOk E ty (.at t) = true → ∀ fuel cs x, DataW.trod enc P w base spare held fuel t cs = some x → FitB w ty cs (K.one x.1)) ∧
    (∀ off fl, tyOk E ty (.from off fl) = true → ∀ (cs : List Value) (ys : List (DataW H × List MemPlace)), cs.length = off + ty.size → ys.length = fl.length →
      (∀ (i : Nat) (o : Nat) (t : TypeId) y, fl[i]? = some (o, t) → ys[i]? = some y → ∃ n, DataW.trod enc P w base spare held n t ((cs.drop o).take (P.cellsOf t)) = some y) → FitB w ty (cs.drop off) (ys.map fun x => K.one x.1).sum) := by
  intro ty
  induction ty with
  | int k =>
    refine ⟨fun t h fuel cs x hd => ?_, fun _ _ h => by simp [tyOk] at h⟩
    obtain ⟨n, h1, h3, h2⟩ := DataW.trod_int (und_int h) hd
    rw [h3]
    exact ⟨K.lit _, n, h1, fits_of_wf h2⟩
  | bool =>
    refine ⟨fun t h fuel cs x hd => ?_, fun _ _ h => by simp [tyOk] at h⟩
    obtain ⟨b, h1, h3⟩ := DataW.trod_bool (und_bool h) hd
    rw [h3]
    exact ⟨K.lit _, b, h1⟩
  | str =>
    refine ⟨fun t h fuel cs x hd => ?_, fun _ _ h => by simp [tyOk] at h⟩
    obtain ⟨s, h1, h3, h2⟩ := DataW.trod_string (und_str h) hd
    rw [h3]
    exact ⟨s, h1, h2, by rw [K.str]; simp⟩
  | slice e ih =>
    refine ⟨fun t h fuel cs x hd => ?_, fun _ _ h => by simp [tyOk] at h⟩
    simp only [tyOk] at h
    split at h
    · rename_i u hu
      simp only [Bool.and_eq_true] at h
      obtain ⟨⟨h1, h2⟩, h3⟩ := h
      have hsz := sizeIs_ok h2
      have h0 : 0 < e.size := by simpa [Nat.blt_eq] using h3
      rcases DataW.trod_slice (E.und_ok _ _ hu) hd with ⟨rfl, hx⟩ | ⟨a, len, cap, elems, rest, n, _, rfl, hx, hb, hl, hm, hlen, hel, _⟩
      · rw [hx]
        exact ⟨none, 0, 0, [], [], rfl, Nat.le_refl _, by decide, rfl, rfl, by simp [K.nil], Rd.nil _ _ _, by simp⟩
      · rw [hsz] at hel
        have hget : ∀ i, i < len → ∃ y z, w.cells? base (a.add (i * e.size)) e.size = some y ∧ elems[i]? = some z ∧ DataW.trod enc P w base spare held n u y = some z := fun i hi => by
          have h4 := hel i hi
          rw [List.getElem?_eq_getElem (by omega)] at h4
          cases hc : w.cells? base (a.add (i * e.size)) e.size with
          | none => rw [hc] at h4; simp at h4
          | some y => rw [hc] at h4; simp at h4; exact ⟨y, _, rfl, List.getElem?_eq_getElem (by omega), h4⟩
        have hsome : ∀ (i : Nat) (x : List Value), ((List.range len).map fun i => (w.cells? base (a.add (i * e.size)) e.size).getD [])[i]? = some x → w.cells? base (a.add (i * e.size)) e.size = some x ∧ x.length = e.size ∧ ∃ z, elems[i]? = some z ∧ FitB w e x (K.one z.1) := fun i x hx => by
          have hi : i < len := by have := (List.getElem?_eq_some_iff.1 hx).1; simpa using this
          obtain ⟨y, z, hy, hz, ht⟩ := hget i hi
          rw [List.getElem?_map, List.getElem?_range hi] at hx
          simp only [Option.map_some, hy, Option.getD_some, Option.some.injEq] at hx
          subst hx
          exact ⟨hy, (World.cells?_some hy).2.1, z, hz, ih.1 u h1 n y z ht⟩
        have hmem : ∀ x ∈ (List.range len).map (fun i => (w.cells? base (a.add (i * e.size)) e.size).getD []), x.length = e.size := fun x hx => by
          obtain ⟨i, hi⟩ := List.getElem?_of_mem hx
          exact (hsome i x hi).2.1
        refine ⟨some a, len, cap, _, elems.map fun x => K.one x.1, rfl, hl, hm, by simp, by simp [hlen], ?_, rows_read h0 (by simp) (fun i x hx => (hsome i x hx).1) hmem, ?_⟩
        · rw [hx]
          simp only [K.slice, K.map_sum]
          omega
        · intro i x k hx hk
          obtain ⟨_, h5, z, hz, h6⟩ := hsome i x hx
          rw [List.getElem?_map, hz] at hk
          simp at hk
          subst hk
          exact ⟨h5, h6⟩
    · cases h
  | unit =>
    refine ⟨fun t h => by simp [tyOk] at h, fun off fl h cs ys hl _ _ => ?_⟩
    show cs.drop off = []
    exact List.drop_of_length_le (by simp only [Ty.size] at hl; omega)
  | cons a b iha ihb =>
    refine ⟨fun t h => by simp [tyOk] at h, fun off fl h cs ys hl hyl hf => ?_⟩
    cases fl with
    | nil => simp [tyOk] at h
    | cons p fl =>
      cases ys with
      | nil => simp at hyl
      | cons y ys =>
        obtain ⟨o, t⟩ := p
        simp only [tyOk, Bool.and_eq_true] at h
        obtain ⟨⟨⟨h1, h2⟩, h3⟩, h4⟩ := h
        have ho := Nat.eq_of_beq_eq_true h1
        subst ho
        simp only [Ty.size] at hl
        have hsz := sizeIs_ok h3
        obtain ⟨n, hx⟩ := hf 0 o t y rfl rfl
        rw [hsz] at hx
        refine ⟨(cs.drop o).take a.size, cs.drop (o + a.size), K.one y.1, (ys.map fun x => K.one x.1).sum, ?_, by simp; omega, by simp, iha.1 t h2 n _ y hx, ?_⟩
        · rw [← List.drop_drop, List.take_append_drop]
        · exact ihb.2 (o + a.size) fl h4 cs ys (by omega) (by simpa using hyl) (fun i o' t' y' h' g' => hf (i + 1) o' t' y' (by simpa using h') (by simpa using g'))
  | struct p ih =>
    refine ⟨fun t h fuel cs x hd => ?_, fun _ _ h => by simp [tyOk] at h⟩
    simp only [tyOk] at h
    split at h
    · rename_i fl hfl
      simp only [Bool.and_eq_true] at h
      obtain ⟨h1, h2⟩ := h
      obtain ⟨fs, hu, hmap⟩ := E.fld_ok _ _ hfl
      obtain ⟨xs, n, _, hx, hl, hxl, hfs⟩ := DataW.trod_struct hu hd
      rw [sizeIs_ok h2] at hl
      have := ih.2 0 fl h1 cs xs (by omega) (by rw [hxl, ← hmap]; simp) (fun i o t' y h' g' => by
        rw [← hmap, List.getElem?_map] at h'
        cases hf : fs.toList[i]? with
        | none => rw [hf] at h'; cases h'
        | some f =>
          rw [hf] at h'
          cases h'
          have hf' : fs[i]? = some f := by simpa using hf
          have h5 := hfs i f hf'
          rw [g'] at h5
          exact ⟨n, h5⟩)
      rw [hx]
      refine FitB.mono (ty := p) (by simpa using this) ?_
      rw [K.agg, K.map_sum]
      omega
    · cases h
  | array n e ih =>
    refine ⟨fun t h fuel cs x hd => ?_, fun _ _ h => by simp [tyOk] at h⟩
    simp only [tyOk] at h
    split at h
    · rename_i m u hu
      simp only [Bool.and_eq_true] at h
      obtain ⟨⟨⟨h1, h2⟩, h3⟩, h4⟩ := h
      have hm := Nat.eq_of_beq_eq_true h1
      subst hm
      obtain ⟨xs, q, _, hx, hl, hxl, hel⟩ := DataW.trod_array (E.und_ok _ _ hu) hd
      rw [sizeIs_ok h4] at hl
      rw [sizeIs_ok h3] at hel
      refine ⟨(List.range m).map fun i => (cs.drop (i * e.size)).take e.size, xs.map fun x => K.one x.1, (take_drop_chunks m cs hl).symm, by simp, by simp [hxl], ?_, fun i y k hy hk => ?_⟩
      · rw [hx, K.agg, K.map_sum]
        omega
      · have hi' : i < m := by have := (List.getElem?_eq_some_iff.1 hy).1; simpa using this
        rw [List.getElem?_map, List.getElem?_range hi'] at hy
        simp at hy
        subst hy
        have h5 := hel i hi'
        rw [List.getElem?_map, ← h5] at hk
        cases ht : DataW.trod enc P w base spare held q u ((cs.drop (i * e.size)).take e.size) with
        | none => rw [ht] at hk; simp at hk
        | some z =>
          rw [ht] at hk
          simp at hk
          subst hk
          refine ⟨?_, ih.1 u h2 q _ _ ht⟩
          have : (i + 1) * e.size ≤ m * e.size := Nat.mul_le_mul_right _ hi'
          rw [Nat.succ_mul] at this
          simp; omega
    · cases h
/-- An argument that reads as data and holds so much. -/
def ReadsB (P : Program) (w : World) (base : Nat) (t : TypeId) (v : Value) (m : Nat) : Prop :=
  ∃ (H : Type) (enc : TypeId × Value → H) (d : DataW H) (ps : List MemPlace) (K : Bulk H), DataW.Trod enc P w 0 (fun _ => true) true t v d ps ∧ Value.okWide P w .any base t v ∧ K.one d ≤ m
theorem ReadsB.fit {t : TypeId} {v : Value} {m : Nat} (E : Env P) (h : ReadsB P w base t v m) (ty : Ty) (hok : tyOk E ty (.at t) = true) : FitB w ty v.cells.toList m := by
  obtain ⟨H, enc, d, ps, K, ⟨fuel, hf⟩, _, hm⟩ := h
  exact FitB.mono ((fitb_of_trod E K ty).1 t hok fuel _ _ hf) hm
theorem ReadsB.slice {t e : TypeId} {v : Value} {m : Nat} (E : Env P) (h : ReadsB P w base t v m) (ht : E.und t = some (.slice e)) : ∃ A n c, v = .slice A n c := by
  obtain ⟨_, _, _, _, _, _, hv, _⟩ := h
  exact okWide_slice (E.und_ok _ _ ht) hv
theorem FitB.bytes {A : Option Addr} {n c m : Nat} (h : FitB w (.slice (.int .u8)) [.slice A n c] m) : ∃ l, Rd w A n 1 (bv l) ∧ n ≤ c ∧ c ≤ maxLen ∧ n + 1 ≤ m := by
  obtain ⟨A', n', c', xs, ms, hv, h1, h2, h3, h4, h5, h6, h7⟩ := h
  cases hv
  have hn : n ≤ ms.sum := by
    rw [← h4]
    have key : ∀ (xs : List (List Value)) (ms : List Nat), xs.length = ms.length → (∀ (i : Nat) (x : List Value) (k : Nat), xs[i]? = some x → ms[i]? = some k → 1 ≤ k) → ms.length ≤ ms.sum := by
      intro xs
      induction xs with
      | nil => intro ms hl _; cases ms <;> simp at hl ⊢
      | cons x xs ih =>
        intro ms hl hk
        cases ms with
        | nil => simp
        | cons k ms =>
          have := ih ms (by simpa using hl) (fun i x k a b => hk (i + 1) x k (by simpa using a) (by simpa using b))
          have := hk 0 x k rfl rfl
          simp
          omega
    exact key xs ms (by omega) (fun i x k a b => (h7 i x k a b).2.1)
  have h8 : ∀ x ∈ xs, x.length = 1 ∧ Fit w (.int .u8) x := fun x hx => by
    obtain ⟨i, hi⟩ := List.getElem?_of_mem hx
    have hlt := (List.getElem?_eq_some_iff.1 hi).1
    have := h7 i x ms[i] hi (List.getElem?_eq_getElem (by omega))
    exact ⟨this.1, this.2.2⟩
  obtain ⟨l, hl, h9, h10⟩ := Fit.bytes (w := w) (A := A) (n := n) (c := c) ⟨A, n, c, xs, rfl, h1, h2, h3, h6, h8⟩
  exact ⟨l, hl, h9, h10, by omega⟩
end
end Go.Proofs.Eng

namespace Go.Proofs.Ytfplmpfdhiagaaa
open Go.RowKit Go.Proofs.Eng Go.Proofs.Foot
set_option linter.unusedSimpArgs false
set_option linter.unusedVariables false set_option maxRecDepth 10000
attribute [local irreducible] T TL LV TH TA
theorem sum_ge : ∀ (xs : List (List Value)) (ms : List Nat), xs.length = ms.length → (∀ (i : Nat) (x : List Value) (k : Nat), xs[i]? = some x → ms[i]? = some k → 1 ≤ k) → ms.length ≤ ms.sum
  | [], [], _, _ => Nat.le_refl _
  | [], _ :: _, h, _ => by simp at h
  | _ :: _, [], h, _ => by simp at h
  | x :: xs, k :: ms, hl, hk => by
    have := sum_ge xs ms (by simpa using hl) (fun i x k a b => hk (i + 1) x k (by simpa using a) (by simpa using b))
    have := hk 0 x k rfl rfl
    simp
    omega
theorem texts_inB {w : World} {A : Option Addr} {n c M : Nat} (h : FitB w (.slice .str) [.slice A n c] M) : ∃ l : List Tx, Rd w A n 1 (sv l) ∧ n ≤ M := by
  obtain ⟨A', n', c', xs, ms, hv, h1, h2, h3, h4, h5, h6, h7⟩ := h
  cases hv
  have hn : n ≤ ms.sum := by
    have := sum_ge xs ms (by omega) (fun i x k a b => by obtain ⟨_, s, _, _, h⟩ := h7 i x k a b; omega)
    omega
  have h8 : ∀ x ∈ xs, ∃ s : ByteArray, x = [.string s] := fun x hx => by
    obtain ⟨i, hi⟩ := List.getElem?_of_mem hx
    have hlt := (List.getElem?_eq_some_iff.1 hi).1
    obtain ⟨_, s, rfl, _⟩ := h7 i x ms[i] hi (List.getElem?_eq_getElem (by omega))
    exact ⟨s, rfl⟩
  refine ⟨xs.map fun x => match x with | [.string s] => s.data.toList | _ => [], ?_, by omega⟩
  have e : sv (xs.map fun x => match x with | [.string s] => s.data.toList | _ => []) = xs.flatten := by
    clear h7 h6 h3 h4 h5 hn
    induction xs with
    | nil => rfl
    | cons x t ih =>
      obtain ⟨s, rfl⟩ := h8 x (by simp)
      have := ih (fun y hy => h8 y (by simp [hy]))
      simp only [sv, List.map_cons, List.flatten_cons] at this ⊢
      rw [this]
      rfl
  rw [e]
  exact h6
theorem feet_rows {w : World} {M : Nat} : ∀ (xs : List (List Value)) (ms : List Nat), xs.length = ms.length → ms.sum ≤ M → (∀ (i : Nat) (x : List Value) (k : Nat), xs[i]? = some x → ms[i]? = some k → x.length = 2 ∧ FitB w tyFoot x k) →
    ∃ l : List FV, fvs l = xs.flatten ∧ ∀ x ∈ l, Rd w x.A x.n 1 (sv x.t.1) ∧ Rd w x.B x.m 1 (sv x.t.2) ∧ x.n ≤ M ∧ x.m ≤ M
  | [], [], _, _, _ => ⟨[], rfl, fun x hx => by cases hx⟩
  | [], _ :: _, h, _, _ => by simp at h
  | _ :: _, [], h, _, _ => by simp at h
  | x :: xs, k :: ms, hl, hs, hk => by
    simp only [List.sum_cons] at hs
    obtain ⟨l, e, hm⟩ := feet_rows (w := w) (M := M) xs ms (by simpa using hl) (by omega) (fun i x k a b => hk (i + 1) x k (by simpa using a) (by simpa using b))
    obtain ⟨_, x1, y, p, q, h1, h2, hpq, hx, u, z, p2, q2, h3, h4, hpq2, hy, hz⟩ := hk 0 x k rfl rfl
    have hz : z = [] := hz
    subst hz
    simp only [List.append_nil] at h3
    subst h3
    have ax := hx
    have ay := hy
    obtain ⟨A, n, c, xs1, ms1, e1, _⟩ := hx
    obtain ⟨B, m, d, ys1, ns1, e2, _⟩ := hy
    subst e1 e2
    obtain ⟨r, hr, hn⟩ := texts_inB ax
    obtain ⟨k2, hk2, hm2⟩ := texts_inB ay
    refine ⟨⟨A, n, c, B, m, d, (r, k2)⟩ :: l, ?_, fun f hf => ?_⟩
    · simp [fvs_cons, e, h1]
    · rcases List.mem_cons.1 hf with rfl | hf
      · exact ⟨hr, hk2, by simp only; omega, by simp only; omega⟩
      · exact hm f hf
theorem feets_in {w : World} {base : Nat} {v : Value} (h : ReadsB Try.prog w base 61 v 1048576) :
    ∃ A n c l, v = .slice A n c ∧ Rd w A n 2 (fvs l) ∧ n ≤ c ∧ c ≤ maxLen ∧ ∀ x ∈ l, Rd w x.A x.n 1 (sv x.t.1) ∧ Rd w x.B x.m 1 (sv x.t.2) ∧ x.n ≤ 1048576 ∧ x.m ≤ 1048576 := by
  obtain ⟨A, n, c, rfl⟩ := h.slice TE rfl
  obtain ⟨A', n', c', xs, ms, hv, h1, h2, h3, h4, h5, h6, h7⟩ := h.fit TE (.slice tyFoot) (by decide +kernel)
  cases hv
  obtain ⟨l, e, hm⟩ := feet_rows (w := w) (M := 1048576) xs ms (by omega) (by omega) h7
  refine ⟨A, n, c, l, rfl, ?_, h1, h2, hm⟩
  rw [e]
  exact h6
end Go.Proofs.Ytfplmpfdhiagaaa

/- For whom one has to wait, itself or by others; rows of bools. -/
namespace Go.Proofs.Foot
open Go.Proofs.Eng
set_option linter.unusedSimpArgs false
set_option linter.unusedVariables false
def rc (ts : List FT) (i j : Nat) : Bool := (List.range i).attach.any fun k => clA ts k.1 i && (k.1 == j || (decide (j < k.1) && rc ts k.1 j))
termination_by i
decreasing_by exact List.mem_range.1 k.2
theorem rc_iff (ts : List FT) (i j : Nat) : rc ts i j = true ↔ ∃ k, k < i ∧ clA ts k i = true ∧ (k = j ∨ (j < k ∧ rc ts k j = true)) := by
  rw [rc]
  simp only [List.any_eq_true, List.mem_attach, true_and, Subtype.exists, Bool.and_eq_true, Bool.or_eq_true, beq_iff_eq, decide_eq_true_eq, List.mem_range]
  constructor
  · rintro ⟨k, hk, h1, h2⟩
    exact ⟨k, hk, h1, h2⟩
  · rintro ⟨k, hk, h1, h2⟩
    exact ⟨k, hk, h1, h2⟩
theorem rc_lt {ts : List FT} {i j : Nat} (h : rc ts i j = true) : j < i := by
  obtain ⟨k, h1, _, h3⟩ := (rc_iff ts i j).1 h
  rcases h3 with h | h <;> omega
/-- A row of bools. -/
def bl (n : Nat) (f : Nat → Bool) : List Value := (List.range n).map fun j => Value.bool (f j)
@[simp] theorem bl_length (n : Nat) (f : Nat → Bool) : (bl n f).length = n := by simp [bl]
theorem bl_get {n : Nat} (f : Nat → Bool) (j : Nat) (h : j < n) : (bl n f)[j]? = some (Value.bool (f j)) := by
  simp [bl, h]
theorem bl_set {n : Nat} (f : Nat → Bool) (j : Nat) (v : Bool) : (bl n f).set j (.bool v) = bl n (fun x => if x = j then v else f x) := by
  apply List.ext_getElem?
  intro k
  rw [List.getElem?_set]
  by_cases hk : k < n
  · by_cases e : j = k
    · subst e
      have h2 : j < (bl n f).length := by rw [bl_length]; exact hk
      rw [bl_get (fun x => if x = j then v else f x) j hk, if_pos rfl, if_pos h2]
      simp
    · rw [if_neg e, bl_get _ _ hk, bl_get _ _ hk]
      have : ¬ k = j := fun q => e q.symm
      simp [this]
  · rw [List.getElem?_eq_none (l := bl n _) (by simp; omega), List.getElem?_eq_none (l := bl n _) (by simp; omega)]
    split <;> simp
    omega
theorem bl_congr {n : Nat} {f g : Nat → Bool} (h : ∀ j, j < n → f j = g j) : bl n f = bl n g := by
  unfold bl
  refine List.map_congr_left fun j hj => ?_
  rw [h j (List.mem_range.1 hj)]
theorem bl_false (n : Nat) : List.replicate n (Value.bool false) = bl n (fun _ => false) := by
  unfold bl
  rw [List.map_const']
  simp
/-- For whom one waits at once. -/
def waitsT (ts : List FT) (i : Nat) : List Nat := (aheadT ts i).filter fun j => !((aheadT ts i).any fun k => decide (j < k) && rc ts k j)
end Go.Proofs.Foot

/- The reference's row, as it grows. -/
namespace Go.Proofs.Foot
open Go.Proofs.Eng
set_option linter.unusedSimpArgs false
set_option linter.unusedVariables false
def rowR (ts : List FT) (i p j : Nat) : Bool := (List.range i).any fun k => decide (p ≤ k) && (clA ts k i && (k == j || (decide (j < k) && rc ts k j)))
def rvs (n : Nat) (xs : List (Option Addr × Nat)) : List Value := xs.map fun x => Value.slice x.1 n x.2
@[simp] theorem rvs_length (n : Nat) (xs : List (Option Addr × Nat)) : (rvs n xs).length = xs.length := by simp [rvs]
theorem rvs_append (n : Nat) (a b : List (Option Addr × Nat)) : rvs n (a ++ b) = rvs n a ++ rvs n b := by simp [rvs]
theorem rvs_get (n : Nat) (xs : List (Option Addr × Nat)) (k : Nat) (h : k < xs.length) : (rvs n xs)[k]? = some (Value.slice (xs.getD k (none, 0)).1 n (xs.getD k (none, 0)).2) := by
  simp [rvs, List.getD_eq_getElem?_getD, List.getElem?_eq_getElem h]
theorem rvs_one (n : Nat) (xs : List (Option Addr × Nat)) : ∀ u ∈ rvs n xs, u.oneCell' = true := by
  intro u hu
  obtain ⟨b, _, rfl⟩ := List.mem_map.1 hu
  rfl
end Go.Proofs.Foot

/- Rows of numbers; the reference's row within its inner loop; who waits at once. -/
namespace Go.Proofs.Foot
open Go.Proofs.Eng
set_option linter.unusedSimpArgs false
set_option linter.unusedVariables false
def gR (ts : List FT) (i k j x : Nat) : Bool := if x = k then true else (rowR ts i (k + 1) x || (decide (x < j) && rc ts k x))
/-- Slices in a row: where each lies, how long it is. -/
abbrev SV3 := Option Addr × Nat × Nat
def iv (xs : List SV3) : List Value := xs.map fun x => Value.slice x.1 x.2.1 x.2.2
@[simp] theorem iv_length (xs : List SV3) : (iv xs).length = xs.length := by simp [iv]
theorem iv_get (xs : List SV3) (k : Nat) (h : k < xs.length) : (iv xs)[k]? = some (Value.slice (xs.getD k (none, 0, 0)).1 (xs.getD k (none, 0, 0)).2.1 (xs.getD k (none, 0, 0)).2.2) := by
  simp [iv, List.getD_eq_getElem?_getD, List.getElem?_eq_getElem h]
theorem iv_set (xs : List SV3) (k : Nat) (x : SV3) : (iv xs).set k (Value.slice x.1 x.2.1 x.2.2) = iv (xs.set k x) := by
  simp [iv, List.map_set]
/-- Whether one waits for another by those between k and j, ahead. -/
def byR (ts : List FT) (i k j : Nat) : Bool := (List.range j).any fun x => decide (k < x) && (clA ts x i && rc ts x k)
def waitsU (ts : List FT) (i k : Nat) : List Nat := (aheadU ts i k).filter fun j => !((aheadT ts i).any fun x => decide (j < x) && rc ts x j)
theorem waitsU_len (ts : List FT) (i k : Nat) : (waitsU ts i k).length ≤ k := Nat.le_trans (List.length_filter_le _ _) (aheadU_len ts i k)
end Go.Proofs.Foot

namespace Go.Proofs.Ytfplmpfdhiagaaa
open Go.RowKit Go.Proofs.Eng Go.Proofs.Foot
set_option linter.unusedSimpArgs false
set_option linter.unusedVariables false set_option maxRecDepth 10000
attribute [local irreducible] T TL LV TH TA
def RowsB (w : World) (base n : Nat) (F : Nat → Nat → Bool) (xs : List (Option Addr × Nat)) : Prop :=
  ∀ k, k < xs.length → Own w base 4 1 (xs.getD k (none, 0)).1 n (xs.getD k (none, 0)).2 (bl n (F k))
end Go.Proofs.Ytfplmpfdhiagaaa

namespace Go.Proofs.Ytfplmpfdhiagaaa
open Go.RowKit Go.Proofs.Eng Go.Proofs.Foot
set_option linter.unusedSimpArgs false
set_option linter.unusedVariables false set_option maxRecDepth 10000
attribute [local irreducible] T TL LV TH TA
abbrev s0 : SV3 := (none, 0, 0)
def RowsI (w : World) (base : Nat) (F : Nat → List Nat) (xs : List SV3) : Prop :=
  ∀ k, k < xs.length → Own w base 3 1 (xs.getD k s0).1 (xs.getD k s0).2.1 (xs.getD k s0).2.2 (nv (F k))
theorem RowsI.be {w w' : World} {base : Nat} {F : Nat → List Nat} {xs : List SV3} (e : Ext w w') (h : RowsI w base F xs) : RowsI w' base F xs := fun k hk => (h k hk).be e
end Go.Proofs.Ytfplmpfdhiagaaa

/- The program's row of whom one waits for, as it grows. -/
namespace Go.Proofs.Foot
open Go.Proofs.Eng
set_option linter.unusedSimpArgs false
set_option linter.unusedVariables false
def hA (g : Nat → Bool) (ts : List FT) (k j x : Nat) : Bool := if x = k then true else (g x || (decide (x < j) && rc ts k x))
theorem hA_zero (g : Nat → Bool) (ts : List FT) (k x : Nat) : (if x = k then true else g x) = hA g ts k 0 x := by
  unfold hA
  by_cases h : x = k <;> simp [h]
theorem hA_step (g : Nat → Bool) (ts : List FT) (k j x : Nat) (hj : j < k) (b c : Bool) (hb : hA g ts k j j = b) (hc : rc ts k j = c) : (if x = j then (b || c) else hA g ts k j x) = hA g ts k (j + 1) x := by
  subst hb hc
  unfold hA
  by_cases h : x = j
  · subst h
    have : ¬ x = k := by omega
    simp [this]
  · have e : decide (x < j + 1) = decide (x < j) := by
      by_cases q : x < j
      · have : x < j + 1 := by omega
        simp [q, this]
      · have : ¬ x < j + 1 := by omega
        simp [q, this]
    rw [e]
    simp [h]
theorem hA_end (g : Nat → Bool) (ts : List FT) (k x : Nat) : hA g ts k k x = (g x || (k == x || (decide (x < k) && rc ts k x))) := by
  unfold hA
  by_cases h : x = k
  · subst h; simp
  · have hb : (k == x) = false := by
      have : ¬ k = x := fun e => h e.symm
      simpa using this
    simp [h, hb]
def gA (ts : List FT) (i a x : Nat) : Bool := ((aheadT ts i).take a).any fun k => k == x || (decide (x < k) && rc ts k x)
theorem gA_zero (ts : List FT) (i x : Nat) : gA ts i 0 x = false := by simp [gA]
theorem gA_succ (ts : List FT) (i a x : Nat) (h : a < (aheadT ts i).length) : gA ts i (a + 1) x = (gA ts i a x || ((aheadT ts i).getD a 0 == x || (decide (x < (aheadT ts i).getD a 0) && rc ts ((aheadT ts i).getD a 0) x))) := by
  unfold gA
  rw [take_snoc _ _ h, List.any_append]
  simp only [List.any_cons, List.any_nil, Bool.or_false]
theorem ahead_mem {ts : List FT} {i k : Nat} : k ∈ aheadT ts i ↔ k < i ∧ clA ts k i = true := by
  unfold aheadT aheadU
  rw [List.mem_filter, List.mem_range]
theorem gA_end (ts : List FT) (i x : Nat) : gA ts i (aheadT ts i).length x = rc ts i x := by
  rw [Bool.eq_iff_iff, rc_iff]
  unfold gA
  rw [List.take_length]
  simp only [List.any_eq_true, Bool.or_eq_true, beq_iff_eq, Bool.and_eq_true, decide_eq_true_eq]
  constructor
  · rintro ⟨k, h1, h2⟩
    exact ⟨k, (ahead_mem.1 h1).1, (ahead_mem.1 h1).2, h2⟩
  · rintro ⟨k, h1, h2, h3⟩
    exact ⟨k, ahead_mem.2 ⟨h1, h2⟩, h3⟩
def wU (ts : List FT) (i a : Nat) : List Nat := ((aheadT ts i).take a).filter fun j => !((aheadT ts i).any fun k => decide (j < k) && rc ts k j)
theorem wU_succ (ts : List FT) (i a : Nat) (h : a < (aheadT ts i).length) : wU ts i (a + 1) = wU ts i a ++ (if ((aheadT ts i).any fun k => decide ((aheadT ts i).getD a 0 < k) && rc ts k ((aheadT ts i).getD a 0)) = true then [] else [(aheadT ts i).getD a 0]) := by
  unfold wU
  rw [take_snoc _ _ h, List.filter_append]
  congr 1
  generalize (aheadT ts i).getD a 0 = j
  by_cases q : ((aheadT ts i).any fun k => decide (j < k) && rc ts k j) = true
  · rw [if_pos q, List.filter_cons, q]
    rfl
  · have q' : ((aheadT ts i).any fun k => decide (j < k) && rc ts k j) = false := by simpa using q
    rw [if_neg q, List.filter_cons, q']
    rfl
theorem wU_end (ts : List FT) (i : Nat) : wU ts i (aheadT ts i).length = waitsT ts i := by
  unfold wU waitsT
  rw [List.take_length]
theorem wU_len (ts : List FT) (i a : Nat) : (wU ts i a).length ≤ a := by
  unfold wU
  refine Nat.le_trans (List.length_filter_le _ _) ?_
  rw [List.length_take]
  exact Nat.min_le_left _ _
theorem gset_ne (xs : List SV3) (i k : Nat) (r : SV3) (h : k ≠ i) : (xs.set i r).getD k (none, 0, 0) = xs.getD k (none, 0, 0) := by
  rw [List.getD_eq_getElem?_getD, List.getD_eq_getElem?_getD, List.getElem?_set_ne (fun q => h q.symm)]
theorem gset_eq (xs : List SV3) (i : Nat) (r : SV3) (h : i < xs.length) : (xs.set i r).getD i (none, 0, 0) = r := by
  rw [List.getD_eq_getElem?_getD, List.getElem?_set_self h]
  rfl
theorem set_self (xs : List SV3) (i : Nat) (h : xs.getD i (none, 0, 0) = (none, 0, 0)) : xs.set i (none, 0, 0) = xs := by
  apply List.ext_getElem?
  intro k
  rw [List.getElem?_set]
  by_cases e : i = k
  · subst e
    rw [if_pos rfl]
    by_cases q : i < xs.length
    · rw [if_pos q, ← h, List.getD_eq_getElem?_getD, List.getElem?_eq_getElem q]; rfl
    · rw [if_neg q, List.getElem?_eq_none (by omega)]
  · rw [if_neg e]
theorem getD_rep (n k : Nat) : (List.replicate n ((none, 0, 0) : SV3)).getD k (none, 0, 0) = (none, 0, 0) := by
  rw [List.getD_eq_getElem?_getD, List.getElem?_replicate]
  split <;> rfl
theorem iv_rep (n : Nat) : List.replicate n (Value.slice none 0 0) = iv (List.replicate n (none, 0, 0)) := by simp [iv]
theorem nin_lo {A : Option Addr} {B b : Nat} (h : Lo A B) (hb : B ≤ b) : b ∉ blkL A := by
  cases A with
  | none => simp [blkL]
  | some a => have := h a rfl; simp [blkL]; omega
theorem nin_hi {A : Option Addr} {B b : Nat} (h : Hi A B) (hb : b < B) : b ∉ blkL A := by
  cases A with
  | none => simp [blkL]
  | some a => have := h a rfl; simp [blkL]; omega
theorem off_nin {A : Option Addr} {b o : Nat} (h : b ∉ blkL A) : Off (some ⟨b, o, none⟩) (blkL A) := fun ad e hm => by cases e; exact h hm
theorem off_ne {a b o : Nat} (h : a ≠ b) : Off (some ⟨a, o, none⟩) [b] := fun ad e hm => by cases e; simp at hm; exact h hm
end Go.Proofs.Foot

namespace Go.Proofs.Ytfplmpfdhiagaaa
open Go.RowKit Go.Proofs.Eng Go.Proofs.Foot
set_option linter.unusedSimpArgs false
set_option linter.unusedVariables false set_option maxRecDepth 10000
attribute [local irreducible] T TL LV TH TA
theorem Waits1_c (b12 b4 bA n x j : Nat) (Xa : Option Addr) (Xc : Nat) (xs : List SV3) (ts : List FT) (w : World) (hj : Blk w b12 3 [.int .i64 (j : Int)]) (h4 : Blk w b4 68 [.slice (some ⟨bA, 0, none⟩) n n]) (hA : Rd w (some ⟨bA, 0, none⟩) n 1 (iv xs)) (hx : x < n) (hn : n ≤ 1000) (hX : (iv xs)[x]? = some (.slice Xa x Xc)) (hr : Rd w Xa x 1 (bl x (rc ts x))) :
    Ret Try.prog 82 [.int .i64 (x : Int), .pointer (some ⟨b12, 0, none⟩), .pointer (some ⟨b4, 0, none⟩)] w (fun v w' => v = .bool (decide (j < x) && rc ts x j) ∧ Ext w w') := by
  refine ret_T (n := 17) Try.func82 rfl rfl ?_
  by_cases h : j < x
  · have hv := bl_get (n := x) (rc ts x) j h
    cases hq : rc ts x j with
    | true =>
      rw [hq] at hv
      repeat (first | refine T_seq ?_ | refine T_region ?_ | refine T_region_q TE.mixed (by kernel_rfl) ?_ | refine TL_gt_t (hk := ?_) | refine TL_nil ?_ | refine TL_move (hk := ?_) | refine TL_assign (hk := ?_) | refine TL_load TE (hk := ?_) | refine TL_load_rd TE (hk := ?_) | refine TL_indexAddr1n TE (hk := ?_) | refine TL_yes (hk := ?_) | refine TL_pick_t (hk := ?_))
      refine TL_nil_q ?_; intro w1 e1
      --
      exact T_ret1 rfl rfl ⟨by simp [h], e1⟩
    | false =>
      rw [hq] at hv
      repeat (first | refine T_seq ?_ | refine T_region ?_ | refine T_region_q TE.mixed (by kernel_rfl) ?_ | refine TL_gt_t (hk := ?_) | refine TL_nil ?_ | refine TL_move (hk := ?_) | refine TL_assign (hk := ?_) | refine TL_load TE (hk := ?_) | refine TL_load_rd TE (hk := ?_) | refine TL_indexAddr1n TE (hk := ?_) | refine TL_yes (hk := ?_) | refine TL_pick_t (hk := ?_))
      refine TL_nil_q ?_; intro w1 e1
      --
      exact T_ret1 rfl rfl ⟨by simp [h], e1⟩
  · repeat (first | refine T_seq ?_ | refine T_region ?_ | refine T_region_q TE.mixed (by kernel_rfl) ?_ | refine TL_gt_f (hk := ?_) | refine TL_nil ?_ | refine TL_move (hk := ?_) | refine TL_assign (hk := ?_) | refine TL_load TE (hk := ?_) | refine TL_no (hk := ?_) | refine TL_pick_f (hk := ?_))
    refine TL_nil_q ?_; intro w1 e1
    --
    exact T_ret1 rfl rfl ⟨by simp [h], e1⟩
theorem Waits_c (A : Option Addr) (n c : Nat) (l : List FV) (w : World) (hf : Feet w A n l) (hn : n ≤ 1000) (hc : n ≤ c) :
    Ret Try.prog 47 [.slice A n c] w (fun v w' => ∃ P cp xs, v = .slice P n cp ∧ Ext w w' ∧ Own w' w.heap.size 63 1 P n cp (iv xs) ∧ xs.length = n ∧ RowsI w' w.heap.size (waitsT (fts l)) xs) := by
  have hl := hf.len
  refine ret_T (n := 95) Try.func47 rfl rfl ?_
  repeat (first | refine T_seq ?_ | refine T_region ?_ | refine TL_nil ?_ | refine TL_move (hk := ?_) | refine TL_assign (hk := ?_) | refine TL_len TE (hk := ?_))
  refine TL_makeSlice TE (m := n) (hk := ?_)
  intro bO w1 e1 h1 h1' k1
  repeat (first | refine T_seq ?_ | refine T_region ?_ | refine TL_nil ?_ | refine TL_move (hk := ?_) | refine TL_assign (hk := ?_) | refine TL_len TE (hk := ?_))
  refine TL_makeSlice TE (m := n) (hk := ?_)
  intro bA w2 e2 h2 h2' k2
  --
  refine TL_alloc TE (hk := ?_); intro b4 w3 e3 h3 h3' k3
  --
  refine TL_store TE (hk := ?_); intro w4 m4 z4 k4
  rw [iv_rep] at k1 k2
  have z1 := e1.size
  have z2 := e2.size
  have z3 := e3.size
  have k14 := ((k1.be e2).be e3).mod m4 (by simp; omega)
  have k24 := (k2.be e3).mod m4 (by simp; omega)
  have oO4 : Own w4 w.heap.size 63 1 (some ⟨bO, 0, none⟩) n n (iv (List.replicate n s0)) := Own.of_blk k14 h1 (by simp) (by unfold maxLen; omega)
  have oA4 : Own w4 w.heap.size 69 1 (some ⟨bA, 0, none⟩) n n (iv (List.replicate n s0)) := Own.of_blk k24 (by omega) (by simp) (by unfold maxLen; omega)
  have e04 : Ext w w4 := Mod.step ((e1.ext e2).ext e3) m4 (by simp; omega)
  replace k4 : Blk w4 b4 68 [.slice (some ⟨bA, 0, none⟩) n n] := k4
  clear k1 k2 k14 k24 k3 e1 e2 e3 m4
  have hD4 : b4 ∉ ([] : List Nat) := by simp
  repeat (first | refine T_seq ?_ | refine T_region ?_ | refine T_block ?_ | refine TL_nil ?_ | refine TL_move (hk := ?_) | refine TL_len TE (hk := ?_))
  refine T_loop (ι := Nat × List SV3 × List SV3) (fun i => [(21, .int .i64 (i.1 : Int)), (20, .int .i64 (n : Int)), (4, .pointer (some ⟨b4, 0, none⟩)), (3, .slice (some ⟨bO, 0, none⟩) n n), (0, .slice A n c)])
    (fun i w' => i.1 ≤ n ∧ Eng.Mod [bO, bA] w4 w' ∧ Own w' w.heap.size 69 1 (some ⟨bA, 0, none⟩) n n (iv i.2.1) ∧ Own w' w.heap.size 63 1 (some ⟨bO, 0, none⟩) n n (iv i.2.2) ∧ i.2.1.length = n ∧ i.2.2.length = n ∧ (∀ k, k < i.1 → Own w' w4.heap.size 4 1 (i.2.1.getD k s0).1 (i.2.1.getD k s0).2.1 (i.2.1.getD k s0).2.2 (bl k (rc (fts l) k))) ∧ (∀ k, k < i.1 → Own w' w4.heap.size 3 1 (i.2.2.getD k s0).1 (i.2.2.getD k s0).2.1 (i.2.2.getD k s0).2.2 (nv (waitsT (fts l) k))) ∧ ∀ k, i.1 ≤ k → i.2.2.getD k s0 = s0) (fun i => n - i.1) (0, List.replicate n s0, List.replicate n s0) (.c rfl (.c rfl (.c rfl (.c rfl (.c rfl (.n)))))) ⟨Nat.zero_le _, Mod.refl _ _, oA4, oO4, by simp, by simp, fun k h => absurd h (by simp), fun k h => absurd h (by simp), fun k _ => getD_rep n k⟩ ?_
  rintro ⟨i, xs, os⟩ w5 ⟨hi, m5, oA, oO, hxl, hol, hrow, how, hnil⟩ ih
  simp only at hi m5 oA oO hxl hol hrow how hnil ih ⊢
  have e05 : Ext w w5 := Mod.step e04 m5 (by simp; omega)
  have k45 := k4.mod m5 (by simp; omega)
  have z5 := m5.size
  by_cases hlt : i < n
  · repeat (first | refine T_seq ?_ | refine T_region ?_ | refine T_cond_true rfl ?_ | refine T_block ?_ | refine T_skip ?_ | refine TL_lt_t (hk := ?_) | refine TL_nil ?_ | refine TL_move (hk := ?_) | refine TL_assign (hk := ?_))
    refine TL_call TE (hc := ahead_c A n c l i _ (hf.be e05) hlt hn hc) (hk := ?_)
    rintro _ w6 ⟨P, np, cp, rfl, e6, oP⟩
    have k46 := k45.be e6
    have oA6 := oA.be e6
    have oO6 := oO.be e6
    have z6 := e6.size
    have lP := oP.len
    rw [nv_length, Nat.mul_one] at lP
    have loP := oP.lo
    have hiP := oP.hi
    have gsucc := fun a x => gA_succ (fts l) i a x
    have wsucc := fun a => wU_succ (fts l) i a
    have wend := wU_end (fts l) i
    have gend := fun x => gA_end (fts l) i x
    have hal : ∀ x ∈ aheadT (fts l) i, x < i := fun x hx => aheadU_lt hx
    have hall := aheadU_len (fts l) i i
    rw [show aheadU (fts l) i i = aheadT (fts l) i from rfl] at hall
    obtain ⟨ah, hah⟩ : ∃ ah, aheadT (fts l) i = ah := ⟨_, rfl⟩
    rw [hah] at oP lP hal hall wend
    simp only [hah] at gsucc wsucc gend
    rw [lP] at wend
    simp only [lP] at gsucc wsucc gend
    have rP := oP.rd
    clear oP k45
    repeat (first | refine T_seq ?_ | refine TL_nil ?_ | refine TL_assign (hk := ?_))
    refine T_region_anyz TE.mixed [] (some 5) ?_; intro w7 e7 z7
    have k47 := k46.be e7
    have oA7 := oA6.be e7
    have rA7 := oA7.rd
    clear k46 oA6
    (refine TA_take 0 rfl (by kernel_rfl) (by kernel_rfl) (by kernel_rfl) ?_; (repeat (first | refine TL_move (hk := ?_) | refine TLP_load TE (hk := ?_))); refine TL_nil_p ?_); (refine TA_take 1 rfl (by kernel_rfl) (by kernel_rfl) (by kernel_rfl) ?_; (repeat (first | refine TL_move (hk := ?_) | refine TLP_load TE (hk := ?_))); refine TL_nil_p ?_); (refine TA_take 2 rfl (by kernel_rfl) (by kernel_rfl) (by kernel_rfl) ?_; (repeat (first | refine TL_move (hk := ?_) | refine TLP_load TE (hk := ?_))); refine TL_nil_p ?_)
    refine TA_one 3 rfl (by kernel_rfl) (by kernel_rfl) ?_
    refine TL_makeSlice TE (m := i) (hf := rfl) (hq := fun w' h => h) (hk := ?_); intro bR w8 e8 h8 h8' k8
    rw [bl_false] at k8
    refine TL_nil_p ?_
    have rA8 := oA7.rd.be e8
    (refine TA_one 4 rfl (by kernel_rfl) (by kernel_rfl) ?_; (repeat (refine TL_indexAddr1n TE (hk := ?_))); refine TL_nil_p ?_)
    refine TA_one 5 rfl (by kernel_rfl) (by kernel_rfl) ?_
    refine TL_store_own TE (hf := rfl) (hq := fun _ _ _ => trivial) (hk := ?_); intro w9 m9 z9 oA9
    rw [show (iv xs).set i (Value.slice (some ⟨bR, 0, none⟩) i i) = iv (xs.set i (some ⟨bR, 0, none⟩, i, i)) from iv_set xs i (_, _, _)] at oA9
    replace m9 : Eng.Mod [bA] w8 w9 := m9
    refine TL_nil_z (by kernel_rfl) ?_
    have z8 := e8.size
    have e68 := (e6.ext e7).ext e8
    have oR9 : Own w9 w4.heap.size 4 1 (some ⟨bR, 0, none⟩) i i (bl i (fun _ => false)) := (Own.of_blk k8 (by omega) (by simp) (by unfold maxLen; omega)).mod m9 (off_ne (by omega))
    have hrd9 : ∀ x, x < i → ∃ Xa Xc, (iv (xs.set i (some ⟨bR, 0, none⟩, i, i)))[x]? = some (.slice Xa x Xc) ∧ Own w9 w4.heap.size 4 1 Xa x Xc (bl x (rc (fts l) x)) ∧ Lo Xa w5.heap.size ∧ xs.getD x s0 = (Xa, x, Xc) := by
      intro x hx
      have h1 := hrow x hx
      have h2 := iv_get (xs.set i (some ⟨bR, 0, none⟩, i, i)) x (by simp; omega)
      rw [gset_ne _ _ _ _ (by omega)] at h2
      obtain ⟨⟨Xa, Xn, Xc⟩, hX⟩ : ∃ X : SV3, xs.getD x s0 = X := ⟨_, rfl⟩
      rw [show xs.getD x (none, 0, 0) = (Xa, Xn, Xc) from hX] at h2
      rw [hX] at h1
      have hl1 := h1.len
      simp only [bl_length, Nat.mul_one] at h1 h2 hl1
      subst hl1
      exact ⟨Xa, Xc, h2, (h1.be e68).mod m9 (Off.hi h1.hi (by omega)), h1.lo, hX⟩
    have k49 := (k47.be e8).mod m9 (by simp; omega)
    have oO9 := ((oO6.be e7).be e8).mod m9 (off_ne (by omega))
    have rP9 := ((rP.be e7).be e8).mod m9 (Off.hi hiP (by omega))
    clear k8 k47 oA7 rA7 oO6 rP hrow oA
    repeat (first | refine T_seq ?_ | refine T_region ?_ | refine T_block ?_ | refine TL_nil ?_ | refine TL_move (hk := ?_) | refine TL_len TE (hk := ?_))
    refine T_loop (ι := Nat) (fun a => [(34, .int .i64 (a : Int)), (33, .int .i64 (np : Int)), (32, .slice P np cp), (6, .slice P np cp), (5, .int .i64 (i : Int)), (4, .pointer (some ⟨b4, 0, none⟩)), (3, .slice (some ⟨bO, 0, none⟩) n n), (21, .int .i64 (i : Int)), (20, .int .i64 (n : Int)), (0, .slice A n c)])
      (fun a w' => a ≤ np ∧ Eng.Mod [bR] w9 w' ∧ Own w' w4.heap.size 4 1 (some ⟨bR, 0, none⟩) i i (bl i (gA (fts l) i a))) (fun a => np - a) 0 (.c rfl (.c rfl (.c rfl (.c rfl (.c rfl (.c rfl (.c rfl (.c rfl (.c rfl (.c rfl (.n))))))))))) ⟨Nat.zero_le _, Mod.refl _ _, by rw [bl_congr (g := fun _ => false) (fun j _ => gA_zero _ _ _)]; exact oR9⟩ ?_
    rintro a w10 ⟨ha, m10, oR⟩ iha
    have offP : Off P [bR] := Off.lo loP (by omega)
    have rP10 := rP9.mod m10 offP
    have k410 := k49.mod m10 (by simp; omega)
    have oA10 := oA9.mod m10 (off_ne (by omega))
    have oO10 := oO9.mod m10 (off_ne (by omega))
    have z10 := m10.size
    clear oR9 k49 oO9
    by_cases hap : a < np
    · have hv := nv_get ah a (by omega)
      have hki : ah.getD a 0 < i := hal _ (by rw [List.getD_eq_getElem?_getD, List.getElem?_eq_getElem (by omega)]; exact List.getElem_mem _)
      have gs := fun x => gsucc a x hap
      obtain ⟨k, hk⟩ : ∃ k, ah.getD a 0 = k := ⟨_, rfl⟩
      simp only [hk] at gs
      rw [hk] at hv hki
      obtain ⟨Xa, Xc, hX, oX9, loX, -⟩ := hrd9 k hki
      have offX : Off Xa [bR] := Off.lo loX (by omega)
      have hRi := iv_get (xs.set i (some ⟨bR, 0, none⟩, i, i)) i (by simp; omega)
      rw [gset_eq _ _ _ (by omega)] at hRi
      simp only at hRi
      have rA10 := oA10.rd
      repeat (first | refine T_seq ?_ | refine T_region ?_ | refine T_cond_true rfl ?_ | refine T_block ?_ | refine T_skip ?_ | refine TL_lt_t (hk := ?_) | refine TL_nil ?_ | refine TL_move (hk := ?_) | refine TL_assign (hk := ?_) | refine TL_load TE (hk := ?_) | refine TL_load_rd TE (hk := ?_) | refine TL_indexAddr1n TE (hk := ?_))
      refine TL_store_own TE (hk := ?_); intro w11 m11 z11 oR11
      rw [bl_set, bl_congr (fun x _ => hA_zero (gA (fts l) i a) (fts l) k x)] at oR11
      replace m11 : Eng.Mod [bR] w10 w11 := m11
      have k411 := k410.mod m11 (by simp; omega)
      have oA11 := oA10.mod m11 (off_ne (by omega))
      have rX11 := ((oX9.mod m10 offX).mod m11 offX).rd
      have rA11 := oA11.rd
      clear oR rA10 rP10 oO10 k410 oA10
      repeat (first | refine T_seq ?_ | refine T_region ?_ | refine T_block ?_ | refine TL_nil ?_ | refine TL_move (hk := ?_) | refine TL_load TE (hk := ?_) | refine TL_load_rd TE (hk := ?_) | refine TL_indexAddr1n TE (hk := ?_) | refine TL_len TE (hk := ?_))
      refine T_loop (ι := Nat) (fun j => [(49, .int .i64 (j : Int)), (48, .int .i64 (k : Int)), (47, .slice Xa k Xc), (8, .int .i64 (k : Int)), (34, .int .i64 (a : Int)), (33, .int .i64 (np : Int)), (32, .slice P np cp), (6, .slice P np cp), (5, .int .i64 (i : Int)), (4, .pointer (some ⟨b4, 0, none⟩)), (3, .slice (some ⟨bO, 0, none⟩) n n), (21, .int .i64 (i : Int)), (20, .int .i64 (n : Int)), (0, .slice A n c)])
        (fun j w' => j ≤ k ∧ Eng.Mod [bR] w11 w' ∧ Own w' w4.heap.size 4 1 (some ⟨bR, 0, none⟩) i i (bl i (hA (gA (fts l) i a) (fts l) k j))) (fun j => k - j) 0 (.c rfl (.c rfl (.c rfl (.c rfl (.c rfl (.c rfl (.c rfl (.c rfl (.c rfl (.c rfl (.c rfl (.c rfl (.c rfl (.c rfl (.n))))))))))))))) ⟨Nat.zero_le _, Mod.refl _ _, oR11⟩ ?_
      rintro j w12 ⟨hj, m12, o12⟩ ihj
      clear oR11
      by_cases hjk : j < k
      · have k412 := k411.mod m12 (by simp; omega)
        have rA12 := rA11.mod m12 (off_ne (by omega))
        have rX12 := rX11.mod m12 offX
        have hv2 := bl_get (n := k) (rc (fts l) k) j hjk
        have hv1 := bl_get (n := i) (hA (gA (fts l) i a) (fts l) k j) j (by omega)
        have hst := fun x => hA_step (gA (fts l) i a) (fts l) k j x hjk
        clear k411 rA11 rX11
        by_cases hcase : hA (gA (fts l) i a) (fts l) k j j = true ∧ rc (fts l) k j = true
        · rw [hcase.1] at hv1
          rw [hcase.2] at hv2
          have hst2 := fun x => hst x _ _ hcase.1 hcase.2
          simp only [Bool.or_true, Bool.or_false] at hst2
          repeat (first | refine T_seq ?_ | refine T_region ?_ | refine T_cond_true rfl ?_ | refine T_block ?_ | refine T_skip ?_ | refine TL_lt_t (hk := ?_) | refine TL_nil ?_ | refine TL_move (hk := ?_) | refine TL_assign (hk := ?_) | refine TL_load_rd TE (hk := ?_) | refine TL_indexAddr1n TE (hk := ?_))
          refine T_region_anyz TE.mixed [] (some 16) ?_; intro w13 e13 z13
          have k413 := k412.be e13
          have rA13 := rA12.be e13
          have rX13 := rX12.be e13
          have o13 := o12.be e13
          have r13 := o13.rd
          clear k412 rA12 rX12 o12
          (refine TA_take 0 rfl (by kernel_rfl) (by kernel_rfl) (by kernel_rfl) ?_; (repeat (first | refine TL_move (hk := ?_) | refine TLP_load TE (hk := ?_) | refine TLP_load_rd TE (hk := ?_) | refine TL_indexAddr1n TE (hk := ?_) | refine TL_no (hk := ?_) | refine TL_pick_t (hk := ?_))); refine TL_nil_p ?_); (refine TA_take 1 rfl (by kernel_rfl) (by kernel_rfl) (by kernel_rfl) ?_; (repeat (first | refine TL_move (hk := ?_) | refine TLP_load TE (hk := ?_) | refine TLP_load_rd TE (hk := ?_) | refine TL_indexAddr1n TE (hk := ?_) | refine TL_no (hk := ?_) | refine TL_pick_t (hk := ?_))); refine TL_nil_p ?_); (refine TA_take 2 rfl (by kernel_rfl) (by kernel_rfl) (by kernel_rfl) ?_; (repeat (first | refine TL_move (hk := ?_) | refine TLP_load TE (hk := ?_) | refine TLP_load_rd TE (hk := ?_) | refine TL_indexAddr1n TE (hk := ?_) | refine TL_no (hk := ?_) | refine TL_pick_t (hk := ?_))); refine TL_nil_p ?_); (refine TA_take 3 rfl (by kernel_rfl) (by kernel_rfl) (by kernel_rfl) ?_; (repeat (first | refine TL_move (hk := ?_) | refine TLP_load TE (hk := ?_) | refine TLP_load_rd TE (hk := ?_) | refine TL_indexAddr1n TE (hk := ?_) | refine TL_no (hk := ?_) | refine TL_pick_t (hk := ?_))); refine TL_nil_p ?_); (refine TA_take 4 rfl (by kernel_rfl) (by kernel_rfl) (by kernel_rfl) ?_; (repeat (first | refine TL_move (hk := ?_) | refine TLP_load TE (hk := ?_) | refine TLP_load_rd TE (hk := ?_) | refine TL_indexAddr1n TE (hk := ?_) | refine TL_no (hk := ?_) | refine TL_pick_t (hk := ?_))); refine TL_nil_p ?_); (refine TA_take 5 rfl (by kernel_rfl) (by kernel_rfl) (by kernel_rfl) ?_; (repeat (first | refine TL_move (hk := ?_) | refine TLP_load TE (hk := ?_) | refine TLP_load_rd TE (hk := ?_) | refine TL_indexAddr1n TE (hk := ?_) | refine TL_no (hk := ?_) | refine TL_pick_t (hk := ?_))); refine TL_nil_p ?_); (refine TA_take 6 rfl (by kernel_rfl) (by kernel_rfl) (by kernel_rfl) ?_; (repeat (first | refine TL_move (hk := ?_) | refine TLP_load TE (hk := ?_) | refine TLP_load_rd TE (hk := ?_) | refine TL_indexAddr1n TE (hk := ?_) | refine TL_no (hk := ?_) | refine TL_pick_t (hk := ?_))); refine TL_nil_p ?_); (refine TA_take 7 rfl (by kernel_rfl) (by kernel_rfl) (by kernel_rfl) ?_; (repeat (first | refine TL_move (hk := ?_) | refine TLP_load TE (hk := ?_) | refine TLP_load_rd TE (hk := ?_) | refine TL_indexAddr1n TE (hk := ?_) | refine TL_no (hk := ?_) | refine TL_pick_t (hk := ?_))); refine TL_nil_p ?_); (refine TA_take 8 rfl (by kernel_rfl) (by kernel_rfl) (by kernel_rfl) ?_; (repeat (first | refine TL_move (hk := ?_) | refine TLP_load TE (hk := ?_) | refine TLP_load_rd TE (hk := ?_) | refine TL_indexAddr1n TE (hk := ?_) | refine TL_no (hk := ?_) | refine TL_pick_t (hk := ?_))); refine TL_nil_p ?_); (refine TA_take 9 rfl (by kernel_rfl) (by kernel_rfl) (by kernel_rfl) ?_; (repeat (first | refine TL_move (hk := ?_) | refine TLP_load TE (hk := ?_) | refine TLP_load_rd TE (hk := ?_) | refine TL_indexAddr1n TE (hk := ?_) | refine TL_no (hk := ?_) | refine TL_pick_t (hk := ?_))); refine TL_nil_p ?_); (refine TA_take 10 rfl (by kernel_rfl) (by kernel_rfl) (by kernel_rfl) ?_; (repeat (first | refine TL_move (hk := ?_) | refine TLP_load TE (hk := ?_) | refine TLP_load_rd TE (hk := ?_) | refine TL_indexAddr1n TE (hk := ?_) | refine TL_no (hk := ?_) | refine TL_pick_t (hk := ?_))); refine TL_nil_p ?_); (refine TA_take 11 rfl (by kernel_rfl) (by kernel_rfl) (by kernel_rfl) ?_; (repeat (first | refine TL_move (hk := ?_) | refine TLP_load TE (hk := ?_) | refine TLP_load_rd TE (hk := ?_) | refine TL_indexAddr1n TE (hk := ?_) | refine TL_no (hk := ?_) | refine TL_pick_t (hk := ?_))); refine TL_nil_p ?_); (refine TA_take 12 rfl (by kernel_rfl) (by kernel_rfl) (by kernel_rfl) ?_; (repeat (first | refine TL_move (hk := ?_) | refine TLP_load TE (hk := ?_) | refine TLP_load_rd TE (hk := ?_) | refine TL_indexAddr1n TE (hk := ?_) | refine TL_no (hk := ?_) | refine TL_pick_t (hk := ?_))); refine TL_nil_p ?_); (refine TA_take 13 rfl (by kernel_rfl) (by kernel_rfl) (by kernel_rfl) ?_; (repeat (first | refine TL_move (hk := ?_) | refine TLP_load TE (hk := ?_) | refine TLP_load_rd TE (hk := ?_) | refine TL_indexAddr1n TE (hk := ?_) | refine TL_no (hk := ?_) | refine TL_pick_t (hk := ?_))); refine TL_nil_p ?_); (refine TA_take 14 rfl (by kernel_rfl) (by kernel_rfl) (by kernel_rfl) ?_; (repeat (first | refine TL_move (hk := ?_) | refine TLP_load TE (hk := ?_) | refine TLP_load_rd TE (hk := ?_) | refine TL_indexAddr1n TE (hk := ?_) | refine TL_no (hk := ?_) | refine TL_pick_t (hk := ?_))); refine TL_nil_p ?_); (refine TA_take 15 rfl (by kernel_rfl) (by kernel_rfl) (by kernel_rfl) ?_; (repeat (first | refine TL_move (hk := ?_) | refine TLP_load TE (hk := ?_) | refine TLP_load_rd TE (hk := ?_) | refine TL_indexAddr1n TE (hk := ?_) | refine TL_no (hk := ?_) | refine TL_pick_t (hk := ?_))); refine TL_nil_p ?_)
          refine TA_one 16 rfl (by kernel_rfl) (by kernel_rfl) ?_
          refine TL_store_own TE (ho := o13) (hf := rfl) (hq := fun _ _ _ => trivial) (hk := ?_); intro w14 m14 z14 o14
          rw [bl_set, bl_congr (fun x _ => hst2 x)] at o14
          replace m14 : Eng.Mod [bR] w13 w14 := m14
          refine TL_nil_z (by kernel_rfl) ?_
          repeat (first | refine T_region ?_ | refine T_inBlock ?_ | refine TL_add (hk := ?_) | refine TL_nil ?_ | refine TL_move (hk := ?_))
          exact ihj (j + 1) w14 _ (by omega) ⟨by omega, (m12.ext e13).trans m14, o14⟩ (.c rfl (.c rfl (.c rfl (.c rfl (.c rfl (.c rfl (.c rfl (.c rfl (.c rfl (.c rfl (.c rfl (.c rfl (.c rfl (.c rfl (.n)))))))))))))))
        by_cases hcase : hA (gA (fts l) i a) (fts l) k j j = false ∧ rc (fts l) k j = true
        · rw [hcase.1] at hv1
          rw [hcase.2] at hv2
          have hst2 := fun x => hst x _ _ hcase.1 hcase.2
          simp only [Bool.or_true, Bool.or_false] at hst2
          repeat (first | refine T_seq ?_ | refine T_region ?_ | refine T_cond_true rfl ?_ | refine T_block ?_ | refine T_skip ?_ | refine TL_lt_t (hk := ?_) | refine TL_nil ?_ | refine TL_move (hk := ?_) | refine TL_assign (hk := ?_) | refine TL_load_rd TE (hk := ?_) | refine TL_indexAddr1n TE (hk := ?_))
          refine T_region_anyz TE.mixed [] (some 16) ?_; intro w13 e13 z13
          have k413 := k412.be e13
          have rA13 := rA12.be e13
          have rX13 := rX12.be e13
          have o13 := o12.be e13
          have r13 := o13.rd
          clear k412 rA12 rX12 o12
          (refine TA_take 0 rfl (by kernel_rfl) (by kernel_rfl) (by kernel_rfl) ?_; (repeat (first | refine TL_move (hk := ?_) | refine TLP_load TE (hk := ?_) | refine TLP_load_rd TE (hk := ?_) | refine TL_indexAddr1n TE (hk := ?_) | refine TL_yes (hk := ?_) | refine TL_pick_f (hk := ?_))); refine TL_nil_p ?_); (refine TA_take 1 rfl (by kernel_rfl) (by kernel_rfl) (by kernel_rfl) ?_; (repeat (first | refine TL_move (hk := ?_) | refine TLP_load TE (hk := ?_) | refine TLP_load_rd TE (hk := ?_) | refine TL_indexAddr1n TE (hk := ?_) | refine TL_yes (hk := ?_) | refine TL_pick_f (hk := ?_))); refine TL_nil_p ?_); (refine TA_take 2 rfl (by kernel_rfl) (by kernel_rfl) (by kernel_rfl) ?_; (repeat (first | refine TL_move (hk := ?_) | refine TLP_load TE (hk := ?_) | refine TLP_load_rd TE (hk := ?_) | refine TL_indexAddr1n TE (hk := ?_) | refine TL_yes (hk := ?_) | refine TL_pick_f (hk := ?_))); refine TL_nil_p ?_); (refine TA_take 3 rfl (by kernel_rfl) (by kernel_rfl) (by kernel_rfl) ?_; (repeat (first | refine TL_move (hk := ?_) | refine TLP_load TE (hk := ?_) | refine TLP_load_rd TE (hk := ?_) | refine TL_indexAddr1n TE (hk := ?_) | refine TL_yes (hk := ?_) | refine TL_pick_f (hk := ?_))); refine TL_nil_p ?_); (refine TA_take 4 rfl (by kernel_rfl) (by kernel_rfl) (by kernel_rfl) ?_; (repeat (first | refine TL_move (hk := ?_) | refine TLP_load TE (hk := ?_) | refine TLP_load_rd TE (hk := ?_) | refine TL_indexAddr1n TE (hk := ?_) | refine TL_yes (hk := ?_) | refine TL_pick_f (hk := ?_))); refine TL_nil_p ?_); (refine TA_take 5 rfl (by kernel_rfl) (by kernel_rfl) (by kernel_rfl) ?_; (repeat (first | refine TL_move (hk := ?_) | refine TLP_load TE (hk := ?_) | refine TLP_load_rd TE (hk := ?_) | refine TL_indexAddr1n TE (hk := ?_) | refine TL_yes (hk := ?_) | refine TL_pick_f (hk := ?_))); refine TL_nil_p ?_); (refine TA_take 6 rfl (by kernel_rfl) (by kernel_rfl) (by kernel_rfl) ?_; (repeat (first | refine TL_move (hk := ?_) | refine TLP_load TE (hk := ?_) | refine TLP_load_rd TE (hk := ?_) | refine TL_indexAddr1n TE (hk := ?_) | refine TL_yes (hk := ?_) | refine TL_pick_f (hk := ?_))); refine TL_nil_p ?_); (refine TA_take 7 rfl (by kernel_rfl) (by kernel_rfl) (by kernel_rfl) ?_; (repeat (first | refine TL_move (hk := ?_) | refine TLP_load TE (hk := ?_) | refine TLP_load_rd TE (hk := ?_) | refine TL_indexAddr1n TE (hk := ?_) | refine TL_yes (hk := ?_) | refine TL_pick_f (hk := ?_))); refine TL_nil_p ?_); (refine TA_take 8 rfl (by kernel_rfl) (by kernel_rfl) (by kernel_rfl) ?_; (repeat (first | refine TL_move (hk := ?_) | refine TLP_load TE (hk := ?_) | refine TLP_load_rd TE (hk := ?_) | refine TL_indexAddr1n TE (hk := ?_) | refine TL_yes (hk := ?_) | refine TL_pick_f (hk := ?_))); refine TL_nil_p ?_); (refine TA_take 9 rfl (by kernel_rfl) (by kernel_rfl) (by kernel_rfl) ?_; (repeat (first | refine TL_move (hk := ?_) | refine TLP_load TE (hk := ?_) | refine TLP_load_rd TE (hk := ?_) | refine TL_indexAddr1n TE (hk := ?_) | refine TL_yes (hk := ?_) | refine TL_pick_f (hk := ?_))); refine TL_nil_p ?_); (refine TA_take 10 rfl (by kernel_rfl) (by kernel_rfl) (by kernel_rfl) ?_; (repeat (first | refine TL_move (hk := ?_) | refine TLP_load TE (hk := ?_) | refine TLP_load_rd TE (hk := ?_) | refine TL_indexAddr1n TE (hk := ?_) | refine TL_yes (hk := ?_) | refine TL_pick_f (hk := ?_))); refine TL_nil_p ?_); (refine TA_take 11 rfl (by kernel_rfl) (by kernel_rfl) (by kernel_rfl) ?_; (repeat (first | refine TL_move (hk := ?_) | refine TLP_load TE (hk := ?_) | refine TLP_load_rd TE (hk := ?_) | refine TL_indexAddr1n TE (hk := ?_) | refine TL_yes (hk := ?_) | refine TL_pick_f (hk := ?_))); refine TL_nil_p ?_); (refine TA_take 12 rfl (by kernel_rfl) (by kernel_rfl) (by kernel_rfl) ?_; (repeat (first | refine TL_move (hk := ?_) | refine TLP_load TE (hk := ?_) | refine TLP_load_rd TE (hk := ?_) | refine TL_indexAddr1n TE (hk := ?_) | refine TL_yes (hk := ?_) | refine TL_pick_f (hk := ?_))); refine TL_nil_p ?_); (refine TA_take 13 rfl (by kernel_rfl) (by kernel_rfl) (by kernel_rfl) ?_; (repeat (first | refine TL_move (hk := ?_) | refine TLP_load TE (hk := ?_) | refine TLP_load_rd TE (hk := ?_) | refine TL_indexAddr1n TE (hk := ?_) | refine TL_yes (hk := ?_) | refine TL_pick_f (hk := ?_))); refine TL_nil_p ?_); (refine TA_take 14 rfl (by kernel_rfl) (by kernel_rfl) (by kernel_rfl) ?_; (repeat (first | refine TL_move (hk := ?_) | refine TLP_load TE (hk := ?_) | refine TLP_load_rd TE (hk := ?_) | refine TL_indexAddr1n TE (hk := ?_) | refine TL_yes (hk := ?_) | refine TL_pick_f (hk := ?_))); refine TL_nil_p ?_); (refine TA_take 15 rfl (by kernel_rfl) (by kernel_rfl) (by kernel_rfl) ?_; (repeat (first | refine TL_move (hk := ?_) | refine TLP_load TE (hk := ?_) | refine TLP_load_rd TE (hk := ?_) | refine TL_indexAddr1n TE (hk := ?_) | refine TL_yes (hk := ?_) | refine TL_pick_f (hk := ?_))); refine TL_nil_p ?_)
          refine TA_one 16 rfl (by kernel_rfl) (by kernel_rfl) ?_
          refine TL_store_own TE (ho := o13) (hf := rfl) (hq := fun _ _ _ => trivial) (hk := ?_); intro w14 m14 z14 o14
          rw [bl_set, bl_congr (fun x _ => hst2 x)] at o14
          replace m14 : Eng.Mod [bR] w13 w14 := m14
          refine TL_nil_z (by kernel_rfl) ?_
          repeat (first | refine T_region ?_ | refine T_inBlock ?_ | refine TL_add (hk := ?_) | refine TL_nil ?_ | refine TL_move (hk := ?_))
          exact ihj (j + 1) w14 _ (by omega) ⟨by omega, (m12.ext e13).trans m14, o14⟩ (.c rfl (.c rfl (.c rfl (.c rfl (.c rfl (.c rfl (.c rfl (.c rfl (.c rfl (.c rfl (.c rfl (.c rfl (.c rfl (.c rfl (.n)))))))))))))))
        by_cases hcase : hA (gA (fts l) i a) (fts l) k j j = false ∧ rc (fts l) k j = false
        · rw [hcase.1] at hv1
          rw [hcase.2] at hv2
          have hst2 := fun x => hst x _ _ hcase.1 hcase.2
          simp only [Bool.or_true, Bool.or_false] at hst2
          repeat (first | refine T_seq ?_ | refine T_region ?_ | refine T_cond_true rfl ?_ | refine T_block ?_ | refine T_skip ?_ | refine TL_lt_t (hk := ?_) | refine TL_nil ?_ | refine TL_move (hk := ?_) | refine TL_assign (hk := ?_) | refine TL_load_rd TE (hk := ?_) | refine TL_indexAddr1n TE (hk := ?_))
          refine T_region_anyz TE.mixed [] (some 16) ?_; intro w13 e13 z13
          have k413 := k412.be e13
          have rA13 := rA12.be e13
          have rX13 := rX12.be e13
          have o13 := o12.be e13
          have r13 := o13.rd
          clear k412 rA12 rX12 o12
          (refine TA_take 0 rfl (by kernel_rfl) (by kernel_rfl) (by kernel_rfl) ?_; (repeat (first | refine TL_move (hk := ?_) | refine TLP_load TE (hk := ?_) | refine TLP_load_rd TE (hk := ?_) | refine TL_indexAddr1n TE (hk := ?_) | refine TL_yes (hk := ?_) | refine TL_pick_f (hk := ?_))); refine TL_nil_p ?_); (refine TA_take 1 rfl (by kernel_rfl) (by kernel_rfl) (by kernel_rfl) ?_; (repeat (first | refine TL_move (hk := ?_) | refine TLP_load TE (hk := ?_) | refine TLP_load_rd TE (hk := ?_) | refine TL_indexAddr1n TE (hk := ?_) | refine TL_yes (hk := ?_) | refine TL_pick_f (hk := ?_))); refine TL_nil_p ?_); (refine TA_take 2 rfl (by kernel_rfl) (by kernel_rfl) (by kernel_rfl) ?_; (repeat (first | refine TL_move (hk := ?_) | refine TLP_load TE (hk := ?_) | refine TLP_load_rd TE (hk := ?_) | refine TL_indexAddr1n TE (hk := ?_) | refine TL_yes (hk := ?_) | refine TL_pick_f (hk := ?_))); refine TL_nil_p ?_); (refine TA_take 3 rfl (by kernel_rfl) (by kernel_rfl) (by kernel_rfl) ?_; (repeat (first | refine TL_move (hk := ?_) | refine TLP_load TE (hk := ?_) | refine TLP_load_rd TE (hk := ?_) | refine TL_indexAddr1n TE (hk := ?_) | refine TL_yes (hk := ?_) | refine TL_pick_f (hk := ?_))); refine TL_nil_p ?_); (refine TA_take 4 rfl (by kernel_rfl) (by kernel_rfl) (by kernel_rfl) ?_; (repeat (first | refine TL_move (hk := ?_) | refine TLP_load TE (hk := ?_) | refine TLP_load_rd TE (hk := ?_) | refine TL_indexAddr1n TE (hk := ?_) | refine TL_yes (hk := ?_) | refine TL_pick_f (hk := ?_))); refine TL_nil_p ?_); (refine TA_take 5 rfl (by kernel_rfl) (by kernel_rfl) (by kernel_rfl) ?_; (repeat (first | refine TL_move (hk := ?_) | refine TLP_load TE (hk := ?_) | refine TLP_load_rd TE (hk := ?_) | refine TL_indexAddr1n TE (hk := ?_) | refine TL_yes (hk := ?_) | refine TL_pick_f (hk := ?_))); refine TL_nil_p ?_); (refine TA_take 6 rfl (by kernel_rfl) (by kernel_rfl) (by kernel_rfl) ?_; (repeat (first | refine TL_move (hk := ?_) | refine TLP_load TE (hk := ?_) | refine TLP_load_rd TE (hk := ?_) | refine TL_indexAddr1n TE (hk := ?_) | refine TL_yes (hk := ?_) | refine TL_pick_f (hk := ?_))); refine TL_nil_p ?_); (refine TA_take 7 rfl (by kernel_rfl) (by kernel_rfl) (by kernel_rfl) ?_; (repeat (first | refine TL_move (hk := ?_) | refine TLP_load TE (hk := ?_) | refine TLP_load_rd TE (hk := ?_) | refine TL_indexAddr1n TE (hk := ?_) | refine TL_yes (hk := ?_) | refine TL_pick_f (hk := ?_))); refine TL_nil_p ?_); (refine TA_take 8 rfl (by kernel_rfl) (by kernel_rfl) (by kernel_rfl) ?_; (repeat (first | refine TL_move (hk := ?_) | refine TLP_load TE (hk := ?_) | refine TLP_load_rd TE (hk := ?_) | refine TL_indexAddr1n TE (hk := ?_) | refine TL_yes (hk := ?_) | refine TL_pick_f (hk := ?_))); refine TL_nil_p ?_); (refine TA_take 9 rfl (by kernel_rfl) (by kernel_rfl) (by kernel_rfl) ?_; (repeat (first | refine TL_move (hk := ?_) | refine TLP_load TE (hk := ?_) | refine TLP_load_rd TE (hk := ?_) | refine TL_indexAddr1n TE (hk := ?_) | refine TL_yes (hk := ?_) | refine TL_pick_f (hk := ?_))); refine TL_nil_p ?_); (refine TA_take 10 rfl (by kernel_rfl) (by kernel_rfl) (by kernel_rfl) ?_; (repeat (first | refine TL_move (hk := ?_) | refine TLP_load TE (hk := ?_) | refine TLP_load_rd TE (hk := ?_) | refine TL_indexAddr1n TE (hk := ?_) | refine TL_yes (hk := ?_) | refine TL_pick_f (hk := ?_))); refine TL_nil_p ?_); (refine TA_take 11 rfl (by kernel_rfl) (by kernel_rfl) (by kernel_rfl) ?_; (repeat (first | refine TL_move (hk := ?_) | refine TLP_load TE (hk := ?_) | refine TLP_load_rd TE (hk := ?_) | refine TL_indexAddr1n TE (hk := ?_) | refine TL_yes (hk := ?_) | refine TL_pick_f (hk := ?_))); refine TL_nil_p ?_); (refine TA_take 12 rfl (by kernel_rfl) (by kernel_rfl) (by kernel_rfl) ?_; (repeat (first | refine TL_move (hk := ?_) | refine TLP_load TE (hk := ?_) | refine TLP_load_rd TE (hk := ?_) | refine TL_indexAddr1n TE (hk := ?_) | refine TL_yes (hk := ?_) | refine TL_pick_f (hk := ?_))); refine TL_nil_p ?_); (refine TA_take 13 rfl (by kernel_rfl) (by kernel_rfl) (by kernel_rfl) ?_; (repeat (first | refine TL_move (hk := ?_) | refine TLP_load TE (hk := ?_) | refine TLP_load_rd TE (hk := ?_) | refine TL_indexAddr1n TE (hk := ?_) | refine TL_yes (hk := ?_) | refine TL_pick_f (hk := ?_))); refine TL_nil_p ?_); (refine TA_take 14 rfl (by kernel_rfl) (by kernel_rfl) (by kernel_rfl) ?_; (repeat (first | refine TL_move (hk := ?_) | refine TLP_load TE (hk := ?_) | refine TLP_load_rd TE (hk := ?_) | refine TL_indexAddr1n TE (hk := ?_) | refine TL_yes (hk := ?_) | refine TL_pick_f (hk := ?_))); refine TL_nil_p ?_); (refine TA_take 15 rfl (by kernel_rfl) (by kernel_rfl) (by kernel_rfl) ?_; (repeat (first | refine TL_move (hk := ?_) | refine TLP_load TE (hk := ?_) | refine TLP_load_rd TE (hk := ?_) | refine TL_indexAddr1n TE (hk := ?_) | refine TL_yes (hk := ?_) | refine TL_pick_f (hk := ?_))); refine TL_nil_p ?_)
          refine TA_one 16 rfl (by kernel_rfl) (by kernel_rfl) ?_
          refine TL_store_own TE (ho := o13) (hf := rfl) (hq := fun _ _ _ => trivial) (hk := ?_); intro w14 m14 z14 o14
          rw [bl_set, bl_congr (fun x _ => hst2 x)] at o14
          replace m14 : Eng.Mod [bR] w13 w14 := m14
          refine TL_nil_z (by kernel_rfl) ?_
          repeat (first | refine T_region ?_ | refine T_inBlock ?_ | refine TL_add (hk := ?_) | refine TL_nil ?_ | refine TL_move (hk := ?_))
          exact ihj (j + 1) w14 _ (by omega) ⟨by omega, (m12.ext e13).trans m14, o14⟩ (.c rfl (.c rfl (.c rfl (.c rfl (.c rfl (.c rfl (.c rfl (.c rfl (.c rfl (.c rfl (.c rfl (.c rfl (.c rfl (.c rfl (.n)))))))))))))))
        by_cases hcase : hA (gA (fts l) i a) (fts l) k j j = true ∧ rc (fts l) k j = false
        · rw [hcase.1] at hv1
          rw [hcase.2] at hv2
          have hst2 := fun x => hst x _ _ hcase.1 hcase.2
          simp only [Bool.or_true, Bool.or_false] at hst2
          repeat (first | refine T_seq ?_ | refine T_region ?_ | refine T_cond_true rfl ?_ | refine T_block ?_ | refine T_skip ?_ | refine TL_lt_t (hk := ?_) | refine TL_nil ?_ | refine TL_move (hk := ?_) | refine TL_assign (hk := ?_) | refine TL_load_rd TE (hk := ?_) | refine TL_indexAddr1n TE (hk := ?_))
          refine T_region_anyz TE.mixed [] (some 16) ?_; intro w13 e13 z13
          have k413 := k412.be e13
          have rA13 := rA12.be e13
          have rX13 := rX12.be e13
          have o13 := o12.be e13
          have r13 := o13.rd
          clear k412 rA12 rX12 o12
          (refine TA_take 0 rfl (by kernel_rfl) (by kernel_rfl) (by kernel_rfl) ?_; (repeat (first | refine TL_move (hk := ?_) | refine TLP_load TE (hk := ?_) | refine TLP_load_rd TE (hk := ?_) | refine TL_indexAddr1n TE (hk := ?_) | refine TL_no (hk := ?_) | refine TL_pick_t (hk := ?_))); refine TL_nil_p ?_); (refine TA_take 1 rfl (by kernel_rfl) (by kernel_rfl) (by kernel_rfl) ?_; (repeat (first | refine TL_move (hk := ?_) | refine TLP_load TE (hk := ?_) | refine TLP_load_rd TE (hk := ?_) | refine TL_indexAddr1n TE (hk := ?_) | refine TL_no (hk := ?_) | refine TL_pick_t (hk := ?_))); refine TL_nil_p ?_); (refine TA_take 2 rfl (by kernel_rfl) (by kernel_rfl) (by kernel_rfl) ?_; (repeat (first | refine TL_move (hk := ?_) | refine TLP_load TE (hk := ?_) | refine TLP_load_rd TE (hk := ?_) | refine TL_indexAddr1n TE (hk := ?_) | refine TL_no (hk := ?_) | refine TL_pick_t (hk := ?_))); refine TL_nil_p ?_); (refine TA_take 3 rfl (by kernel_rfl) (by kernel_rfl) (by kernel_rfl) ?_; (repeat (first | refine TL_move (hk := ?_) | refine TLP_load TE (hk := ?_) | refine TLP_load_rd TE (hk := ?_) | refine TL_indexAddr1n TE (hk := ?_) | refine TL_no (hk := ?_) | refine TL_pick_t (hk := ?_))); refine TL_nil_p ?_); (refine TA_take 4 rfl (by kernel_rfl) (by kernel_rfl) (by kernel_rfl) ?_; (repeat (first | refine TL_move (hk := ?_) | refine TLP_load TE (hk := ?_) | refine TLP_load_rd TE (hk := ?_) | refine TL_indexAddr1n TE (hk := ?_) | refine TL_no (hk := ?_) | refine TL_pick_t (hk := ?_))); refine TL_nil_p ?_); (refine TA_take 5 rfl (by kernel_rfl) (by kernel_rfl) (by kernel_rfl) ?_; (repeat (first | refine TL_move (hk := ?_) | refine TLP_load TE (hk := ?_) | refine TLP_load_rd TE (hk := ?_) | refine TL_indexAddr1n TE (hk := ?_) | refine TL_no (hk := ?_) | refine TL_pick_t (hk := ?_))); refine TL_nil_p ?_); (refine TA_take 6 rfl (by kernel_rfl) (by kernel_rfl) (by kernel_rfl) ?_; (repeat (first | refine TL_move (hk := ?_) | refine TLP_load TE (hk := ?_) | refine TLP_load_rd TE (hk := ?_) | refine TL_indexAddr1n TE (hk := ?_) | refine TL_no (hk := ?_) | refine TL_pick_t (hk := ?_))); refine TL_nil_p ?_); (refine TA_take 7 rfl (by kernel_rfl) (by kernel_rfl) (by kernel_rfl) ?_; (repeat (first | refine TL_move (hk := ?_) | refine TLP_load TE (hk := ?_) | refine TLP_load_rd TE (hk := ?_) | refine TL_indexAddr1n TE (hk := ?_) | refine TL_no (hk := ?_) | refine TL_pick_t (hk := ?_))); refine TL_nil_p ?_); (refine TA_take 8 rfl (by kernel_rfl) (by kernel_rfl) (by kernel_rfl) ?_; (repeat (first | refine TL_move (hk := ?_) | refine TLP_load TE (hk := ?_) | refine TLP_load_rd TE (hk := ?_) | refine TL_indexAddr1n TE (hk := ?_) | refine TL_no (hk := ?_) | refine TL_pick_t (hk := ?_))); refine TL_nil_p ?_); (refine TA_take 9 rfl (by kernel_rfl) (by kernel_rfl) (by kernel_rfl) ?_; (repeat (first | refine TL_move (hk := ?_) | refine TLP_load TE (hk := ?_) | refine TLP_load_rd TE (hk := ?_) | refine TL_indexAddr1n TE (hk := ?_) | refine TL_no (hk := ?_) | refine TL_pick_t (hk := ?_))); refine TL_nil_p ?_); (refine TA_take 10 rfl (by kernel_rfl) (by kernel_rfl) (by kernel_rfl) ?_; (repeat (first | refine TL_move (hk := ?_) | refine TLP_load TE (hk := ?_) | refine TLP_load_rd TE (hk := ?_) | refine TL_indexAddr1n TE (hk := ?_) | refine TL_no (hk := ?_) | refine TL_pick_t (hk := ?_))); refine TL_nil_p ?_); (refine TA_take 11 rfl (by kernel_rfl) (by kernel_rfl) (by kernel_rfl) ?_; (repeat (first | refine TL_move (hk := ?_) | refine TLP_load TE (hk := ?_) | refine TLP_load_rd TE (hk := ?_) | refine TL_indexAddr1n TE (hk := ?_) | refine TL_no (hk := ?_) | refine TL_pick_t (hk := ?_))); refine TL_nil_p ?_); (refine TA_take 12 rfl (by kernel_rfl) (by kernel_rfl) (by kernel_rfl) ?_; (repeat (first | refine TL_move (hk := ?_) | refine TLP_load TE (hk := ?_) | refine TLP_load_rd TE (hk := ?_) | refine TL_indexAddr1n TE (hk := ?_) | refine TL_no (hk := ?_) | refine TL_pick_t (hk := ?_))); refine TL_nil_p ?_); (refine TA_take 13 rfl (by kernel_rfl) (by kernel_rfl) (by kernel_rfl) ?_; (repeat (first | refine TL_move (hk := ?_) | refine TLP_load TE (hk := ?_) | refine TLP_load_rd TE (hk := ?_) | refine TL_indexAddr1n TE (hk := ?_) | refine TL_no (hk := ?_) | refine TL_pick_t (hk := ?_))); refine TL_nil_p ?_); (refine TA_take 14 rfl (by kernel_rfl) (by kernel_rfl) (by kernel_rfl) ?_; (repeat (first | refine TL_move (hk := ?_) | refine TLP_load TE (hk := ?_) | refine TLP_load_rd TE (hk := ?_) | refine TL_indexAddr1n TE (hk := ?_) | refine TL_no (hk := ?_) | refine TL_pick_t (hk := ?_))); refine TL_nil_p ?_); (refine TA_take 15 rfl (by kernel_rfl) (by kernel_rfl) (by kernel_rfl) ?_; (repeat (first | refine TL_move (hk := ?_) | refine TLP_load TE (hk := ?_) | refine TLP_load_rd TE (hk := ?_) | refine TL_indexAddr1n TE (hk := ?_) | refine TL_no (hk := ?_) | refine TL_pick_t (hk := ?_))); refine TL_nil_p ?_)
          refine TA_one 16 rfl (by kernel_rfl) (by kernel_rfl) ?_
          refine TL_store_own TE (ho := o13) (hf := rfl) (hq := fun _ _ _ => trivial) (hk := ?_); intro w14 m14 z14 o14
          rw [bl_set, bl_congr (fun x _ => hst2 x)] at o14
          replace m14 : Eng.Mod [bR] w13 w14 := m14
          refine TL_nil_z (by kernel_rfl) ?_
          repeat (first | refine T_region ?_ | refine T_inBlock ?_ | refine TL_add (hk := ?_) | refine TL_nil ?_ | refine TL_move (hk := ?_))
          exact ihj (j + 1) w14 _ (by omega) ⟨by omega, (m12.ext e13).trans m14, o14⟩ (.c rfl (.c rfl (.c rfl (.c rfl (.c rfl (.c rfl (.c rfl (.c rfl (.c rfl (.c rfl (.c rfl (.c rfl (.c rfl (.c rfl (.n)))))))))))))))
        exfalso
        rename_i q1 q2 q3
        cases hb1 : hA (gA (fts l) i a) (fts l) k j j <;> cases hc1 : rc (fts l) k j <;> simp [hb1, hc1] at q1 q2 q3 hcase
      · have : j = k := by omega
        subst this
        clear ihj
        rw [bl_congr (fun x _ => (hA_end (gA (fts l) i a) (fts l) j x).trans (gs x).symm)] at o12
        repeat (first | refine T_seq ?_ | refine T_region ?_ | refine T_cond_false rfl ?_ | refine T_inBlock ?_ | refine T_exit rfl ?_ | refine TL_add (hk := ?_) | refine TL_lt_f (hk := ?_) | refine TL_nil ?_ | refine TL_move (hk := ?_))
        exact iha (a + 1) w12 _ (by omega) ⟨by omega, (m10.trans m11).trans m12, o12⟩ (.c rfl (.c rfl (.c rfl (.c rfl (.c rfl (.c rfl (.c rfl (.c rfl (.c rfl (.c rfl (.n)))))))))))
    · have : np = a := by omega
      subst this
      clear iha
      rw [bl_congr (fun x _ => gend x)] at oR
      have loX : ∀ x, x < i → ∃ Xa Xc, (iv (xs.set i (some ⟨bR, 0, none⟩, i, i)))[x]? = some (.slice Xa x Xc) ∧ Own w10 w4.heap.size 4 1 Xa x Xc (bl x (rc (fts l) x)) ∧ xs.getD x s0 = (Xa, x, Xc) := fun x hx => by
        obtain ⟨Xa, Xc, a1, a2, a3, a4⟩ := hrd9 x hx
        exact ⟨Xa, Xc, a1, a2.mod m10 (Off.lo a3 (by omega)), a4⟩
      have how10 : ∀ k, k < i → Own w10 w4.heap.size 3 1 (os.getD k s0).1 (os.getD k s0).2.1 (os.getD k s0).2.2 (nv (waitsT (fts l) k)) := fun k hk => (((how k hk).be e68).mod m9 (Off.hi (how k hk).hi (by omega))).mod m10 (Off.lo (how k hk).lo (by omega))
      have M10 : Eng.Mod [bO, bA] w4 w10 := ((m5.ext e68).step m9 (by simp)).step m10 (by simp; omega)
      have hnil2 := hnil
      replace hnil := hnil i (Nat.le_refl _)
      clear hrd9 how oA9 rP9 m5
      repeat (first | refine T_seq ?_ | refine T_region ?_ | refine T_cond_false rfl ?_ | refine T_block ?_ | refine T_exit rfl ?_ | refine TL_lt_f (hk := ?_) | refine TL_nil ?_ | refine TL_move (hk := ?_) | refine TL_len TE (hk := ?_))
      refine T_loop (ι := Nat × SV3) (fun a => [(74, .int .i64 (a.1 : Int)), (73, .int .i64 (np : Int)), (72, .slice P np cp), (6, .slice P np cp), (5, .int .i64 (i : Int)), (4, .pointer (some ⟨b4, 0, none⟩)), (3, .slice (some ⟨bO, 0, none⟩) n n), (21, .int .i64 (i : Int)), (20, .int .i64 (n : Int)), (0, .slice A n c)])
        (fun a w' => a.1 ≤ np ∧ Eng.Mod [bO] w10 w' ∧ Own w' w.heap.size 63 1 (some ⟨bO, 0, none⟩) n n (iv (os.set i a.2)) ∧ Own w' w10.heap.size 3 1 a.2.1 a.2.2.1 a.2.2.2 (nv (wU (fts l) i a.1))) (fun a => np - a.1) (0, s0) (.c rfl (.c rfl (.c rfl (.c rfl (.c rfl (.c rfl (.c rfl (.c rfl (.c rfl (.c rfl (.n))))))))))) ⟨Nat.zero_le _, Mod.refl _ _, by rw [set_self os i hnil]; exact oO10, Own.nil _ _ _ _⟩ ?_
      rintro ⟨p, Oa, on, oc⟩ w11 ⟨hp, m11, oO11, o11⟩ ihp
      simp only at hp m11 oO11 o11 ihp ⊢
      have z11 := m11.size
      have k411 := k410.mod m11 (by simp; omega)
      have oA11 := oA10.mod m11 (off_ne (by omega))
      have offPO : Off P [bO] := Off.hi hiP (by omega)
      have rP11 := rP10.mod m11 offPO
      have lon := o11.len
      rw [nv_length, Nat.mul_one] at lon
      have hon := wU_len (fts l) i p
      clear oO10 k410 oA10 rP10
      by_cases hap : p < np
      · have hv := nv_get ah p (by omega)
        have hji : ah.getD p 0 < i := hal _ (by rw [List.getD_eq_getElem?_getD, List.getElem?_eq_getElem (by omega)]; exact List.getElem_mem _)
        have ws := wsucc p hap
        obtain ⟨j, hj⟩ : ∃ j, ah.getD p 0 = j := ⟨_, rfl⟩
        simp only [hj] at ws
        rw [hj] at hv hji
        have loO := o11.lo
        have hiO := o11.hi
        repeat (first | refine T_seq ?_ | refine T_region ?_ | refine T_cond_true rfl ?_ | refine T_block ?_ | refine T_skip ?_ | refine TL_lt_t (hk := ?_) | refine TL_nil ?_ | refine TL_load_rd TE (hk := ?_) | refine TL_indexAddr1n TE (hk := ?_))
        refine TL_alloc TE (hk := ?_); intro b12 w12 e12 h12 h12' k12
        --
        refine TL_store TE (hk := ?_); intro w13 m13 z13 k13
        have z12 := e12.size
        have e13 : Ext w11 w13 := Mod.step e12 m13 (by simp; omega)
        replace k13 : Blk w13 b12 3 [.int .i64 (j : Int)] := k13
        have k413 := k411.be e13
        have oA13 := oA11.be e13
        have rP13 := rP11.be e13
        clear k12 m13 k411 rP11
        repeat (first | refine T_seq ?_ | refine T_region ?_ | refine TL_nil ?_ | refine TL_move (hk := ?_) | refine TL_makeFunc (hk := ?_))
        refine TL_call TE (hc := ContainsFunc_c P np cp ah [.pointer (some ⟨b12, 0, none⟩), .pointer (some ⟨b4, 0, none⟩)] (fun x => decide (j < x) && rc (fts l) x j) _ rP13 (by omega) (fun x hx w' e' => (loX x (hal x hx)).elim fun Xa h => h.elim fun Xc h => Waits1_c b12 b4 bA n x j Xa Xc _ (fts l) w' (k13.be e') (k413.be e') (oA13.be e').rd (by have := hal x hx; omega) hn h.1 (((h.2.1.mod m11 (Off.hi h.2.1.hi (by omega))).be e13).be e').rd)) (hk := ?_)
        rintro _ w14 ⟨rfl, e14⟩
        have e114 := e13.ext e14
        have o14 := o11.be e114
        have oO14 := oO11.be e114
        have k14 := k13.be e14
        have z14 := e14.size
        clear k413 oA13 rP13 k13 o11 oO11
        by_cases hb : (ah.any fun x => decide (j < x) && rc (fts l) x j) = true
        · rw [if_pos hb, List.append_nil] at ws
          rw [hb]
          repeat (first | refine T_region ?_ | refine T_cond_false rfl ?_ | refine T_inBlock ?_ | refine T_skip ?_ | refine TL_add (hk := ?_) | refine TL_nil ?_ | refine TL_move (hk := ?_) | refine TL_not (hk := ?_))
          exact ihp (p + 1, Oa, on, oc) w14 _ (by simp only; omega) ⟨by simp only; omega, m11.ext e114, oO14, by simp only; rw [ws]; exact o14⟩ (.c rfl (.c rfl (.c rfl (.c rfl (.c rfl (.c rfl (.c rfl (.c rfl (.c rfl (.c rfl (.n)))))))))))
        · rw [if_neg hb] at ws
          have hb' : (ah.any fun x => decide (j < x) && rc (fts l) x j) = false := by simpa using hb
          rw [hb']
          repeat (first | refine T_cond_true rfl ?_ | refine TL_nil ?_ | refine TL_not (hk := ?_))
          refine T_region_anyz TE.mixed (blkL Oa) (some 10) ?_; intro w15 e15 z15
          have o15 := o14.be e15
          have oO15 := oO14.be e15
          have rO15 := oO15.rd
          have k15 := k14.be e15
          have hget := iv_get (os.set i (Oa, on, oc)) i (by simp; omega)
          rw [gset_eq _ _ _ (by omega)] at hget
          simp only at hget
          have hOO : Off (some ⟨bO, 0, none⟩) (blkL Oa) := off_nin (nin_hi hiO (by omega))
          have h12O : b12 ∉ blkL Oa := nin_lo loO h12
          clear o14 oO14 k14
          (refine TA_take 0 rfl (by kernel_rfl) (by kernel_rfl) (by kernel_rfl) ?_; (repeat (first | refine TL_move (hk := ?_) | refine TLP_load TE (hk := ?_) | refine TLP_load_rd TE (hk := ?_) | refine TL_indexAddr1n TE (hk := ?_))); refine TL_nil_p ?_); (refine TA_take 1 rfl (by kernel_rfl) (by kernel_rfl) (by kernel_rfl) ?_; (repeat (first | refine TL_move (hk := ?_) | refine TLP_load TE (hk := ?_) | refine TLP_load_rd TE (hk := ?_) | refine TL_indexAddr1n TE (hk := ?_))); refine TL_nil_p ?_); (refine TA_take 2 rfl (by kernel_rfl) (by kernel_rfl) (by kernel_rfl) ?_; (repeat (first | refine TL_move (hk := ?_) | refine TLP_load TE (hk := ?_) | refine TLP_load_rd TE (hk := ?_) | refine TL_indexAddr1n TE (hk := ?_))); refine TL_nil_p ?_); (refine TA_take 3 rfl (by kernel_rfl) (by kernel_rfl) (by kernel_rfl) ?_; (repeat (first | refine TL_move (hk := ?_) | refine TLP_load TE (hk := ?_) | refine TLP_load_rd TE (hk := ?_) | refine TL_indexAddr1n TE (hk := ?_))); refine TL_nil_p ?_); (refine TA_take 4 rfl (by kernel_rfl) (by kernel_rfl) (by kernel_rfl) ?_; (repeat (first | refine TL_move (hk := ?_) | refine TLP_load TE (hk := ?_) | refine TLP_load_rd TE (hk := ?_) | refine TL_indexAddr1n TE (hk := ?_))); refine TL_nil_p ?_); (refine TA_take 5 rfl (by kernel_rfl) (by kernel_rfl) (by kernel_rfl) ?_; (repeat (first | refine TL_move (hk := ?_) | refine TLP_load TE (hk := ?_) | refine TLP_load_rd TE (hk := ?_) | refine TL_indexAddr1n TE (hk := ?_))); refine TL_nil_p ?_); (refine TA_take 6 rfl (by kernel_rfl) (by kernel_rfl) (by kernel_rfl) ?_; (repeat (first | refine TL_move (hk := ?_) | refine TLP_load TE (hk := ?_) | refine TLP_load_rd TE (hk := ?_) | refine TL_indexAddr1n TE (hk := ?_))); refine TL_nil_p ?_)
          refine TA_one 7 rfl (by kernel_rfl) (by kernel_rfl) ?_
          refine TL_buildSlice TE (hf := rfl) (hq := fun w' h => h.un) (hk := ?_); intro b16 w16 e16 h16 h16' k16
          replace k16 : Blk w16 b16 3 (nv [j]) := k16
          have o16 := o15.be e16
          have r16 : Rd w16 (some ⟨b16, 0, none⟩) 1 1 (nv [j]) := Rd.blk k16 rfl
          have hone := nv_one [j]
          have z16 := e16.size
          refine TL_nil_p ?_
          refine TA_one 8 rfl (by kernel_rfl) (by kernel_rfl) ?_
          refine TL_append TE (hf := rfl) (hq := fun w' m => e16.un.trans m) (ho := o16) (hr := r16) (hk := ?_); intro O17 c17 w17 o17 m17 n17
          rw [← nv_append, ← ws] at o17
          have oO17 := (oO15.be e16).mod m17 hOO
          have rO17 := oO17.rd
          refine TL_nil_p ?_
          (refine TA_one 9 rfl (by kernel_rfl) (by kernel_rfl) ?_; (repeat (refine TL_indexAddr1n TE (hk := ?_))); refine TL_nil_p ?_)
          refine TA_one 10 rfl (by kernel_rfl) (by kernel_rfl) ?_
          refine TL_store_own TE (ho := oO17) (hf := rfl) (hq := fun _ _ _ => trivial) (hk := ?_); intro w18 m18 z18 oO18
          refine TL_nil_z (by kernel_rfl) ?_
          rw [show (iv (os.set i (Oa, on, oc))).set i (Value.slice O17 (on + 1) c17) = iv (os.set i (O17, on + 1, c17)) by rw [show (iv (os.set i (Oa, on, oc))).set i (Value.slice O17 (on + 1) c17) = iv ((os.set i (Oa, on, oc)).set i (O17, on + 1, c17)) from iv_set _ i (_, _, _), List.set_set]] at oO18
          replace m18 : Eng.Mod [bO] w17 w18 := m18
          have o18 := o17.mod m18 (Off.hi o17.hi (by omega))
          have M1 : Eng.Mod [bO] w10 w17 := Mod.step (m11.ext ((e114.ext e15).ext e16)) m17 (fun y hy => .inr (by
            cases Oa with
            | none => cases hy
            | some ad => have := hiO ad rfl; simp [blkL] at hy; omega))
          repeat (first | refine T_region ?_ | refine T_inBlock ?_ | refine TL_add (hk := ?_) | refine TL_nil ?_ | refine TL_move (hk := ?_))
          exact ihp (p + 1, O17, on + 1, c17) w18 _ (by simp only; omega) ⟨by simp only; omega, M1.trans m18, oO18, o18⟩ (.c rfl (.c rfl (.c rfl (.c rfl (.c rfl (.c rfl (.c rfl (.c rfl (.c rfl (.c rfl (.n)))))))))))
      · have : np = p := by omega
        subst this
        clear ihp
        rw [wend] at o11
        have M11 := M10.step m11 (by simp)
        have oOf := o11
        repeat (first | refine T_seq ?_ | refine T_region ?_ | refine T_cond_false rfl ?_ | refine T_inBlock ?_ | refine T_exit rfl ?_ | refine TL_add (hk := ?_) | refine TL_lt_f (hk := ?_) | refine TL_nil ?_ | refine TL_move (hk := ?_))
        refine ih (i + 1, xs.set i (some ⟨bR, 0, none⟩, i, i), os.set i (Oa, on, oc)) w11 _ (by simp only; omega) ⟨by simp only; omega, M11, oA11, oO11, by simp [hxl], by simp [hol], ?_, ?_, ?_⟩ (.c rfl (.c rfl (.c rfl (.c rfl (.c rfl (.n))))))
        · intro k hk
          simp only at hk ⊢
          by_cases q : k = i
          · subst q
            rw [gset_eq _ _ _ (by omega)]
            exact oR.mod m11 (off_ne (by omega))
          · obtain ⟨Xa, Xc, a1, a2, a3⟩ := loX k (by omega)
            rw [gset_ne _ _ _ _ q, show xs.getD k (none, 0, 0) = _ from a3]
            exact a2.mod m11 (Off.hi a2.hi (by omega))
        · intro k hk
          simp only at hk ⊢
          by_cases q : k = i
          · subst q
            rw [gset_eq _ _ _ (by omega)]
            exact o11.weaken (by omega)
          · rw [gset_ne _ _ _ _ q]
            have := how10 k (by omega)
            exact this.mod m11 (Off.hi this.hi (by omega))
        · intro k hk
          simp only at hk ⊢
          rw [gset_ne _ _ _ _ (by omega)]
          exact hnil2 k (by omega)
  · have : i = n := by omega
    subst this
    clear ih
    repeat (first | refine T_seq ?_ | refine T_region ?_ | refine T_cond_false rfl ?_ | refine T_exit rfl ?_ | refine TL_lt_f (hk := ?_) | refine TL_nil ?_ | refine TL_move (hk := ?_) | refine TL_assign (hk := ?_))
    exact T_ret1 rfl rfl ⟨_, _, os, rfl, e05, oO, hol, fun k hk => (how k (by omega)).weaken (by omega)⟩
end Go.Proofs.Ytfplmpfdhiagaaa

namespace Go.Proofs.Ytfplmpfdhiagaaa
open Go.RowKit Go.Proofs.Eng Go.Proofs.Foot
set_option linter.unusedSimpArgs false
set_option linter.unusedVariables false set_option maxRecDepth 10000
attribute [local irreducible] T TL LV TH TA
end Go.Proofs.Ytfplmpfdhiagaaa

/- The law of rounds: by those for whom each waits at once one comes to all for whom it has to wait; the levels. -/
namespace Go.Proofs.Foot
open Go.Proofs.Eng
set_option linter.unusedSimpArgs false
set_option linter.unusedVariables false
theorem rc_trans (ts : List FT) : ∀ (a b c : Nat), rc ts a b = true → rc ts b c = true → rc ts a c = true := by
  intro a
  induction a using Nat.strongRecOn with
  | ind a ih =>
    intro b c h1 h2
    obtain ⟨k, hk, hc, h⟩ := (rc_iff ts a b).1 h1
    have hcb := rc_lt h2
    rcases h with rfl | ⟨hb, h⟩
    · exact (rc_iff ts a c).2 ⟨k, hk, hc, .inr ⟨hcb, h2⟩⟩
    · exact (rc_iff ts a c).2 ⟨k, hk, hc, .inr ⟨by omega, ih k hk b c h h2⟩⟩
def oneT (ts : List FT) (W : List Nat) (x : Nat) : Bool := W.any fun k => k == x || (decide (x < k) && rc ts k x)
theorem oneT_succ (ts : List FT) (W : List Nat) (a x : Nat) (h : a < W.length) : oneT ts (W.take (a + 1)) x = (oneT ts (W.take a) x || (W.getD a 0 == x || (decide (x < W.getD a 0) && rc ts (W.getD a 0) x))) := by
  unfold oneT
  rw [take_snoc _ _ h, List.any_append]
  simp only [List.any_cons, List.any_nil, Bool.or_false]
theorem wait_mem {ts : List FT} {i j : Nat} : j ∈ waitsT ts i ↔ j ∈ aheadT ts i ∧ ¬ ∃ k, k ∈ aheadT ts i ∧ j < k ∧ rc ts k j = true := by
  unfold waitsT
  rw [List.mem_filter]
  simp only [Bool.not_eq_true', List.any_eq_false, Bool.and_eq_true, decide_eq_true_eq]
  constructor
  · rintro ⟨h1, h2⟩
    exact ⟨h1, fun ⟨k, a, b, c⟩ => h2 k a ⟨b, c⟩⟩
  · rintro ⟨h1, h2⟩
    exact ⟨h1, fun k a ⟨b, c⟩ => h2 ⟨k, a, b, c⟩⟩
theorem one_of_ahead (ts : List FT) (i x : Nat) : ∀ (d k : Nat), i - k = d → k ∈ aheadT ts i → (k = x ∨ (x < k ∧ rc ts k x = true)) → oneT ts (waitsT ts i) x = true := by
  intro d
  induction d using Nat.strongRecOn with
  | ind d ih =>
    intro k hd hk h
    by_cases hw : k ∈ waitsT ts i
    · unfold oneT
      rw [List.any_eq_true]
      refine ⟨k, hw, ?_⟩
      simpa using h
    · have : ∃ k', k' ∈ aheadT ts i ∧ k < k' ∧ rc ts k' k = true := by
        by_cases q : ∃ k', k' ∈ aheadT ts i ∧ k < k' ∧ rc ts k' k = true
        · exact q
        · exact absurd (wait_mem.2 ⟨hk, q⟩) hw
      obtain ⟨k', h1, h2, h3⟩ := this
      have hk' := (ahead_mem.1 h1).1
      refine ih (i - k') (by omega) k' rfl h1 (.inr ?_)
      rcases h with rfl | ⟨h4, h5⟩
      · exact ⟨h2, h3⟩
      · exact ⟨by omega, rc_trans ts k' k x h3 h5⟩
theorem waits_all (ts : List FT) (i x : Nat) : oneT ts (waitsT ts i) x = rc ts i x := by
  rw [Bool.eq_iff_iff]
  constructor
  · intro h
    unfold oneT at h
    rw [List.any_eq_true] at h
    obtain ⟨k, h1, h2⟩ := h
    have ha := ahead_mem.1 (wait_mem.1 h1).1
    refine (rc_iff ts i x).2 ⟨k, ha.1, ha.2, ?_⟩
    simpa using h2
  · intro h
    obtain ⟨k, h1, h2, h3⟩ := (rc_iff ts i x).1 h
    exact one_of_ahead ts i x _ k rfl (ahead_mem.2 ⟨h1, h2⟩) h3
theorem ahead_rc {ts : List FT} {i k : Nat} (hk : k < i) (h : clA ts k i = true) : rc ts i k = true := (rc_iff ts i k).2 ⟨k, hk, h, .inl rfl⟩
theorem lvN_get (ts : List FT) : ∀ (n k i : Nat), k < i → i ≤ n → (lvN ts n).getD k 0 = (lvN ts i).getD k 0
  | 0, k, i, h1, h2 => absurd h1 (by omega)
  | n + 1, k, i, h1, h2 => by
    by_cases e : i = n + 1
    · rw [e]
    · rw [← lvN_get ts n k i h1 (by omega)]
      show (lvN ts n ++ [lvOf ts (lvN ts n) n]).getD k 0 = _
      rw [List.getD_eq_getElem?_getD, List.getD_eq_getElem?_getD, List.getElem?_append_left (by rw [lvN_len]; omega)]
theorem fold_congr {o1 o2 : List Nat} : ∀ (l : List Nat) (m : Nat), (∀ k ∈ l, o1.getD k 0 = o2.getD k 0) → l.foldl (lvS o1) m = l.foldl (lvS o2) m
  | [], m, _ => rfl
  | k :: l, m, h => by
    have e : lvS o1 m k = lvS o2 m k := by unfold lvS; rw [h k (by simp)]
    rw [List.foldl_cons, List.foldl_cons, e]
    exact fold_congr l _ fun x hx => h x (by simp [hx])
theorem lvN_at (ts : List FT) (n i : Nat) (h : i < n) : (lvN ts n).getD i 0 = (aheadT ts i).foldl (lvS (lvN ts n)) 0 := by
  rw [lvN_get ts n i (i + 1) (by omega) (by omega)]
  have e : (lvN ts (i + 1)).getD i 0 = lvOf ts (lvN ts i) i := by
    show (lvN ts i ++ [lvOf ts (lvN ts i) i]).getD i 0 = _
    rw [List.getD_eq_getElem?_getD, List.getElem?_append_right (by rw [lvN_len]; omega), lvN_len]
    simp
  rw [e]
  unfold lvOf
  refine fold_congr _ _ fun k hk => ?_
  have := aheadU_lt hk
  rw [lvN_get ts n k i this (by omega)]
theorem lvS_ge (out : List Nat) (m k : Nat) : m ≤ lvS out m k ∧ out.getD k 0 + 1 ≤ lvS out m k := by
  unfold lvS
  split <;> omega
theorem fold_mono (out : List Nat) : ∀ (l : List Nat) (m : Nat), m ≤ l.foldl (lvS out) m
  | [], m => Nat.le_refl _
  | k :: l, m => Nat.le_trans (lvS_ge out m k).1 (fold_mono out l _)
theorem fold_ge (out : List Nat) : ∀ (l : List Nat) (m k : Nat), k ∈ l → out.getD k 0 + 1 ≤ l.foldl (lvS out) m
  | [], m, k, h => by cases h
  | x :: l, m, k, h => by
    rw [List.foldl_cons]
    rcases List.mem_cons.1 h with rfl | h
    · exact Nat.le_trans (lvS_ge out m k).2 (fold_mono out l _)
    · exact fold_ge out l _ k h
theorem lv_lt {ts : List FT} {n i k : Nat} (h : i < n) (hk : k < i) (hc : clA ts k i = true) : (lvN ts n).getD k 0 < (lvN ts n).getD i 0 := by
  rw [lvN_at ts n i h]
  exact fold_ge _ _ _ k (ahead_mem.2 ⟨hk, hc⟩)
def topN (ts : List FT) (d : List Nat) (i k : Nat) : Nat := (aheadU ts i k).foldl (lvS d) 0
theorem topN_succ (ts : List FT) (d : List Nat) (i k : Nat) : topN ts d i (k + 1) = if clA ts k i = true then lvS d (topN ts d i k) k else topN ts d i k := by
  unfold topN
  rw [aheadU_succ]
  by_cases h : clA ts k i = true
  · rw [if_pos h, if_pos h, List.foldl_append]; rfl
  · rw [if_neg h, if_neg h, List.append_nil]
theorem topN_le (ts : List FT) (n i k : Nat) : topN ts (lvN ts n) i k ≤ n + 1 := fold_le (lvN_le ts n) _ _ (Nat.zero_le _)
end Go.Proofs.Foot

/- In a region walked move by move: a whole out of a row. -/
namespace Go.Proofs.Eng
open Go.RowKit
set_option linter.unusedSimpArgs false
set_option linter.unusedVariables false
section
variable {P : Program} {fn : Func} {R : Ending → World → Prop} {M : Md} {n : Nat} {st : Slots} {k : List Item} {w w0 : World} {ops rest : List Oper} {D : List Nat}
  {d : Nat} {ty : TypeId} {ps : String} {af : Array Edge} {X : Operand} {t : TypeId} {m s j by_ : Nat} {z : Value} {A : Option Addr} {zz : Option Nat} {bb : Array Bool} {pp : Nat} {fr : Bool} {fuel : Nat}
theorem TLP_loada {xs cs : List Value} {fl : List (Nat × TypeId)} (E : Env P) (hx : ev st X = some (.pointer (some (adr A j))) := by exact rfl) (ht : E.fld t = some fl := by exact rfl) (hr : Rd w0 A m s xs) (hc : (xs.drop j).take cs.length = cs) (hi : E.inf t = some (cs.length, by_, z) := by exact rfl) (h0 : 0 < cs.length := by exact Nat.succ_pos _) (hD : Off A D := by first | assumption | exact Off.nil _) (hd : Nat.blt d n = true := by exact rfl)
    (hk : TL (.pick w0 D zz bb pp fr fuel) P fn R M n ((d, .agg cs.toArray) :: st) ops rest k w) : TL (.pick w0 D zz bb pp fr fuel) P fn R M n st ops (⟨some d, .load t X, ty, ps, af, none⟩ :: rest) k w :=
  TL_val hd (fun w' hw ρ h => by
    have h1 := load_cells (P := P) (hr.mod hw hD) hc h0
    simp [execOp, Instr.loadAt, h _ _ hx, Instr.sureAddr, loadVar, run_isAgg_fld E ht, run_sizeOf' (E.inf_ok _ _ _ _ hi), h1]) hk
end
end Go.Proofs.Eng

namespace Go.Proofs.Ytfplmpfdhiagaaa
open Go.RowKit Go.Proofs.Eng Go.Proofs.Foot
set_option linter.unusedSimpArgs false
set_option linter.unusedVariables false set_option maxRecDepth 10000
attribute [local irreducible] T TL LV TH TA
theorem fin_own {w : World} {base : Nat} {GA GB : Option Addr} {gc gd : Nat} {t : FT} (h1 : Own w base 9 1 GA (t.1.length + 1) gc (sv (t.1 ++ [behind]))) (h2 : Own w base 9 1 GB (t.2.length + 1) gd (sv (t.2 ++ [behind]))) (b1 : t.1.length ≤ 50000) (b2 : t.2.length ≤ 50000) : FIn w ⟨GA, t.1.length, gc, GB, t.2.length, gd, t⟩ :=
  ⟨take_behind h1.rd rfl, take_behind h2.rd rfl, b1, b2⟩
theorem FootRounds_c (v0 : Value) (w : World) {base : Nat} (hM : 1048576 ≤ 1048576) (hv : ReadsB Try.prog w base 61 v0 1048576) :
    Ret Try.prog 10 [v0] w (fun v w' => v = .bool true ∧ Ext w w') := by
  obtain ⟨A, n, c, l, rfl, hR, hnc, hcm, hl⟩ := feets_in hv
  unfold maxLen at hcm
  clear hv hM
  refine ret_T (n := 159) Try.func10 rfl rfl ?_
  repeat (first | refine T_seq ?_ | refine T_region ?_ | refine TL_nil ?_ | refine TL_move (hk := ?_) | refine TL_assign (hk := ?_))
  refine TL_call TE (hc := many_c A n c l _ hR (by omega) (fun x hx => ⟨by have := (hl x hx).2.2; omega, by have := (hl x hx).2.2; omega⟩)) (hk := ?_)
  rintro _ w1 ⟨rfl | ⟨rfl, h40, h15⟩, e1⟩
  · repeat (first | refine T_seq ?_ | refine T_region ?_ | refine T_cond_true rfl ?_ | refine TL_nil ?_)
    refine TL_call TE (hc := live_c3 _) (hk := ?_)
    rintro _ w2 ⟨rfl, e2⟩
    repeat (first | refine TL_nil ?_ | refine TL_assign (hk := ?_))
    exact T_ret1 rfl rfl ⟨rfl, e1.ext e2⟩
  · have hf : Feet w A n l := ⟨hR, fun x hx => ⟨(hl x hx).1, (hl x hx).2.1, by have := h15 x hx; omega, by have := h15 x hx; omega⟩⟩
    clear hl h15 hR
    repeat (first | refine T_seq ?_ | refine T_region ?_ | refine T_cond_false rfl ?_ | refine T_skip ?_ | refine TL_nil ?_ | refine TL_move (hk := ?_))
    refine TL_call TE (hc := feet_c A n c l _ (hf.be e1) (by omega)) (hk := ?_)
    rintro _ w2 ⟨P, cp, gl, rfl, e2, oP, hgl, hgv, hgb⟩
    have hfg : Feet w2 P n gl := ⟨oP.rd, fun x hx => (hgv x hx).fin (hgb x hx).1 (hgb x hx).2⟩
    have ccap := oP.cap.1
    --
    refine TL_call TE (hc := Levels_c P n cp gl _ hfg (by omega) (by omega)) (hk := ?_)
    rintro _ w3 ⟨L, ln, lc, rfl, e3, oL⟩
    rw [hgl] at oL
    have hln := oL.len
    rw [nv_length, lvN_len, Nat.mul_one] at hln
    subst hln
    clear hfg oP hgl hgv hgb ccap
    repeat (first | refine T_seq ?_ | refine T_region ?_ | refine TL_nil ?_ | refine TL_move (hk := ?_) | refine TL_assign (hk := ?_))
    refine TL_call TE (hc := feet_c A n c l _ (hf.be ((e1.ext e2).ext e3)) (by omega)) (hk := ?_)
    rintro _ w4 ⟨P2, cp2, gl, rfl, e4, oP, hgl, hgv, hgb⟩
    have hfg : Feet w4 P2 n gl := ⟨oP.rd, fun x hx => (hgv x hx).fin (hgb x hx).1 (hgb x hx).2⟩
    have ccap := oP.cap.1
    --
    refine TL_call TE (hc := Waits_c P2 n cp2 gl _ hfg (by omega) (by omega)) (hk := ?_)
    rintro _ w6 ⟨Q, cq, ws, rfl, e5, oQ, hwl, hrow⟩
    rw [hgl] at hrow
    clear hfg oP hgl hgv hgb ccap
    have e06 := (((e1.ext e2).ext e3).ext e4).ext e5
    have f6 := hf.be e06
    have oL5 := (oL.be e4).be e5
    have rL6 := oL5.rd
    have rQ6 := oQ.rd
    have hW6 : ∀ k, k < n → Rd w6 (ws.getD k s0).1 (ws.getD k s0).2.1 1 (nv (waitsT (fts l) k)) := fun k hk => (hrow k (by omega)).rd
    clear hf e1 e2 e3 e4 e5 oL oL5 oQ hrow
    repeat (first | refine T_seq ?_ | refine T_region ?_ | refine T_cond_false rfl ?_ | refine T_block ?_ | refine T_skip ?_ | refine TL_ne_f (hk := ?_) | refine TL_nil ?_ | refine TL_move (hk := ?_) | refine TL_assign (hk := ?_) | refine TL_len TE (hk := ?_) | refine TL_yes (hk := ?_) | refine TL_pick_f (hk := ?_))
    refine T_loop (ι := Nat × (Option Addr × Nat) × List (Option Addr × Nat)) (fun i => [(6, .int .i64 (i.1 : Int)), (5, .slice i.2.1.1 i.1 i.2.1.2), (4, .slice Q n cq), (3, .slice L n lc), (0, .slice A n c)])
      (fun i w' => i.1 ≤ n ∧ Ext w6 w' ∧ Own w' w6.heap.size 69 1 i.2.1.1 i.1 i.2.1.2 (rvs n i.2.2) ∧ i.2.2.length = i.1 ∧ RowsB w' w6.heap.size n (rc (fts l)) i.2.2 ∧ ∀ k, k < i.1 → Off (i.2.2.getD k (none, 0)).1 (blkL i.2.1.1)) (fun i => n - i.1) (0, (none, 0), []) (.c rfl (.c rfl (.c rfl (.c rfl (.c rfl (.n)))))) ⟨Nat.zero_le _, Mod.refl _ _, Own.nil _ _ _ _, rfl, fun k h => absurd h (by simp), fun k h => absurd h (by simp)⟩ ?_
    rintro ⟨i, ⟨O, oc⟩, xs⟩ w7 ⟨hi, e7, o7, hxl, hrow, hoff⟩ ih
    simp only at hi e7 o7 hxl hrow hoff ih ⊢
    have z7 := e7.size
    have loO := o7.lo
    by_cases hlt : i < n
    · repeat (first | refine T_seq ?_ | refine T_region ?_ | refine T_cond_true rfl ?_ | refine T_block ?_ | refine T_skip ?_ | refine TL_lt_t (hk := ?_) | refine TL_nil ?_ | refine TL_move (hk := ?_) | refine TL_len TE (hk := ?_))
      refine TL_makeSlice TE (m := n) (hk := ?_)
      intro bR w8 e8 h8 h8' k8
      rw [bl_false] at k8
      have oR8 : Own w8 w7.heap.size 4 1 (some ⟨bR, 0, none⟩) n n (bl n (fun _ => false)) := Own.of_blk k8 h8 (by simp) (by unfold maxLen; omega)
      have o8 := o7.be e8
      have z8 := e8.size
      have hX := iv_get ws i (by omega)
      have rX6 := hW6 i hlt
      obtain ⟨⟨Xa, Xn, Xc⟩, hX0⟩ : ∃ X : SV3, ws.getD i (none, 0, 0) = X := ⟨_, rfl⟩
      rw [hX0] at hX
      rw [show ws.getD i s0 = (Xa, Xn, Xc) from hX0] at rX6
      simp only at hX rX6
      have lX : (waitsT (fts l) i).length = Xn := by have := rX6.1; rw [nv_length, Nat.mul_one] at this; exact this
      have lW : (waitsT (fts l) i).length ≤ i := waitsU_len (fts l) i i
      have hwm : ∀ j ∈ waitsT (fts l) i, j < i ∧ clA (fts l) j i = true := fun j hj => ahead_mem.1 (wait_mem.1 hj).1
      have osucc := fun a x => oneT_succ (fts l) (waitsT (fts l) i) a x
      have oall := fun x => waits_all (fts l) i x
      obtain ⟨W, hW⟩ : ∃ W, waitsT (fts l) i = W := ⟨_, rfl⟩
      rw [hW] at lX lW rX6 hwm
      simp only [hW] at osucc oall
      have offR : ∀ (B : Option Addr) (h : Lo B w6.heap.size), Off B [bR] := fun B h => Off.lo h (by omega)
      have hOb : Off O [bR] := Off.lo loO (by omega)
      have hXb : ∀ k, k < xs.length → Off (xs.getD k (none, 0)).1 [bR] := fun k h => Off.lo (hrow k h).lo (by omega)
      have e68 := e7.ext e8
      clear k8 o7
      repeat (first | refine T_seq ?_ | refine T_region ?_ | refine T_block ?_ | refine TL_nil ?_ | refine TL_assign (hk := ?_))
      refine T_loop (ι := Nat) (fun a => [(9, .int .i64 (a : Int)), (8, .int .i64 (-1)), (7, .slice (some ⟨bR, 0, none⟩) n n), (6, .int .i64 (i : Int)), (5, .slice O i oc), (4, .slice Q n cq), (3, .slice L n lc), (0, .slice A n c)])
        (fun a w' => a ≤ Xn ∧ Eng.Mod [bR] w8 w' ∧ Own w' w7.heap.size 4 1 (some ⟨bR, 0, none⟩) n n (bl n (oneT (fts l) (W.take a)))) (fun a => Xn - a) 0 (.c rfl (.c rfl (.c rfl (.c rfl (.c rfl (.c rfl (.c rfl (.c rfl (.n))))))))) ⟨Nat.zero_le _, Mod.refl _ _, by rw [bl_congr (g := fun _ => false) (fun j _ => by rw [List.take_zero]; rfl)]; exact oR8⟩ ?_
      rintro a w9 ⟨ha, m9, oR9⟩ iha
      clear oR8
      have z9 := m9.size
      have e69 : Ext w6 w9 := Mod.step e68 m9 (by simp; omega)
      have f9 := f6.be e69
      have rL9 := rL6.be e69
      have rQ9 := rQ6.be e69
      have rX9 := rX6.be e69
      have oO9 := o8.mod m9 hOb
      by_cases hap : a < Xn
      · have hv := nv_get W a (by omega)
        have hjm := hwm (W.getD a 0) (by rw [List.getD_eq_getElem?_getD, List.getElem?_eq_getElem (by omega)]; exact List.getElem_mem _)
        have os := fun x => osucc a x (by omega)
        obtain ⟨j, hj⟩ : ∃ j, W.getD a 0 = j := ⟨_, rfl⟩
        simp only [hj] at os
        rw [hj] at hv hjm
        obtain ⟨hji, hcl⟩ := hjm
        have t1 := fvs_two l j (by rw [f6.len]; omega)
        have t2 := fvs_two l i (by rw [f6.len]; omega)
        have g1 := f9.get j (by omega)
        have g2 := f9.get i hlt
        unfold clA at hcl
        rw [fts_get, fts_get] at hcl
        generalize l.getD j fv0 = x at t1 g1 hcl
        generalize l.getD i fv0 = y at t2 g2 hcl
        obtain ⟨xA, xn, xc, xB, xm, xd, xt⟩ := x
        obtain ⟨yA, yn, yc, yB, ym, yd, yt⟩ := y
        obtain ⟨g1a, g1b, g1c, g1d⟩ := g1
        obtain ⟨g2a, g2b, g2c, g2d⟩ := g2
        simp only at t1 t2 g1a g1b g1c g1d g2a g2b g2c g2d hcl
        have lx1 : xt.1.length ≤ 50000 := by have := g1a.1; simp at this; omega
        have lx2 : xt.2.length ≤ 50000 := by have := g1b.1; simp at this; omega
        have ly1 : yt.1.length ≤ 50000 := by have := g2a.1; simp at this; omega
        have ly2 : yt.2.length ≤ 50000 := by have := g2b.1; simp at this; omega
        repeat (first | refine T_seq ?_ | refine T_region ?_ | refine T_cond_true rfl ?_ | refine T_block ?_ | refine T_skip ?_ | refine TL_lt_t (hk := ?_) | refine TL_nil ?_ | refine TL_move (hk := ?_) | refine TL_assign (hk := ?_) | refine TL_load_rd TE (hk := ?_) | refine TL_indexAddr1n TE (hk := ?_) | refine TL_len TE (hk := ?_))
        refine T_region_any TE.mixed [] ?_; intro w10 e10 z10
        have r10 := (f9.be e10).rd
        (refine TA_take 0 rfl (by kernel_rfl) (by kernel_rfl) (by kernel_rfl) ?_; (repeat (first | refine TL_lt_f (hk := ?_) | refine TL_ge_f (hk := ?_) | refine TL_move (hk := ?_) | refine TL_indexAddrn TE (hk := ?_) | refine TL_yes (hk := ?_) | refine TL_pick_f (hk := ?_))); refine TL_nil_p ?_); (refine TA_take 1 rfl (by kernel_rfl) (by kernel_rfl) (by kernel_rfl) ?_; (repeat (first | refine TL_lt_f (hk := ?_) | refine TL_ge_f (hk := ?_) | refine TL_move (hk := ?_) | refine TL_indexAddrn TE (hk := ?_) | refine TL_yes (hk := ?_) | refine TL_pick_f (hk := ?_))); refine TL_nil_p ?_); (refine TA_take 2 rfl (by kernel_rfl) (by kernel_rfl) (by kernel_rfl) ?_; (repeat (first | refine TL_lt_f (hk := ?_) | refine TL_ge_f (hk := ?_) | refine TL_move (hk := ?_) | refine TL_indexAddrn TE (hk := ?_) | refine TL_yes (hk := ?_) | refine TL_pick_f (hk := ?_))); refine TL_nil_p ?_); (refine TA_take 3 rfl (by kernel_rfl) (by kernel_rfl) (by kernel_rfl) ?_; (repeat (first | refine TL_lt_f (hk := ?_) | refine TL_ge_f (hk := ?_) | refine TL_move (hk := ?_) | refine TL_indexAddrn TE (hk := ?_) | refine TL_yes (hk := ?_) | refine TL_pick_f (hk := ?_))); refine TL_nil_p ?_); (refine TA_take 4 rfl (by kernel_rfl) (by kernel_rfl) (by kernel_rfl) ?_; (repeat (first | refine TL_lt_f (hk := ?_) | refine TL_ge_f (hk := ?_) | refine TL_move (hk := ?_) | refine TL_indexAddrn TE (hk := ?_) | refine TL_yes (hk := ?_) | refine TL_pick_f (hk := ?_))); refine TL_nil_p ?_); (refine TA_take 5 rfl (by kernel_rfl) (by kernel_rfl) (by kernel_rfl) ?_; (repeat (first | refine TL_lt_f (hk := ?_) | refine TL_ge_f (hk := ?_) | refine TL_move (hk := ?_) | refine TL_indexAddrn TE (hk := ?_) | refine TL_yes (hk := ?_) | refine TL_pick_f (hk := ?_))); refine TL_nil_p ?_); (refine TA_take 6 rfl (by kernel_rfl) (by kernel_rfl) (by kernel_rfl) ?_; (repeat (first | refine TL_lt_f (hk := ?_) | refine TL_ge_f (hk := ?_) | refine TL_move (hk := ?_) | refine TL_indexAddrn TE (hk := ?_) | refine TL_yes (hk := ?_) | refine TL_pick_f (hk := ?_))); refine TL_nil_p ?_); (refine TA_take 7 rfl (by kernel_rfl) (by kernel_rfl) (by kernel_rfl) ?_; (repeat (first | refine TL_lt_f (hk := ?_) | refine TL_ge_f (hk := ?_) | refine TL_move (hk := ?_) | refine TL_indexAddrn TE (hk := ?_) | refine TL_yes (hk := ?_) | refine TL_pick_f (hk := ?_))); refine TL_nil_p ?_); (refine TA_take 8 rfl (by kernel_rfl) (by kernel_rfl) (by kernel_rfl) ?_; (repeat (first | refine TL_lt_f (hk := ?_) | refine TL_ge_f (hk := ?_) | refine TL_move (hk := ?_) | refine TL_indexAddrn TE (hk := ?_) | refine TL_yes (hk := ?_) | refine TL_pick_f (hk := ?_))); refine TL_nil_p ?_); (refine TA_take 9 rfl (by kernel_rfl) (by kernel_rfl) (by kernel_rfl) ?_; (repeat (first | refine TL_lt_f (hk := ?_) | refine TL_ge_f (hk := ?_) | refine TL_move (hk := ?_) | refine TL_indexAddrn TE (hk := ?_) | refine TL_yes (hk := ?_) | refine TL_pick_f (hk := ?_))); refine TL_nil_p ?_); (refine TA_take 10 rfl (by kernel_rfl) (by kernel_rfl) (by kernel_rfl) ?_; (repeat (first | refine TL_lt_f (hk := ?_) | refine TL_ge_f (hk := ?_) | refine TL_move (hk := ?_) | refine TL_indexAddrn TE (hk := ?_) | refine TL_yes (hk := ?_) | refine TL_pick_f (hk := ?_))); refine TL_nil_p ?_)
        refine TA_take 11 rfl (by kernel_rfl) (by kernel_rfl) (by kernel_rfl) ?_
        refine TL_yes (hk := ?_)
        refine TLP_loada TE (cs := [.slice xA xn xc, .slice xB xm xd]) (hr := r10) (hc := t1) (hk := ?_)
        refine TL_nil_p ?_
        (refine TA_take 13 rfl (by kernel_rfl) (by kernel_rfl) (by kernel_rfl) ?_; (repeat (first | refine TL_move (hk := ?_) | refine TL_indexAddrn TE (hk := ?_) | refine TL_yes (hk := ?_))); refine TL_nil_p ?_); (refine TA_take 14 rfl (by kernel_rfl) (by kernel_rfl) (by kernel_rfl) ?_; (repeat (first | refine TL_move (hk := ?_) | refine TL_indexAddrn TE (hk := ?_) | refine TL_yes (hk := ?_))); refine TL_nil_p ?_); (refine TA_take 15 rfl (by kernel_rfl) (by kernel_rfl) (by kernel_rfl) ?_; (repeat (first | refine TL_move (hk := ?_) | refine TL_indexAddrn TE (hk := ?_) | refine TL_yes (hk := ?_))); refine TL_nil_p ?_)
        refine TA_take 16 rfl (by kernel_rfl) (by kernel_rfl) (by kernel_rfl) ?_
        refine TL_yes (hk := ?_)
        refine TLP_loada TE (cs := [.slice yA yn yc, .slice yB ym yd]) (hr := r10) (hc := t2) (hk := ?_)
        refine TL_nil_p ?_
        refine TA_one 12 rfl (by kernel_rfl) (by kernel_rfl) ?_; (try refine TL_yes (hk := ?_)); refine TL_call TE (hc := own_c3 xA xB xn xc xm xd xt.1 xt.2 _ (g1a.be e10) (g1b.be e10) g1c g1d) (hq := fun v w' h => h.2) (hk := ?_)
        rintro _ w11 ⟨⟨GA, gc, GB, gd, rfl, oGA, oGB⟩, e11⟩
        refine TL_nil_p ?_
        refine TA_one 17 rfl (by kernel_rfl) (by kernel_rfl) ?_; (try refine TL_yes (hk := ?_)); refine TL_call TE (hc := own_c3 yA yB yn yc ym yd yt.1 yt.2 _ ((g2a.be e10).be e11) ((g2b.be e10).be e11) g2c g2d) (hq := fun v w' h => e11.ext h.2) (hk := ?_)
        rintro _ w12 ⟨⟨HA, hc, HB, hd, rfl, oHA, oHB⟩, e12⟩
        refine TL_nil_p ?_
        refine TA_one 18 rfl (by kernel_rfl) (by kernel_rfl) ?_; (try refine TL_yes (hk := ?_)); refine TL_call TE (hc := clash_f (x := ⟨GA, xt.1.length, gc, GB, xt.2.length, gd, xt⟩) (y := ⟨HA, yt.1.length, hc, HB, yt.2.length, hd, yt⟩) (fin_own (oGA.be e12) (oGB.be e12) lx1 lx2) (fin_own oHA oHB ly1 ly2)) (hq := fun v w' h => (e11.ext e12).ext h.2) (hk := ?_)
        rintro _ w13 ⟨rfl, e13⟩
        refine TL_nil_p ?_
        rw [show clP xt yt = true from hcl]
        (refine TA_take 19 rfl (by kernel_rfl) (by kernel_rfl) (by kernel_rfl) ?_; (repeat (first | refine TL_yes (hk := ?_) | refine TL_pick_f (hk := ?_) | refine TL_not (hk := ?_))); refine TL_nil_p ?_); (refine TA_take 20 rfl (by kernel_rfl) (by kernel_rfl) (by kernel_rfl) ?_; (repeat (first | refine TL_yes (hk := ?_) | refine TL_pick_f (hk := ?_) | refine TL_not (hk := ?_))); refine TL_nil_p ?_)
        refine TA_done (by kernel_rfl) ?_
        have e913 := ((e10.ext e11).ext e12).ext e13
        have oR13 := oR9.be e913
        have oO13 := oO9.be e913
        have z913 := e913.size
        clear g1a g1b g2a g2b oGA oGB oHA oHB r10 oR9 oO9
        repeat (first | refine T_seq ?_ | refine T_region ?_ | refine T_cond_false rfl ?_ | refine T_skip ?_ | refine TL_move (hk := ?_) | refine TL_indexAddr1n TE (hk := ?_))
        refine TL_store_own TE (hk := ?_); intro w14 m14 z14 oR14
        rw [bl_set, bl_congr (fun x _ => hA_zero (oneT (fts l) (W.take a)) (fts l) j x)] at oR14
        replace m14 : Eng.Mod [bR] w13 w14 := m14
        have m814 := (m9.ext e913).trans m14
        have oO14 := oO13.mod m14 hOb
        have rj := ((((hrow j (by omega)).be e8).mod m814 (hXb j (by omega))))
        have hxk := rvs_get n xs j (by omega)
        obtain ⟨Y, hY⟩ : ∃ X : Option Addr × Nat, xs.getD j (none, 0) = X := ⟨_, rfl⟩
        have hYb := hXb j (by omega)
        rw [hY] at hxk rj hYb
        clear oR13 oO13
        repeat (first | refine T_seq ?_ | refine T_region ?_ | refine T_block ?_ | refine TL_nil ?_ | refine TL_assign (hk := ?_))
        refine T_loop (ι := Nat) (fun p => [(11, .int .i64 (p : Int)), (10, .int .i64 (j : Int)), (9, .int .i64 (a : Int)), (8, .int .i64 (-1)), (7, .slice (some ⟨bR, 0, none⟩) n n), (6, .int .i64 (i : Int)), (5, .slice O i oc), (4, .slice Q n cq), (3, .slice L n lc), (0, .slice A n c)])
          (fun p w' => p ≤ j ∧ Eng.Mod [bR] w14 w' ∧ Own w' w7.heap.size 4 1 (some ⟨bR, 0, none⟩) n n (bl n (hA (oneT (fts l) (W.take a)) (fts l) j p))) (fun p => j - p) 0 (.c rfl (.c rfl (.c rfl (.c rfl (.c rfl (.c rfl (.c rfl (.c rfl (.c rfl (.c rfl (.n))))))))))) ⟨Nat.zero_le _, Mod.refl _ _, oR14⟩ ?_
        rintro p w15 ⟨hp, m15, o15⟩ ihp
        clear oR14
        by_cases hpj : p < j
        · have rO15 := (oO14.mod m15 hOb).rd
          have rj15 := (rj.mod m15 hYb).rd
          have r15 := o15.rd
          have hv1 := bl_get (n := n) (hA (oneT (fts l) (W.take a)) (fts l) j p) p (by omega)
          have hv2 := bl_get (n := n) (rc (fts l) j) p (by omega)
          have hst := fun x => hA_step (oneT (fts l) (W.take a)) (fts l) j p x hpj
          clear rj oO14
          by_cases hcase : hA (oneT (fts l) (W.take a)) (fts l) j p p = true ∧ rc (fts l) j p = true
          · rw [hcase.1] at hv1
            rw [hcase.2] at hv2
            have hst2 := fun x => hst x _ _ hcase.1 hcase.2
            simp only [Bool.or_true, Bool.or_false] at hst2
            repeat (first | refine T_seq ?_ | refine T_region ?_ | refine T_cond_true rfl ?_ | refine T_block ?_ | refine T_skip ?_ | refine TL_lt_t (hk := ?_) | refine TL_nil ?_ | refine TL_move (hk := ?_) | refine TL_load_rd TE (hk := ?_) | refine TL_indexAddr1n TE (hk := ?_) | refine TL_no (hk := ?_) | refine TL_pick_t (hk := ?_))
            refine TL_store_own TE (hk := ?_); intro w16 m16 z16 o16
            rw [bl_set, bl_congr (fun x _ => hst2 x)] at o16
            replace m16 : Eng.Mod [bR] w15 w16 := m16
            repeat (first | refine T_region ?_ | refine T_inBlock ?_ | refine TL_add (hk := ?_) | refine TL_nil ?_ | refine TL_move (hk := ?_) | refine TL_assign (hk := ?_))
            exact ihp (p + 1) w16 _ (by omega) ⟨by omega, m15.trans m16, o16⟩ (.c rfl (.c rfl (.c rfl (.c rfl (.c rfl (.c rfl (.c rfl (.c rfl (.c rfl (.c rfl (.n)))))))))))
          by_cases hcase : hA (oneT (fts l) (W.take a)) (fts l) j p p = false ∧ rc (fts l) j p = true
          · rw [hcase.1] at hv1
            rw [hcase.2] at hv2
            have hst2 := fun x => hst x _ _ hcase.1 hcase.2
            simp only [Bool.or_true, Bool.or_false] at hst2
            repeat (first | refine T_seq ?_ | refine T_region ?_ | refine T_cond_true rfl ?_ | refine T_block ?_ | refine T_skip ?_ | refine TL_lt_t (hk := ?_) | refine TL_nil ?_ | refine TL_move (hk := ?_) | refine TL_load_rd TE (hk := ?_) | refine TL_indexAddr1n TE (hk := ?_) | refine TL_yes (hk := ?_) | refine TL_pick_f (hk := ?_))
            refine TL_store_own TE (hk := ?_); intro w16 m16 z16 o16
            rw [bl_set, bl_congr (fun x _ => hst2 x)] at o16
            replace m16 : Eng.Mod [bR] w15 w16 := m16
            repeat (first | refine T_region ?_ | refine T_inBlock ?_ | refine TL_add (hk := ?_) | refine TL_nil ?_ | refine TL_move (hk := ?_) | refine TL_assign (hk := ?_))
            exact ihp (p + 1) w16 _ (by omega) ⟨by omega, m15.trans m16, o16⟩ (.c rfl (.c rfl (.c rfl (.c rfl (.c rfl (.c rfl (.c rfl (.c rfl (.c rfl (.c rfl (.n)))))))))))
          by_cases hcase : hA (oneT (fts l) (W.take a)) (fts l) j p p = false ∧ rc (fts l) j p = false
          · rw [hcase.1] at hv1
            rw [hcase.2] at hv2
            have hst2 := fun x => hst x _ _ hcase.1 hcase.2
            simp only [Bool.or_true, Bool.or_false] at hst2
            repeat (first | refine T_seq ?_ | refine T_region ?_ | refine T_cond_true rfl ?_ | refine T_block ?_ | refine T_skip ?_ | refine TL_lt_t (hk := ?_) | refine TL_nil ?_ | refine TL_move (hk := ?_) | refine TL_load_rd TE (hk := ?_) | refine TL_indexAddr1n TE (hk := ?_) | refine TL_yes (hk := ?_) | refine TL_pick_f (hk := ?_))
            refine TL_store_own TE (hk := ?_); intro w16 m16 z16 o16
            rw [bl_set, bl_congr (fun x _ => hst2 x)] at o16
            replace m16 : Eng.Mod [bR] w15 w16 := m16
            repeat (first | refine T_region ?_ | refine T_inBlock ?_ | refine TL_add (hk := ?_) | refine TL_nil ?_ | refine TL_move (hk := ?_) | refine TL_assign (hk := ?_))
            exact ihp (p + 1) w16 _ (by omega) ⟨by omega, m15.trans m16, o16⟩ (.c rfl (.c rfl (.c rfl (.c rfl (.c rfl (.c rfl (.c rfl (.c rfl (.c rfl (.c rfl (.n)))))))))))
          by_cases hcase : hA (oneT (fts l) (W.take a)) (fts l) j p p = true ∧ rc (fts l) j p = false
          · rw [hcase.1] at hv1
            rw [hcase.2] at hv2
            have hst2 := fun x => hst x _ _ hcase.1 hcase.2
            simp only [Bool.or_true, Bool.or_false] at hst2
            repeat (first | refine T_seq ?_ | refine T_region ?_ | refine T_cond_true rfl ?_ | refine T_block ?_ | refine T_skip ?_ | refine TL_lt_t (hk := ?_) | refine TL_nil ?_ | refine TL_move (hk := ?_) | refine TL_load_rd TE (hk := ?_) | refine TL_indexAddr1n TE (hk := ?_) | refine TL_no (hk := ?_) | refine TL_pick_t (hk := ?_))
            refine TL_store_own TE (hk := ?_); intro w16 m16 z16 o16
            rw [bl_set, bl_congr (fun x _ => hst2 x)] at o16
            replace m16 : Eng.Mod [bR] w15 w16 := m16
            repeat (first | refine T_region ?_ | refine T_inBlock ?_ | refine TL_add (hk := ?_) | refine TL_nil ?_ | refine TL_move (hk := ?_) | refine TL_assign (hk := ?_))
            exact ihp (p + 1) w16 _ (by omega) ⟨by omega, m15.trans m16, o16⟩ (.c rfl (.c rfl (.c rfl (.c rfl (.c rfl (.c rfl (.c rfl (.c rfl (.c rfl (.c rfl (.n)))))))))))
          exfalso
          rename_i q1 q2 q3
          cases hb1 : hA (oneT (fts l) (W.take a)) (fts l) j p p <;> cases hc1 : rc (fts l) j p <;> simp [hb1, hc1] at q1 q2 q3 hcase
        · have : j = p := by omega
          subst this
          clear ihp
          rw [bl_congr (fun x _ => (hA_end (oneT (fts l) (W.take a)) (fts l) j x).trans (os x).symm)] at o15
          repeat (first | refine T_seq ?_ | refine T_region ?_ | refine T_cond_false rfl ?_ | refine T_inBlock ?_ | refine T_exit rfl ?_ | refine TL_add (hk := ?_) | refine TL_lt_f (hk := ?_) | refine TL_nil ?_ | refine TL_move (hk := ?_) | refine TL_assign (hk := ?_))
          exact iha (a + 1) w15 _ (by omega) ⟨by omega, m814.trans m15, o15⟩ (.c rfl (.c rfl (.c rfl (.c rfl (.c rfl (.c rfl (.c rfl (.c rfl (.n)))))))))
      · have : Xn = a := by omega
        subst this
        clear iha
        rw [show W.take Xn = W by rw [← lX]; exact List.take_length] at oR9
        rw [bl_congr (fun x _ => oall x)] at oR9
        clear osucc oall hwm rX9
        have tsucc := fun k => topN_succ (fts l) (lvN (fts l) n) i k
        have tle := fun k => topN_le (fts l) n i k
        have hat : (lvN (fts l) n).getD i 0 = topN (fts l) (lvN (fts l) n) i i := lvN_at (fts l) n i hlt
        have hlt2 := fun k (hk : k < i) (hc : clA (fts l) k i = true) => lv_lt hlt hk hc
        have dle := lvN_le (fts l) n
        have dl := lvN_len (fts l) n
        obtain ⟨d, hd⟩ : ∃ d, lvN (fts l) n = d := ⟨_, rfl⟩
        rw [hd] at hat rL9 dl dle
        simp only [hd] at tsucc tle hlt2
        have hv2 := nv_get d i (by omega)
        obtain ⟨di, hdi⟩ : ∃ di, d.getD i 0 = di := ⟨_, rfl⟩
        rw [hdi] at hv2 hat
        simp only [hdi] at hlt2
        repeat (first | refine T_seq ?_ | refine T_region ?_ | refine T_cond_false rfl ?_ | refine T_block ?_ | refine T_exit rfl ?_ | refine TL_lt_f (hk := ?_) | refine TL_nil ?_ | refine TL_move (hk := ?_) | refine TL_assign (hk := ?_) | refine TL_load_rd TE (hk := ?_) | refine TL_indexAddr1n TE (hk := ?_) | refine TL_len TE (hk := ?_))
        refine T_loop (ι := Nat × Int) (fun k => [(12, .int .i64 (k.1 : Int)), (8, .int .i64 k.2), (7, .slice (some ⟨bR, 0, none⟩) n n), (6, .int .i64 (i : Int)), (5, .slice O i oc), (4, .slice Q n cq), (3, .slice L n lc), (0, .slice A n c)])
          (fun k w' => k.1 ≤ i ∧ Ext w9 w' ∧ k.2 = ((topN (fts l) d i k.1 : Nat) : Int) - 1) (fun k => i - k.1) (0, -1) (.c rfl (.c rfl (.c rfl (.c rfl (.c rfl (.c rfl (.c rfl (.c rfl (.n))))))))) ⟨Nat.zero_le _, Mod.refl _ _, rfl⟩ ?_
        rintro ⟨k, tp⟩ w10 ⟨hk, e10, htp⟩ ihk
        simp only at hk e10 htp ihk ⊢
        have tk := tle k
        by_cases hki : k < i
        · have f10 := f9.be e10
          have t1 := fvs_two l k (by rw [f6.len]; omega)
          have t2 := fvs_two l i (by rw [f6.len]; omega)
          have g1 := f10.get k (by omega)
          have g2 := f10.get i hlt
          have ts := tsucc k
          have hlt3 := hlt2 k hki
          have hcl : clP (l.getD k fv0).t (l.getD i fv0).t = clA (fts l) k i := by unfold clA; rw [fts_get, fts_get]
          generalize l.getD k fv0 = x at t1 g1 hcl
          generalize l.getD i fv0 = y at t2 g2 hcl
          obtain ⟨xA, xn, xc, xB, xm, xd, xt⟩ := x
          obtain ⟨yA, yn, yc, yB, ym, yd, yt⟩ := y
          obtain ⟨g1a, g1b, g1c, g1d⟩ := g1
          obtain ⟨g2a, g2b, g2c, g2d⟩ := g2
          simp only at t1 t2 g1a g1b g1c g1d g2a g2b g2c g2d hcl
          have lx1 : xt.1.length ≤ 50000 := by have := g1a.1; simp at this; omega
          have lx2 : xt.2.length ≤ 50000 := by have := g1b.1; simp at this; omega
          have ly1 : yt.1.length ≤ 50000 := by have := g2a.1; simp at this; omega
          have ly2 : yt.2.length ≤ 50000 := by have := g2b.1; simp at this; omega
          repeat (first | refine T_seq ?_ | refine T_region ?_ | refine T_cond_true rfl ?_ | refine T_block ?_ | refine T_skip ?_ | refine TL_lt_t (hk := ?_) | refine TL_nil ?_ | refine TL_move (hk := ?_))
          refine T_region_any TE.mixed [] ?_; intro w11 e11 z11
          have r11 := (f10.be e11).rd
          (refine TA_take 0 rfl (by kernel_rfl) (by kernel_rfl) (by kernel_rfl) ?_; (repeat (first | refine TL_move (hk := ?_) | refine TL_indexAddrn TE (hk := ?_))); refine TL_nil_p ?_); (refine TA_take 1 rfl (by kernel_rfl) (by kernel_rfl) (by kernel_rfl) ?_; (repeat (first | refine TL_move (hk := ?_) | refine TL_indexAddrn TE (hk := ?_))); refine TL_nil_p ?_); (refine TA_take 2 rfl (by kernel_rfl) (by kernel_rfl) (by kernel_rfl) ?_; (repeat (first | refine TL_move (hk := ?_) | refine TL_indexAddrn TE (hk := ?_))); refine TL_nil_p ?_)
          refine TA_take 3 rfl (by kernel_rfl) (by kernel_rfl) (by kernel_rfl) ?_
          refine TLP_loada TE (cs := [.slice xA xn xc, .slice xB xm xd]) (hr := r11) (hc := t1) (hk := ?_)
          refine TL_nil_p ?_
          (refine TA_take 5 rfl (by kernel_rfl) (by kernel_rfl) (by kernel_rfl) ?_; (repeat (first | refine TL_move (hk := ?_) | refine TL_indexAddrn TE (hk := ?_))); refine TL_nil_p ?_); (refine TA_take 6 rfl (by kernel_rfl) (by kernel_rfl) (by kernel_rfl) ?_; (repeat (first | refine TL_move (hk := ?_) | refine TL_indexAddrn TE (hk := ?_))); refine TL_nil_p ?_); (refine TA_take 7 rfl (by kernel_rfl) (by kernel_rfl) (by kernel_rfl) ?_; (repeat (first | refine TL_move (hk := ?_) | refine TL_indexAddrn TE (hk := ?_))); refine TL_nil_p ?_)
          refine TA_take 8 rfl (by kernel_rfl) (by kernel_rfl) (by kernel_rfl) ?_
          refine TLP_loada TE (cs := [.slice yA yn yc, .slice yB ym yd]) (hr := r11) (hc := t2) (hk := ?_)
          refine TL_nil_p ?_
          refine TA_one 4 rfl (by kernel_rfl) (by kernel_rfl) ?_; (try refine TL_yes (hk := ?_)); refine TL_call TE (hc := own_c3 xA xB xn xc xm xd xt.1 xt.2 _ (g1a.be e11) (g1b.be e11) g1c g1d) (hq := fun v w' h => h.2) (hk := ?_)
          rintro _ w12 ⟨⟨GA, gc, GB, gd, rfl, oGA, oGB⟩, e12⟩
          refine TL_nil_p ?_
          refine TA_one 9 rfl (by kernel_rfl) (by kernel_rfl) ?_; (try refine TL_yes (hk := ?_)); refine TL_call TE (hc := own_c3 yA yB yn yc ym yd yt.1 yt.2 _ ((g2a.be e11).be e12) ((g2b.be e11).be e12) g2c g2d) (hq := fun v w' h => e12.ext h.2) (hk := ?_)
          rintro _ w13 ⟨⟨HA, hc, HB, hd', rfl, oHA, oHB⟩, e13⟩
          refine TL_nil_p ?_
          refine TA_one 10 rfl (by kernel_rfl) (by kernel_rfl) ?_; (try refine TL_yes (hk := ?_)); refine TL_call TE (hc := clash_f (x := ⟨GA, xt.1.length, gc, GB, xt.2.length, gd, xt⟩) (y := ⟨HA, yt.1.length, hc, HB, yt.2.length, hd', yt⟩) (fin_own (oGA.be e13) (oGB.be e13) lx1 lx2) (fin_own oHA oHB ly1 ly2)) (hq := fun v w' h => (e12.ext e13).ext h.2) (hk := ?_)
          rintro _ w14 ⟨rfl, e14⟩
          refine TL_nil_p ?_
          rw [show clP xt yt = clA (fts l) k i from hcl]
          have e1014 := ((e11.ext e12).ext e13).ext e14
          clear g1a g1b g2a g2b oGA oGB oHA oHB r11
          by_cases hb : clA (fts l) k i = true
          · rw [if_pos hb] at ts
            rw [hb]
            (refine TA_take 11 rfl (by kernel_rfl) (by kernel_rfl) (by kernel_rfl) ?_; (repeat (refine TL_not (hk := ?_))); refine TL_nil_p ?_)
            refine TA_done (by kernel_rfl) ?_
            have h4 := hlt3 hb
            have e914 := e10.ext e1014
            have rL14 := rL9.be e914
            have rR14 := (oR9.be e914).rd
            have hv1 := nv_get d k (by omega)
            have hv3 := bl_get (n := n) (rc (fts l) i) k (by omega)
            rw [ahead_rc hki hb] at hv3
            unfold lvS at ts
            have hdk := dle k
            obtain ⟨dk, hdk0⟩ : ∃ dk, d.getD k 0 = dk := ⟨_, rfl⟩
            rw [hdk0] at hv1 h4 ts hdk
            repeat (first | refine T_seq ?_ | refine T_region_q TE.mixed (by kernel_rfl) ?_ | refine T_cond_false rfl ?_ | refine T_skip ?_ | refine TL_ge_f (hk := ?_) | refine TL_move (hk := ?_) | refine TL_load_rd TE (hk := ?_) | refine TL_indexAddr1n TE (hk := ?_) | refine TL_yes (hk := ?_) | refine TL_pick_f (hk := ?_) | refine TL_not (hk := ?_))
            refine TL_nil_q ?_; intro w15 e15
            have rL15 := rL14.be e15
            by_cases hc : topN (fts l) d i k < dk + 1
            · rw [if_pos hc] at ts
              repeat (first | refine T_seq ?_ | refine T_region ?_ | refine T_cond_true rfl ?_ | refine T_cond_false rfl ?_ | refine T_inBlock ?_ | refine T_skip ?_ | refine TL_add (hk := ?_) | refine TL_gt_t (hk := ?_) | refine TL_nil ?_ | refine TL_move (hk := ?_) | refine TL_assign (hk := ?_) | refine TL_load_rd TE (hk := ?_) | refine TL_indexAddr1n TE (hk := ?_))
              exact ihk (k + 1, (dk : Int)) w15 _ (by simp only; omega) ⟨by simp only; omega, e914.ext e15, by simp only; rw [ts]; omega⟩ (.c rfl (.c rfl (.c rfl (.c rfl (.c rfl (.c rfl (.c rfl (.c rfl (.n)))))))))
            · rw [if_neg hc] at ts
              repeat (first | refine T_seq ?_ | refine T_region ?_ | refine T_cond_false rfl ?_ | refine T_inBlock ?_ | refine T_skip ?_ | refine TL_add (hk := ?_) | refine TL_gt_f (hk := ?_) | refine TL_nil ?_ | refine TL_move (hk := ?_) | refine TL_assign (hk := ?_) | refine TL_load_rd TE (hk := ?_) | refine TL_indexAddr1n TE (hk := ?_))
              exact ihk (k + 1, tp) w15 _ (by simp only; omega) ⟨by simp only; omega, e914.ext e15, by simp only; rw [ts]; exact htp⟩ (.c rfl (.c rfl (.c rfl (.c rfl (.c rfl (.c rfl (.c rfl (.c rfl (.n)))))))))
          · rw [if_neg hb] at ts
            have hb' : clA (fts l) k i = false := by simpa using hb
            rw [hb']
            (refine TA_take 11 rfl (by kernel_rfl) (by kernel_rfl) (by kernel_rfl) ?_; (repeat (refine TL_not (hk := ?_))); refine TL_nil_p ?_)
            refine TA_done (by kernel_rfl) ?_
            repeat (first | refine T_region ?_ | refine T_cond_true rfl ?_ | refine T_exit rfl ?_ | refine TL_add (hk := ?_) | refine TL_nil ?_ | refine TL_move (hk := ?_) | refine TL_assign (hk := ?_))
            exact ihk (k + 1, tp) w14 _ (by simp only; omega) ⟨by simp only; omega, e10.ext e1014, by simp only; rw [ts]; exact htp⟩ (.c rfl (.c rfl (.c rfl (.c rfl (.c rfl (.c rfl (.c rfl (.c rfl (.n)))))))))
        · have : i = k := by omega
          subst this
          clear ihk
          have rL10 := rL9.be e10
          have e610 := e69.ext e10
          have oR10 := oR9.be e10
          have oO10 := oO9.be e10
          obtain ⟨X, hX1⟩ : ∃ X : Option Addr × Nat, ((some ⟨bR, 0, none⟩, n) : Option Addr × Nat) = X := ⟨_, rfl⟩
          have offX : Off X.1 (blkL O) := by rw [← hX1]; exact Off.nb' loO oR10.hi
          have oX : Own w10 w6.heap.size 4 1 X.1 n X.2 (bl n (rc (fts l) i)) := by rw [← hX1]; exact oR10.weaken (by omega)
          have hrow10 : ∀ k, k < xs.length → Own w10 w6.heap.size 4 1 (xs.getD k (none, 0)).1 n (xs.getD k (none, 0)).2 (bl n (rc (fts l) k)) := fun k h => (((hrow k h).be e8).mod m9 (hXb k h)).be e10
          clear hrow oR9 oR10 oO9 rL9 rQ9
          repeat (first | refine T_seq ?_ | refine T_region ?_ | refine T_cond_false rfl ?_ | refine T_skip ?_ | refine T_exit rfl ?_ | refine TL_add (hk := ?_) | refine TL_lt_f (hk := ?_) | refine TL_ne_f (hk := ?_) | refine TL_nil ?_ | refine TL_move (hk := ?_) | refine TL_load_rd TE (hk := ?_) | refine TL_indexAddr1n TE (hk := ?_))
          refine TL_buildSlice TE (hk := ?_); intro b11 w11 e11 h11 h11' k11
          replace k11 : Blk w11 b11 69 (rvs n [X]) := by rw [← hX1]; exact k11
          have o11 := oO10.be e11
          have r11 : Rd w11 (some ⟨b11, 0, none⟩) 1 1 (rvs n [X]) := Rd.blk k11 rfl
          have hone := rvs_one n [X]
          have z10 := e10.size
          have z11 := e11.size
          clear oO10
          --
          refine TL_append TE (hk := ?_); intro O12 c12 w12 o12 m12 n12
          rw [← rvs_append] at o12
          repeat (first | refine T_region ?_ | refine T_inBlock ?_ | refine TL_add (hk := ?_) | refine TL_nil ?_ | refine TL_move (hk := ?_) | refine TL_assign (hk := ?_))
          refine ih (i + 1, (O12, c12), xs ++ [X]) w12 _ (by simp only; omega) ⟨by simp only; omega, (e610.ext e11).own m12 o11.hi, o12, by simp [hxl], ?_, ?_⟩ (.c rfl (.c rfl (.c rfl (.c rfl (.c rfl (.n))))))
          · intro k hk
            simp only [List.length_append, List.length_cons, List.length_nil] at hk ⊢
            by_cases q : k < xs.length
            · have := ((hrow10 k q).be e11).mod m12 (hoff k (by omega))
              simpa [List.getD_eq_getElem?_getD, List.getElem?_append, q] using this
            · have : k = xs.length := by omega
              subst this
              have := (oX.be e11).mod m12 offX
              rw [← hxl] at this
              simpa [List.getD_eq_getElem?_getD] using this
          · intro k hk
            simp only at hk ⊢
            by_cases q : k < xs.length
            · have := off_near n12 (hoff k (by omega)) ((hrow10 k q).be e11).lo
              simpa [List.getD_eq_getElem?_getD, List.getElem?_append, q] using this
            · have : k = xs.length := by omega
              subst this
              have := off_near n12 offX (oX.be e11).lo
              simpa [List.getD_eq_getElem?_getD] using this
    · have : i = n := by omega
      subst this
      clear ih
      repeat (first | refine T_seq ?_ | refine T_region ?_ | refine T_cond_false rfl ?_ | refine T_exit rfl ?_ | refine TL_lt_f (hk := ?_) | refine TL_nil ?_ | refine TL_move (hk := ?_) | refine TL_len TE (hk := ?_))
      refine TL_call TE (hc := live_c3 _) (hk := ?_)
      rintro _ w8 ⟨rfl, e8⟩
      repeat (first | refine TL_nil ?_ | refine TL_assign (hk := ?_))
      exact T_ret1 rfl rfl ⟨rfl, (e06.ext e7).ext e8⟩
end Go.Proofs.Ytfplmpfdhiagaaa
