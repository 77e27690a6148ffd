import Derived.Test.YtfplmpfdhiagaaaS2
import Derived.Laws.StructEq
import Derived.SizedLaws
/- Parts: CW9 CW2 CW4 CW10 FW18 FW19 CW13 FW20 FSpec6 FW21 CW14 CW15 FW22 Eng17 FW23 FW24 FW25 Eng18 FW26 FW27 FW28 FLaw2 FW29 FLaw3 FW30 FW31. -/
namespace Go.Proofs.Ytfplmpfdhiagaaa
open Go.RowKit Go.Proofs.Eng Go.Proofs.Codec
set_option linter.unusedSimpArgs false
set_option linter.unusedVariables false
attribute [local irreducible] T TL LV TH TA
set_option maxHeartbeats 1000000
theorem Byte_c (b : Nat) (s : RS) (A : Option Addr) (n c : Nat) (w : World) (h : Rdr w 107 b s A n c) :
    Ret Try.prog 66 [ptr b] w (fun v w' => v = (fun x : Nat => Value.int .u8 (x : Int)) (s.take (0 : Nat) tByte).1 ∧ Mod [b] w w' ∧ Rdr w' 107 b (s.take (0 : Nat) tByte).2 A n c) := by
  refine ret_T (n := 7) Try.func66 rfl rfl ?_
  repeat (first | refine T_seq ?_ | refine T_region ?_ | refine TL_nil ?_ | refine TL_move (hk := ?_) | refine TL_assign (hk := ?_) | refine TL_makeFunc (hk := ?_))
  refine TL_call TE (hc := rd_byte b s A n c w 93 [ptr b] [] (fun x : Nat => Value.int .u8 (x : Int)) (0 : Nat) rfl (fun _ => rfl) tByte rfl h (fun w' e => byte_c b s A n c w' (h.ext e))) (hk := ?_)
  rintro _ w1 ⟨rfl, m1, h1⟩
  repeat (first | refine TL_nil ?_ | refine TL_assign (hk := ?_))
  exact T_ret1 rfl rfl ⟨rfl, m1, h1⟩
theorem Count_c (b : Nat) (s : RS) (A : Option Addr) (n c : Nat) (most : Int) (hmo : -9223372036854775808 ≤ most ∧ most ≤ 9223372036854775807) (w : World) (h : Rdr w 107 b s A n c) :
    Ret Try.prog 63 [ptr b, .int .i64 most] w (fun v w' => v = (fun x : Nat => Value.int .i64 (x : Int)) (s.take (0 : Nat) (tLim most 6)).1 ∧ Mod [b] w w' ∧ Rdr w' 107 b (s.take (0 : Nat) (tLim most 6)).2 A n c) := by
  refine ret_T (n := 8) Try.func63 rfl rfl ?_
  repeat (first | refine T_seq ?_ | refine T_region ?_)
  refine TL_box (hk := ?_); intro x1 w1 e1 g1 g1' k1
  --
  refine TL_box (hk := ?_); intro x2 w2 e2 g2 g2' k2
  have k12 : Blk w2 x1 _ [ptr b] := k1.be e2
  have k22 : Blk w2 x2 _ [.int .i64 most] := k2
  have e02 : Ext w w2 := e1.ext e2
  have lb := h.blk.lt
  repeat (first | refine T_seq ?_ | refine T_region ?_ | refine TL_nil ?_ | refine TL_assign (hk := ?_) | refine TL_load TE (hk := ?_) | refine TL_makeFunc (hk := ?_))
  refine TL_call TE (hc := rd_int b s A n c w2 88 [] [ptr x1, ptr x2] (fun x : Nat => Value.int .i64 (x : Int)) (0 : Nat) rfl (fun _ => rfl) (tLim most 6) rfl (h.ext e02) (fun w' e => Count1_c b x1 x2 _ _ s A n c most hmo w' ((h.ext e02).ext e) (k12.ext e) (k22.ext e) )) (hk := ?_)
  rintro _ w3 ⟨rfl, m3, h3⟩
  repeat (first | refine TL_nil ?_ | refine TL_assign (hk := ?_))
  exact T_ret1 rfl rfl ⟨rfl, (Ext.mod e02).trans m3, h3⟩
theorem Text_c (b : Nat) (s : RS) (A : Option Addr) (n c : Nat) (most : Int) (hmo : -9223372036854775808 ≤ most ∧ most ≤ 9223372036854775807) (w : World) (h : Rdr w 107 b s A n c) :
    Ret Try.prog 64 [ptr b, .int .i64 most] w (fun v w' => v = (fun x : List UInt8 => Value.string ⟨x.toArray⟩) (s.take ([] : List UInt8) (tText most)).1 ∧ Mod [b] w w' ∧ Rdr w' 107 b (s.take ([] : List UInt8) (tText most)).2 A n c) := by
  refine ret_T (n := 8) Try.func64 rfl rfl ?_
  repeat (first | refine T_seq ?_ | refine T_region ?_)
  refine TL_box (hk := ?_); intro x1 w1 e1 g1 g1' k1
  --
  refine TL_box (hk := ?_); intro x2 w2 e2 g2 g2' k2
  have k12 : Blk w2 x1 _ [ptr b] := k1.be e2
  have k22 : Blk w2 x2 _ [.int .i64 most] := k2
  have e02 : Ext w w2 := e1.ext e2
  have lb := h.blk.lt
  repeat (first | refine T_seq ?_ | refine T_region ?_ | refine TL_nil ?_ | refine TL_assign (hk := ?_) | refine TL_load TE (hk := ?_) | refine TL_makeFunc (hk := ?_))
  refine TL_call TE (hc := rd_string b s A n c w2 91 [] [ptr x1, ptr x2] (fun x : List UInt8 => Value.string ⟨x.toArray⟩) ([] : List UInt8) rfl (fun _ => rfl) (tText most) rfl (h.ext e02) (fun w' e => Text1_c b x1 x2 _ _ s A n c most hmo w' ((h.ext e02).ext e) (k12.ext e) (k22.ext e) (by omega))) (hk := ?_)
  rintro _ w3 ⟨rfl, m3, h3⟩
  repeat (first | refine TL_nil ?_ | refine TL_assign (hk := ?_))
  exact T_ret1 rfl rfl ⟨rfl, (Ext.mod e02).trans m3, h3⟩
theorem Fail_c (b : Nat) (s : RS) (A : Option Addr) (n c : Nat) (e : Int) (w : World) (h : Rdr w 107 b s A n c) :
    Ret Try.prog 65 [ptr b, .int .i64 e] w (fun v w' => v = .tuple #[] ∧ Mod [b] w w' ∧ Rdr w' 107 b (s.fail e) A n c) := by
  have h0 := h
  obtain ⟨hb, hr, ho, hl, hp, hla, hbig, hcap⟩ := h
  refine ret_T (n := 28) Try.func65 rfl rfl ?_
  by_cases he : s.err = 0
  · by_cases he2 : e = 0
    · have hs : s.fail e = s := by unfold RS.fail; rw [if_neg (by omega)]
      rw [hs]
      repeat (first | refine T_seq ?_ | refine T_region ?_ | refine T_cond_false rfl ?_ | refine T_skip ?_ | refine TL_eq_t (hk := ?_) | refine TL_ne_f (hk := ?_) | refine TL_pnn_t TE (hk := ?_) | refine TL_nil ?_ | refine TL_move (hk := ?_) | refine TL_load TE (hk := ?_) | refine TL_fieldAddr TE (hk := ?_) | refine TL_yes (hk := ?_) | refine TL_pick_t (hk := ?_) | refine TL_nilCheck (hk := ?_))
      exact T_end0 rfl ⟨rfl, Mod.refl _ _, h0⟩
    · have hs : s.fail e = { s with err := e, spot := s.last } := by unfold RS.fail; rw [if_pos ⟨he, he2⟩]
      rw [hs]
      repeat (first | refine T_seq ?_ | refine T_region ?_ | refine T_cond_true rfl ?_ | refine TL_eq_t (hk := ?_) | refine TL_ne_t (hk := ?_) | refine TL_pnn_t TE (hk := ?_) | refine TL_nil ?_ | refine TL_move (hk := ?_) | refine TL_load TE (hk := ?_) | refine TL_fieldAddr TE (hk := ?_) | refine TL_yes (hk := ?_) | refine TL_pick_t (hk := ?_) | refine TL_nilCheck (hk := ?_))
      refine TL_store TE (hk := ?_); intro w1 m1 s1 k1
      repeat (first | refine TL_fieldAddr TE (hk := ?_) | refine TL_nilCheck (hk := ?_))
      refine TL_store TE (hk := ?_); intro w2 m2 s2 k2
      repeat (refine TL_nil ?_)
      have hm := m1.trans m2
      exact T_end0 rfl ⟨rfl, hm, ⟨k2, hr.mod hm ho, ho, hl, hp, hla, hbig, hcap⟩⟩
  · have hs : s.fail e = s := by unfold RS.fail; rw [if_neg (by omega)]
    rw [hs]
    repeat (first | refine T_seq ?_ | refine T_region ?_ | refine T_cond_false rfl ?_ | refine T_skip ?_ | refine TL_eq_f (hk := ?_) | refine TL_pnn_t TE (hk := ?_) | refine TL_nil ?_ | refine TL_move (hk := ?_) | refine TL_load TE (hk := ?_) | refine TL_fieldAddr TE (hk := ?_) | refine TL_yes (hk := ?_) | refine TL_no (hk := ?_) | refine TL_pick_t (hk := ?_) | refine TL_pick_f (hk := ?_) | refine TL_nilCheck (hk := ?_))
    exact T_end0 rfl ⟨rfl, Mod.refl _ _, h0⟩
theorem Why_c (b : Nat) (s : RS) (A : Option Addr) (n c : Nat) (w : World) (h : Rdr w 107 b s A n c) :
    Ret Try.prog 67 [ptr b] w (fun v w' => v = .tuple #[.int .i64 s.err, .int .i64 ((if s.err = 0 then 0 else s.spot : Nat) : Int)] ∧ Ext w w') := by
  have h0 := h
  obtain ⟨hb, hr, ho, hl, hp, hla, hbig, hcap⟩ := h
  refine ret_T (n := 21) Try.func67 rfl rfl ?_
  by_cases he : s.err = 0
  · rw [if_pos he, he]
    repeat (first | refine T_seq ?_ | refine T_region ?_ | refine T_cond_true rfl ?_ | refine TL_eq_t (hk := ?_) | refine TL_pnil_f TE (hk := ?_) | refine TL_nil ?_ | refine TL_move (hk := ?_) | refine TL_assign (hk := ?_) | refine TL_load TE (hk := ?_) | refine TL_fieldAddr TE (hk := ?_) | refine TL_yes (hk := ?_) | refine TL_pick_f (hk := ?_) | refine TL_nilCheck (hk := ?_))
    exact T_ret2 rfl rfl rfl ⟨rfl, Mod.refl _ _⟩
  · rw [if_neg he]
    repeat (first | refine T_seq ?_ | refine T_region ?_ | refine T_region_q TE.mixed (by kernel_rfl) ?_ | refine T_cond_false rfl ?_ | refine T_skip ?_ | refine TL_eq_f (hk := ?_) | refine TL_pnil_f TE (hk := ?_) | refine TL_nil ?_ | refine TL_move (hk := ?_) | refine TL_assign (hk := ?_) | refine TL_load TE (hk := ?_) | refine TL_fieldAddr TE (hk := ?_) | refine TL_yes (hk := ?_) | refine TL_pick_f (hk := ?_) | refine TL_nilCheck (hk := ?_))
    refine TL_nil_q ?_; intro w1 e1
    exact T_ret2 rfl rfl rfl ⟨rfl, e1⟩
theorem Rest_c (b : Nat) (s : RS) (A : Option Addr) (n c : Nat) (w : World) (h : Rdr w 107 b s A n c) :
    Ret Try.prog 68 [ptr b] w (fun v w' => v = .int .i64 (s.rest : Int) ∧ Ext w w') := by
  have h0 := h
  obtain ⟨hb, hr, ho, hl, hp, hla, hbig, hcap⟩ := h
  refine ret_T (n := 22) Try.func68 rfl rfl ?_
  by_cases he : s.err = 0
  · have hs : s.rest = n - s.pos := by unfold RS.rest; rw [if_pos he, hl]
    rw [hs]
    repeat (first | refine T_seq ?_ | refine T_region ?_ | refine T_region_q TE.mixed (by kernel_rfl) ?_ | refine T_cond_false rfl ?_ | refine T_skip ?_ | refine TL_sub (hk := ?_) | refine TL_ne_f (hk := ?_) | refine TL_pnil_f TE (hk := ?_) | refine TL_nil ?_ | refine TL_move (hk := ?_) | refine TL_assign (hk := ?_) | refine TL_load TE (hk := ?_) | refine TL_fieldAddr TE (hk := ?_) | refine TL_len TE (hk := ?_) | refine TL_yes (hk := ?_) | refine TL_pick_f (hk := ?_) | refine TL_nilCheck (hk := ?_))
    refine TL_nil_q ?_; intro w1 e1
    refine T_ret1 rfl rfl ⟨?_, e1⟩
    show Value.int .i64 ((n : Int) - (s.pos : Int)) = _
    rw [show ((n - s.pos : Nat) : Int) = (n : Int) - (s.pos : Int) by omega]
  · have hs : s.rest = 0 := by unfold RS.rest; rw [if_neg he]
    rw [hs]
    repeat (first | refine T_seq ?_ | refine T_region ?_ | refine T_cond_true rfl ?_ | refine TL_ne_t (hk := ?_) | refine TL_pnil_f TE (hk := ?_) | refine TL_nil ?_ | refine TL_move (hk := ?_) | refine TL_assign (hk := ?_) | refine TL_load TE (hk := ?_) | refine TL_fieldAddr TE (hk := ?_) | refine TL_yes (hk := ?_) | refine TL_pick_f (hk := ?_) | refine TL_nilCheck (hk := ?_))
    exact T_ret1 rfl rfl ⟨rfl, Mod.refl _ _⟩
end Go.Proofs.Ytfplmpfdhiagaaa

namespace Go.Proofs.Ytfplmpfdhiagaaa
open Go.RowKit Go.Proofs.Eng Go.Proofs.Codec
set_option linter.unusedSimpArgs false
set_option linter.unusedVariables false
attribute [local irreducible] T TL LV TH TA
















































































end Go.Proofs.Ytfplmpfdhiagaaa

namespace Go.Proofs.Ytfplmpfdhiagaaa
open Go.RowKit Go.Proofs.Eng Go.Proofs.Codec
set_option linter.unusedSimpArgs false
set_option linter.unusedVariables false
attribute [local irreducible] T TL LV TH TA
set_option maxHeartbeats 1000000

theorem PutText_c (A : Option Addr) (n c : Nat) (l : List UInt8) (S : ByteArray) (w : World) (h : Rd w A n 1 (bv l)) (hn : n ≤ 7036874417) (hs : S.size ≤ 7036874417) :
    Ret Try.prog 57 [.slice A n c, .string S] w (fun v w' => ∃ A' n' c', v = .slice A' n' c' ∧ Ext w w' ∧ Own w' w.heap.size 5 1 A' n' c' (bv (l ++ (encU S.size ++ S.data.toList)))) := by
  have hlen : l.length = n := by simpa using h.1
  refine ret_T (n := 12) Try.func57 rfl rfl ?_
  repeat (first | refine T_seq ?_ | refine T_region ?_ | refine TL_nil ?_ | refine TL_move (hk := ?_) | refine TL_assign (hk := ?_) | refine TL_len_s TE (hk := ?_) | refine TL_conv TE (hk := ?_))
  refine TL_call TE (hc := PutUint_c A n c l S.size w rfl h (by omega) (by omega)) (hk := ?_)
  rintro _ w1 ⟨A1, n1, c1, rfl, e1, o1⟩
  have s1 := e1.size
  have hn1 := o1.len
  have h10 := encU_len64 (n := S.size) (by omega)
  simp only [bv_length, List.length_append, Nat.mul_one] at hn1
  repeat (refine TL_move (hk := ?_))
  refine TL_append_s TE (hk := ?_); intro A2 c2 w2 o2 m2 n2
  repeat (first | refine TL_nil ?_ | refine TL_assign (hk := ?_))
  refine T_ret1 rfl rfl ⟨A2, _, c2, rfl, e1.own m2 o1.hi, ?_⟩
  rw [← bv_append, List.append_assoc] at o2
  exact o2
























end Go.Proofs.Ytfplmpfdhiagaaa

namespace Go.Proofs.Ytfplmpfdhiagaaa
open Go.RowKit Go.Proofs.Eng Go.Proofs.Codec
set_option linter.unusedSimpArgs false
set_option linter.unusedVariables false
attribute [local irreducible] T TL LV TH TA
set_option maxHeartbeats 1000000
theorem NewReader_c (A : Option Addr) (n c : Nat) (l : List UInt8) (w : World) (h : Rd w A n 1 (bv l)) (hn : n ≤ 7036874417) :
    Ret Try.prog 62 [.slice A n c] w (fun v w' => ∃ b A' n' c', v = ptr b ∧ Ext w w' ∧ w.heap.size ≤ b ∧ Hi A' w.heap.size ∧ Lo A' w'.heap.size ∧ Rdr w' 107 b ⟨l, 0, 0, 0, 0⟩ A' n' c') := by
  refine ret_T (n := 7) Try.func62 rfl rfl ?_
  repeat (first | refine T_seq ?_ | refine T_region ?_ | refine TL_nil ?_ | refine TL_move (hk := ?_) | refine TL_assign (hk := ?_))
  refine TL_call TE (hc := Clone_c A n c l w h (by omega)) (hk := ?_)
  rintro _ w1 ⟨A1, c1, rfl, e1, o1⟩
  repeat (refine TL_build TE (hk := ?_))
  refine TL_box (hk := ?_); intro b w2 e2 h1 h2 k
  repeat (first | refine TL_nil ?_ | refine TL_assign (hk := ?_))
  have hs := e1.size
  refine T_ret1 rfl rfl ⟨b, A1, n, c1, rfl, e1.ext e2, by omega, o1.hi, o1.lo.mono e2.size, ?_⟩
  exact ⟨k, (o1.be e2).rd, Off.lo o1.lo h1, by have := h.1; simpa using this, Nat.zero_le _, Nat.zero_le _, hn, o1.cap.1⟩
end Go.Proofs.Ytfplmpfdhiagaaa

namespace Go.Proofs.Ytfplmpfdhiagaaa
open Go.RowKit Go.Proofs.Eng Go.Proofs.Foot Go.Proofs.Codec
set_option linter.unusedSimpArgs false
set_option linter.unusedVariables false
attribute [local irreducible] T TL LV TH TA
theorem norm_short {r k : List Tx} (h : isNorm r k = true) : (∀ t ∈ r ++ k, t.length ≤ 32) ∧ (ofM r k).length ≤ 64 := by
  unfold isNorm at h
  have h := of_decide_eq_true h
  have e := norm_eq r k
  rw [← of_len] at e
  rw [e] at h
  by_cases q : (r.all validT && k.all validT) = true
  · rw [if_pos q] at h
    by_cases g : 64 < (ofM r k).length
    · rw [if_pos g] at h; exact absurd h.1 (by decide)
    · refine ⟨fun t ht => ?_, by omega⟩
      simp only [Bool.and_eq_true, List.all_eq_true] at q
      have hv : validT t = true := by
        rcases List.mem_append.1 ht with h | h
        · exact q.1 t h
        · exact q.2 t h
      simp only [validT, Bool.and_eq_true, decide_eq_true_eq] at hv
      exact hv.2.2
  · rw [if_neg q] at h; exact absurd h.1 (by decide)
theorem keys3_short {r k : List Tx} (h : isNorm r k = true) : ∀ t ∈ keysM (ofM r k) 3, t.length ≤ 32 := fun t ht => by
  rw [keys3, set_mem] at ht
  exact (norm_short h).1 t ht
theorem entryB_len (m : TM) (t : Tx) (h : t.length ≤ 32) : (entryB m t).length ≤ 43 := by
  have := encU_len64 (n := t.length) (by omega)
  simp only [entryB, List.length_append, List.length_cons, List.length_nil]
  omega
theorem Put_c (B A C : Option Addr) (nb cb n c m d : Nat) (ahead : List UInt8) (r k : List Tx) (w : World) (hb : Rd w B nb 1 (bv ahead)) (h : Rd w A n 1 (sv r)) (g : Rd w C m 1 (sv k)) (hnb : nb ≤ 200000) (hn : n ≤ 50000) (hm : m ≤ 50000) (sr : Short r) (sk : Short k) :
    Ret Try.prog 16 [.slice B nb cb, .agg #[.slice A n c, .slice C m d]] w (fun v w' => ∃ P np cp, v = .tuple #[.slice P np cp, .int .i64 (if isNorm r k = true then 0 else 31)] ∧ Ext w w' ∧ Own w' w.heap.size 5 1 P np cp (if isNorm r k = true then bv (ahead ++ putB (ofM r k)) else [])) := by
  refine ret_T (n := 36) Try.func16 rfl rfl ?_
  repeat (first | refine T_seq ?_ | refine T_region ?_)
  refine TL_box (hk := ?_); intro b1 w1 e1 h1 h1' k1
  repeat (first | refine T_seq ?_ | refine T_region ?_ | refine TL_nil ?_ | refine TL_assign (hk := ?_))
  refine TL_loadb TE (cs := [.slice A n c, .slice C m d]) (o := 0) rfl rfl k1 rfl rfl (Nat.succ_pos _) (hk := ?_)
  refine TL_call TE (hc := normal_c A C n c m d r k _ (h.be e1) (g.be e1) hn hm sr sk) (hk := ?_)
  rintro _ w2 ⟨rfl, e2⟩
  by_cases hN : isNorm r k = true
  · rw [if_pos hN, if_pos hN]
    have hshort := keys3_short hN
    have h64 := (norm_short hN).2
    have hl3 := of_len3 r k
    rw [hN]
    have k12 := k1.be e2
    have e02 := e1.ext e2
    have hb2 := hb.be e02
    have hA2 := h.be e02
    have hC2 := g.be e02
    clear k1 h g
    repeat (first | refine T_seq ?_ | refine T_region ?_ | refine T_cond_false rfl ?_ | refine T_skip ?_ | refine TL_nil ?_ | refine TL_not (hk := ?_))
    refine TL_loadb TE (cs := [.slice A n c, .slice C m d]) (o := 0) rfl rfl k12 rfl rfl (Nat.succ_pos _) (hk := ?_)
    refine TL_call TE (hc := of_c A C n c m d r k _ hA2 hC2 (by omega) (by omega)) (hk := ?_)
    rintro _ w3 ⟨bm, rfl, e3, hbm, mp⟩
    have hb3 := hb2.be e3
    have z3 := e02.size
    have z3' := e3.size
    repeat (first | refine T_seq ?_ | refine T_region ?_ | refine TL_nil ?_ | refine TL_move (hk := ?_) | refine TL_assign (hk := ?_) | refine TL_conv TE (hk := ?_) | refine TL_len_m TE (hk := ?_))
    refine TL_call TE (hc := PutUint_c B nb cb ahead (ofM r k).length _ rfl hb3 (by omega) (by omega)) (hk := ?_)
    rintro _ w4 ⟨A4, n4, c4, rfl, e4, o4⟩
    have mp4 := mp.be e4
    have z4 := e4.size
    have hlb := hb.1
    have hlen4 := o4.len
    have henc := encU_len64 (n := (ofM r k).length) (by omega)
    simp only [bv_length, List.length_append, Nat.mul_one] at hlen4 hlb
    repeat (first | refine T_seq ?_ | refine T_region ?_ | refine TL_nil ?_ | refine TL_move (hk := ?_) | refine TL_assign (hk := ?_))
    refine TL_call TE (hc := keys_c bm 3 (ofM r k) _ mp4 (by decide) (of_lt4 r k) (by omega)) (hk := ?_)
    rintro _ w5 ⟨A5, n5, c5, rfl, e5, o5⟩
    have mp5 := mp4.be e5
    have z5 := e5.size
    obtain ⟨ks, hks⟩ : ∃ ks, keysM (ofM r k) 3 = ks := ⟨_, rfl⟩
    rw [hks] at o5 hshort hl3
    have hkl : ks.length = n5 := by simpa using o5.len
    have o45 := o4.be e5
    have e05 := ((e02.ext e3).ext e4).ext e5
    have hi5 := o5.hi
    clear mp mp4 o4 hb2 hb3 hA2 hC2
    repeat (first | refine T_block ?_ | refine TL_nil ?_ | refine TL_move (hk := ?_) | refine TL_len TE (hk := ?_))
    refine T_loop (ι := (Option Addr × Nat × Nat) × Nat) (fun i => [(22, .int .i64 (i.2 : Int)), (21, .int .i64 (n5 : Int)), (20, .slice A5 n5 c5), (6, .map (some bm)), (0, .slice i.1.1 i.1.2.1 i.1.2.2)])
      (fun i w' => Ext w w' ∧ Ext w5 w' ∧ i.2 ≤ n5 ∧ i.1.2.1 ≤ 200010 + 43 * i.2 ∧ Own w' w.heap.size 5 1 i.1.1 i.1.2.1 i.1.2.2 (bv (ahead ++ (encU n5 ++ bodyB (ofM r k) (ks.take i.2))))) (fun i => n5 - i.2) ((A4, n4, c4), 0) (.c rfl (.c rfl (.c rfl (.c rfl (.c rfl (.n))))))
      ⟨e05, Mod.refl _ _, Nat.zero_le _, by show n4 ≤ 200010 + 43 * 0; omega, ?_⟩ ?_
    · have := o45.weaken (base' := w.heap.size) (by omega)
      rw [hl3, hkl] at this
      simpa [bodyB] using this
    rintro ⟨⟨A6, n6, c6⟩, i⟩ w6 ⟨e6, e56, hi, hn6, o6⟩ ih
    simp only at hi hn6 o6 ih ⊢
    have z6 := e6.size
    by_cases hlt : i < n5
    · obtain ⟨t, ht⟩ : ∃ t, ks.getD i [] = t := ⟨_, rfl⟩
      have htm : t ∈ ks := by rw [← ht]; exact getD_mem (by omega)
      have ht32 := hshort t htm
      have hbt := bodyB_take (ofM r k) ks i (by omega)
      rw [ht] at hbt
      have hel := entryB_len (ofM r k) t ht32
      have hb4 := bits_lt4 r k t
      obtain ⟨u, hu⟩ : ∃ u, (mget (ofM r k) t).getD 0 = u := ⟨_, rfl⟩
      have hu' : bitsM (ofM r k) t = u := hu
      have mp6 := mp5.be e56
      have o56 := o5.be e56
      have e1t := encU_len64 (n := t.length) (by omega)
      have hsz := ofL_size t
      rw [hu'] at hb4
      clear hshort
      repeat (first | refine T_seq ?_ | refine T_region ?_ | refine T_cond_true rfl ?_ | refine T_block ?_ | refine T_skip ?_ | refine TL_lt_t (hk := ?_) | refine TL_nil ?_ | refine TL_assign (hk := ?_) | refine TL_indexAddr1n TE (hk := ?_) | refine TL_load_s TE (hk := ?_))
      rw [ht]
      --
      refine T_region_any TE.mixed [] ?_; intro w7 e7 z7
      have hd7 : Eng.Mod [] w7 w7 := Mod.refl _ _
      have mp7 := mp6.be e7
      have o7 := o6.be e7
      have e07 := e6.ext e7
      clear o6 mp6
      (refine TA_take 0 rfl (by kernel_rfl) (by kernel_rfl) (by kernel_rfl) ?_; repeat (refine TL_move (hk := ?_)); refine TL_nil_p ?_); (refine TA_take 1 rfl (by kernel_rfl) (by kernel_rfl) (by kernel_rfl) ?_; repeat (refine TL_move (hk := ?_)); refine TL_nil_p ?_); (refine TA_take 3 rfl (by kernel_rfl) (by kernel_rfl) (by kernel_rfl) ?_; repeat (refine TL_move (hk := ?_)); refine TL_nil_p ?_); (refine TA_take 4 rfl (by kernel_rfl) (by kernel_rfl) (by kernel_rfl) ?_; repeat (refine TL_move (hk := ?_)); refine TL_nil_p ?_)
      refine TA_take 5 rfl (by kernel_rfl) (by kernel_rfl) (by kernel_rfl) ?_
      refine TLP_lookup TE 0 mp7 (by simp) (hk := ?_)
      rw [hu]
      refine TL_nil_p ?_
      refine TA_two 2 6 rfl rfl (by kernel_rfl) (by kernel_rfl) ?_ ?_
      · refine TL_call TE (hc := PutText_c A6 n6 c6 _ (ofL t) w7 o7.rd (by omega) (by omega)) (hq := fun v w' ⟨_, _, _, _, h, _⟩ => hd7.ext h) (hk := ?_)
        rintro _ w8 ⟨A8, n8, c8, rfl, e8, o8⟩
        have z8 := e8.size
        refine TL_nil_p ?_
        refine TA_one 6 rfl (by kernel_rfl) (by kernel_rfl) ?_
        refine TL_buildSlice TE (hf := rfl) (hq := fun w' h => (hd7.ext e8).ext h) (hk := ?_); intro b9 w9 e9 h9 h9' k9
        have z9 := e9.size
        have o89 := o8.be e9
        have hl8 := o8.len
        simp only [bv_length, List.length_append, Nat.mul_one, ofL_toList, ofL_size] at hl8
        have hl7 := o7.len
        simp only [bv_length, List.length_append, Nat.mul_one] at hl7
        have E9 := e8.ext e9
        refine TL_nil_p ?_
        refine TA_one 7 rfl (by kernel_rfl) (by kernel_rfl) ?_
        refine TL_append TE (hf := rfl) (hq := fun w' m => Mod.own E9 m o8.hi) (hk := ?_); intro A10 c10 w10 o10 m10 n10
        have E10 : Ext w7 w10 := (Mod.own E9 m10 o8.hi)
        refine TL_nil_p ?_
        (refine TA_one 8 rfl (by kernel_rfl) (by kernel_rfl) ?_; repeat (refine TL_assign (hk := ?_)); refine TL_nil_p ?_)
        refine TA_done (by kernel_rfl) ?_
        repeat (first | refine T_region ?_ | refine T_inBlock ?_ | refine TL_add (hk := ?_) | refine TL_nil ?_ | refine TL_move (hk := ?_))
        refine ih ((A10, n8 + 1, c10), i + 1) _ _ (by simp only; omega) ⟨e07.ext E10, (e56.ext e7).ext E10, by show i + 1 ≤ n5; omega, by show n8 + 1 ≤ 200010 + 43 * (i + 1); omega, ?_⟩ (.c rfl (.c rfl (.c rfl (.c rfl (.c rfl (.n))))))
        have o11 := o10.weaken (base' := w.heap.size) (by have := e07.size; omega)
        simp only
        rw [hbt, entryB, hu']
        have hv := bv_snoc (ahead ++ (encU n5 ++ bodyB (ofM r k) (ks.take i)) ++ (encU (ofL t).size ++ (ofL t).data.toList)) u (by omega)
        have hv2 : bv (ahead ++ (encU n5 ++ bodyB (ofM r k) (ks.take i)) ++ (encU (ofL t).size ++ (ofL t).data.toList)) ++ [uV u] = bv (ahead ++ (encU n5 ++ (bodyB (ofM r k) (ks.take i) ++ (encU t.length ++ t ++ [UInt8.ofNat u])))) := by
          rw [show uV u = Value.int .u8 (u : Int) from rfl, hv, ofL_toList, ofL_size]
          simp only [List.append_assoc]
        rw [← hv2]
        exact o11
      · refine TL_buildSlice TE (hf := rfl) (hq := fun w' h => hd7.ext h) (hk := ?_); intro b9 w9 e9 h9 h9' k9
        have z9 := e9.size
        have o79 := o7.be e9
        refine TL_nil_p ?_
        refine TA_one 2 rfl (by kernel_rfl) (by kernel_rfl) ?_
        refine TL_call TE (hc := PutText_c A6 n6 c6 _ (ofL t) w9 o79.rd (by omega) (by omega)) (hq := fun v w' ⟨_, _, _, _, h, _⟩ => (hd7.ext e9).ext h) (hk := ?_)
        rintro _ w8 ⟨A8, n8, c8, rfl, e8, o8⟩
        have z8 := e8.size
        have o89 := o8.weaken (base' := w7.heap.size) (by omega)
        have hl8 := o8.len
        simp only [bv_length, List.length_append, Nat.mul_one, ofL_toList, ofL_size] at hl8
        have hl7 := o7.len
        simp only [bv_length, List.length_append, Nat.mul_one] at hl7
        have k98 := k9.be e8
        have E9 := e9.ext e8
        refine TL_nil_p ?_
        refine TA_one 7 rfl (by kernel_rfl) (by kernel_rfl) ?_
        refine TL_append TE (hf := rfl) (hq := fun w' m => Mod.own E9 m o89.hi) (hk := ?_); intro A10 c10 w10 o10 m10 n10
        have E10 : Ext w7 w10 := (Mod.own E9 m10 o89.hi)
        refine TL_nil_p ?_
        (refine TA_one 8 rfl (by kernel_rfl) (by kernel_rfl) ?_; repeat (refine TL_assign (hk := ?_)); refine TL_nil_p ?_)
        refine TA_done (by kernel_rfl) ?_
        repeat (first | refine T_region ?_ | refine T_inBlock ?_ | refine TL_add (hk := ?_) | refine TL_nil ?_ | refine TL_move (hk := ?_))
        refine ih ((A10, n8 + 1, c10), i + 1) _ _ (by simp only; omega) ⟨e07.ext E10, (e56.ext e7).ext E10, by show i + 1 ≤ n5; omega, by show n8 + 1 ≤ 200010 + 43 * (i + 1); omega, ?_⟩ (.c rfl (.c rfl (.c rfl (.c rfl (.c rfl (.n))))))
        have o11 := o10.weaken (base' := w.heap.size) (by have := e07.size; omega)
        simp only
        rw [hbt, entryB, hu']
        have hv := bv_snoc (ahead ++ (encU n5 ++ bodyB (ofM r k) (ks.take i)) ++ (encU (ofL t).size ++ (ofL t).data.toList)) u (by omega)
        have hv2 : bv (ahead ++ (encU n5 ++ bodyB (ofM r k) (ks.take i)) ++ (encU (ofL t).size ++ (ofL t).data.toList)) ++ [uV u] = bv (ahead ++ (encU n5 ++ (bodyB (ofM r k) (ks.take i) ++ (encU t.length ++ t ++ [UInt8.ofNat u])))) := by
          rw [show uV u = Value.int .u8 (u : Int) from rfl, hv, ofL_toList, ofL_size]
          simp only [List.append_assoc]
        rw [← hv2]
        exact o11
    · have hin : i = n5 := by omega
      have hall : ks.take i = ks := List.take_of_length_le (by omega)
      repeat (first | refine T_seq ?_ | refine T_region ?_ | refine T_cond_false rfl ?_ | refine T_exit rfl ?_ | refine TL_lt_f (hk := ?_) | refine TL_nil ?_ | refine TL_move (hk := ?_) | refine TL_assign (hk := ?_))
      refine T_ret2 rfl rfl rfl ⟨A6, n6, c6, rfl, e6, ?_⟩
      rw [hall] at o6
      unfold putB
      rw [hks, hkl]
      exact o6
  · have hN' : isNorm r k = false := by simpa using hN
    rw [hN']
    repeat (first | refine T_seq ?_ | refine T_region ?_ | refine T_cond_true rfl ?_ | refine TL_nil ?_ | refine TL_assign (hk := ?_) | refine TL_not (hk := ?_))
    exact T_ret2 rfl rfl rfl ⟨none, 0, 0, rfl, e1.ext e2, Own.nil _ _ _ _⟩
end Go.Proofs.Ytfplmpfdhiagaaa

namespace Go.Proofs.Ytfplmpfdhiagaaa
open Go.RowKit Go.Proofs.Eng Go.Proofs.Foot Go.Proofs.Codec
set_option linter.unusedSimpArgs false
set_option linter.unusedVariables false
attribute [local irreducible] T TL LV TH TA
theorem locks_eq (r k : List Tx) : locksM (ofM r k) = (setT (r ++ k)).map fun t => (t, decide (t ∈ k)) := by
  unfold locksM
  rw [keys3]
  apply List.map_congr_left
  intro t _
  rw [bits_of]
  by_cases h : t ∈ r <;> by_cases g : t ∈ k <;> simp [h, g]
end Go.Proofs.Ytfplmpfdhiagaaa

namespace Go.Proofs.Ytfplmpfdhiagaaa
open Go.RowKit Go.Proofs.Eng Go.Proofs.Codec
set_option linter.unusedSimpArgs false
set_option linter.unusedVariables false
attribute [local irreducible] T TL LV TH TA
set_option maxHeartbeats 1000000

def numV : Except Int (Nat × Nat) → Value
  | .ok (r, k) => .tuple #[.int .u64 (r : Int), .int .i64 (k : Int), .int .i64 0]
  | .error e => .tuple #[.int .u64 0, .int .i64 0, .int .i64 e]
end Go.Proofs.Ytfplmpfdhiagaaa

namespace Go.Proofs.Ytfplmpfdhiagaaa
open Go.RowKit Go.Proofs.Eng Go.Proofs.Foot Go.Proofs.Codec
set_option linter.unusedSimpArgs false
set_option linter.unusedVariables false
attribute [local irreducible] T TL LV TH TA
theorem Rd.ne {w : World} {A : Option Addr} {n s : Nat} {xs : List Value} (h : Rd w A n s xs) (hn : 0 < n) : A ≠ none := by
  obtain ⟨b, off, rfl, _⟩ := h.2 hn
  exact fun h => by cases h
theorem lv_len (l : List (Tx × Bool)) : (lv l).length = l.length * 2 := by
  induction l with
  | nil => rfl
  | cons p l ih => simp [lv] at ih ⊢; omega
theorem lv_get (l : List (Tx × Bool)) (i : Nat) (hi : i < l.length) : (lv l)[Int.toNat (i : Int) * 2 + 0]? = some (.string (ofL (l.getD i ([], false)).1)) ∧ (lv l)[Int.toNat (i : Int) * 2 + 1]? = some (.bool (l.getD i ([], false)).2) := by
  have e : Int.toNat (i : Int) = i := by omega
  rw [e]
  induction l generalizing i with
  | nil => simp at hi
  | cons p l ih =>
    cases i with
    | zero => simp [lv]
    | succ i =>
      have := ih i (by simpa using hi) (by omega)
      have e2 : lv (p :: l) = [Value.string (ofL p.1), Value.bool p.2] ++ lv l := by simp [lv]
      rw [e2, List.getElem?_append_right (by simp; omega), List.getElem?_append_right (by simp; omega)]
      simp only [List.length_cons, List.length_nil, List.getD_cons_succ]
      rw [show (i + 1) * 2 + 0 - (0 + 1 + 1) = i * 2 + 0 by omega, show (i + 1) * 2 + 1 - (0 + 1 + 1) = i * 2 + 1 by omega]
      exact this
end Go.Proofs.Ytfplmpfdhiagaaa

/- Which footprint stands at the front of bytes. -/
namespace Go.Proofs.Foot
open Go.Proofs.Eng Go.Proofs.Codec
set_option linter.unusedSimpArgs false
set_option linter.unusedVariables false
structure GS where
  s : RS
  last : Tx
  rd : List Tx
  wr : List Tx
def gText (g : GS) : Tx × RS := g.s.take ([] : List UInt8) (tText 32)
def gKey (g : GS) : RS := if validT (gText g).1 = true then (gText g).2 else (gText g).2.fail 30
def gRise (g : GS) : RS := if (gText g).1 ≤ g.last then (gKey g).fail 31 else gKey g
def gUse (g : GS) : Nat × RS := (gRise g).take (0 : Nat) tByte
def gEnd (g : GS) : RS := if (gUse g).1 < 1 ∨ 3 < (gUse g).1 then (gUse g).2.fail 31 else (gUse g).2
def gStep (g : GS) : GS := ⟨gEnd g, (gText g).1, if (gUse g).1 &&& 1 = 0 then g.rd else g.rd ++ [(gText g).1], if (gUse g).1 &&& 2 = 0 then g.wr else g.wr ++ [(gText g).1]⟩
def gIter : Nat → GS → GS
  | 0, g => g
  | n + 1, g => gStep (gIter n g)
def gInit (b : List UInt8) : Nat × RS := (RS.mk b 0 0 0 0).take (0 : Nat) (tLim 64 6)
def gAll (b : List UInt8) : GS := gIter (gInit b).1 ⟨(gInit b).2, [], [], []⟩
def getF (b : List UInt8) : ((List Tx × List Tx) × Nat) × Int :=
  if (gAll b).s.err = 0 then ((((gAll b).rd, (gAll b).wr), b.length - (gAll b).s.rest), 0) else ((([], []), 0), (gAll b).s.err)
theorem tLim_le {most e : Int} {l : List UInt8} {n k : Nat} (h : tLim most e l = .ok (n, k)) : (n : Int) ≤ most := by
  unfold tLim at h
  split at h
  · split at h
    · cases h
    · cases h; omega
  · cases h
theorem tText_le {most : Int} {l v : List UInt8} {k : Nat} (h : tText most l = .ok (v, k)) : (v.length : Int) ≤ most := by
  unfold tText at h
  split at h
  · rename_i n j hq
    have := tLim_le hq
    split at h
    · cases h
    · cases h
      rw [List.length_take]
      omega
  · cases h
theorem gText_le (g : GS) : (gText g).1.length ≤ 32 := by
  unfold gText RS.take
  split
  · cases h : tText 32 (g.s.b.drop g.s.pos) with
    | ok p => obtain ⟨v, k⟩ := p; have := tText_le h; simp only; omega
    | error e => simp
  · simp
theorem gUse_lt (g : GS) : (gUse g).1 < 256 := by
  unfold gUse RS.take
  split
  · cases h : tByte ((gRise g).b.drop (gRise g).pos) with
    | ok p =>
      obtain ⟨v, k⟩ := p
      unfold tByte at h
      split at h
      · cases h
      · rename_i c _ _
        cases h
        exact UInt8.toNat_lt c
    | error e => simp
  · simp
theorem gInit_le (b : List UInt8) : (gInit b).1 ≤ 64 := by
  unfold gInit RS.take
  simp only [if_true]
  cases h : tLim 64 6 (List.drop 0 b) with
  | ok p => obtain ⟨v, k⟩ := p; have := tLim_le h; simp only; omega
  | error e => simp
end Go.Proofs.Foot

namespace Go.Proofs.Ytfplmpfdhiagaaa
open Go.RowKit Go.Proofs.Eng Go.Proofs.Foot Go.Proofs.Codec
set_option linter.unusedSimpArgs false
set_option linter.unusedVariables false
attribute [local irreducible] T TL LV TH TA
theorem off_none (S : List Nat) : Off none S := fun _ h => by cases h
theorem Count_s (b : Nat) (s : RS) (A : Option Addr) (n c : Nat) (w : World) (h : Rdr w 107 b s A n c) :
    Ret Try.prog 63 [ptr b, .int .i64 64] w (fun v w' => v = .int .i64 (((s.take (0 : Nat) (tLim 64 6)).1 : Nat) : Int) ∧ Mod [b] w w' ∧ Rdr w' 107 b (s.take (0 : Nat) (tLim 64 6)).2 A n c) :=
  Count_c b s A n c 64 (by decide) w h
theorem Text_s (b : Nat) (s : RS) (A : Option Addr) (n c : Nat) (w : World) (h : Rdr w 107 b s A n c) :
    Ret Try.prog 64 [ptr b, .int .i64 32] w (fun v w' => v = .string (ofL (s.take ([] : List UInt8) (tText 32)).1) ∧ Mod [b] w w' ∧ Rdr w' 107 b (s.take ([] : List UInt8) (tText 32)).2 A n c) :=
  Text_c b s A n c 32 (by decide) w h
theorem Byte_s (b : Nat) (s : RS) (A : Option Addr) (n c : Nat) (w : World) (h : Rdr w 107 b s A n c) :
    Ret Try.prog 66 [ptr b] w (fun v w' => v = .int .u8 (((s.take (0 : Nat) tByte).1 : Nat) : Int) ∧ Mod [b] w w' ∧ Rdr w' 107 b (s.take (0 : Nat) tByte).2 A n c) :=
  Byte_c b s A n c w h
/-- A list that grows by one text or stays. -/
def more (l : List Tx) (t : Tx) (z : Nat) : List Tx := if z = 0 then l else l ++ [t]
/-- What stays while a footprint is read. -/
structure GInv (tR : TypeId) (w w5 w' : World) (bR b6 : Nat) (s : RS) (A : Option Addr) (n c : Nat) (x y : Option Addr × Nat × Nat) (rd wr : List Tx) : Prop where
  ext : Ext w w'
  mod : Eng.Mod [bR, b6] w5 w'
  rdr : Rdr w' tR bR s A n c
  blk : Blk w' b6 28 [.slice x.1 x.2.1 x.2.2, .slice y.1 y.2.1 y.2.2]
  own1 : Own w' w5.heap.size 9 1 x.1 x.2.1 x.2.2 (sv rd)
  own2 : Own w' w5.heap.size 9 1 y.1 y.2.1 y.2.2 (sv wr)
  off1 : Off y.1 (blkL x.1)
  off2 : Off x.1 (blkL y.1)
  hR : w.heap.size ≤ bR
  hR5 : bR < w5.heap.size
  h6 : w.heap.size ≤ b6
  h65 : b6 < w5.heap.size
  hne : bR ≠ b6
  hA : Lo A w5.heap.size
  hA6 : Off A [b6]
theorem GInv.step {tR : TypeId} {w w5 w' w2 : World} {bR b6 : Nat} {s s' : RS} {A : Option Addr} {n c : Nat} {x y : Option Addr × Nat × Nat} {rd wr : List Tx} (I : GInv tR w w5 w' bR b6 s A n c x y rd wr) (m : Eng.Mod [bR] w' w2) (r : Rdr w2 tR bR s' A n c) : GInv tR w w5 w2 bR b6 s' A n c x y rd wr := by
  have z := I.mod.size
  have h1 := I.hR
  have h2 := I.hR5
  have h3 := I.hne
  exact ⟨Mod.step I.ext m (by simp; omega), Mod.step I.mod m (by simp), r, I.blk.mod m (by simp; omega), I.own1.mod m (Off.hi I.own1.hi (by omega)), I.own2.mod m (Off.hi I.own2.hi (by omega)), I.off1, I.off2, I.hR, I.hR5, I.h6, I.h65, I.hne, I.hA, I.hA6⟩
theorem GInv.ext2 {tR : TypeId} {w w5 w' w2 : World} {bR b6 : Nat} {s : RS} {A : Option Addr} {n c : Nat} {x y : Option Addr × Nat × Nat} {rd wr : List Tx} (I : GInv tR w w5 w' bR b6 s A n c x y rd wr) (m : Ext w' w2) : GInv tR w w5 w2 bR b6 s A n c x y rd wr :=
  ⟨I.ext.ext m, I.mod.ext m, I.rdr.ext m, I.blk.ext m, I.own1.ext m, I.own2.ext m, I.off1, I.off2, I.hR, I.hR5, I.h6, I.h65, I.hne, I.hA, I.hA6⟩
theorem Get_c (B : Option Addr) (nb cb : Nat) (b : List UInt8) (w : World) (hb : Rd w B nb 1 (bv b)) (hnb : nb ≤ 200000) :
    Ret Try.prog 18 [.slice B nb cb] w (fun v w' => ∃ u, v = .tuple #[u, .int .i64 ((getF b).1.2 : Nat), .int .i64 (getF b).2] ∧ Ext w w' ∧ FootO w' w.heap.size 9 u (getF b).1.1) := by
  have hlb := hb.1
  simp only [bv_length, Nat.mul_one] at hlb
  refine ret_T (n := 75) Try.func18 rfl rfl ?_
  repeat (first | refine T_seq ?_ | refine T_region ?_)
  refine TL_alloc TE (hk := ?_); intro b2 w2 e2 h2 h2' k2
  have z2 := e2.size
  repeat (first | refine T_seq ?_ | refine T_region ?_ | refine TL_nil ?_ | refine TL_move (hk := ?_) | refine TL_assign (hk := ?_))
  refine TL_call TE (hc := NewReader_c B nb cb b _ (hb.be e2) (by omega)) (hk := ?_)
  rintro _ w3 ⟨bR, A3, n3, c3, rfl, e3, hbR, hi3, lo3, rr⟩
  have z3 := e3.size
  have lR := rr.blk.lt
  have hn3 : b.length = n3 := rr.len
  repeat (first | refine T_seq ?_ | refine T_region ?_ | refine TL_nil ?_ | refine TL_assign (hk := ?_))
  refine TL_alloc TE (hk := ?_); intro b6 w4 e4 h6 h6' k6
  have k24 := (k2.be e3).be e4
  have rr4 := rr.ext e4
  have z4 := e4.size
  have e04 := (e2.ext e3).ext e4
  clear k2 rr
  repeat (first | refine T_seq ?_ | refine T_region ?_ | refine TL_nil ?_ | refine TL_move (hk := ?_) | refine TL_assign (hk := ?_))
  refine TL_call TE (hc := Count_s bR _ A3 n3 c3 w4 rr4) (hk := ?_)
  rintro _ w5 ⟨rfl, m5, rr5⟩
  obtain ⟨c0, hc0⟩ : ∃ c0, (RS.mk b 0 0 0 0).take (0 : Nat) (tLim 64 6) = c0 := ⟨_, rfl⟩
  have hgi : gInit b = c0 := hc0
  have hg64 := gInit_le b
  rw [hgi] at hg64
  rw [hc0] at rr5
  rw [hc0]
  have z5 := m5.size
  have e05 : Ext w w5 := Mod.step e04 m5 (by simp; omega)
  have k25 := k24.bm m5 (by simp; omega)
  have k65 := k6.bm m5 (by simp; omega)
  have hA3 : Lo A3 w5.heap.size := Lo.mono lo3 (by omega)
  obtain ⟨n0, hn0⟩ : ∃ n0, c0.1 = n0 := ⟨_, rfl⟩
  rw [hn0] at hg64 ⊢
  clear k24 k6 rr4 hb
  repeat (first | refine T_block ?_ | refine TL_nil ?_ | refine TL_move (hk := ?_))
  have I0 : GInv 107 w w5 w5 bR b6 c0.2 A3 n3 c3 (none, 0, 0) (none, 0, 0) [] [] := ⟨e05, Mod.refl _ _, rr5, k65, Own.nil _ _ _ _, Own.nil _ _ _ _, off_none _, off_none _, by omega, by omega, by omega, by omega, by omega, hA3, Off.lo lo3 (by omega)⟩
  have h25 : b2 < w3.heap.size := by omega
  refine T_loop (ι := (GS × Nat) × (Option Addr × Nat × Nat) × (Option Addr × Nat × Nat)) (fun i => [(16, .int .i64 (i.1.2 : Int)), (15, .int .i64 (n0 : Int)), (7, .string (ofL i.1.1.last)), (6, .pointer (some ⟨b6, 0, none⟩)), (5, ptr bR), (2, .pointer (some ⟨b2, 0, none⟩)), (0, .slice B nb cb)])
    (fun i w' => i.1.2 ≤ n0 ∧ i.1.1 = gIter i.1.2 ⟨c0.2, [], [], []⟩ ∧ GInv 107 w w5 w' bR b6 i.1.1.s A3 n3 c3 i.2.1 i.2.2 i.1.1.rd i.1.1.wr ∧ i.2.1.2.1 ≤ i.1.2 ∧ i.2.2.2.1 ≤ i.1.2) (fun i => n0 - i.1.2) ((⟨c0.2, [], [], []⟩, 0), (none, 0, 0), (none, 0, 0)) (.c rfl (.c rfl (.c rfl (.c rfl (.c rfl (.c rfl (.c rfl (.n))))))))
    ⟨Nat.zero_le _, rfl, I0, Nat.zero_le _, Nat.zero_le _⟩ ?_
  rintro ⟨⟨g, i⟩, x, y⟩ w6 ⟨hi, hg, I6, hnr, hnw⟩ ih
  simp only at hi hg I6 hnr hnw ih ⊢
  by_cases hlt : i < n0
  · repeat (first | refine T_seq ?_ | refine T_region ?_ | refine T_cond_true rfl ?_ | refine T_block ?_ | refine T_skip ?_ | refine TL_lt_t (hk := ?_) | refine TL_nil ?_ | refine TL_move (hk := ?_))
    refine TL_call TE (hc := Text_s bR _ A3 n3 c3 w6 I6.rdr) (hk := ?_)
    rintro _ w7 ⟨rfl, m7, rr7⟩
    have I7 := I6.step m7 rr7
    obtain ⟨p, hp⟩ : ∃ p, g.s.take ([] : List UInt8) (tText 32) = p := ⟨_, rfl⟩
    have hgt : gText g = p := hp
    have hp32 := gText_le g
    have hu256 := gUse_lt g
    rw [hgt] at hp32
    rw [hp] at I7
    rw [hp]
    repeat (first | refine T_seq ?_ | refine T_region ?_ | refine TL_nil ?_ | refine TL_move (hk := ?_) | refine TL_assign (hk := ?_))
    refine TL_call TE (hc := Valid_c p.1 (by omega) _) (hk := ?_)
    rintro _ _ ⟨rfl, rfl⟩
    repeat (first | refine TL_nil ?_ | refine TL_not (hk := ?_))
    refine T_join (ι := Unit) (fun _ => [(8, .string (ofL p.1)), (16, .int .i64 (i : Int)), (15, .int .i64 (n0 : Int)), (7, .string (ofL g.last)), (6, .pointer (some ⟨b6, 0, none⟩)), (5, ptr bR), (2, .pointer (some ⟨b2, 0, none⟩)), (0, .slice B nb cb)])
      (fun _ w' => GInv 107 w w5 w' bR b6 (gKey g) A3 n3 c3 x y g.rd g.wr) (fun kk join => ?_) ?_
    · by_cases hv : validT p.1 = true
      · rw [hv]
        repeat (first | refine T_cond_false rfl ?_ | refine T_skip ?_)
        have hgk : gKey g = p.2 := by unfold gKey; rw [hgt, if_pos hv]
        exact T.sub (join () _ (by rw [hgk]; exact I7)) (.c rfl (.c rfl (.c rfl (.c rfl (.c rfl (.c rfl (.c rfl (.c rfl (.n)))))))))
      · have hv' : validT p.1 = false := by simpa using hv
        rw [hv']
        repeat (first | refine T_region ?_ | refine T_cond_true rfl ?_ | refine TL_move (hk := ?_))
        refine TL_call TE (hc := Fail_c bR _ A3 n3 c3 30 _ I7.rdr) (hk := ?_)
        rintro _ w8 ⟨_, m8, rr8⟩
        repeat (refine TL_nil ?_)
        have hgk : gKey g = p.2.fail 30 := by unfold gKey; rw [hgt, if_neg hv]
        exact T.sub (join () _ (by rw [hgk]; exact I7.step m8 rr8)) (.c rfl (.c rfl (.c rfl (.c rfl (.c rfl (.c rfl (.c rfl (.c rfl (.n)))))))))
    rintro _ w8 I8
    clear I7 I6 rr7
    repeat (first | refine T_seq ?_ | refine T_region ?_ | refine TL_move (hk := ?_))
    refine TL_sle_d (hk := ?_)
    repeat (refine TL_nil ?_)
    refine T_join (ι := Unit) (fun _ => [(8, .string (ofL p.1)), (16, .int .i64 (i : Int)), (15, .int .i64 (n0 : Int)), (6, .pointer (some ⟨b6, 0, none⟩)), (5, ptr bR), (2, .pointer (some ⟨b2, 0, none⟩)), (0, .slice B nb cb)])
      (fun _ w' => GInv 107 w w5 w' bR b6 (gRise g) A3 n3 c3 x y g.rd g.wr) (fun kk join => ?_) ?_
    · by_cases hv : p.1 ≤ g.last
      · rw [decide_eq_true hv]
        repeat (first | refine T_region ?_ | refine T_cond_true rfl ?_ | refine TL_move (hk := ?_))
        refine TL_call TE (hc := Fail_c bR _ A3 n3 c3 31 _ I8.rdr) (hk := ?_)
        rintro _ w9 ⟨_, m9, rr9⟩
        repeat (refine TL_nil ?_)
        have hgk : gRise g = (gKey g).fail 31 := by unfold gRise; rw [hgt, if_pos hv]
        exact T.sub (join () _ (by rw [hgk]; exact I8.step m9 rr9)) (.c rfl (.c rfl (.c rfl (.c rfl (.c rfl (.c rfl (.c rfl (.n))))))))
      · rw [decide_eq_false hv]
        repeat (first | refine T_cond_false rfl ?_ | refine T_skip ?_)
        have hgk : gRise g = gKey g := by unfold gRise; rw [hgt, if_neg hv]
        exact T.sub (join () _ (by rw [hgk]; exact I8)) (.c rfl (.c rfl (.c rfl (.c rfl (.c rfl (.c rfl (.c rfl (.n))))))))
    rintro _ w9 I9
    clear I8
    repeat (first | refine T_seq ?_ | refine T_region ?_ | refine TL_nil ?_ | refine TL_move (hk := ?_) | refine TL_assign (hk := ?_))
    refine TL_call TE (hc := Byte_s bR _ A3 n3 c3 w9 I9.rdr) (hk := ?_)
    rintro _ w10 ⟨rfl, m10, rr10⟩
    have I10 := I9.step m10 rr10
    obtain ⟨q, hq⟩ : ∃ q, (gRise g).take (0 : Nat) tByte = q := ⟨_, rfl⟩
    have hgu : gUse g = q := hq
    rw [hgu] at hu256
    rw [hq] at I10
    rw [hq]
    obtain ⟨u, hu⟩ : ∃ u, q.1 = u := ⟨_, rfl⟩
    rw [hu] at hu256 ⊢
    clear I9 rr10
    repeat (first | refine TL_nil ?_ | refine TL_assign (hk := ?_))
    refine T_seq ?_
    refine T_join (ι := Unit) (fun _ => [(9, .int .u8 (u : Int)), (8, .string (ofL p.1)), (7, .string (ofL p.1)), (16, .int .i64 (i : Int)), (15, .int .i64 (n0 : Int)), (6, .pointer (some ⟨b6, 0, none⟩)), (5, ptr bR), (2, .pointer (some ⟨b2, 0, none⟩)), (0, .slice B nb cb)])
      (fun _ w' => GInv 107 w w5 w' bR b6 (gEnd g) A3 n3 c3 x y g.rd g.wr) (fun kk join => ?_) ?_
    · by_cases hv : u < 1
      · repeat (first | refine T_seq ?_ | refine T_region ?_ | refine T_cond_true rfl ?_ | refine TL_lt_t (hk := ?_) | refine TL_nil ?_ | refine TL_move (hk := ?_) | refine TL_no (hk := ?_) | refine TL_pick_t (hk := ?_))
        refine TL_call TE (hc := Fail_c bR _ A3 n3 c3 31 _ I10.rdr) (hk := ?_)
        rintro _ w11 ⟨_, m11, rr11⟩
        repeat (refine TL_nil ?_)
        have hgk : gEnd g = q.2.fail 31 := by unfold gEnd; rw [hgu, hu, if_pos (.inl hv)]
        exact T.sub (join () _ (by rw [hgk]; exact I10.step m11 rr11)) (.c rfl (.c rfl (.c rfl (.c rfl (.c rfl (.c rfl (.c rfl (.c rfl (.c rfl (.n))))))))))
      · by_cases hv3 : 3 < u
        · repeat (first | refine T_seq ?_ | refine T_region ?_ | refine T_cond_true rfl ?_ | refine TL_lt_f (hk := ?_) | refine TL_gt_t (hk := ?_) | refine TL_nil ?_ | refine TL_move (hk := ?_) | refine TL_yes (hk := ?_) | refine TL_pick_f (hk := ?_))
          refine TL_call TE (hc := Fail_c bR _ A3 n3 c3 31 _ I10.rdr) (hk := ?_)
          rintro _ w11 ⟨_, m11, rr11⟩
          repeat (refine TL_nil ?_)
          have hgk : gEnd g = q.2.fail 31 := by unfold gEnd; rw [hgu, hu, if_pos (.inr hv3)]
          exact T.sub (join () _ (by rw [hgk]; exact I10.step m11 rr11)) (.c rfl (.c rfl (.c rfl (.c rfl (.c rfl (.c rfl (.c rfl (.c rfl (.c rfl (.n))))))))))
        · repeat (first | refine T_seq ?_ | refine T_region ?_ | refine T_cond_false rfl ?_ | refine T_skip ?_ | refine TL_lt_f (hk := ?_) | refine TL_gt_f (hk := ?_) | refine TL_nil ?_ | refine TL_move (hk := ?_) | refine TL_yes (hk := ?_) | refine TL_pick_f (hk := ?_))
          have hgk : gEnd g = q.2 := by unfold gEnd; rw [hgu, hu, if_neg (by omega)]
          exact T.sub (join () _ (by rw [hgk]; exact I10)) (.c rfl (.c rfl (.c rfl (.c rfl (.c rfl (.c rfl (.c rfl (.c rfl (.c rfl (.n))))))))))
    rintro _ w11 I11
    clear I10
    repeat (first | refine T_seq ?_ | refine T_region ?_ | refine TL_move (hk := ?_))
    refine TL_and (hk := ?_); intro _
    refine TL_ne_d (hk := ?_)
    repeat (refine TL_nil ?_)
    refine T_join (ι := Option Addr × Nat × Nat) (fun _ => [(9, .int .u8 (u : Int)), (8, .string (ofL p.1)), (7, .string (ofL p.1)), (16, .int .i64 (i : Int)), (15, .int .i64 (n0 : Int)), (6, .pointer (some ⟨b6, 0, none⟩)), (5, ptr bR), (2, .pointer (some ⟨b2, 0, none⟩)), (0, .slice B nb cb)])
      (fun x' w' => GInv 107 w w5 w' bR b6 (gEnd g) A3 n3 c3 x' y (if u &&& 1 = 0 then g.rd else g.rd ++ [p.1]) g.wr ∧ x'.2.1 ≤ i + 1) (fun kk join => ?_) ?_
    · by_cases hv : u &&& 1 = 0
      · rw [if_pos hv] at join
        rw [show decide (((u &&& 1 : Nat) : Int) = 0) = true from decide_eq_true (by omega)]
        repeat (first | refine T_cond_false rfl ?_ | refine T_skip ?_)
        exact T.sub (join x _ ⟨I11, by omega⟩) (.c rfl (.c rfl (.c rfl (.c rfl (.c rfl (.c rfl (.c rfl (.c rfl (.c rfl (.n))))))))))
      · rw [if_neg hv] at join
        rw [show decide (((u &&& 1 : Nat) : Int) = 0) = false from decide_eq_false (by omega)]
        have k6 := I11.blk
        have o1 := I11.own1
        repeat (first | refine T_region ?_ | refine T_cond_true rfl ?_ | refine TL_move (hk := ?_) | refine TL_load TE (hk := ?_) | refine TL_fieldAddr TE (hk := ?_))
        refine TL_buildSlice TE (hk := ?_); intro b12 w12 e12 h12 h12' k12
        replace k12 : Blk w12 b12 9 [.string (ofL p.1)] := k12
        have z12 := e12.size
        have o12 := o1.be e12
        have z11 := I11.mod.size
        refine TL_append TE (hk := ?_); intro A13 c13 w13 o13 m13 n13
        have J12 := I11.ext2 e12
        have h65 := I11.h65
        have hRR := I11.hR5
        have hne := I11.hne
        have h6 := I11.h6
        have z13 := m13.size
        have k13 := J12.blk.mod m13 (hi_not o12.hi h65)
        have rr13 := J12.rdr.mod m13 (hi_not o12.hi hRR) (Off.lohi J12.hA o12.hi)
        have own2 := J12.own2.mod m13 J12.off1
        have e13 : Ext w w13 := J12.ext.own m13 (Hi.mono o12.hi (by have := e05.size; omega))
        have mm13 : Eng.Mod [bR, b6] w5 w13 := Mod.step J12.mod m13 (fun z hz => .inr (by
          cases hx : x.1 with
          | none => rw [hx] at hz; simp [blkL] at hz
          | some ad => rw [hx] at hz; simp [blkL] at hz; rw [hz]; exact o12.hi ad hx))
        have noff : Off y.1 (blkL A13) := by
          intro ad had hm
          cases A13 with
          | none => simp [blkL] at hm
          | some a2 =>
            simp [blkL] at hm
            rcases n13 a2 rfl with h | h
            · exact J12.off1 ad had (by rw [h]; simp [blkL, hm])
            · have := J12.own2.lo ad had; omega
        have noff2 : Off A13 (blkL y.1) := by
          intro ad had hm
          cases hy : y.1 with
          | none => rw [hy] at hm; simp [blkL] at hm
          | some a2 =>
            rw [hy] at hm
            simp [blkL] at hm
            rcases n13 ad had with h | h
            · exact J12.off2 ad h (by rw [hy]; simp [blkL, hm])
            · have := J12.own2.lo a2 hy; omega
        clear k6 o1 k12 I11
        repeat (refine TL_fieldAddr TE (hk := ?_))
        refine TL_store TE (hk := ?_); intro w14 m14 z14 k14
        repeat (refine TL_nil ?_)
        refine T.sub (join (A13, x.2.1 + 1, c13) _ ⟨⟨Mod.step e13 m14 (by simp; omega), Mod.step mm13 m14 (by simp), rr13.mod m14 (by simp; omega) J12.hA6, k14, ?_, own2.mod m14 (Off.hi own2.hi (by omega)), noff, noff2, J12.hR, J12.hR5, J12.h6, J12.h65, J12.hne, J12.hA, J12.hA6⟩, by show x.2.1 + 1 ≤ i + 1; omega⟩) (.c rfl (.c rfl (.c rfl (.c rfl (.c rfl (.c rfl (.c rfl (.c rfl (.c rfl (.n))))))))))
        rw [sv_append]
        exact o13.mod m14 (Off.hi o13.hi (by omega))
    rintro x' w12 ⟨I12, hnx⟩
    obtain ⟨rd', hrd⟩ : ∃ rd', (if u &&& 1 = 0 then g.rd else g.rd ++ [p.1]) = rd' := ⟨_, rfl⟩
    rw [hrd] at I12
    repeat (first | refine T_seq ?_ | refine T_region ?_ | refine TL_move (hk := ?_))
    refine TL_and (hk := ?_); intro _
    refine TL_ne_d (hk := ?_)
    repeat (refine TL_nil ?_)
    refine T_join (ι := Option Addr × Nat × Nat) (fun _ => [(9, .int .u8 (u : Int)), (8, .string (ofL p.1)), (7, .string (ofL p.1)), (16, .int .i64 (i : Int)), (15, .int .i64 (n0 : Int)), (6, .pointer (some ⟨b6, 0, none⟩)), (5, ptr bR), (2, .pointer (some ⟨b2, 0, none⟩)), (0, .slice B nb cb)])
      (fun y' w' => GInv 107 w w5 w' bR b6 (gEnd g) A3 n3 c3 x' y' rd' (if u &&& 2 = 0 then g.wr else g.wr ++ [p.1]) ∧ y'.2.1 ≤ i + 1) (fun kk join => ?_) ?_
    · by_cases hv : u &&& 2 = 0
      · rw [if_pos hv] at join
        rw [show decide (((u &&& 2 : Nat) : Int) = 0) = true from decide_eq_true (by omega)]
        repeat (first | refine T_cond_false rfl ?_ | refine T_skip ?_)
        exact T.sub (join y _ ⟨I12, by omega⟩) (.c rfl (.c rfl (.c rfl (.c rfl (.c rfl (.c rfl (.c rfl (.c rfl (.c rfl (.n))))))))))
      · rw [if_neg hv] at join
        rw [show decide (((u &&& 2 : Nat) : Int) = 0) = false from decide_eq_false (by omega)]
        have k6 := I12.blk
        have o1 := I12.own2
        repeat (first | refine T_region ?_ | refine T_cond_true rfl ?_ | refine TL_move (hk := ?_) | refine TL_load TE (hk := ?_) | refine TL_fieldAddr TE (hk := ?_))
        refine TL_buildSlice TE (hk := ?_); intro b12 w12 e12 h12 h12' k12
        replace k12 : Blk w12 b12 9 [.string (ofL p.1)] := k12
        have z12 := e12.size
        have o12 := o1.be e12
        have z11 := I12.mod.size
        refine TL_append TE (hk := ?_); intro A13 c13 w13 o13 m13 n13
        have J12 := I12.ext2 e12
        have h65 := I12.h65
        have hRR := I12.hR5
        have hne := I12.hne
        have h6 := I12.h6
        have z13 := m13.size
        have k13 := J12.blk.mod m13 (hi_not o12.hi h65)
        have rr13 := J12.rdr.mod m13 (hi_not o12.hi hRR) (Off.lohi J12.hA o12.hi)
        have own1 := J12.own1.mod m13 J12.off2
        have e13 : Ext w w13 := J12.ext.own m13 (Hi.mono o12.hi (by have := e05.size; omega))
        have mm13 : Eng.Mod [bR, b6] w5 w13 := Mod.step J12.mod m13 (fun z hz => .inr (by
          cases hx : y.1 with
          | none => rw [hx] at hz; simp [blkL] at hz
          | some ad => rw [hx] at hz; simp [blkL] at hz; rw [hz]; exact o12.hi ad hx))
        have noff : Off x'.1 (blkL A13) := by
          intro ad had hm
          cases A13 with
          | none => simp [blkL] at hm
          | some a2 =>
            simp [blkL] at hm
            rcases n13 a2 rfl with h | h
            · exact J12.off2 ad had (by rw [h]; simp [blkL, hm])
            · have := J12.own1.lo ad had; omega
        have noff2 : Off A13 (blkL x'.1) := by
          intro ad had hm
          cases hy : x'.1 with
          | none => rw [hy] at hm; simp [blkL] at hm
          | some a2 =>
            rw [hy] at hm
            simp [blkL] at hm
            rcases n13 ad had with h | h
            · exact J12.off1 ad h (by rw [hy]; simp [blkL, hm])
            · have := J12.own1.lo a2 hy; omega
        clear k6 o1 k12 I12
        repeat (refine TL_fieldAddr TE (hk := ?_))
        refine TL_store TE (hk := ?_); intro w14 m14 z14 k14
        repeat (refine TL_nil ?_)
        refine T.sub (join (A13, y.2.1 + 1, c13) _ ⟨⟨Mod.step e13 m14 (by simp; omega), Mod.step mm13 m14 (by simp), rr13.mod m14 (by simp; omega) J12.hA6, k14, own1.mod m14 (Off.hi own1.hi (by omega)), ?_, noff2, noff, J12.hR, J12.hR5, J12.h6, J12.h65, J12.hne, J12.hA, J12.hA6⟩, by show y.2.1 + 1 ≤ i + 1; omega⟩) (.c rfl (.c rfl (.c rfl (.c rfl (.c rfl (.c rfl (.c rfl (.c rfl (.c rfl (.n))))))))))
        rw [sv_append]
        exact o13.mod m14 (Off.hi o13.hi (by omega))
    rintro y' w13 ⟨I13, hny⟩
    obtain ⟨wr', hwr⟩ : ∃ wr', (if u &&& 2 = 0 then g.wr else g.wr ++ [p.1]) = wr' := ⟨_, rfl⟩
    rw [hwr] at I13
    have hstep : gStep g = ⟨gEnd g, p.1, rd', wr'⟩ := by unfold gStep; rw [hgt, hgu, hu, hrd, hwr]
    repeat (first | refine T_region ?_ | refine T_inBlock ?_ | refine TL_add (hk := ?_) | refine TL_nil ?_ | refine TL_move (hk := ?_))
    refine ih ((⟨gEnd g, p.1, rd', wr'⟩, i + 1), x', y') _ _ (by simp only; omega) ⟨by show i + 1 ≤ n0; omega, ?_, I13, hnx, hny⟩ (.c rfl (.c rfl (.c rfl (.c rfl (.c rfl (.c rfl (.c rfl (.n))))))))
    show _ = gStep (gIter i _)
    rw [← hg, hstep]
  · have hin : i = n0 := by omega
    have hall : gAll b = g := by unfold gAll; rw [hgi, hn0, ← hin]; exact hg.symm
    repeat (first | refine T_seq ?_ | refine T_region ?_ | refine T_cond_false rfl ?_ | refine T_exit rfl ?_ | refine TL_lt_f (hk := ?_) | refine TL_nil ?_ | refine TL_move (hk := ?_))
    refine TL_call TE (hc := Why_c bR _ A3 n3 c3 w6 I6.rdr) (hk := ?_)
    rintro _ w7 ⟨rfl, e7⟩
    have I7 := I6.ext2 e7
    have k27 : Blk w7 b2 28 [.slice none 0 0, .slice none 0 0] := (k25.mod I6.mod (by simp; omega)).ext e7
    have hrest : g.s.rest ≤ nb := by
      have h1 := I7.rdr.len
      unfold RS.rest
      split <;> omega
    clear I6
    by_cases he : g.s.err = 0
    · have hf : getF b = (((g.rd, g.wr), b.length - g.s.rest), 0) := by unfold getF; rw [hall, if_pos he]
      rw [hf]
      repeat (first | refine T_seq ?_ | refine T_region ?_ | refine T_cond_false rfl ?_ | refine T_skip ?_ | refine TL_ne_f (hk := ?_) | refine TL_nil ?_ | refine TL_move (hk := ?_) | refine TL_assign (hk := ?_) | refine TL_extract (hk := ?_))
      refine T_region_any TE.mixed [b2] ?_; intro w8 e8 z8
      have I8 := I7.ext2 e8
      have k28 := k27.ext e8
      have h62 : b6 ∉ [b2] := by simp; omega
      refine TA_take 0 rfl (by kernel_rfl) (by kernel_rfl) (by kernel_rfl) ?_
      refine TLP_loadb TE (cs := [.slice x.1 x.2.1 x.2.2, .slice y.1 y.2.1 y.2.2]) (o := 0) (hb := I8.blk) (hD := h62) (hk := ?_)
      refine TL_nil_p ?_
      (refine TA_take 1 rfl (by kernel_rfl) (by kernel_rfl) (by kernel_rfl) ?_; repeat (first | refine TL_move (hk := ?_) | refine TL_len TE (hk := ?_)); refine TL_nil_p ?_); (refine TA_take 2 rfl (by kernel_rfl) (by kernel_rfl) (by kernel_rfl) ?_; repeat (first | refine TL_move (hk := ?_) | refine TL_len TE (hk := ?_)); refine TL_nil_p ?_); (refine TA_take 3 rfl (by kernel_rfl) (by kernel_rfl) (by kernel_rfl) ?_; repeat (first | refine TL_move (hk := ?_) | refine TL_len TE (hk := ?_)); refine TL_nil_p ?_)
      refine TA_one 4 rfl (by kernel_rfl) (by kernel_rfl) ?_
      refine TL_call TE (hc := Rest_c bR _ A3 n3 c3 w8 I8.rdr) (hq := fun v w' h => h.2.un) (hk := ?_)
      rintro _ w9 ⟨rfl, e9⟩
      have I9 := I8.ext2 e9
      have k29 := k28.ext e9
      refine TL_nil_p ?_
      (refine TA_take 5 rfl (by kernel_rfl) (by kernel_rfl) (by kernel_rfl) ?_; repeat (refine TL_sub (hk := ?_)); refine TL_nil_p ?_)
      refine TA_one 6 rfl (by kernel_rfl) (by kernel_rfl) ?_
      refine TL_storea TE (hf := rfl) (hq := fun w' h _ => e9.un.trans h) (hk := ?_); intro w10 m10 z10 k10
      refine TL_nil_p ?_
      (refine TA_take 7 rfl (by kernel_rfl) (by kernel_rfl) (by kernel_rfl) ?_; repeat (refine TL_assign (hk := ?_)); refine TL_nil_p ?_); (refine TA_take 8 rfl (by kernel_rfl) (by kernel_rfl) (by kernel_rfl) ?_; repeat (refine TL_assign (hk := ?_)); refine TL_nil_p ?_)
      refine TA_done (by kernel_rfl) ?_
      --
      have hsub : (((nb : Nat) : Int) - ((g.s.rest : Nat) : Int)) = ((b.length - g.s.rest : Nat) : Int) := by omega
      have z6 := I9.mod.size
      refine T_retA3 TE (vs := [.slice x.1 x.2.1 x.2.2, .slice y.1 y.2.1 y.2.2]) (o := 0) rfl rfl rfl rfl rfl rfl k10 rfl (Nat.succ_pos _) ⟨.agg #[.slice x.1 x.2.1 x.2.2, .slice y.1 y.2.1 y.2.2], ?_, Mod.step I9.ext m10 (by simp; omega), x.1, x.2.1, x.2.2, y.1, y.2.1, y.2.2, rfl, ?_, ?_, I9.off1⟩
      · rw [hsub]
      · exact (I9.own1.mod m10 (Off.hi I9.own1.hi (by omega))).weaken (by have := e05.size; omega)
      · exact (I9.own2.mod m10 (Off.hi I9.own2.hi (by omega))).weaken (by have := e05.size; omega)
    · have hf : getF b = ((([], []), 0), g.s.err) := by unfold getF; rw [hall, if_neg he]
      rw [hf]
      repeat (first | refine T_seq ?_ | refine T_region ?_ | refine T_cond_true rfl ?_ | refine TL_ne_t (hk := ?_) | refine TL_nil ?_ | refine TL_move (hk := ?_) | refine TL_assign (hk := ?_) | refine TL_extract (hk := ?_) | refine TL_build TE (hk := ?_))
      refine TL_storea TE (hk := ?_); intro w8 m8 s8 k8
      repeat (first | refine TL_nil ?_ | refine TL_assign (hk := ?_))
      exact T_retA3 TE (vs := [.slice none 0 0, .slice none 0 0]) (o := 0) rfl rfl rfl rfl rfl rfl k8 rfl (Nat.succ_pos _) ⟨.agg #[.slice none 0 0, .slice none 0 0], rfl, Mod.step I7.ext m8 (by simp; omega), FootO.nil _ _ _⟩
end Go.Proofs.Ytfplmpfdhiagaaa

namespace Go.Proofs.Ytfplmpfdhiagaaa
open Go.RowKit Go.Proofs.Eng Go.Proofs.Codec
set_option linter.unusedSimpArgs false
set_option linter.unusedVariables false
attribute [local irreducible] T TL LV TH TA
set_option maxHeartbeats 1000000

end Go.Proofs.Ytfplmpfdhiagaaa

namespace Go.Proofs.Ytfplmpfdhiagaaa
open Go.RowKit Go.Proofs.Eng Go.Proofs.Codec
set_option linter.unusedSimpArgs false
set_option linter.unusedVariables false
attribute [local irreducible] T TL LV TH TA
set_option maxHeartbeats 1000000

end Go.Proofs.Ytfplmpfdhiagaaa

namespace Go.Proofs.Ytfplmpfdhiagaaa
open Go.RowKit Go.Proofs.Eng Go.Proofs.Foot Go.Proofs.Codec
set_option linter.unusedSimpArgs false
set_option linter.unusedVariables false
attribute [local irreducible] T TL LV TH TA
end Go.Proofs.Ytfplmpfdhiagaaa

/- Two structs that are compared. -/
namespace Go.Proofs.Eng
open Go.RowKit
set_option linter.unusedSimpArgs false
set_option linter.unusedVariables false
set_option linter.unusedSectionVars false
section
variable {q : Qm} {P : Program} {fn : Func} {R : Ending → World → Prop} {M : Md} {n : Nat} {st : Slots} {k : List Item} {w : World} {ops rest : List Oper}
  {d : Nat} {ty : TypeId} {ps : String} {af : Array Edge} {X Y : Operand} {t t2 : TypeId} {xs ys : Array Value} {r : Bool}
end
end Go.Proofs.Eng

namespace Go.Proofs.Ytfplmpfdhiagaaa
open Go.RowKit Go.Proofs.Eng Go.Proofs.Foot Go.Proofs.Codec
set_option linter.unusedSimpArgs false
set_option linter.unusedVariables false
attribute [local irreducible] T TL LV TH TA
theorem num_c3 (z : Int) (w : World) : Ret Try.prog 12 [.int .i64 z] w (fun v w' => v = .int .i64 z ∧ w' = w) := by
  refine ret_T (n := 4) Try.func12 rfl rfl ?_
  repeat (first | refine T_seq ?_ | refine T_region ?_ | refine TL_nil ?_ | refine TL_move (hk := ?_) | refine TL_assign (hk := ?_))
  exact T_ret1 rfl rfl ⟨rfl, rfl⟩
theorem long_c3 (A B : Option Addr) (n c m d : Nat) (w : World) (hn : n ≤ 9223372036854775807) (hm : m ≤ 9223372036854775807) (hnm : n + m ≤ 9223372036854775807) : Ret Try.prog 14 [.agg #[.slice A n c, .slice B m d]] w (fun v w' => v = .bool (decide (300 < n + m)) ∧ Ext w w') := by
  refine ret_T (n := 11) Try.func14 rfl rfl ?_
  repeat (first | refine T_seq ?_ | refine T_region ?_)
  refine TL_box (hk := ?_); intro b1 w1 e1 h1 h1' k1
  by_cases h : 300 < n + m
  · repeat (first | refine T_seq ?_ | refine T_region ?_ | refine TL_add (hk := ?_) | refine TL_gt_t (hk := ?_) | refine TL_nil ?_ | refine TL_assign (hk := ?_) | refine TL_load TE (hk := ?_) | refine TL_fieldAddr TE (hk := ?_) | refine TL_len TE (hk := ?_))
    exact T_ret1 rfl rfl ⟨by rw [decide_eq_true h], e1⟩
  · repeat (first | refine T_seq ?_ | refine T_region ?_ | refine TL_add (hk := ?_) | refine TL_gt_f (hk := ?_) | refine TL_nil ?_ | refine TL_assign (hk := ?_) | refine TL_load TE (hk := ?_) | refine TL_fieldAddr TE (hk := ?_) | refine TL_len TE (hk := ?_))
    exact T_ret1 rfl rfl ⟨by rw [decide_eq_false h], e1⟩
def behind : Tx := [98, 101, 104, 105, 110, 100]
/-- A footprint in lists of its own, with a text more behind each. -/
def GivenO (w : World) (base : Nat) (v : Value) (r k : List Tx) : Prop :=
  ∃ A c B d, v = .agg #[.slice A r.length c, .slice B k.length d] ∧ Own w base 9 1 A (r.length + 1) c (sv (r ++ [behind])) ∧ Own w base 9 1 B (k.length + 1) d (sv (k ++ [behind]))
end Go.Proofs.Ytfplmpfdhiagaaa

namespace Go.Proofs.Ytfplmpfdhiagaaa
open Go.RowKit Go.Proofs.Eng Go.Proofs.Foot Go.Proofs.Codec
set_option linter.unusedSimpArgs false
set_option linter.unusedVariables false
attribute [local irreducible] T TL LV TH TA
end Go.Proofs.Ytfplmpfdhiagaaa

namespace Go.Proofs.Ytfplmpfdhiagaaa
open Go.RowKit Go.Proofs.Eng Go.Proofs.Foot Go.Proofs.Codec
set_option linter.unusedSimpArgs false
set_option linter.unusedVariables false
attribute [local irreducible] T TL LV TH TA
abbrev tA : Tx := [97]
abbrev tB : Tx := [98]
theorem live_norm : normF [tB, tA, tB] [tA] = (([tA, tB], [tA]), 0) := by rw [norm_eq]; decide +kernel
theorem live_is : isNorm [tA, tB] [tA] = true := by
  have : normF [tA, tB] [tA] = (([tA, tB], [tA]), 0) := by rw [norm_eq]; decide +kernel
  unfold isNorm
  rw [this]
  decide
theorem live_put : putB (ofM [tA, tB] [tA]) = [2, 1, 97, 3, 1, 98, 1] := by
  unfold putB
  rw [keys3]
  have : setT ([tA, tB] ++ [tA]) = [tA, tB] := by decide +kernel
  rw [this]
  unfold bodyB entryB
  have h1 : bitsM (ofM [tA, tB] [tA]) tA = 3 := by decide +kernel
  have h2 : bitsM (ofM [tA, tB] [tA]) tB = 1 := by decide +kernel
  simp only [List.map_cons, List.map_nil, h1, h2, List.length_cons, List.length_nil, encU_lt (n := 0 + 1 + 1) (by decide), encU_lt (n := 0 + 1) (by decide)]
  decide
theorem live_get : getF [2, 1, 97, 3, 1, 98, 1] = ((([tA, tB], [tA]), 7), 0) := by decide +kernel
theorem short_of {l : List Tx} (h : (l.all fun x => Nat.ble x.length 32) = true) : Short l := fun i hi => by
  have h1 := List.all_eq_true.1 h (l.getD i []) (getD_mem hi)
  have := Nat.le_of_ble_eq_true h1
  omega
theorem live_c3 (w : World) : Ret Try.prog 13 [] w (fun v w' => v = .bool true ∧ Ext w w') := by
  refine ret_T (n := 74) Try.func13 rfl rfl ?_
  repeat (first | refine T_seq ?_ | refine T_region ?_ | refine TL_nil ?_ | refine TL_assign (hk := ?_))
  refine TL_buildSlice TE (hk := ?_); intro b1 w1 e1 h1 h1' k1
  replace k1 : Blk w1 b1 9 (sv [tB, tA, tB]) := k1
  refine TL_buildSlice TE (hk := ?_); intro b2 w2 e2 h2 h2' k2
  replace k2 : Blk w2 b2 9 (sv [tA]) := k2
  have e02 := e1.ext e2
  repeat (refine TL_build TE (hk := ?_))
  refine TL_call TE (hc := Norm_c (some ⟨b1, 0, none⟩) (some ⟨b2, 0, none⟩) 3 3 1 1 [tB, tA, tB] [tA] w2 (Rd.blk (k1.be e2) rfl) (Rd.blk k2 rfl) (by omega) (by omega) (short_of rfl) (short_of rfl)) (hk := ?_)
  rw [live_norm]
  rintro _ w3 ⟨_, rfl, e3, A, n, c, B, m, d, rfl, oA, oB, off⟩
  have hn : n = 2 := by have := oA.len; simpa using this.symm
  have hm : m = 1 := by have := oB.len; simpa using this.symm
  subst hn hm
  repeat (first | refine TL_move (hk := ?_) | refine TL_extract (hk := ?_))
  refine TL_alloc TE (hk := ?_); intro b4 w4 e4 h4 h4' k4
  --
  refine TL_storea TE (hk := ?_); intro w5 m5 z5 k5
  have z1 := e1.size
  have z2 := e2.size
  have z3 := e3.size
  have z4 := e4.size
  have e05 : Ext w w5 := Mod.step ((e02.ext e3).ext e4) m5 (by simp; omega)
  have oA5 := (oA.be e4).mod m5 (Off.lo oA.lo (by omega))
  have oB5 := (oB.be e4).mod m5 (Off.lo oB.lo (by omega))
  clear oA oB k1 k2 k4
  repeat (first | refine T_seq ?_ | refine T_region ?_ | refine TL_nil ?_ | refine TL_move (hk := ?_) | refine TL_assign (hk := ?_))
  refine TL_call TE (hc := num_c3 0 _) (hk := ?_)
  rintro _ _ ⟨rfl, rfl⟩
  repeat (first | refine TL_ne_f (hk := ?_) | refine TL_move (hk := ?_) | refine TL_yes (hk := ?_))
  refine TL_loadb TE (cs := [.slice A 2 c, .slice B 1 d]) (o := 0) rfl rfl k5 rfl rfl (Nat.succ_pos _) (hk := ?_)
  repeat (refine TL_yes (hk := ?_))
  refine TL_buildSlice TE (hk := ?_); intro b6 w6 e6 h6 h6' k6
  replace k6 : Blk w6 b6 9 (sv [tA, tB]) := k6
  repeat (refine TL_yes (hk := ?_))
  refine TL_buildSlice TE (hk := ?_); intro b7 w7 e7 h7 h7' k7
  replace k7 : Blk w7 b7 9 (sv [tA]) := k7
  have e57 := e6.ext e7
  repeat (first | refine TL_yes (hk := ?_) | refine TL_build TE (hk := ?_))
  refine TL_call TE (hc := Same_c A B (some ⟨b6, 0, none⟩) (some ⟨b7, 0, none⟩) 2 1 2 1 c d 2 1 [tA, tB] [tA] [tA, tB] [tA] w7 (oA5.rd.be e57) (oB5.rd.be e57) (Rd.blk (k6.be e7) rfl) (Rd.blk k7 rfl) (by omega) (by omega) (by omega) (by omega)) (hk := ?_)
  rintro _ w8 ⟨rfl, e8⟩
  have e58 := e57.ext e8
  have k58 := k5.be e58
  have oA8 := oA5.be e58
  have oB8 := oB5.be e58
  have e08 := e05.ext e58
  clear k5 oA5 oB5 k6 k7
  rw [show decide ([tA, tB] = [tA, tB] ∧ [tA] = [tA]) = true by decide]
  repeat (first | refine T_seq ?_ | refine T_region ?_ | refine T_cond_false rfl ?_ | refine T_skip ?_ | refine TL_nil ?_ | refine TL_yes (hk := ?_) | refine TL_pick_f (hk := ?_) | refine TL_not (hk := ?_))
  refine TL_loadb TE (cs := [.slice A 2 c, .slice B 1 d]) (o := 0) rfl rfl k58 rfl rfl (Nat.succ_pos _) (hk := ?_)
  refine TL_call TE (hc := Put_c none A B 0 0 2 c 1 d [] [tA, tB] [tA] w8 (Rd.nil _ _ _) oA8.rd oB8.rd (by omega) (by omega) (by omega) (short_of rfl) (short_of rfl)) (hk := ?_)
  rw [if_pos live_is, if_pos live_is, live_put]
  rintro _ w9 ⟨Q, nq, cq, rfl, e9, oQ⟩
  have hnq : nq = 7 := by have := oQ.len; simpa using this.symm
  subst hnq
  repeat (first | refine T_seq ?_ | refine T_region ?_ | refine TL_nil ?_ | refine TL_move (hk := ?_) | refine TL_assign (hk := ?_) | refine TL_extract (hk := ?_))
  refine TL_call TE (hc := Get_c Q 7 cq [2, 1, 97, 3, 1, 98, 1] w9 oQ.rd (by omega)) (hk := ?_)
  rw [live_get]
  rintro _ w10 ⟨_, rfl, e10, A2, n2, c2, B2, m2, d2, rfl, oA2, oB2, off2⟩
  have hn2 : n2 = 2 := by have := oA2.len; simpa using this.symm
  have hm2 : m2 = 1 := by have := oB2.len; simpa using this.symm
  subst hn2 hm2
  have h77 : ((((([tA, tB], [tA]), 7), 0) : ((List Tx × List Tx) × Nat) × Int).fst.snd : Int) = 7 := rfl
  have e810 := e9.ext e10
  have z8 := e08.size
  have z9 := e9.size
  have z10 := e10.size
  have k510 := k58.be e810
  have oA10 := oA8.be e810
  have oB10 := oB8.be e810
  have e010 := e08.ext e810
  clear k58 oA8 oB8 oQ
  repeat (first | refine TL_move (hk := ?_) | refine TL_extract (hk := ?_))
  refine TL_alloc TE (hk := ?_); intro b11 w11 e11 h11 h11' k11
  --
  refine TL_storea TE (hk := ?_); intro w12 m12 z12 k12
  have z11 := e11.size
  have e1012 : Ext w10 w12 := Mod.step e11 m12 (by simp; omega)
  have oA12 := oA10.be e1012
  have oB12 := oB10.be e1012
  have k512 := k510.be e1012
  have o2A := oA2.be e1012
  have o2B := oB2.be e1012
  clear oA10 oB10 k510 oA2 oB2 k11
  repeat (first | refine T_seq ?_ | refine T_region ?_ | refine TL_nil ?_ | refine TL_move (hk := ?_) | refine TL_assign (hk := ?_))
  refine TL_call TE (hc := num_c3 0 _) (hk := ?_)
  rintro _ _ ⟨rfl, rfl⟩
  repeat (first | refine TL_eq_t (hk := ?_) | refine TL_move (hk := ?_) | refine TL_yes (hk := ?_))
  refine TL_call TE (hc := num_c3 0 _) (hk := ?_)
  rintro _ _ ⟨rfl, rfl⟩
  repeat (first | refine TL_eq_t (hk := ?_) | refine TL_move (hk := ?_) | refine TL_yes (hk := ?_) | refine TL_pick_t (hk := ?_))
  refine TL_loadb TE (cs := [.slice A2 2 c2, .slice B2 1 d2]) (o := 0) rfl rfl k12 rfl rfl (Nat.succ_pos _) (hk := ?_)
  repeat (refine TL_yes (hk := ?_))
  refine TL_loadb TE (cs := [.slice A 2 c, .slice B 1 d]) (o := 0) rfl rfl k512 rfl rfl (Nat.succ_pos _) (hk := ?_)
  repeat (refine TL_yes (hk := ?_))
  refine TL_call TE (hc := Same_c A2 B2 A B 2 1 2 1 c2 d2 c d [tA, tB] [tA] [tA, tB] [tA] _ o2A.rd o2B.rd oA12.rd oB12.rd (by omega) (by omega) (by omega) (by omega)) (hk := ?_)
  rintro _ w13 ⟨rfl, e13⟩
  rw [show decide ([tA, tB] = [tA, tB] ∧ [tA] = [tA]) = true by decide]
  have k513 := k512.be e13
  have oA13 := oA12.be e13
  have oB13 := oB12.be e13
  have e013 := (e010.ext e1012).ext e13
  clear k512 oA12 oB12 o2A o2B k12
  repeat (first | refine TL_move (hk := ?_) | refine TL_yes (hk := ?_) | refine TL_pick_t (hk := ?_))
  refine TL_loadb TE (cs := [.slice A 2 c, .slice B 1 d]) (o := 0) rfl rfl k513 rfl rfl (Nat.succ_pos _) (hk := ?_)
  repeat (refine TL_yes (hk := ?_))
  refine TL_buildSlice TE (hk := ?_); intro b14 w14 e14 h14 h14' k14
  replace k14 : Blk w14 b14 9 (sv [tA]) := k14
  repeat (first | refine TL_yes (hk := ?_) | refine TL_build TE (hk := ?_))
  refine TL_call TE (hc := Clash_c A B (some ⟨b14, 0, none⟩) none 2 1 1 0 c d 1 0 [tA, tB] [tA] [tA] [] _ (oA13.rd.be e14) (oB13.rd.be e14) (Rd.blk k14 rfl) (Rd.nil _ _ _) (by omega) (by omega) (by omega) (by omega)) (hk := ?_)
  rintro _ w15 ⟨rfl, e15⟩
  rw [show (ofM [tA, tB] [tA]).any (clash1 (ofM [tA] [])) = true by decide +kernel]
  have e1315 := e14.ext e15
  have k515 := k513.be e1315
  have oA15 := oA13.be e1315
  have oB15 := oB13.be e1315
  have e015 := e013.ext e1315
  clear k513 oA13 oB13 k14
  repeat (first | refine TL_move (hk := ?_) | refine TL_yes (hk := ?_) | refine TL_pick_t (hk := ?_))
  refine TL_loadb TE (cs := [.slice A 2 c, .slice B 1 d]) (o := 0) rfl rfl k515 rfl rfl (Nat.succ_pos _) (hk := ?_)
  repeat (refine TL_yes (hk := ?_))
  refine TL_buildSlice TE (hk := ?_); intro b16 w16 e16 h16 h16' k16
  replace k16 : Blk w16 b16 9 (sv [tB]) := k16
  repeat (first | refine TL_yes (hk := ?_) | refine TL_build TE (hk := ?_))
  refine TL_call TE (hc := Clash_c A B (some ⟨b16, 0, none⟩) none 2 1 1 0 c d 1 0 [tA, tB] [tA] [tB] [] _ (oA15.rd.be e16) (oB15.rd.be e16) (Rd.blk k16 rfl) (Rd.nil _ _ _) (by omega) (by omega) (by omega) (by omega)) (hk := ?_)
  rintro _ w17 ⟨rfl, e17⟩
  rw [show (ofM [tA, tB] [tA]).any (clash1 (ofM [tB] [])) = false by decide +kernel]
  have e017 := e015.ext (e16.ext e17)
  clear k515 oA15 oB15 k16
  repeat (first | refine TL_move (hk := ?_) | refine TL_yes (hk := ?_) | refine TL_pick_t (hk := ?_) | refine TL_not (hk := ?_))
  refine TL_call TE (hc := Valid_c tA (by decide) _) (hk := ?_)
  rintro _ _ ⟨rfl, rfl⟩
  rw [show validT tA = true by decide]
  repeat (first | refine TL_move (hk := ?_) | refine TL_yes (hk := ?_) | refine TL_pick_t (hk := ?_))
  refine TL_call TE (hc := Hash_c tA (by decide) _) (hk := ?_)
  rintro _ _ ⟨rfl, rfl⟩
  rw [show hashT tA = 12638187200555641996 by decide +kernel]
  repeat (first | refine TL_eq_t (hk := ?_) | refine TL_nil ?_ | refine TL_assign (hk := ?_) | refine TL_yes (hk := ?_) | refine TL_pick_t (hk := ?_))
  exact T_ret1 rfl rfl ⟨rfl, e017⟩
end Go.Proofs.Ytfplmpfdhiagaaa

/- What an argument that reads as data looks like, when each row and text of it lies within the reach. -/
namespace Go.Proofs.Eng
open Go.RowKit Go.WideShapes
set_option linter.unusedSimpArgs false
set_option linter.unusedVariables false
/-- Bytes of a type, at least. -/
def Ty.wt : Ty → Nat
  | .int _ => 1
  | .bool => 1
  | .str => 16
  | .slice _ => 24
  | .unit => 0
  | .cons a b => a.wt + b.wt
  | .struct p => p.wt
  | .array n e => n * e.wt
def FitS (w : World) : Ty → List Value → Prop
  | .int k, cs => ∃ n, cs = [.int k n] ∧ Fits k n
  | .bool, cs => ∃ b, cs = [.bool b]
  | .str, cs => ∃ s : ByteArray, cs = [.string s] ∧ s.size ≤ 140737488351232
  | .slice e, cs => ∃ (A : Option Addr) (n c : Nat) (xs : List (List Value)), cs = [.slice A n c] ∧ n ≤ c ∧ c ≤ maxLen ∧ c * e.wt ≤ 140737488351232 ∧ xs.length = n ∧ Rd w A n e.size xs.flatten ∧ ∀ x ∈ xs, x.length = e.size ∧ FitS w e x
  | .unit, cs => cs = []
  | .cons a b, cs => ∃ x y, cs = x ++ y ∧ x.length = a.size ∧ FitS w a x ∧ FitS w b y
  | .struct p, cs => FitS w p cs
  | .array n e, cs => ∃ xs : List (List Value), cs = xs.flatten ∧ xs.length = n ∧ ∀ x ∈ xs, x.length = e.size ∧ FitS w e x
def tyW {P : Program} (E : Env P) : Ty → Where → Bool
  | .slice e, .at t => match E.und t with
    | some (.slice u) => match E.inf u with
      | some (_, b, _) => Nat.ble e.wt b && tyW E e (.at u)
      | none => false
    | _ => false
  | .array n e, .at t => match E.und t with
    | some (.array m u) => tyW E e (.at u)
    | _ => false
  | .struct p, .at t => match E.fld t with
    | some fl => tyW E p (.from 0 fl)
    | none => false
  | .cons a b, .from off ((o, t) :: fl) => tyW E a (.at t) && tyW E b (.from (off + a.size) fl)
  | _, _ => true
section
variable {H : Type} {enc : TypeId × Value → H} {P : Program} {w : World} {base : Nat} {held : Bool}
theorem weightsAll_mem {e : TypeId} : ∀ {l : List (DataW H)} {d : DataW H}, d ∈ l → ∀ k ∈ d.weights P e, k ∈ DataW.weightsAll P e l
  | a :: l, d, h, k, hk => by
    simp only [DataW.weightsAll, List.mem_append]
    rcases List.mem_cons.1 h with rfl | h
    · exact .inl hk
    · exact .inr (weightsAll_mem h k hk)
theorem fits_of_trod (E : Env P) : ∀ (ty : Ty),
    (∀ t, tyOk E ty (.at t) = true → tyW E ty (.at t) = true → ∀ fuel cs x, DataW.trod enc P w base (fun _ => true) held fuel t cs = some x → (∀ k ∈ x.1.weights P t, k ≤ reachBytes) → FitS w ty cs) ∧
    (∀ off fl, tyOk E ty (.from off fl) = true → tyW E ty (.from off fl) = true → ∀ (cs : List Value) (ys : List (DataW H × List MemPlace)), cs.length = off + ty.size → ys.length = fl.length →
      (∀ (i : Nat) (o : Nat) (t : TypeId) y, fl[i]? = some (o, t) → ys[i]? = some y → ∃ n, DataW.trod enc P w base (fun _ => true) held n t ((cs.drop o).take (P.cellsOf t)) = some y) →
      (∀ k ∈ DataW.weightsEach P (fl.map (·.2)) (ys.map (·.1)), k ≤ reachBytes) → FitS w ty (cs.drop off)) := by
  intro ty
  induction ty with
  | int k =>
    refine ⟨fun t h _ fuel cs x hd _ => ?_, fun _ _ h => by simp [tyOk] at h⟩
    obtain ⟨n, h1, h3, h2⟩ := DataW.trod_int (und_int h) hd
    exact ⟨n, h1, fits_of_wf h2⟩
  | bool =>
    refine ⟨fun t h _ fuel cs x hd _ => ?_, fun _ _ h => by simp [tyOk] at h⟩
    obtain ⟨b, h1, h3⟩ := DataW.trod_bool (und_bool h) hd
    exact ⟨b, h1⟩
  | str =>
    refine ⟨fun t h _ fuel cs x hd hw => ?_, fun _ _ h => by simp [tyOk] at h⟩
    obtain ⟨s, h1, h3, h2⟩ := DataW.trod_string (und_str h) hd
    rw [h3] at hw
    have := hw s.data.toList.length (by simp [DataW.weights])
    refine ⟨s, h1, ?_⟩
    simpa [reachBytes] using this
  | slice e ih =>
    refine ⟨fun t h hW fuel cs x hd hw => ?_, fun _ _ h => by simp [tyOk] at h⟩
    simp only [tyOk] at h
    simp only [tyW] at hW
    split at h
    · rename_i u hu
      simp only [Bool.and_eq_true] at h
      obtain ⟨⟨h1, h2⟩, h3⟩ := h
      rw [hu] at hW
      simp only at hW
      split at hW
      · rename_i s' by_ z' hinf
        simp only [Bool.and_eq_true] at hW
        obtain ⟨hW1, hW2⟩ := hW
        have hW1 := Nat.le_of_ble_eq_true hW1
        have hsz := sizeIs_ok h2
        have h0 : 0 < e.size := by simpa [Nat.blt_eq] using h3
        have hund := E.und_ok _ _ hu
        have hbytes : P.bytesOf u = by_ := by
          obtain ⟨i, i1, i2, i3, i4⟩ := E.inf_ok _ _ _ _ hinf
          simp [Program.bytesOf, i1, i3]
        rcases DataW.trod_slice hund hd with ⟨rfl, hx⟩ | ⟨a, len, cap, elems, rest, n, _, rfl, hx, hb, hl, hm, hlen, hel, hsp, _⟩
        · exact ⟨none, 0, 0, [], rfl, Nat.le_refl _, by decide, by simp, rfl, Rd.nil _ _ _, by simp⟩
        · have hrest := (hsp rfl).1
          rw [hx] at hw
          simp only [DataW.weights, hund, List.length_map, hbytes] at hw
          have hcap := hw _ (List.mem_cons_self ..)
          rw [hlen, hrest] at hcap
          have hcap2 : cap * e.wt ≤ 140737488351232 := by
            have e1 : len + (cap - len) = cap := by omega
            rw [e1] at hcap
            have := Nat.mul_le_mul_left cap hW1
            simp only [reachBytes] at hcap
            omega
          rw [hsz] at hel
          have hget : ∀ i, i < len → ∃ y z, w.cells? base (a.add (i * e.size)) e.size = some y ∧ elems[i]? = some z ∧ DataW.trod enc P w base (fun _ => true) held n u y = some z := fun i hi => by
            have h4 := hel i hi
            rw [List.getElem?_eq_getElem (by omega)] at h4
            cases hc : w.cells? base (a.add (i * e.size)) e.size with
            | none => rw [hc] at h4; simp at h4
            | some y => rw [hc] at h4; simp at h4; exact ⟨y, _, rfl, List.getElem?_eq_getElem (by omega), h4⟩
          have hsome : ∀ (i : Nat) (x : List Value), ((List.range len).map fun i => (w.cells? base (a.add (i * e.size)) e.size).getD [])[i]? = some x → w.cells? base (a.add (i * e.size)) e.size = some x ∧ x.length = e.size ∧ FitS w e x := fun i x hx => by
            have hi : i < len := by have := (List.getElem?_eq_some_iff.1 hx).1; simpa using this
            obtain ⟨y, z, hy, hz, ht⟩ := hget i hi
            rw [List.getElem?_map, List.getElem?_range hi] at hx
            simp only [Option.map_some, hy, Option.getD_some, Option.some.injEq] at hx
            subst hx
            refine ⟨hy, (World.cells?_some hy).2.1, ih.1 u h1 hW2 n y z ht fun k hk => hw k (List.mem_cons_of_mem _ (List.mem_append_left _ ?_))⟩
            exact weightsAll_mem (List.mem_map_of_mem (List.mem_of_getElem? hz)) k hk
          have hmem : ∀ x ∈ (List.range len).map (fun i => (w.cells? base (a.add (i * e.size)) e.size).getD []), x.length = e.size ∧ FitS w e x := fun x hx => by
            obtain ⟨i, hi⟩ := List.getElem?_of_mem hx
            exact (hsome i x hi).2
          exact ⟨some a, len, cap, _, rfl, hl, hm, hcap2, by simp, rows_read h0 (by simp) (fun i x hx => (hsome i x hx).1) (fun x hx => (hmem x hx).1), hmem⟩
      · cases hW
    · cases h
  | unit =>
    refine ⟨fun t h => by simp [tyOk] at h, fun off fl h _ cs ys hl _ _ _ => ?_⟩
    show cs.drop off = []
    exact List.drop_of_length_le (by simp only [Ty.size] at hl; omega)
  | cons a b iha ihb =>
    refine ⟨fun t h => by simp [tyOk] at h, fun off fl h hW cs ys hl hyl hf hw => ?_⟩
    cases fl with
    | nil => simp [tyOk] at h
    | cons p fl =>
      cases ys with
      | nil => simp at hyl
      | cons y ys =>
        obtain ⟨o, t⟩ := p
        simp only [tyOk, Bool.and_eq_true] at h
        simp only [tyW, Bool.and_eq_true] at hW
        obtain ⟨⟨⟨h1, h2⟩, h3⟩, h4⟩ := h
        have ho := Nat.eq_of_beq_eq_true h1
        subst ho
        simp only [Ty.size] at hl
        have hsz := sizeIs_ok h3
        obtain ⟨n, hx⟩ := hf 0 o t y rfl rfl
        rw [hsz] at hx
        simp only [List.map_cons, DataW.weightsEach, List.mem_append] at hw
        refine ⟨(cs.drop o).take a.size, cs.drop (o + a.size), ?_, by simp; omega, iha.1 t h2 hW.1 n _ y hx (fun k hk => hw k (.inl hk)), ?_⟩
        · rw [← List.drop_drop, List.take_append_drop]
        · exact ihb.2 (o + a.size) fl h4 hW.2 cs ys (by omega) (by simpa using hyl) (fun i o' t' y' h' g' => hf (i + 1) o' t' y' (by simpa using h') (by simpa using g')) (fun k hk => hw k (.inr hk))
  | struct p ih =>
    refine ⟨fun t h hW fuel cs x hd hw => ?_, fun _ _ h => by simp [tyOk] at h⟩
    simp only [tyOk] at h
    simp only [tyW] at hW
    split at h
    · rename_i fl hfl
      rw [hfl] at hW
      simp only [Bool.and_eq_true] at h
      obtain ⟨h1, h2⟩ := h
      obtain ⟨fs, hu, hmap⟩ := E.fld_ok _ _ hfl
      obtain ⟨xs, n, _, hx, hl, hxl, hfs⟩ := DataW.trod_struct hu hd
      rw [sizeIs_ok h2] at hl
      have e9 : fl.map (·.2) = fs.toList.map (·.type) := by rw [← hmap]; simp
      have := ih.2 0 fl h1 hW cs xs (by omega) (by rw [hxl, ← hmap]; simp) (fun i o t y h' g' => by
        rw [← hmap, List.getElem?_map] at h'
        cases hf : fs.toList[i]? with
        | none => rw [hf] at h'; cases h'
        | some f =>
          rw [hf] at h'
          cases h'
          have hf' : fs[i]? = some f := by simpa using hf
          have h5 := hfs i f hf'
          rw [g'] at h5
          exact ⟨n, h5⟩) (fun k hk => hw k (by rw [hx]; simp only [DataW.weights, hu]; rw [← e9]; exact hk))
      simpa [FitS] using this
    · cases h
  | array n e ih =>
    refine ⟨fun t h hW fuel cs x hd hw => ?_, fun _ _ h => by simp [tyOk] at h⟩
    simp only [tyOk] at h
    simp only [tyW] at hW
    split at h
    · rename_i m u hu
      rw [hu] at hW
      simp only [Bool.and_eq_true] at h
      obtain ⟨⟨⟨h1, h2⟩, h3⟩, h4⟩ := h
      have hm := Nat.eq_of_beq_eq_true h1
      subst hm
      have hund := E.und_ok _ _ hu
      obtain ⟨xs, q, _, hx, hl, hxl, hel⟩ := DataW.trod_array hund hd
      rw [sizeIs_ok h4] at hl
      rw [sizeIs_ok h3] at hel
      refine ⟨(List.range m).map fun i => (cs.drop (i * e.size)).take e.size, (take_drop_chunks m cs hl).symm, by simp, fun y hy => ?_⟩
      obtain ⟨i, hi, rfl⟩ := List.mem_map.1 hy
      have hi' : i < m := by simpa using hi
      have h5 := hel i hi'
      cases ht : DataW.trod enc P w base (fun _ => true) held q u ((cs.drop (i * e.size)).take e.size) with
      | none => rw [ht] at h5; rw [List.getElem?_eq_getElem (by omega)] at h5; cases h5
      | some z =>
        refine ⟨?_, ih.1 u h2 hW q _ _ ht fun k hk => hw k ?_⟩
        · have : (i + 1) * e.size ≤ m * e.size := Nat.mul_le_mul_right _ hi'
          rw [Nat.succ_mul] at this
          simp; omega
        · rw [hx]
          simp only [DataW.weights, hund]
          rw [ht] at h5
          exact weightsAll_mem (List.mem_map_of_mem (List.mem_of_getElem? h5.symm)) k hk
    · cases h
/-- An argument that reads as data, each row and text of it within the reach. -/
def ReadsS (P : Program) (w : World) (base : Nat) (t : TypeId) (v : Value) : Prop :=
  ∃ (H : Type) (enc : TypeId × Value → H) (d : DataW H) (ps : List MemPlace), DataW.Trod enc P w 0 (fun _ => true) true t v d ps ∧ Value.okWide P w .any base t v ∧ ∀ k ∈ d.weights P t, k ≤ reachBytes
theorem ReadsS.fit {t : TypeId} {v : Value} (E : Env P) (h : ReadsS P w base t v) (ty : Ty) (hok : tyOk E ty (.at t) = true) (hW : tyW E ty (.at t) = true) : FitS w ty v.cells.toList := by
  obtain ⟨H, enc, d, ps, ⟨fuel, hf⟩, _, hm⟩ := h
  exact (fits_of_trod E ty).1 t hok hW fuel _ _ hf hm
theorem ReadsS.slice {t e : TypeId} {v : Value} (E : Env P) (h : ReadsS P w base t v) (ht : E.und t = some (.slice e)) : ∃ A n c, v = .slice A n c := by
  obtain ⟨_, _, _, _, _, hv, _⟩ := h
  exact okWide_slice (E.und_ok _ _ ht) hv
theorem FitS.fit : ∀ {ty : Ty} {cs : List Value}, FitS w ty cs → Fit w ty cs
  | .int _, _, h => h
  | .bool, _, h => h
  | .str, _, ⟨s, h1, h2⟩ => ⟨s, h1, by unfold maxLen; omega⟩
  | .slice _, _, ⟨A, n, c, xs, h1, h2, h3, _, h5, h6, h7⟩ => ⟨A, n, c, xs, h1, h2, h3, h5, h6, fun x hx => ⟨(h7 x hx).1, FitS.fit (h7 x hx).2⟩⟩
  | .unit, _, h => h
  | .cons _ _, _, ⟨x, y, h1, h2, h3, h4⟩ => ⟨x, y, h1, h2, FitS.fit h3, FitS.fit h4⟩
  | .struct p, _, h => FitS.fit (ty := p) h
  | .array _ _, _, ⟨xs, h1, h2, h3⟩ => ⟨xs, h1, h2, fun x hx => ⟨(h3 x hx).1, FitS.fit (h3 x hx).2⟩⟩
theorem FitS.bytes {A : Option Addr} {n c : Nat} (h : FitS w (.slice (.int .u8)) [.slice A n c]) : ∃ l, Rd w A n 1 (bv l) ∧ n ≤ c ∧ c ≤ 140737488351232 := by
  obtain ⟨l, h1, h2, _⟩ := Fit.bytes h.fit
  obtain ⟨A', n', c', xs, hv, _, _, h3, _⟩ := h
  cases hv
  exact ⟨l, h1, h2, by simpa [Ty.wt] using h3⟩
theorem bytes_inS {H : Type} {enc : TypeId × Value → H} (E : Env P) {t : TypeId} {A : Option Addr} {n c : Nat} {d : DataW H} {ps : List MemPlace} (hok : tyOk E (.slice (.int .u8)) (.at t) = true) (hW : tyW E (.slice (.int .u8)) (.at t) = true)
    (h : DataW.Trod enc P w 0 (fun _ => true) true t (.slice A n c) d ps) (hw : ∀ k ∈ d.weights P t, k ≤ reachBytes) : ∃ l, Rd w A n 1 (bv l) ∧ n ≤ c ∧ c ≤ 140737488351232 := by
  obtain ⟨fuel, hf⟩ := h
  exact FitS.bytes ((fits_of_trod E _).1 t hok hW fuel _ _ hf hw)
theorem each_one {H : Type} {P : Program} {t : TypeId} {ts : List TypeId} {d : DataW H} {ds : List (DataW H)} (h : ∀ k ∈ DataW.weightsEach P (t :: ts) (d :: ds), k ≤ reachBytes) : (∀ k ∈ d.weights P t, k ≤ reachBytes) ∧ ∀ k ∈ DataW.weightsEach P ts ds, k ≤ reachBytes :=
  ⟨fun k hk => h k (by simp only [DataW.weightsEach, List.mem_append]; exact .inl hk), fun k hk => h k (by simp only [DataW.weightsEach, List.mem_append]; exact .inr hk)⟩
end
end Go.Proofs.Eng

namespace Go.Proofs.Ytfplmpfdhiagaaa
open Go.RowKit Go.Proofs.Eng Go.Proofs.Foot Go.Proofs.Codec
set_option linter.unusedSimpArgs false
set_option linter.unusedVariables false
attribute [local irreducible] T TL LV TH TA
/-- A slice of texts, out of an argument. -/
theorem texts_in {w : World} {A : Option Addr} {n c : Nat} (h : FitS w (.slice .str) [.slice A n c]) : ∃ l : List Tx, Rd w A n 1 (sv l) ∧ n ≤ c ∧ n ≤ 8796093021952 ∧ ∀ t ∈ l, t.length ≤ 140737488351232 := by
  obtain ⟨A', n', c', xs, hv, h1, h2, h3, h4, h5, h6⟩ := h
  cases hv
  refine ⟨xs.map fun x => match x with | [.string s] => s.data.toList | _ => [], ?_, h1, by simp only [Ty.wt] at h3; omega, fun t ht => ?_⟩
  · have e : sv (xs.map fun x => match x with | [.string s] => s.data.toList | _ => []) = xs.flatten := by
      clear h4 h5
      induction xs with
      | nil => rfl
      | cons x t ih =>
        obtain ⟨_, s, rfl, hs⟩ := h6 x (by simp)
        have := ih (fun y hy => h6 y (by simp [hy]))
        simp only [sv, List.map_cons, List.flatten_cons] at this ⊢
        rw [this]
        rfl
    rw [e]
    exact h5
  · obtain ⟨x, hx, rfl⟩ := List.mem_map.1 ht
    obtain ⟨_, s, rfl, hs⟩ := h6 x hx
    exact hs
abbrev tyFoot : Ty := .struct (.cons (.slice .str) (.cons (.slice .str) .unit))
theorem short_mem {l : List Tx} (h : ∀ t ∈ l, t.length ≤ 140737488351232) : Short l := fun i hi => by
  have := h _ (getD_mem hi); omega
theorem agg_two {v a b : Value} (h : v.cells.toList = [a, b]) : v = .agg #[a, b] := by
  cases v with
  | agg cs =>
    have e : cs.toList = [a, b] := h
    congr
    exact Array.toList_inj.1 (by simpa using e)
  | _ => simp [Value.cells] at h
theorem foot_in {w : World} {base : Nat} {v : Value} (h : ReadsS Try.prog w base 28 v) :
    ∃ A n c B m d r k, v = .agg #[.slice A n c, .slice B m d] ∧ Rd w A n 1 (sv r) ∧ Rd w B m 1 (sv k) ∧ n ≤ 8796093021952 ∧ m ≤ 8796093021952 ∧ Short r ∧ Short k := by
  obtain ⟨x, y, h1, h2, hx, u, z, h3, h4, hy, hz⟩ := h.fit TE tyFoot (by decide +kernel) (by decide +kernel)
  have hz : z = [] := hz
  subst hz
  simp only [List.append_nil] at h3
  subst h3
  obtain ⟨A, n, c, xs, e1, r1⟩ := hx
  obtain ⟨B, m, d, ys, e2, r2⟩ := hy
  subst e1 e2
  obtain ⟨r, hr, _, hn, sr⟩ := texts_in ⟨A, n, c, xs, rfl, r1⟩
  obtain ⟨k, hk, _, hm, sk⟩ := texts_in ⟨B, m, d, ys, rfl, r2⟩
  exact ⟨A, n, c, B, m, d, r, k, agg_two h1, hr, hk, hn, hm, short_mem sr, short_mem sk⟩
end Go.Proofs.Ytfplmpfdhiagaaa

namespace Go.Proofs.Ytfplmpfdhiagaaa
open Go.RowKit Go.Proofs.Eng Go.Proofs.Foot Go.Proofs.Codec
set_option linter.unusedSimpArgs false
set_option linter.unusedVariables false
attribute [local irreducible] T TL LV TH TA
end Go.Proofs.Ytfplmpfdhiagaaa

namespace Go.Proofs.Ytfplmpfdhiagaaa
open Go.RowKit Go.Proofs.Eng Go.Proofs.Foot Go.Proofs.Codec
set_option linter.unusedSimpArgs false
set_option linter.unusedVariables false
attribute [local irreducible] T TL LV TH TA
theorem locksM_len (r k : List Tx) : (locksM (ofM r k)).length = (ofM r k).length := by
  unfold locksM
  rw [List.length_map, of_len3]
end Go.Proofs.Ytfplmpfdhiagaaa

/- Within and Clash, by the map and by the lists. -/
namespace Go.Proofs.Ytfplmpfdhiagaaa
open Go.Proofs.Eng Go.Proofs.Foot
set_option linter.unusedSimpArgs false
set_option linter.unusedVariables false
theorem bits2 (r k : List Tx) (t : Tx) : (bitsM (ofM r k) t &&& 2 ≠ 0) ↔ t ∈ k := by
  rw [bits_of]; by_cases h : t ∈ r <;> by_cases g : t ∈ k <;> simp [h, g]
theorem bits0 (r k : List Tx) (t : Tx) : (bitsM (ofM r k) t ≠ 0) ↔ (t ∈ r ∨ t ∈ k) := by
  rw [bits_of]; by_cases h : t ∈ r <;> by_cases g : t ∈ k <;> simp [h, g]
theorem of_all (r k : List Tx) (Q : Tx → Nat → Prop) : (∀ p ∈ ofM r k, Q p.1 p.2) ↔ ∀ t, (t ∈ r ∨ t ∈ k) → Q t (bitsM (ofM r k) t) := by
  constructor
  · intro h t ht
    obtain ⟨p, hp, rfl⟩ := List.mem_map.1 ((of_keys_mem r k t).2 ht)
    have := h p hp
    rw [bits_mem hp]; exact this
  · intro h p hp
    have := h p.1 ((of_keys_mem r k p.1).1 (List.mem_map_of_mem hp))
    rw [bits_mem hp] at this; exact this
theorem within_iff (y : TM) (t : Tx) (u : Nat) : within1 y (t, u) = true ↔ (bitsM y t ≠ 0 ∧ (u &&& 2 ≠ 0 → bitsM y t &&& 2 ≠ 0)) := by
  unfold within1
  by_cases h : bitsM y t = 0 <;> by_cases g : u &&& 2 = 0 <;> by_cases i : bitsM y t &&& 2 = 0 <;> simp [h, g, i]
theorem clash_iff (y : TM) (t : Tx) (u : Nat) : clash1 y (t, u) = true ↔ (bitsM y t ≠ 0 ∧ (u &&& 2 ≠ 0 ∨ bitsM y t &&& 2 ≠ 0)) := by
  unfold clash1
  have e : (u ||| bitsM y t) &&& 2 = (u &&& 2) ||| (bitsM y t &&& 2) := Nat.and_or_distrib_right ..
  rw [e]
  by_cases h : bitsM y t = 0 <;> by_cases g : u &&& 2 = 0 <;> by_cases i : bitsM y t &&& 2 = 0 <;> simp [h, g, i, Nat.or_eq_zero_iff]
theorem within_eq (r k r2 k2 : List Tx) : (ofM r k).all (within1 (ofM r2 k2)) = (sub r (r2 ++ k2) && sub k k2) := by
  rw [Bool.eq_iff_iff]
  have h1 : (ofM r k).all (within1 (ofM r2 k2)) = true ↔ ∀ t, (t ∈ r ∨ t ∈ k) → ((t ∈ r2 ∨ t ∈ k2) ∧ (t ∈ k → t ∈ k2)) := by
    rw [List.all_eq_true]
    have := of_all r k (fun t u => within1 (ofM r2 k2) (t, u) = true)
    refine Iff.trans this ?_
    simp only [within_iff, bits2, bits0]
  rw [h1]
  simp only [sub, Bool.and_eq_true, List.all_eq_true, decide_eq_true_eq, List.mem_append]
  exact ⟨fun h => ⟨fun t ht => (h t (.inl ht)).1, fun t ht => (h t (.inr ht)).2 ht⟩, fun h t ht => ⟨ht.elim (h.1 t) (fun hk => .inr (h.2 t hk)), h.2 t⟩⟩
theorem clash_prop (r k r2 k2 : List Tx) : (ofM r k).any (clash1 (ofM r2 k2)) = true ↔ ∃ t, (t ∈ r ∨ t ∈ k) ∧ (t ∈ r2 ∨ t ∈ k2) ∧ (t ∈ k ∨ t ∈ k2) := by
  rw [List.any_eq_true]
  constructor
  · rintro ⟨⟨t, u⟩, hp, hc⟩
    rw [clash_iff, bits0, bits2] at hc
    have hu := bits_mem hp
    simp only at hu
    refine ⟨t, (of_keys_mem r k t).1 (List.mem_map_of_mem hp), hc.1, hc.2.imp (fun h => ?_) id⟩
    rw [← hu, bits2] at h
    exact h
  · rintro ⟨t, h1, h2, h3⟩
    obtain ⟨p, hp, rfl⟩ := List.mem_map.1 ((of_keys_mem r k t).2 h1)
    refine ⟨p, hp, ?_⟩
    have : clash1 (ofM r2 k2) (p.1, p.2) = true := by
      rw [clash_iff, bits0, bits2, ← bits_mem hp, bits2]
      exact ⟨h2, h3⟩
    exact this
end Go.Proofs.Ytfplmpfdhiagaaa

namespace Go.Proofs.Ytfplmpfdhiagaaa
open Go.RowKit Go.Proofs.Eng Go.Proofs.Foot Go.Proofs.Codec
set_option linter.unusedSimpArgs false
set_option linter.unusedVariables false
attribute [local irreducible] T TL LV TH TA
end Go.Proofs.Ytfplmpfdhiagaaa

/- What follows of normal forms. -/
namespace Go.Proofs.Ytfplmpfdhiagaaa
open Go.Proofs.Eng Go.Proofs.Foot
set_option linter.unusedSimpArgs false
set_option linter.unusedVariables false
theorem norm_ok {r k ra ka : List Tx} (h : normF r k = ((ra, ka), 0)) : r.all validT = true ∧ k.all validT = true ∧ ra = setT r ∧ ka = setT k ∧ (setT (r ++ k)).length ≤ 64 := by
  rw [norm_eq] at h
  by_cases q : (r.all validT && k.all validT) = true
  · rw [if_pos q] at h
    by_cases g : 64 < (setT (r ++ k)).length
    · rw [if_pos g] at h
      injection h with _ h
      cases h
    · rw [if_neg g] at h
      injection h with h _
      injection h with h1 h2
      simp only [Bool.and_eq_true] at q
      exact ⟨q.1, q.2, h1.symm, h2.symm, by omega⟩
  · rw [if_neg q] at h
    injection h with _ h
    cases h
theorem norm_ok_of {r k : List Tx} (h1 : r.all validT = true) (h2 : k.all validT = true) (h3 : (setT (r ++ k)).length ≤ 64) : normF r k = ((setT r, setT k), 0) := by
  rw [norm_eq, h1, h2, if_pos (by rfl), if_neg (by omega)]
theorem set_congr {a b : List Tx} (h : ∀ t, t ∈ a ↔ t ∈ b) : setT a = setT b := rises_eq (set_rises a) (set_rises b) fun t => by rw [set_mem, set_mem, h]
theorem set_all {l : List Tx} (h : l.all validT = true) : (setT l).all validT = true := by
  rw [List.all_eq_true] at h ⊢
  intro x hx
  exact h x ((set_mem x l).1 hx)
theorem norm_again {r k ra ka : List Tx} (h : normF r k = ((ra, ka), 0)) : normF ra ka = ((ra, ka), 0) := by
  obtain ⟨h1, h2, rfl, rfl, h5⟩ := norm_ok h
  have e : setT (setT r ++ setT k) = setT (r ++ k) := set_congr fun t => by simp [set_mem]
  have := norm_ok_of (set_all h1) (set_all h2) (by rw [e]; exact h5)
  rw [set_set, set_set] at this
  exact this
theorem norm_swap (ra ka rb kb : List Tx) : normF (ra ++ rb) (ka ++ kb) = normF (rb ++ ra) (kb ++ ka) := by
  have e1 : setT (ra ++ rb) = setT (rb ++ ra) := set_congr fun t => by simp [or_comm]
  have e2 : setT (ka ++ kb) = setT (kb ++ ka) := set_congr fun t => by simp [or_comm]
  have e3 : setT ((ra ++ rb) ++ (ka ++ kb)) = setT ((rb ++ ra) ++ (kb ++ ka)) := set_congr fun t => by simp; grind
  rw [norm_eq, norm_eq, e1, e2, e3]
  simp only [List.all_append, Bool.and_comm]
theorem sub_iff (l m : List Tx) : sub l m = true ↔ ∀ t, t ∈ l → t ∈ m := by simp [sub]
theorem within_prop (r k r2 k2 : List Tx) : (ofM r k).all (within1 (ofM r2 k2)) = true ↔ (∀ t, t ∈ r → (t ∈ r2 ∨ t ∈ k2)) ∧ ∀ t, t ∈ k → t ∈ k2 := by
  rw [within_eq, Bool.and_eq_true, sub_iff, sub_iff]
  simp only [List.mem_append]
theorem within_union {ra ka rb kb : List Tx} {u : List Tx × List Tx} (h : normF (ra ++ rb) (ka ++ kb) = (u, 0)) :
    (ofM ra ka).all (within1 (ofM u.1 u.2)) = true ∧ (ofM rb kb).all (within1 (ofM u.1 u.2)) = true := by
  obtain ⟨u1, u2⟩ := u
  obtain ⟨_, _, rfl, rfl, _⟩ := norm_ok h
  refine ⟨(within_prop _ _ _ _).2 ?_, (within_prop _ _ _ _).2 ?_⟩
  · exact ⟨fun t ht => .inl ((set_mem _ _).2 (by simp [ht])), fun t ht => (set_mem _ _).2 (by simp [ht])⟩
  · exact ⟨fun t ht => .inl ((set_mem _ _).2 (by simp [ht])), fun t ht => (set_mem _ _).2 (by simp [ht])⟩
theorem within_trans {ra ka rb kb rc kc : List Tx} (h : (ofM ra ka).all (within1 (ofM rb kb)) = true) (g : (ofM rb kb).all (within1 (ofM rc kc)) = true) : (ofM ra ka).all (within1 (ofM rc kc)) = true := by
  rw [within_prop] at h g ⊢
  exact ⟨fun t ht => (h.1 t ht).elim (g.1 t) (fun q => .inr (g.2 t q)), fun t ht => g.2 t (h.2 t ht)⟩
theorem clash_swap (r k r2 k2 : List Tx) : (ofM r k).any (clash1 (ofM r2 k2)) = (ofM r2 k2).any (clash1 (ofM r k)) := by
  rw [Bool.eq_iff_iff, clash_prop, clash_prop]
  exact ⟨fun ⟨t, a, b, c⟩ => ⟨t, b, a, c.symm⟩, fun ⟨t, a, b, c⟩ => ⟨t, b, a, c.symm⟩⟩
theorem within_clash {ra ka rb kb rc kc : List Tx} (h : (ofM ra ka).all (within1 (ofM rb kb)) = true) (g : (ofM ra ka).any (clash1 (ofM rc kc)) = true) : (ofM rb kb).any (clash1 (ofM rc kc)) = true := by
  rw [within_prop] at h
  rw [clash_prop] at g ⊢
  obtain ⟨t, a, b, c⟩ := g
  exact ⟨t, a.elim (h.1 t) (fun q => .inr (h.2 t q)), b, c.imp (h.2 t) id⟩
def meetL (la lb : List (Tx × Bool)) : Bool := la.any fun x => lb.any fun y => decide (x.1 = y.1) && (x.2 || y.2)
theorem mem_locks (r k : List Tx) (x : Tx × Bool) : x ∈ locksM (ofM r k) ↔ (x.1 ∈ r ∨ x.1 ∈ k) ∧ x.2 = decide (x.1 ∈ k) := by
  rw [locks_eq, List.mem_map]
  constructor
  · rintro ⟨t, ht, rfl⟩
    rw [set_mem, List.mem_append] at ht
    exact ⟨ht, rfl⟩
  · rintro ⟨h, g⟩
    exact ⟨x.1, by rw [set_mem, List.mem_append]; exact h, by rw [← g]⟩
theorem meet_eq (r k r2 k2 : List Tx) : meetL (locksM (ofM r k)) (locksM (ofM r2 k2)) = (ofM r k).any (clash1 (ofM r2 k2)) := by
  rw [Bool.eq_iff_iff, clash_prop]
  unfold meetL
  simp only [List.any_eq_true, Bool.and_eq_true, decide_eq_true_eq, Bool.or_eq_true]
  constructor
  · rintro ⟨x, hx, y, hy, e, b⟩
    rw [mem_locks] at hx hy
    refine ⟨x.1, hx.1, e ▸ hy.1, ?_⟩
    rw [hx.2, hy.2, decide_eq_true_eq, decide_eq_true_eq, ← e] at b
    exact b
  · rintro ⟨t, a, b, c⟩
    refine ⟨(t, decide (t ∈ k)), (mem_locks _ _ _).2 ⟨a, rfl⟩, (t, decide (t ∈ k2)), (mem_locks _ _ _).2 ⟨b, rfl⟩, rfl, ?_⟩
    simpa using c
theorem short_valid {l : List Tx} (h : l.all validT = true) : Short l := fun i hi => by
  have := List.all_eq_true.1 h _ (getD_mem hi)
  simp only [validT, Bool.and_eq_true, decide_eq_true_eq] at this
  omega
end Go.Proofs.Ytfplmpfdhiagaaa

namespace Go.Proofs.Ytfplmpfdhiagaaa
open Go.RowKit Go.Proofs.Eng Go.Proofs.Foot Go.Proofs.Codec
set_option linter.unusedSimpArgs false
set_option linter.unusedVariables false
attribute [local irreducible] T TL LV TH TA
attribute [local irreducible] sv lv in
theorem meet_c3 (A B : Option Addr) (n c m d : Nat) (la lb : List (Tx × Bool)) (w : World) (h : Rd w A n 2 (lv la)) (g : Rd w B m 2 (lv lb)) (hn : n ≤ 100000) (hm : m ≤ 100000) :
    Ret Try.prog 38 [.slice A n c, .slice B m d] w (fun v w' => v = .bool (meetL la lb) ∧ Ext w w') := by
  have hla : la.length = n := by have := h.1; rw [lv_len] at this; omega
  have hlb : lb.length = m := by have := g.1; rw [lv_len] at this; omega
  refine ret_T (n := 44) Try.func38 rfl rfl ?_
  repeat (first | refine T_seq ?_ | refine T_region ?_ | refine T_block ?_ | refine TL_nil ?_ | refine TL_assign (hk := ?_))
  refine T_loop (ι := Nat) (fun i => [(5, .int .i64 (i : Int)), (0, .slice A n c), (1, .slice B m d)]) (fun i w' => Ext w w' ∧ i ≤ n ∧ ∀ j, j < i → ∀ y ∈ lb, (decide ((la.getD j ([], false)).1 = y.1) && ((la.getD j ([], false)).2 || y.2)) = false) (fun i => n - i) 0 (.c rfl (.c rfl (.c rfl (.n)))) ⟨Mod.refl _ _, Nat.zero_le _, fun j h => absurd h (by omega)⟩ ?_
  rintro i w1 ⟨e1, hi, hu⟩ ih
  have h1 := h.be e1
  have g1 := g.be e1
  by_cases hlt : i < n
  · obtain ⟨ha0, ha1⟩ := lv_get la i (by omega)
    obtain ⟨⟨s, x⟩, hs⟩ : ∃ p, la.getD i ([], false) = p := ⟨_, rfl⟩
    rw [hs] at ha0 ha1
    rw [show Int.toNat (i : Int) = i by omega] at ha0 ha1
    simp only at ha0 ha1
    have neA := Rd.ne h1 (by omega)
    repeat (first | refine T_seq ?_ | refine T_region ?_ | refine T_cond_true rfl ?_ | refine T_block ?_ | refine T_skip ?_ | refine TL_lt_t (hk := ?_) | refine TL_nil ?_ | refine TL_move (hk := ?_) | refine TL_assign (hk := ?_) | refine TL_len TE (hk := ?_))
    refine T_loop (ι := Nat) (fun k => [(6, .int .i64 (k : Int)), (5, .int .i64 (i : Int)), (0, .slice A n c), (1, .slice B m d)]) (fun k w' => Ext w1 w' ∧ k ≤ m ∧ ∀ j, j < k → (decide (s = (lb.getD j ([], false)).1) && (x || (lb.getD j ([], false)).2)) = false) (fun k => m - k) 0 (.c rfl (.c rfl (.c rfl (.c rfl (.n))))) ⟨Mod.refl _ _, Nat.zero_le _, fun j h => absurd h (by omega)⟩ ?_
    rintro k w2 ⟨e2, hk, hv⟩ ih2
    have h2 := h1.be e2
    have g2 := g1.be e2
    by_cases hkm : k < m
    · obtain ⟨hb0, hb1⟩ := lv_get lb k (by omega)
      obtain ⟨⟨t, y⟩, ht⟩ : ∃ p, lb.getD k ([], false) = p := ⟨_, rfl⟩
      rw [ht] at hb0 hb1
      rw [show Int.toNat (k : Int) = k by omega] at hb0 hb1
      simp only at hb0 hb1
      have neB := Rd.ne g2 (by omega)
      have hmem : (t, y) ∈ lb := by
        rw [← ht, List.getD_eq_getElem?_getD, List.getElem?_eq_getElem (by omega)]; exact List.getElem_mem _
      have hmema : (s, x) ∈ la := by
        rw [← hs, List.getD_eq_getElem?_getD, List.getElem?_eq_getElem (by omega)]; exact List.getElem_mem _
      by_cases e : s = t
      · have e' : ofL s = ofL t := by rw [e]
        cases x with
        | true =>
          repeat (first | refine T_seq ?_ | refine T_region ?_ | refine T_region_q TE.mixed (by kernel_rfl) ?_ | refine T_cond_true rfl ?_ | refine T_block ?_ | refine T_skip ?_ | refine TL_lt_t (hk := ?_) | refine TL_seq_t (hk := ?_) | refine TL_nil ?_ | refine TL_move (hk := ?_) | refine TL_load_rd TE (hk := ?_) | refine TL_fieldAddr_e TE (hk := ?_) | refine TL_indexAddrn TE (hk := ?_) | refine TL_len TE (hk := ?_) | refine TL_yes (hk := ?_) | refine TL_no (hk := ?_) | refine TL_pick_t (hk := ?_))
          refine TL_nil_q ?_; intro w3 e3
          repeat (first | refine T_seq ?_ | refine T_region ?_ | refine T_cond_true rfl ?_ | refine TL_nil ?_ | refine TL_assign (hk := ?_))
          refine T_ret1 rfl rfl ⟨?_, (e1.ext e2).ext e3⟩
          rw [show meetL la lb = true from List.any_eq_true.2 ⟨_, hmema, List.any_eq_true.2 ⟨_, hmem, by simp [e]⟩⟩]
        | false =>
          cases y with
          | true =>
            repeat (first | refine T_seq ?_ | refine T_region ?_ | refine T_region_q TE.mixed (by kernel_rfl) ?_ | refine T_cond_true rfl ?_ | refine T_block ?_ | refine T_skip ?_ | refine TL_lt_t (hk := ?_) | refine TL_seq_t (hk := ?_) | refine TL_nil ?_ | refine TL_move (hk := ?_) | refine TL_load_rd TE (hk := ?_) | refine TL_fieldAddr_e TE (hk := ?_) | refine TL_indexAddrn TE (hk := ?_) | refine TL_len TE (hk := ?_) | refine TL_yes (hk := ?_) | refine TL_pick_t (hk := ?_) | refine TL_pick_f (hk := ?_))
            refine TL_nil_q ?_; intro w3 e3
            repeat (first | refine T_seq ?_ | refine T_region ?_ | refine T_cond_true rfl ?_ | refine TL_nil ?_ | refine TL_assign (hk := ?_))
            refine T_ret1 rfl rfl ⟨?_, (e1.ext e2).ext e3⟩
            rw [show meetL la lb = true from List.any_eq_true.2 ⟨_, hmema, List.any_eq_true.2 ⟨_, hmem, by simp [e]⟩⟩]
          | false =>
            repeat (first | refine T_seq ?_ | refine T_region ?_ | refine T_region_q TE.mixed (by kernel_rfl) ?_ | refine T_cond_true rfl ?_ | refine T_block ?_ | refine T_skip ?_ | refine TL_lt_t (hk := ?_) | refine TL_seq_t (hk := ?_) | refine TL_nil ?_ | refine TL_move (hk := ?_) | refine TL_load_rd TE (hk := ?_) | refine TL_fieldAddr_e TE (hk := ?_) | refine TL_indexAddrn TE (hk := ?_) | refine TL_len TE (hk := ?_) | refine TL_yes (hk := ?_) | refine TL_pick_t (hk := ?_) | refine TL_pick_f (hk := ?_))
            refine TL_nil_q ?_; intro w3 e3
            repeat (first | refine T_region ?_ | refine T_cond_false rfl ?_ | refine T_inBlock ?_ | refine T_skip ?_ | refine TL_add (hk := ?_) | refine TL_nil ?_ | refine TL_move (hk := ?_) | refine TL_assign (hk := ?_))
            exact ih2 (k + 1) _ _ (by omega) ⟨e2.ext e3, by omega, fun j hj => by
              by_cases q : j = k
              · rw [q, ht]; simp
              · exact hv j (by omega)⟩ (.c rfl (.c rfl (.c rfl (.c rfl (.n)))))
      · have e' : ¬ ofL s = ofL t := fun q => e (ofL_inj q)
        repeat (first | refine T_seq ?_ | refine T_region ?_ | refine T_region_q TE.mixed (by kernel_rfl) ?_ | refine T_cond_true rfl ?_ | refine T_block ?_ | refine T_skip ?_ | refine TL_lt_t (hk := ?_) | refine TL_seq_f (hk := ?_) | refine TL_nil ?_ | refine TL_move (hk := ?_) | refine TL_load_rd TE (hk := ?_) | refine TL_fieldAddr_e TE (hk := ?_) | refine TL_indexAddrn TE (hk := ?_) | refine TL_len TE (hk := ?_) | refine TL_no (hk := ?_) | refine TL_pick_f (hk := ?_))
        refine TL_nil_q ?_; intro w3 e3
        repeat (first | refine T_region ?_ | refine T_cond_false rfl ?_ | refine T_inBlock ?_ | refine T_skip ?_ | refine TL_add (hk := ?_) | refine TL_nil ?_ | refine TL_move (hk := ?_) | refine TL_assign (hk := ?_))
        exact ih2 (k + 1) _ _ (by omega) ⟨e2.ext e3, by omega, fun j hj => by
          by_cases q : j = k
          · rw [q, ht]; simp [e]
          · exact hv j (by omega)⟩ (.c rfl (.c rfl (.c rfl (.c rfl (.n)))))
    · repeat (first | refine T_seq ?_ | refine T_region ?_ | refine T_cond_false rfl ?_ | refine T_inBlock ?_ | refine T_exit rfl ?_ | refine TL_add (hk := ?_) | refine TL_lt_f (hk := ?_) | refine TL_nil ?_ | refine TL_move (hk := ?_) | refine TL_assign (hk := ?_) | refine TL_len TE (hk := ?_))
      refine ih (i + 1) _ _ (by omega) ⟨e1.ext e2, by omega, fun j hj y hy => ?_⟩ (.c rfl (.c rfl (.c rfl (.n))))
      by_cases q : j = i
      · rw [q, hs]
        obtain ⟨z, hz, rfl⟩ := List.mem_iff_getElem.1 hy
        have := hv z (by omega)
        rw [List.getD_eq_getElem?_getD, List.getElem?_eq_getElem hz] at this
        exact this
      · exact hu j (by omega) y hy
  · repeat (first | refine T_seq ?_ | refine T_region ?_ | refine T_cond_false rfl ?_ | refine T_exit rfl ?_ | refine TL_lt_f (hk := ?_) | refine TL_nil ?_ | refine TL_move (hk := ?_) | refine TL_assign (hk := ?_) | refine TL_len TE (hk := ?_))
    refine T_ret1 rfl rfl ⟨?_, e1⟩
    have : meetL la lb = false := by
      unfold meetL
      rw [List.any_eq_false]
      intro x hx
      obtain ⟨z, hz, rfl⟩ := List.mem_iff_getElem.1 hx
      rw [Bool.not_eq_true, List.any_eq_false]
      intro y hy
      have := hu z (by omega) y hy
      rw [List.getD_eq_getElem?_getD, List.getElem?_eq_getElem hz] at this
      simpa using this
    rw [this]
end Go.Proofs.Ytfplmpfdhiagaaa

namespace Go.Proofs.Ytfplmpfdhiagaaa
open Go.RowKit Go.Proofs.Eng Go.Proofs.Foot Go.Proofs.Codec
set_option linter.unusedSimpArgs false
set_option linter.unusedVariables false
attribute [local irreducible] T TL LV TH TA
theorem FootSets_c (v0 v1 v2 : Value) (w : World) {base : Nat} (hv0 : ReadsS Try.prog w base 28 v0) (hv1 : ReadsS Try.prog w base 28 v1) (hv2 : ReadsS Try.prog w base 28 v2) :
    Ret Try.prog 8 [v0, v1, v2] w (fun v w' => v = .bool true ∧ Ext w w') := by
  obtain ⟨A, n, cA, B, m, cB, r, k, rfl, hA, hB, hn, hm, sr, sk⟩ := foot_in hv0
  obtain ⟨C, p, cC, D, q, cD, r2, k2, rfl, hC, hD, hp, hq, sr2, sk2⟩ := foot_in hv1
  obtain ⟨I, o, cI, J, s, cJ, r3, k3, rfl, hI, hJ, ho, hs, sr3, sk3⟩ := foot_in hv2
  refine ret_T (n := 164) Try.func8 rfl rfl ?_
  repeat (first | refine T_seq ?_ | refine T_region ?_)
  refine TL_box (hk := ?_); intro b3 w1 e1 h3 h3' k3x
  refine TL_box (hk := ?_); intro b4 w2 e2 h4 h4' k4x
  refine TL_box (hk := ?_); intro b5 w3 e3 h5 h5' k5x
  have z1 := e1.size
  have z2 := e2.size
  have z3 := e3.size
  have e03 := (e1.ext e2).ext e3
  have k33 := (k3x.be e2).be e3
  have k43 := k4x.be e3
  clear k3x k4x
  repeat (first | refine T_seq ?_ | refine T_region ?_ | refine TL_nil ?_ | refine TL_assign (hk := ?_))
  refine TL_loadb TE (cs := [.slice A n cA, .slice B m cB]) (o := 0) rfl rfl k33 rfl rfl (Nat.succ_pos _) (hk := ?_)
  refine TL_call TE (hc := long_c3 A B n cA m cB _ (by omega) (by omega) (by omega)) (hk := ?_)
  rintro _ w4 ⟨rfl, e4⟩
  have e04 := e03.ext e4
  have k34 := k33.be e4
  have k44 := k43.be e4
  have k54 := k5x.be e4
  clear k33 k43 k5x
  by_cases hbig : 300 < n + m
  · rw [decide_eq_true hbig]
    repeat (first | refine T_seq ?_ | refine T_region ?_ | refine T_cond_true rfl ?_ | refine TL_nil ?_ | refine TL_move (hk := ?_) | refine TL_no (hk := ?_) | refine TL_pick_t (hk := ?_))
    refine TL_call TE (hc := live_c3 _) (hk := ?_)
    rintro _ wz ⟨rfl, ez⟩
    repeat (first | refine TL_nil ?_ | refine TL_assign (hk := ?_))
    exact T_ret1 rfl rfl ⟨rfl, e04.ext ez⟩
  rw [decide_eq_false hbig]
  repeat (first | refine TL_move (hk := ?_) | refine TL_yes (hk := ?_))
  refine TL_loadb TE (cs := [.slice C p cC, .slice D q cD]) (o := 0) rfl rfl k44 rfl rfl (Nat.succ_pos _) (hk := ?_)
  repeat (refine TL_yes (hk := ?_))
  refine TL_call TE (hc := long_c3 C D p cC q cD _ (by omega) (by omega) (by omega)) (hk := ?_)
  rintro _ w5 ⟨rfl, e5⟩
  have e05 := e04.ext e5
  have k35 := k34.be e5
  have k45 := k44.be e5
  have k55 := k54.be e5
  clear k34 k44 k54
  by_cases hbig2 : 300 < p + q
  · rw [decide_eq_true hbig2]
    repeat (first | refine T_seq ?_ | refine T_region ?_ | refine T_cond_true rfl ?_ | refine TL_nil ?_ | refine TL_move (hk := ?_) | refine TL_no (hk := ?_) | refine TL_pick_t (hk := ?_) | refine TL_pick_f (hk := ?_))
    refine TL_call TE (hc := live_c3 _) (hk := ?_)
    rintro _ wz ⟨rfl, ez⟩
    repeat (first | refine TL_nil ?_ | refine TL_assign (hk := ?_))
    exact T_ret1 rfl rfl ⟨rfl, e05.ext ez⟩
  rw [decide_eq_false hbig2]
  repeat (first | refine TL_move (hk := ?_) | refine TL_yes (hk := ?_) | refine TL_pick_f (hk := ?_))
  refine TL_loadb TE (cs := [.slice I o cI, .slice J s cJ]) (o := 0) rfl rfl k55 rfl rfl (Nat.succ_pos _) (hk := ?_)
  repeat (refine TL_yes (hk := ?_))
  refine TL_call TE (hc := long_c3 I J o cI s cJ _ (by omega) (by omega) (by omega)) (hk := ?_)
  rintro _ w6 ⟨rfl, e6⟩
  have e06 := e05.ext e6
  have k36 := k35.be e6
  have k46 := k45.be e6
  have k56 := k55.be e6
  clear k35 k45 k55
  by_cases hbig3 : 300 < o + s
  · rw [decide_eq_true hbig3]
    repeat (first | refine T_seq ?_ | refine T_region ?_ | refine T_cond_true rfl ?_ | refine TL_nil ?_ | refine TL_pick_f (hk := ?_))
    refine TL_call TE (hc := live_c3 _) (hk := ?_)
    rintro _ wz ⟨rfl, ez⟩
    repeat (first | refine TL_nil ?_ | refine TL_assign (hk := ?_))
    exact T_ret1 rfl rfl ⟨rfl, e06.ext ez⟩
  rw [decide_eq_false hbig3]
  have hA6 := hA.be e06
  have hB6 := hB.be e06
  have hC6 := hC.be e06
  have hD6 := hD.be e06
  have hI6 := hI.be e06
  have hJ6 := hJ.be e06
  clear hA hB hC hD hI hJ
  have z6 := e06.size
  repeat (first | refine T_seq ?_ | refine T_region ?_ | refine T_cond_false rfl ?_ | refine T_skip ?_ | refine TL_nil ?_ | refine TL_pick_f (hk := ?_))
  refine TL_loadb TE (cs := [.slice A n cA, .slice B m cB]) (o := 0) rfl rfl k36 rfl rfl (Nat.succ_pos _) (hk := ?_)
  refine TL_call TE (hc := Norm_c A B n cA m cB r k _ hA6 hB6 (by omega) (by omega) sr sk) (hk := ?_)
  rintro _ w7 ⟨_, rfl, e7, XA, xn, xc, XB, xm, xd, rfl, oXA, oXB, offX⟩
  have z7 := e7.size
  repeat (first | refine TL_move (hk := ?_) | refine TL_extract (hk := ?_))
  refine TL_alloc TE (hk := ?_); intro b7 w8 e8 h7 h7' k7
  --
  refine TL_storea TE (hk := ?_); intro w9 m9 z9 k79
  have z8 := e8.size
  have e79 : Ext w7 w9 := Mod.step e8 m9 (by simp; omega)
  have e69 := e7.ext e79
  have oXA9 := oXA.be e79
  have oXB9 := oXB.be e79
  have k49 := k46.be e69
  have k59 := k56.be e69
  clear k7 oXA oXB k36 k46 k56
  repeat (first | refine T_seq ?_ | refine T_region ?_ | refine TL_nil ?_ | refine TL_assign (hk := ?_))
  refine TL_loadb TE (cs := [.slice C p cC, .slice D q cD]) (o := 0) rfl rfl k49 rfl rfl (Nat.succ_pos _) (hk := ?_)
  refine TL_call TE (hc := Norm_c C D p cC q cD r2 k2 _ (hC6.be e69) (hD6.be e69) (by omega) (by omega) sr2 sk2) (hk := ?_)
  rintro _ w10 ⟨_, rfl, e10, YA, yn, yc, YB, ym, yd, rfl, oYA, oYB, offY⟩
  have z10 := e10.size
  repeat (first | refine TL_move (hk := ?_) | refine TL_extract (hk := ?_))
  refine TL_alloc TE (hk := ?_); intro b9 w11 e11 h9 h9' k9
  --
  refine TL_storea TE (hk := ?_); intro w12 m12 z12 k912
  have z11 := e11.size
  have e1012 : Ext w10 w12 := Mod.step e11 m12 (by simp; omega)
  have e912 := e10.ext e1012
  have e612 := e69.ext e912
  have oYA12 := oYA.be e1012
  have oYB12 := oYB.be e1012
  have oXA12 := oXA9.be e912
  have oXB12 := oXB9.be e912
  have k712 := k79.be e912
  have k512 := k59.be e912
  clear k9 oYA oYB k49 k59 k79 oXA9 oXB9
  repeat (first | refine T_seq ?_ | refine T_region ?_ | refine TL_nil ?_ | refine TL_assign (hk := ?_))
  refine TL_loadb TE (cs := [.slice I o cI, .slice J s cJ]) (o := 0) rfl rfl k512 rfl rfl (Nat.succ_pos _) (hk := ?_)
  refine TL_call TE (hc := Norm_c I J o cI s cJ r3 k3 _ (hI6.be e612) (hJ6.be e612) (by omega) (by omega) sr3 sk3) (hk := ?_)
  rintro _ w13 ⟨_, rfl, e13, ZA, zn, zc, ZB, zm, zd, rfl, oZA, oZB, offZ⟩
  have z13 := e13.size
  repeat (first | refine TL_move (hk := ?_) | refine TL_extract (hk := ?_))
  refine TL_alloc TE (hk := ?_); intro b11 w14 e14 h11 h11' k11
  --
  refine TL_storea TE (hk := ?_); intro w15 m15 z15 k1115
  have z14 := e14.size
  have e1315 : Ext w13 w15 := Mod.step e14 m15 (by simp; omega)
  have e1215 := e13.ext e1315
  have e615 := e612.ext e1215
  have e015 := e06.ext e615
  have oZA15 := oZA.be e1315
  have oZB15 := oZB.be e1315
  have oYA15 := oYA12.be e1215
  have oYB15 := oYB12.be e1215
  have oXA15 := oXA12.be e1215
  have oXB15 := oXB12.be e1215
  have k715 := k712.be e1215
  have k915 := k912.be e1215
  have lXA := oXA15.len
  have lXB := oXB15.len
  have lYA := oYA15.len
  have lYB := oYB15.len
  have lZA := oZA15.len
  have lZB := oZB15.len
  have hn1 := normF_len r k
  have hn2 := normF_len r2 k2
  have hn3 := normF_len r3 k3
  rw [sv_length] at lXA lXB lYA lYB lZA lZB
  clear k11 oZA oZB k512 k912 k712 oXA12 oXB12 oYA12 oYB12 hA6 hB6 hC6 hD6 hI6 hJ6
  repeat (first | refine T_seq ?_ | refine T_region ?_ | refine TL_nil ?_ | refine TL_move (hk := ?_) | refine TL_assign (hk := ?_))
  refine TL_call TE (hc := num_c3 _ _) (hk := ?_)
  rintro _ _ ⟨rfl, rfl⟩
  by_cases E1 : (normF r k).2 = 0
  case neg =>
    repeat (first | refine T_seq ?_ | refine T_region ?_ | refine T_cond_true rfl ?_ | refine TL_ne_t (hk := ?_) | refine TL_nil ?_ | refine TL_move (hk := ?_) | refine TL_no (hk := ?_) | refine TL_pick_t (hk := ?_))
    refine TL_call TE (hc := live_c3 _) (hk := ?_)
    rintro _ wz ⟨rfl, ez⟩
    repeat (first | refine TL_nil ?_ | refine TL_assign (hk := ?_))
    exact T_ret1 rfl rfl ⟨rfl, e015.ext ez⟩
  repeat (first | refine TL_ne_f (hk := ?_) | refine TL_move (hk := ?_) | refine TL_yes (hk := ?_))
  refine TL_call TE (hc := num_c3 _ _) (hk := ?_)
  rintro _ _ ⟨rfl, rfl⟩
  by_cases E2 : (normF r2 k2).2 = 0
  case neg =>
    repeat (first | refine T_seq ?_ | refine T_region ?_ | refine T_cond_true rfl ?_ | refine TL_ne_t (hk := ?_) | refine TL_nil ?_ | refine TL_move (hk := ?_) | refine TL_yes (hk := ?_) | refine TL_no (hk := ?_) | refine TL_pick_t (hk := ?_) | refine TL_pick_f (hk := ?_))
    refine TL_call TE (hc := live_c3 _) (hk := ?_)
    rintro _ wz ⟨rfl, ez⟩
    repeat (first | refine TL_nil ?_ | refine TL_assign (hk := ?_))
    exact T_ret1 rfl rfl ⟨rfl, e015.ext ez⟩
  repeat (first | refine TL_ne_f (hk := ?_) | refine TL_move (hk := ?_) | refine TL_yes (hk := ?_) | refine TL_pick_f (hk := ?_))
  refine TL_call TE (hc := num_c3 _ _) (hk := ?_)
  rintro _ w15 ⟨rfl, rfl⟩
  by_cases E3 : (normF r3 k3).2 = 0
  case neg =>
    repeat (first | refine T_seq ?_ | refine T_region ?_ | refine T_cond_true rfl ?_ | refine TL_ne_t (hk := ?_) | refine TL_nil ?_ | refine TL_yes (hk := ?_) | refine TL_pick_f (hk := ?_))
    refine TL_call TE (hc := live_c3 _) (hk := ?_)
    rintro _ wz ⟨rfl, ez⟩
    repeat (first | refine TL_nil ?_ | refine TL_assign (hk := ?_))
    exact T_ret1 rfl rfl ⟨rfl, e015.ext ez⟩
  obtain ⟨⟨⟨ra, ka⟩, x1⟩, hf⟩ : ∃ u, normF r k = u := ⟨_, rfl⟩
  obtain ⟨⟨⟨rb, kb⟩, x2⟩, hg⟩ : ∃ u, normF r2 k2 = u := ⟨_, rfl⟩
  obtain ⟨⟨⟨rc, kc⟩, x3⟩, hh⟩ : ∃ u, normF r3 k3 = u := ⟨_, rfl⟩
  simp only [hf] at E1 lXA lXB oXA15 oXB15 hn1
  simp only [hg] at E2 lYA lYB oYA15 oYB15 hn2
  simp only [hh] at E3 lZA lZB oZA15 oZB15 hn3
  subst E1 E2 E3
  have va := norm_ok hf
  have vb := norm_ok hg
  have vc := norm_ok hh
  have sra : Short ra := short_valid (by rw [va.2.2.1]; exact set_all va.1)
  have ska : Short ka := short_valid (by rw [va.2.2.2.1]; exact set_all va.2.1)
  have srb : Short rb := short_valid (by rw [vb.2.2.1]; exact set_all vb.1)
  have skb : Short kb := short_valid (by rw [vb.2.2.2.1]; exact set_all vb.2.1)
  have hag := norm_again hf
  rw [hf, hg, hh]
  repeat (first | refine T_seq ?_ | refine T_region ?_ | refine T_cond_false rfl ?_ | refine T_skip ?_ | refine TL_ne_f (hk := ?_) | refine TL_nil ?_ | refine TL_yes (hk := ?_) | refine TL_pick_f (hk := ?_))
  refine TL_loadb TE (cs := [.slice XA xn xc, .slice XB xm xd]) (o := 0) rfl rfl k715 rfl rfl (Nat.succ_pos _) (hk := ?_)
  refine TL_call TE (hc := Norm_c XA XB xn xc xm xd ra ka _ oXA15.rd oXB15.rd (by omega) (by omega) sra ska) (hk := ?_)
  rw [hag]
  rintro _ w16 ⟨_, rfl, e16, NA, nn, nc, NB, nm, nd, rfl, oNA, oNB, offN⟩
  have z16 := e16.size
  repeat (first | refine TL_move (hk := ?_) | refine TL_extract (hk := ?_))
  refine TL_alloc TE (hk := ?_); intro b13 w17 e17 h13 h13' k13
  --
  refine TL_storea TE (hk := ?_); intro w18 m18 z18 k1318
  have z17 := e17.size
  have e1618 : Ext w16 w18 := Mod.step e17 m18 (by simp; omega)
  have e1518 := e16.ext e1618
  have oNA18 := oNA.be e1618
  have oNB18 := oNB.be e1618
  have k718 := k715.be e1518
  have k918 := k915.be e1518
  clear k13 oNA oNB
  repeat (first | refine T_seq ?_ | refine T_region ?_ | refine TL_nil ?_ | refine TL_assign (hk := ?_))
  refine TL_loadb TE (cs := [.slice XA xn xc, .slice XB xm xd]) (o := 0) rfl rfl k718 rfl rfl (Nat.succ_pos _) (hk := ?_)
  refine TL_loadb TE (cs := [.slice YA yn yc, .slice YB ym yd]) (o := 0) rfl rfl k918 rfl rfl (Nat.succ_pos _) (hk := ?_)
  refine TL_call TE (hc := Union_c XA XB YA YB xn xm yn ym xc xd yc yd ra ka rb kb _ (oXA15.be e1518).rd (oXB15.be e1518).rd (oYA15.be e1518).rd (oYB15.be e1518).rd (by omega) (by omega) (by omega) (by omega) sra ska srb skb) (hk := ?_)
  rintro _ w19 ⟨_, rfl, e19, UA, un, uc, UB, um, ud, rfl, oUA, oUB, offU⟩
  have z19 := e19.size
  repeat (first | refine TL_move (hk := ?_) | refine TL_extract (hk := ?_))
  refine TL_alloc TE (hk := ?_); intro b15 w20 e20 h15 h15' k15
  --
  refine TL_storea TE (hk := ?_); intro w21 m21 z21 k1521
  have z20 := e20.size
  have e1921 : Ext w19 w21 := Mod.step e20 m21 (by simp; omega)
  have e1821 := e19.ext e1921
  have e1521 := e1518.ext e1821
  have oUA21 := oUA.be e1921
  have oUB21 := oUB.be e1921
  have k721 := k715.be e1521
  have k921 := k915.be e1521
  clear k15 oUA oUB k718 k918
  repeat (first | refine T_seq ?_ | refine T_region ?_ | refine TL_nil ?_ | refine TL_assign (hk := ?_))
  refine TL_loadb TE (cs := [.slice YA yn yc, .slice YB ym yd]) (o := 0) rfl rfl k921 rfl rfl (Nat.succ_pos _) (hk := ?_)
  refine TL_loadb TE (cs := [.slice XA xn xc, .slice XB xm xd]) (o := 0) rfl rfl k721 rfl rfl (Nat.succ_pos _) (hk := ?_)
  refine TL_call TE (hc := Union_c YA YB XA XB yn ym xn xm yc yd xc xd rb kb ra ka _ (oYA15.be e1521).rd (oYB15.be e1521).rd (oXA15.be e1521).rd (oXB15.be e1521).rd (by omega) (by omega) (by omega) (by omega) srb skb sra ska) (hk := ?_)
  rw [← norm_swap ra ka rb kb]
  rintro _ w22 ⟨_, rfl, e22, VA, vn, vc', VB, vm, vd, rfl, oVA, oVB, offV⟩
  have z22 := e22.size
  repeat (first | refine TL_move (hk := ?_) | refine TL_extract (hk := ?_))
  refine TL_alloc TE (hk := ?_); intro b17 w23 e23 h17 h17' k17
  --
  refine TL_storea TE (hk := ?_); intro w24 m24 z24 k1724
  have z23 := e23.size
  have e2224 : Ext w22 w24 := Mod.step e23 m24 (by simp; omega)
  have e2124 := e22.ext e2224
  have e1524 := e1521.ext e2124
  have e024 := e015.ext e1524
  have k724 := k715.be e1524
  have k924 := k915.be e1524
  have k1124 := k1115.be e1524
  have k1324 := k1318.be (e1821.ext e2124)
  have k1524 := k1521.be e2124
  have oXA := oXA15.be e1524
  have oXB := oXB15.be e1524
  have oYA := oYA15.be e1524
  have oYB := oYB15.be e1524
  have oZA := oZA15.be e1524
  have oZB := oZB15.be e1524
  have oNA := oNA18.be (e1821.ext e2124)
  have oNB := oNB18.be (e1821.ext e2124)
  have oUA := oUA21.be e2124
  have oUB := oUB21.be e2124
  have oVA := oVA.be e2224
  have oVB := oVB.be e2224
  obtain ⟨⟨⟨ru, ku⟩, xu⟩, hu⟩ : ∃ u, normF (ra ++ rb) (ka ++ kb) = u := ⟨_, rfl⟩
  have hn4 := normF_len (ra ++ rb) (ka ++ kb)
  simp only [hu] at oUA oUB oVA oVB hn4
  have lNA := oNA.len
  have lNB := oNB.len
  have lUA := oUA.len
  have lUB := oUB.len
  have lVA := oVA.len
  have lVB := oVB.len
  simp only [sv_length] at lNA lNB lUA lUB lVA lVB
  rw [hu]
  clear k17 oXA15 oXB15 oYA15 oYB15 oZA15 oZB15 oNA18 oNB18 oUA21 oUB21 k715 k915 k1115 k1318 k1521 k721 k921
  repeat (first | refine T_seq ?_ | refine T_region ?_ | refine TL_nil ?_ | refine TL_move (hk := ?_) | refine TL_assign (hk := ?_))
  refine TL_call TE (hc := num_c3 _ _) (hk := ?_)
  rintro _ _ ⟨rfl, rfl⟩
  repeat (first | refine TL_ne_f (hk := ?_) | refine TL_move (hk := ?_) | refine TL_yes (hk := ?_))
  refine TL_loadb TE (cs := [.slice NA nn nc, .slice NB nm nd]) (o := 0) rfl rfl k1324 rfl rfl (Nat.succ_pos _) (hk := ?_)
  repeat (refine TL_yes (hk := ?_))
  refine TL_loadb TE (cs := [.slice XA xn xc, .slice XB xm xd]) (o := 0) rfl rfl k724 rfl rfl (Nat.succ_pos _) (hk := ?_)
  repeat (refine TL_yes (hk := ?_))
  refine TL_call TE (hc := Same_c NA NB XA XB nn nm xn xm nc nd xc xd ra ka ra ka _ oNA.rd oNB.rd oXA.rd oXB.rd (by omega) (by omega) (by omega) (by omega)) (hk := ?_)
  rintro _ w25 ⟨rfl, e25⟩
  rw [show decide (ra = ra ∧ ka = ka) = true by simp]
  have k1525 := k1524.be e25
  have k1725 := k1724.be e25
  have k725 := k724.be e25
  have k925 := k924.be e25
  have k1125 := k1124.be e25
  clear k1324 k1524 k1724 k724 k924 k1124
  repeat (first | refine TL_move (hk := ?_) | refine TL_yes (hk := ?_) | refine TL_pick_f (hk := ?_) | refine TL_not (hk := ?_))
  refine TL_call TE (hc := num_c3 _ _) (hk := ?_)
  rintro _ _ ⟨rfl, rfl⟩
  repeat (first | refine TL_move (hk := ?_) | refine TL_yes (hk := ?_))
  refine TL_call TE (hc := num_c3 _ _) (hk := ?_)
  rintro _ w25 ⟨rfl, rfl⟩
  repeat (first | refine TL_ne_f (hk := ?_) | refine TL_move (hk := ?_) | refine TL_yes (hk := ?_) | refine TL_pick_f (hk := ?_))
  refine TL_loadb TE (cs := [.slice UA un uc, .slice UB um ud]) (o := 0) rfl rfl k1525 rfl rfl (Nat.succ_pos _) (hk := ?_)
  repeat (refine TL_yes (hk := ?_))
  refine TL_loadb TE (cs := [.slice VA vn vc', .slice VB vm vd]) (o := 0) rfl rfl k1725 rfl rfl (Nat.succ_pos _) (hk := ?_)
  repeat (refine TL_yes (hk := ?_))
  refine TL_call TE (hc := Same_c UA UB VA VB un um vn vm uc ud vc' vd ru ku ru ku _ (oUA.be e25).rd (oUB.be e25).rd (oVA.be e25).rd (oVB.be e25).rd (by omega) (by omega) (by omega) (by omega)) (hk := ?_)
  rintro _ w26 ⟨rfl, e26⟩
  rw [show decide (ru = ru ∧ ku = ku) = true by simp]
  have e2426 := e25.ext e26
  have k1526 := k1525.be e26
  have k726 := k725.be e26
  have k926 := k925.be e26
  have k1126 := k1125.be e26
  clear k1525 k1725 k725 k925 k1125 oNA oNB oVA oVB
  have oXA26 := oXA.be e2426
  have oXB26 := oXB.be e2426
  have oYA26 := oYA.be e2426
  have oYB26 := oYB.be e2426
  have oZA26 := oZA.be e2426
  have oZB26 := oZB.be e2426
  have oUA26 := oUA.be e2426
  have oUB26 := oUB.be e2426
  have e026 := e024.ext e2426
  clear oXA oXB oYA oYB oZA oZB oUA oUB
  repeat (first | refine T_cond_false rfl ?_ | refine T_skip ?_ | refine TL_nil ?_ | refine TL_yes (hk := ?_) | refine TL_pick_f (hk := ?_) | refine TL_not (hk := ?_))
  refine T_seq ?_
  refine T_join (ι := Unit) (fun _ => [(7, .pointer (some ⟨b7, 0, none⟩)), (9, .pointer (some ⟨b9, 0, none⟩)), (11, .pointer (some ⟨b11, 0, none⟩))]) (fun _ w' => Ext w26 w') (fun kk join => ?_) ?_
  · repeat (first | refine T_seq ?_ | refine T_region ?_ | refine TL_move (hk := ?_))
    refine TL_call TE (hc := num_c3 _ _) (hk := ?_)
    rintro _ w26 ⟨rfl, rfl⟩
    by_cases hxu : xu = 0
    · subst hxu
      obtain ⟨wu1, wu2⟩ := within_union hu
      repeat (first | refine TL_eq_t (hk := ?_) | refine TL_move (hk := ?_) | refine TL_yes (hk := ?_))
      refine TL_loadb TE (cs := [.slice XA xn xc, .slice XB xm xd]) (o := 0) rfl rfl k726 rfl rfl (Nat.succ_pos _) (hk := ?_)
      repeat (refine TL_yes (hk := ?_))
      refine TL_loadb TE (cs := [.slice UA un uc, .slice UB um ud]) (o := 0) rfl rfl k1526 rfl rfl (Nat.succ_pos _) (hk := ?_)
      repeat (refine TL_yes (hk := ?_))
      refine TL_call TE (hc := Within_c XA XB UA UB xn xm un um xc xd uc ud ra ka ru ku _ oXA26.rd oXB26.rd oUA26.rd oUB26.rd (by omega) (by omega) (by omega) (by omega)) (hk := ?_)
      rintro _ w27 ⟨rfl, e27⟩
      rw [wu1]
      have k1527 := k1526.be e27
      have k927 := k926.be e27
      repeat (first | refine TL_move (hk := ?_) | refine TL_yes (hk := ?_) | refine TL_not (hk := ?_))
      refine TL_loadb TE (cs := [.slice YA yn yc, .slice YB ym yd]) (o := 0) rfl rfl k927 rfl rfl (Nat.succ_pos _) (hk := ?_)
      repeat (refine TL_yes (hk := ?_))
      refine TL_loadb TE (cs := [.slice UA un uc, .slice UB um ud]) (o := 0) rfl rfl k1527 rfl rfl (Nat.succ_pos _) (hk := ?_)
      repeat (refine TL_yes (hk := ?_))
      refine TL_call TE (hc := Within_c YA YB UA UB yn ym un um yc yd uc ud rb kb ru ku _ (oYA26.be e27).rd (oYB26.be e27).rd (oUA26.be e27).rd (oUB26.be e27).rd (by omega) (by omega) (by omega) (by omega)) (hk := ?_)
      rintro _ w28 ⟨rfl, e28⟩
      rw [wu2]
      repeat (first | refine T_cond_false rfl ?_ | refine T_skip ?_ | refine TL_nil ?_ | refine TL_yes (hk := ?_) | refine TL_pick_t (hk := ?_) | refine TL_pick_f (hk := ?_) | refine TL_not (hk := ?_))
      exact T.sub (join () _ (e27.ext e28)) (.c rfl (.c rfl (.c rfl (.n))))
    · repeat (first | refine T_cond_false rfl ?_ | refine T_skip ?_ | refine TL_eq_f (hk := ?_) | refine TL_nil ?_ | refine TL_move (hk := ?_) | refine TL_no (hk := ?_) | refine TL_pick_f (hk := ?_))
      exact T.sub (join () _ (Mod.refl _ _)) (.c rfl (.c rfl (.c rfl (.n))))
  rintro _ w27 e27
  have k727 := k726.be e27
  have k927 := k926.be e27
  have k1127 := k1126.be e27
  have oXA27 := oXA26.be e27
  have oXB27 := oXB26.be e27
  have oYA27 := oYA26.be e27
  have oYB27 := oYB26.be e27
  have oZA27 := oZA26.be e27
  have oZB27 := oZB26.be e27
  clear k726 k926 k1126 k1526 oXA26 oXB26 oYA26 oYB26 oZA26 oZB26 oUA26 oUB26
  obtain ⟨wab, hwab⟩ : ∃ b, (ofM ra ka).all (within1 (ofM rb kb)) = b := ⟨_, rfl⟩
  obtain ⟨wbc, hwbc⟩ : ∃ b, (ofM rb kb).all (within1 (ofM rc kc)) = b := ⟨_, rfl⟩
  obtain ⟨cab, hcab⟩ : ∃ b, (ofM ra ka).any (clash1 (ofM rb kb)) = b := ⟨_, rfl⟩
  have hcba : (ofM rb kb).any (clash1 (ofM ra ka)) = cab := by rw [clash_swap]; exact hcab
  obtain ⟨cac, hcac⟩ : ∃ b, (ofM ra ka).any (clash1 (ofM rc kc)) = b := ⟨_, rfl⟩
  --
  refine T_seq ?_
  refine T_join (ι := Unit) (fun _ => [(7, .pointer (some ⟨b7, 0, none⟩)), (9, .pointer (some ⟨b9, 0, none⟩)), (11, .pointer (some ⟨b11, 0, none⟩))]) (fun _ w' => Ext w27 w') (fun kk join => ?_) ?_
  · repeat (refine T_seq ?_)
    refine T_region_any TE.mixed [] ?_; intro w28 e28 z28
    have k728 := k727.be e28
    have k928 := k927.be e28
    have k1128 := k1127.be e28
    have fXA := (oXA27.be e28).rd
    have fXB := (oXB27.be e28).rd
    have fYA := (oYA27.be e28).rd
    have fYB := (oYB27.be e28).rd
    have fZA := (oZA27.be e28).rd
    have fZB := (oZB27.be e28).rd
    (refine TA_take 0 rfl (by kernel_rfl) (by kernel_rfl) (by kernel_rfl) ?_; (try refine TL_yes (hk := ?_)); refine TLP_loadb TE (cs := [.slice XA xn xc, .slice XB xm xd]) (o := 0) (hb := k728) (hD := by first | (simp; done) | (simp; omega)) (hk := ?_); refine TL_nil_p ?_)
    (refine TA_take 1 rfl (by kernel_rfl) (by kernel_rfl) (by kernel_rfl) ?_; (try refine TL_yes (hk := ?_)); refine TLP_loadb TE (cs := [.slice YA yn yc, .slice YB ym yd]) (o := 0) (hb := k928) (hD := by first | (simp; done) | (simp; omega)) (hk := ?_); refine TL_nil_p ?_)
    refine TA_one 2 rfl (by kernel_rfl) (by kernel_rfl) ?_; (try refine TL_yes (hk := ?_)); refine TL_call TE (hc := Within_c XA XB YA YB xn xm yn ym xc xd yc yd ra ka rb kb _ fXA fXB fYA fYB (by omega) (by omega) (by omega) (by omega)) (hq := fun v w' h => h.2) (hk := ?_)
    rintro _ w29 ⟨rfl, e29⟩
    refine TL_nil_p ?_
    rw [hwab]
    (refine TA_take 3 rfl (by kernel_rfl) (by kernel_rfl) (by kernel_rfl) ?_; (repeat (refine TL_move (hk := ?_))); refine TL_nil_p ?_)
    cases wab with
    | true =>
      (refine TA_take 4 rfl (by kernel_rfl) (by kernel_rfl) (by kernel_rfl) ?_; (try refine TL_yes (hk := ?_)); refine TLP_loadb TE (cs := [.slice YA yn yc, .slice YB ym yd]) (o := 0) (hb := k928) (hD := by first | (simp; done) | (simp; omega)) (hk := ?_); refine TL_nil_p ?_)
      (refine TA_take 5 rfl (by kernel_rfl) (by kernel_rfl) (by kernel_rfl) ?_; (try refine TL_yes (hk := ?_)); refine TLP_loadb TE (cs := [.slice ZA zn zc, .slice ZB zm zd]) (o := 0) (hb := k1128) (hD := by first | (simp; done) | (simp; omega)) (hk := ?_); refine TL_nil_p ?_)
      refine TA_one 6 rfl (by kernel_rfl) (by kernel_rfl) ?_; (try refine TL_yes (hk := ?_)); refine TL_call TE (hc := Within_c YA YB ZA ZB yn ym zn zm yc yd zc zd rb kb rc kc _ (fYA.be e29) (fYB.be e29) (fZA.be e29) (fZB.be e29) (by omega) (by omega) (by omega) (by omega)) (hq := fun v w' h => e29.ext h.2) (hk := ?_)
      rintro _ w30 ⟨rfl, e30⟩
      have E30 := e29.ext e30
      refine TL_nil_p ?_
      rw [hwbc]
      (refine TA_take 7 rfl (by kernel_rfl) (by kernel_rfl) (by kernel_rfl) ?_; (repeat (first | refine TL_move (hk := ?_) | refine TL_pick_t (hk := ?_))); refine TL_nil_p ?_); (refine TA_take 8 rfl (by kernel_rfl) (by kernel_rfl) (by kernel_rfl) ?_; (repeat (first | refine TL_move (hk := ?_) | refine TL_pick_t (hk := ?_))); refine TL_nil_p ?_)
      cases wbc with
      | true =>
        have hwac := within_trans hwab hwbc
        (refine TA_take 9 rfl (by kernel_rfl) (by kernel_rfl) (by kernel_rfl) ?_; (try refine TL_yes (hk := ?_)); refine TLP_loadb TE (cs := [.slice XA xn xc, .slice XB xm xd]) (o := 0) (hb := k728) (hD := by first | (simp; done) | (simp; omega)) (hk := ?_); refine TL_nil_p ?_)
        (refine TA_take 10 rfl (by kernel_rfl) (by kernel_rfl) (by kernel_rfl) ?_; (try refine TL_yes (hk := ?_)); refine TLP_loadb TE (cs := [.slice ZA zn zc, .slice ZB zm zd]) (o := 0) (hb := k1128) (hD := by first | (simp; done) | (simp; omega)) (hk := ?_); refine TL_nil_p ?_)
        refine TA_one 11 rfl (by kernel_rfl) (by kernel_rfl) ?_; (try refine TL_yes (hk := ?_)); refine TL_call TE (hc := Within_c XA XB ZA ZB xn xm zn zm xc xd zc zd ra ka rc kc _ (fXA.be E30) (fXB.be E30) (fZA.be E30) (fZB.be E30) (by omega) (by omega) (by omega) (by omega)) (hq := fun v w' h => E30.ext h.2) (hk := ?_)
        rintro _ w31 ⟨rfl, e31⟩
        have E31 := E30.ext e31
        refine TL_nil_p ?_
        rw [hwac]
        (refine TA_take 12 rfl (by kernel_rfl) (by kernel_rfl) (by kernel_rfl) ?_; (repeat (first | refine TL_move (hk := ?_) | refine TL_yes (hk := ?_) | refine TL_pick_t (hk := ?_) | refine TL_not (hk := ?_))); refine TL_nil_p ?_); (refine TA_take 13 rfl (by kernel_rfl) (by kernel_rfl) (by kernel_rfl) ?_; (repeat (first | refine TL_move (hk := ?_) | refine TL_yes (hk := ?_) | refine TL_pick_t (hk := ?_) | refine TL_not (hk := ?_))); refine TL_nil_p ?_); (refine TA_take 14 rfl (by kernel_rfl) (by kernel_rfl) (by kernel_rfl) ?_; (repeat (first | refine TL_move (hk := ?_) | refine TL_yes (hk := ?_) | refine TL_pick_t (hk := ?_) | refine TL_not (hk := ?_))); refine TL_nil_p ?_)
        (refine TA_take 15 rfl (by kernel_rfl) (by kernel_rfl) (by kernel_rfl) ?_; (try refine TL_yes (hk := ?_)); refine TLP_loadb TE (cs := [.slice XA xn xc, .slice XB xm xd]) (o := 0) (hb := k728) (hD := by first | (simp; done) | (simp; omega)) (hk := ?_); refine TL_nil_p ?_)
        (refine TA_take 16 rfl (by kernel_rfl) (by kernel_rfl) (by kernel_rfl) ?_; (try refine TL_yes (hk := ?_)); refine TLP_loadb TE (cs := [.slice YA yn yc, .slice YB ym yd]) (o := 0) (hb := k928) (hD := by first | (simp; done) | (simp; omega)) (hk := ?_); refine TL_nil_p ?_)
        (refine TA_take 18 rfl (by kernel_rfl) (by kernel_rfl) (by kernel_rfl) ?_; (try refine TL_yes (hk := ?_)); refine TLP_loadb TE (cs := [.slice YA yn yc, .slice YB ym yd]) (o := 0) (hb := k928) (hD := by first | (simp; done) | (simp; omega)) (hk := ?_); refine TL_nil_p ?_)
        (refine TA_take 19 rfl (by kernel_rfl) (by kernel_rfl) (by kernel_rfl) ?_; (try refine TL_yes (hk := ?_)); refine TLP_loadb TE (cs := [.slice XA xn xc, .slice XB xm xd]) (o := 0) (hb := k728) (hD := by first | (simp; done) | (simp; omega)) (hk := ?_); refine TL_nil_p ?_)
        refine TA_one 17 rfl (by kernel_rfl) (by kernel_rfl) ?_; (try refine TL_yes (hk := ?_)); refine TL_call TE (hc := Clash_c XA XB YA YB xn xm yn ym xc xd yc yd ra ka rb kb _ (fXA.be E31) (fXB.be E31) (fYA.be E31) (fYB.be E31) (by omega) (by omega) (by omega) (by omega)) (hq := fun v w' h => E31.ext h.2) (hk := ?_)
        rintro _ w32 ⟨rfl, e32⟩
        have E32 := E31.ext e32
        refine TL_nil_p ?_
        rw [hcab]
        refine TA_one 20 rfl (by kernel_rfl) (by kernel_rfl) ?_; (try refine TL_yes (hk := ?_)); refine TL_call TE (hc := Clash_c YA YB XA XB yn ym xn xm yc yd xc xd rb kb ra ka _ (fYA.be E32) (fYB.be E32) (fXA.be E32) (fXB.be E32) (by omega) (by omega) (by omega) (by omega)) (hq := fun v w' h => E32.ext h.2) (hk := ?_)
        rintro _ w33 ⟨rfl, e33⟩
        have E33 := E32.ext e33
        refine TL_nil_p ?_
        rw [hcba]
        (refine TA_take 21 rfl (by kernel_rfl) (by kernel_rfl) (by kernel_rfl) ?_; (repeat (first | refine TL_bne TE (hk := ?_) | refine TL_yes (hk := ?_))); refine TL_nil_p ?_)
        rw [show (!(cab == cab)) = false by simp]
        (refine TA_take 22 rfl (by kernel_rfl) (by kernel_rfl) (by kernel_rfl) ?_; (repeat (first | refine TL_move (hk := ?_) | refine TL_pick_f (hk := ?_))); refine TL_nil_p ?_); (refine TA_take 23 rfl (by kernel_rfl) (by kernel_rfl) (by kernel_rfl) ?_; (repeat (first | refine TL_move (hk := ?_) | refine TL_pick_f (hk := ?_))); refine TL_nil_p ?_)
        (refine TA_take 24 rfl (by kernel_rfl) (by kernel_rfl) (by kernel_rfl) ?_; (try refine TL_yes (hk := ?_)); refine TLP_loadb TE (cs := [.slice XA xn xc, .slice XB xm xd]) (o := 0) (hb := k728) (hD := by first | (simp; done) | (simp; omega)) (hk := ?_); refine TL_nil_p ?_)
        (refine TA_take 25 rfl (by kernel_rfl) (by kernel_rfl) (by kernel_rfl) ?_; (try refine TL_yes (hk := ?_)); refine TLP_loadb TE (cs := [.slice YA yn yc, .slice YB ym yd]) (o := 0) (hb := k928) (hD := by first | (simp; done) | (simp; omega)) (hk := ?_); refine TL_nil_p ?_)
        refine TA_one 26 rfl (by kernel_rfl) (by kernel_rfl) ?_; (try refine TL_yes (hk := ?_)); refine TL_call TE (hc := Within_c XA XB YA YB xn xm yn ym xc xd yc yd ra ka rb kb _ (fXA.be E33) (fXB.be E33) (fYA.be E33) (fYB.be E33) (by omega) (by omega) (by omega) (by omega)) (hq := fun v w' h => E33.ext h.2) (hk := ?_)
        rintro _ w34 ⟨rfl, e34⟩
        have E34 := E33.ext e34
        refine TL_nil_p ?_
        rw [hwab]
        (refine TA_take 27 rfl (by kernel_rfl) (by kernel_rfl) (by kernel_rfl) ?_; (repeat (first | refine TL_move (hk := ?_) | refine TL_yes (hk := ?_))); refine TL_nil_p ?_)
        (refine TA_take 28 rfl (by kernel_rfl) (by kernel_rfl) (by kernel_rfl) ?_; (try refine TL_yes (hk := ?_)); refine TLP_loadb TE (cs := [.slice XA xn xc, .slice XB xm xd]) (o := 0) (hb := k728) (hD := by first | (simp; done) | (simp; omega)) (hk := ?_); refine TL_nil_p ?_)
        (refine TA_take 29 rfl (by kernel_rfl) (by kernel_rfl) (by kernel_rfl) ?_; (try refine TL_yes (hk := ?_)); refine TLP_loadb TE (cs := [.slice ZA zn zc, .slice ZB zm zd]) (o := 0) (hb := k1128) (hD := by first | (simp; done) | (simp; omega)) (hk := ?_); refine TL_nil_p ?_)
        refine TA_one 30 rfl (by kernel_rfl) (by kernel_rfl) ?_; (try refine TL_yes (hk := ?_)); refine TL_call TE (hc := Clash_c XA XB ZA ZB xn xm zn zm xc xd zc zd ra ka rc kc _ (fXA.be E34) (fXB.be E34) (fZA.be E34) (fZB.be E34) (by omega) (by omega) (by omega) (by omega)) (hq := fun v w' h => E34.ext h.2) (hk := ?_)
        rintro _ w35 ⟨rfl, e35⟩
        have E35 := E34.ext e35
        refine TL_nil_p ?_
        rw [hcac]
        (refine TA_take 31 rfl (by kernel_rfl) (by kernel_rfl) (by kernel_rfl) ?_; (repeat (first | refine TL_move (hk := ?_) | refine TL_yes (hk := ?_) | refine TL_pick_t (hk := ?_))); refine TL_nil_p ?_); (refine TA_take 32 rfl (by kernel_rfl) (by kernel_rfl) (by kernel_rfl) ?_; (repeat (first | refine TL_move (hk := ?_) | refine TL_yes (hk := ?_) | refine TL_pick_t (hk := ?_))); refine TL_nil_p ?_)
        cases cac with
        | true =>
          have hcbc := within_clash hwab hcac
          (refine TA_take 33 rfl (by kernel_rfl) (by kernel_rfl) (by kernel_rfl) ?_; (try refine TL_yes (hk := ?_)); refine TLP_loadb TE (cs := [.slice YA yn yc, .slice YB ym yd]) (o := 0) (hb := k928) (hD := by first | (simp; done) | (simp; omega)) (hk := ?_); refine TL_nil_p ?_)
          (refine TA_take 34 rfl (by kernel_rfl) (by kernel_rfl) (by kernel_rfl) ?_; (try refine TL_yes (hk := ?_)); refine TLP_loadb TE (cs := [.slice ZA zn zc, .slice ZB zm zd]) (o := 0) (hb := k1128) (hD := by first | (simp; done) | (simp; omega)) (hk := ?_); refine TL_nil_p ?_)
          refine TA_one 35 rfl (by kernel_rfl) (by kernel_rfl) ?_; (try refine TL_yes (hk := ?_)); refine TL_call TE (hc := Clash_c YA YB ZA ZB yn ym zn zm yc yd zc zd rb kb rc kc _ (fYA.be E35) (fYB.be E35) (fZA.be E35) (fZB.be E35) (by omega) (by omega) (by omega) (by omega)) (hq := fun v w' h => E35.ext h.2) (hk := ?_)
          rintro _ w36 ⟨rfl, e36⟩
          refine TL_nil_p ?_
          rw [hcbc]
          (refine TA_take 36 rfl (by kernel_rfl) (by kernel_rfl) (by kernel_rfl) ?_; (repeat (first | refine TL_yes (hk := ?_) | refine TL_pick_t (hk := ?_) | refine TL_pick_f (hk := ?_) | refine TL_not (hk := ?_))); refine TL_nil_p ?_); (refine TA_take 37 rfl (by kernel_rfl) (by kernel_rfl) (by kernel_rfl) ?_; (repeat (first | refine TL_yes (hk := ?_) | refine TL_pick_t (hk := ?_) | refine TL_pick_f (hk := ?_) | refine TL_not (hk := ?_))); refine TL_nil_p ?_); (refine TA_take 38 rfl (by kernel_rfl) (by kernel_rfl) (by kernel_rfl) ?_; (repeat (first | refine TL_yes (hk := ?_) | refine TL_pick_t (hk := ?_) | refine TL_pick_f (hk := ?_) | refine TL_not (hk := ?_))); refine TL_nil_p ?_)
          refine TA_done (by kernel_rfl) ?_
          repeat (first | refine T_cond_false rfl ?_ | refine T_skip ?_)
          exact T.sub (join () _ ((e28.ext E35).ext e36)) (.c rfl (.c rfl (.c rfl (.n))))
        | false =>
          (refine TA_take 33 rfl (by kernel_rfl) (by kernel_rfl) (by kernel_rfl) ?_; (repeat (first | refine TL_yes (hk := ?_) | refine TL_no (hk := ?_) | refine TL_pick_f (hk := ?_))); refine TL_nil_p ?_); (refine TA_take 34 rfl (by kernel_rfl) (by kernel_rfl) (by kernel_rfl) ?_; (repeat (first | refine TL_yes (hk := ?_) | refine TL_no (hk := ?_) | refine TL_pick_f (hk := ?_))); refine TL_nil_p ?_); (refine TA_take 35 rfl (by kernel_rfl) (by kernel_rfl) (by kernel_rfl) ?_; (repeat (first | refine TL_yes (hk := ?_) | refine TL_no (hk := ?_) | refine TL_pick_f (hk := ?_))); refine TL_nil_p ?_); (refine TA_take 36 rfl (by kernel_rfl) (by kernel_rfl) (by kernel_rfl) ?_; (repeat (first | refine TL_yes (hk := ?_) | refine TL_no (hk := ?_) | refine TL_pick_f (hk := ?_))); refine TL_nil_p ?_); (refine TA_take 37 rfl (by kernel_rfl) (by kernel_rfl) (by kernel_rfl) ?_; (repeat (first | refine TL_yes (hk := ?_) | refine TL_no (hk := ?_) | refine TL_pick_f (hk := ?_))); refine TL_nil_p ?_); (refine TA_take 38 rfl (by kernel_rfl) (by kernel_rfl) (by kernel_rfl) ?_; (repeat (first | refine TL_yes (hk := ?_) | refine TL_no (hk := ?_) | refine TL_pick_f (hk := ?_))); refine TL_nil_p ?_)
          refine TA_done (by kernel_rfl) ?_
          repeat (first | refine T_cond_false rfl ?_ | refine T_skip ?_)
          exact T.sub (join () _ (e28.ext E35)) (.c rfl (.c rfl (.c rfl (.n))))
      | false =>
        have E31 := E30
        (refine TA_take 9 rfl (by kernel_rfl) (by kernel_rfl) (by kernel_rfl) ?_; (repeat (first | refine TL_move (hk := ?_) | refine TL_no (hk := ?_) | refine TL_pick_f (hk := ?_))); refine TL_nil_p ?_); (refine TA_take 10 rfl (by kernel_rfl) (by kernel_rfl) (by kernel_rfl) ?_; (repeat (first | refine TL_move (hk := ?_) | refine TL_no (hk := ?_) | refine TL_pick_f (hk := ?_))); refine TL_nil_p ?_); (refine TA_take 11 rfl (by kernel_rfl) (by kernel_rfl) (by kernel_rfl) ?_; (repeat (first | refine TL_move (hk := ?_) | refine TL_no (hk := ?_) | refine TL_pick_f (hk := ?_))); refine TL_nil_p ?_); (refine TA_take 12 rfl (by kernel_rfl) (by kernel_rfl) (by kernel_rfl) ?_; (repeat (first | refine TL_move (hk := ?_) | refine TL_no (hk := ?_) | refine TL_pick_f (hk := ?_))); refine TL_nil_p ?_); (refine TA_take 13 rfl (by kernel_rfl) (by kernel_rfl) (by kernel_rfl) ?_; (repeat (first | refine TL_move (hk := ?_) | refine TL_no (hk := ?_) | refine TL_pick_f (hk := ?_))); refine TL_nil_p ?_); (refine TA_take 14 rfl (by kernel_rfl) (by kernel_rfl) (by kernel_rfl) ?_; (repeat (first | refine TL_move (hk := ?_) | refine TL_no (hk := ?_) | refine TL_pick_f (hk := ?_))); refine TL_nil_p ?_)
        (refine TA_take 15 rfl (by kernel_rfl) (by kernel_rfl) (by kernel_rfl) ?_; (try refine TL_yes (hk := ?_)); refine TLP_loadb TE (cs := [.slice XA xn xc, .slice XB xm xd]) (o := 0) (hb := k728) (hD := by first | (simp; done) | (simp; omega)) (hk := ?_); refine TL_nil_p ?_)
        (refine TA_take 16 rfl (by kernel_rfl) (by kernel_rfl) (by kernel_rfl) ?_; (try refine TL_yes (hk := ?_)); refine TLP_loadb TE (cs := [.slice YA yn yc, .slice YB ym yd]) (o := 0) (hb := k928) (hD := by first | (simp; done) | (simp; omega)) (hk := ?_); refine TL_nil_p ?_)
        (refine TA_take 18 rfl (by kernel_rfl) (by kernel_rfl) (by kernel_rfl) ?_; (try refine TL_yes (hk := ?_)); refine TLP_loadb TE (cs := [.slice YA yn yc, .slice YB ym yd]) (o := 0) (hb := k928) (hD := by first | (simp; done) | (simp; omega)) (hk := ?_); refine TL_nil_p ?_)
        (refine TA_take 19 rfl (by kernel_rfl) (by kernel_rfl) (by kernel_rfl) ?_; (try refine TL_yes (hk := ?_)); refine TLP_loadb TE (cs := [.slice XA xn xc, .slice XB xm xd]) (o := 0) (hb := k728) (hD := by first | (simp; done) | (simp; omega)) (hk := ?_); refine TL_nil_p ?_)
        refine TA_one 17 rfl (by kernel_rfl) (by kernel_rfl) ?_; (try refine TL_yes (hk := ?_)); refine TL_call TE (hc := Clash_c XA XB YA YB xn xm yn ym xc xd yc yd ra ka rb kb _ (fXA.be E31) (fXB.be E31) (fYA.be E31) (fYB.be E31) (by omega) (by omega) (by omega) (by omega)) (hq := fun v w' h => E31.ext h.2) (hk := ?_)
        rintro _ w32 ⟨rfl, e32⟩
        have E32 := E31.ext e32
        refine TL_nil_p ?_
        rw [hcab]
        refine TA_one 20 rfl (by kernel_rfl) (by kernel_rfl) ?_; (try refine TL_yes (hk := ?_)); refine TL_call TE (hc := Clash_c YA YB XA XB yn ym xn xm yc yd xc xd rb kb ra ka _ (fYA.be E32) (fYB.be E32) (fXA.be E32) (fXB.be E32) (by omega) (by omega) (by omega) (by omega)) (hq := fun v w' h => E32.ext h.2) (hk := ?_)
        rintro _ w33 ⟨rfl, e33⟩
        have E33 := E32.ext e33
        refine TL_nil_p ?_
        rw [hcba]
        (refine TA_take 21 rfl (by kernel_rfl) (by kernel_rfl) (by kernel_rfl) ?_; (repeat (first | refine TL_bne TE (hk := ?_) | refine TL_yes (hk := ?_))); refine TL_nil_p ?_)
        rw [show (!(cab == cab)) = false by simp]
        (refine TA_take 22 rfl (by kernel_rfl) (by kernel_rfl) (by kernel_rfl) ?_; (repeat (first | refine TL_move (hk := ?_) | refine TL_pick_f (hk := ?_))); refine TL_nil_p ?_); (refine TA_take 23 rfl (by kernel_rfl) (by kernel_rfl) (by kernel_rfl) ?_; (repeat (first | refine TL_move (hk := ?_) | refine TL_pick_f (hk := ?_))); refine TL_nil_p ?_)
        (refine TA_take 24 rfl (by kernel_rfl) (by kernel_rfl) (by kernel_rfl) ?_; (try refine TL_yes (hk := ?_)); refine TLP_loadb TE (cs := [.slice XA xn xc, .slice XB xm xd]) (o := 0) (hb := k728) (hD := by first | (simp; done) | (simp; omega)) (hk := ?_); refine TL_nil_p ?_)
        (refine TA_take 25 rfl (by kernel_rfl) (by kernel_rfl) (by kernel_rfl) ?_; (try refine TL_yes (hk := ?_)); refine TLP_loadb TE (cs := [.slice YA yn yc, .slice YB ym yd]) (o := 0) (hb := k928) (hD := by first | (simp; done) | (simp; omega)) (hk := ?_); refine TL_nil_p ?_)
        refine TA_one 26 rfl (by kernel_rfl) (by kernel_rfl) ?_; (try refine TL_yes (hk := ?_)); refine TL_call TE (hc := Within_c XA XB YA YB xn xm yn ym xc xd yc yd ra ka rb kb _ (fXA.be E33) (fXB.be E33) (fYA.be E33) (fYB.be E33) (by omega) (by omega) (by omega) (by omega)) (hq := fun v w' h => E33.ext h.2) (hk := ?_)
        rintro _ w34 ⟨rfl, e34⟩
        have E34 := E33.ext e34
        refine TL_nil_p ?_
        rw [hwab]
        (refine TA_take 27 rfl (by kernel_rfl) (by kernel_rfl) (by kernel_rfl) ?_; (repeat (first | refine TL_move (hk := ?_) | refine TL_yes (hk := ?_))); refine TL_nil_p ?_)
        (refine TA_take 28 rfl (by kernel_rfl) (by kernel_rfl) (by kernel_rfl) ?_; (try refine TL_yes (hk := ?_)); refine TLP_loadb TE (cs := [.slice XA xn xc, .slice XB xm xd]) (o := 0) (hb := k728) (hD := by first | (simp; done) | (simp; omega)) (hk := ?_); refine TL_nil_p ?_)
        (refine TA_take 29 rfl (by kernel_rfl) (by kernel_rfl) (by kernel_rfl) ?_; (try refine TL_yes (hk := ?_)); refine TLP_loadb TE (cs := [.slice ZA zn zc, .slice ZB zm zd]) (o := 0) (hb := k1128) (hD := by first | (simp; done) | (simp; omega)) (hk := ?_); refine TL_nil_p ?_)
        refine TA_one 30 rfl (by kernel_rfl) (by kernel_rfl) ?_; (try refine TL_yes (hk := ?_)); refine TL_call TE (hc := Clash_c XA XB ZA ZB xn xm zn zm xc xd zc zd ra ka rc kc _ (fXA.be E34) (fXB.be E34) (fZA.be E34) (fZB.be E34) (by omega) (by omega) (by omega) (by omega)) (hq := fun v w' h => E34.ext h.2) (hk := ?_)
        rintro _ w35 ⟨rfl, e35⟩
        have E35 := E34.ext e35
        refine TL_nil_p ?_
        rw [hcac]
        (refine TA_take 31 rfl (by kernel_rfl) (by kernel_rfl) (by kernel_rfl) ?_; (repeat (first | refine TL_move (hk := ?_) | refine TL_yes (hk := ?_) | refine TL_pick_t (hk := ?_))); refine TL_nil_p ?_); (refine TA_take 32 rfl (by kernel_rfl) (by kernel_rfl) (by kernel_rfl) ?_; (repeat (first | refine TL_move (hk := ?_) | refine TL_yes (hk := ?_) | refine TL_pick_t (hk := ?_))); refine TL_nil_p ?_)
        cases cac with
        | true =>
          have hcbc := within_clash hwab hcac
          (refine TA_take 33 rfl (by kernel_rfl) (by kernel_rfl) (by kernel_rfl) ?_; (try refine TL_yes (hk := ?_)); refine TLP_loadb TE (cs := [.slice YA yn yc, .slice YB ym yd]) (o := 0) (hb := k928) (hD := by first | (simp; done) | (simp; omega)) (hk := ?_); refine TL_nil_p ?_)
          (refine TA_take 34 rfl (by kernel_rfl) (by kernel_rfl) (by kernel_rfl) ?_; (try refine TL_yes (hk := ?_)); refine TLP_loadb TE (cs := [.slice ZA zn zc, .slice ZB zm zd]) (o := 0) (hb := k1128) (hD := by first | (simp; done) | (simp; omega)) (hk := ?_); refine TL_nil_p ?_)
          refine TA_one 35 rfl (by kernel_rfl) (by kernel_rfl) ?_; (try refine TL_yes (hk := ?_)); refine TL_call TE (hc := Clash_c YA YB ZA ZB yn ym zn zm yc yd zc zd rb kb rc kc _ (fYA.be E35) (fYB.be E35) (fZA.be E35) (fZB.be E35) (by omega) (by omega) (by omega) (by omega)) (hq := fun v w' h => E35.ext h.2) (hk := ?_)
          rintro _ w36 ⟨rfl, e36⟩
          refine TL_nil_p ?_
          rw [hcbc]
          (refine TA_take 36 rfl (by kernel_rfl) (by kernel_rfl) (by kernel_rfl) ?_; (repeat (first | refine TL_yes (hk := ?_) | refine TL_pick_t (hk := ?_) | refine TL_pick_f (hk := ?_) | refine TL_not (hk := ?_))); refine TL_nil_p ?_); (refine TA_take 37 rfl (by kernel_rfl) (by kernel_rfl) (by kernel_rfl) ?_; (repeat (first | refine TL_yes (hk := ?_) | refine TL_pick_t (hk := ?_) | refine TL_pick_f (hk := ?_) | refine TL_not (hk := ?_))); refine TL_nil_p ?_); (refine TA_take 38 rfl (by kernel_rfl) (by kernel_rfl) (by kernel_rfl) ?_; (repeat (first | refine TL_yes (hk := ?_) | refine TL_pick_t (hk := ?_) | refine TL_pick_f (hk := ?_) | refine TL_not (hk := ?_))); refine TL_nil_p ?_)
          refine TA_done (by kernel_rfl) ?_
          repeat (first | refine T_cond_false rfl ?_ | refine T_skip ?_)
          exact T.sub (join () _ ((e28.ext E35).ext e36)) (.c rfl (.c rfl (.c rfl (.n))))
        | false =>
          (refine TA_take 33 rfl (by kernel_rfl) (by kernel_rfl) (by kernel_rfl) ?_; (repeat (first | refine TL_yes (hk := ?_) | refine TL_no (hk := ?_) | refine TL_pick_f (hk := ?_))); refine TL_nil_p ?_); (refine TA_take 34 rfl (by kernel_rfl) (by kernel_rfl) (by kernel_rfl) ?_; (repeat (first | refine TL_yes (hk := ?_) | refine TL_no (hk := ?_) | refine TL_pick_f (hk := ?_))); refine TL_nil_p ?_); (refine TA_take 35 rfl (by kernel_rfl) (by kernel_rfl) (by kernel_rfl) ?_; (repeat (first | refine TL_yes (hk := ?_) | refine TL_no (hk := ?_) | refine TL_pick_f (hk := ?_))); refine TL_nil_p ?_); (refine TA_take 36 rfl (by kernel_rfl) (by kernel_rfl) (by kernel_rfl) ?_; (repeat (first | refine TL_yes (hk := ?_) | refine TL_no (hk := ?_) | refine TL_pick_f (hk := ?_))); refine TL_nil_p ?_); (refine TA_take 37 rfl (by kernel_rfl) (by kernel_rfl) (by kernel_rfl) ?_; (repeat (first | refine TL_yes (hk := ?_) | refine TL_no (hk := ?_) | refine TL_pick_f (hk := ?_))); refine TL_nil_p ?_); (refine TA_take 38 rfl (by kernel_rfl) (by kernel_rfl) (by kernel_rfl) ?_; (repeat (first | refine TL_yes (hk := ?_) | refine TL_no (hk := ?_) | refine TL_pick_f (hk := ?_))); refine TL_nil_p ?_)
          refine TA_done (by kernel_rfl) ?_
          repeat (first | refine T_cond_false rfl ?_ | refine T_skip ?_)
          exact T.sub (join () _ (e28.ext E35)) (.c rfl (.c rfl (.c rfl (.n))))
    | false =>
      have E31 := e29
      (refine TA_take 4 rfl (by kernel_rfl) (by kernel_rfl) (by kernel_rfl) ?_; (repeat (first | refine TL_move (hk := ?_) | refine TL_no (hk := ?_) | refine TL_pick_f (hk := ?_))); refine TL_nil_p ?_); (refine TA_take 5 rfl (by kernel_rfl) (by kernel_rfl) (by kernel_rfl) ?_; (repeat (first | refine TL_move (hk := ?_) | refine TL_no (hk := ?_) | refine TL_pick_f (hk := ?_))); refine TL_nil_p ?_); (refine TA_take 6 rfl (by kernel_rfl) (by kernel_rfl) (by kernel_rfl) ?_; (repeat (first | refine TL_move (hk := ?_) | refine TL_no (hk := ?_) | refine TL_pick_f (hk := ?_))); refine TL_nil_p ?_); (refine TA_take 7 rfl (by kernel_rfl) (by kernel_rfl) (by kernel_rfl) ?_; (repeat (first | refine TL_move (hk := ?_) | refine TL_no (hk := ?_) | refine TL_pick_f (hk := ?_))); refine TL_nil_p ?_); (refine TA_take 8 rfl (by kernel_rfl) (by kernel_rfl) (by kernel_rfl) ?_; (repeat (first | refine TL_move (hk := ?_) | refine TL_no (hk := ?_) | refine TL_pick_f (hk := ?_))); refine TL_nil_p ?_); (refine TA_take 9 rfl (by kernel_rfl) (by kernel_rfl) (by kernel_rfl) ?_; (repeat (first | refine TL_move (hk := ?_) | refine TL_no (hk := ?_) | refine TL_pick_f (hk := ?_))); refine TL_nil_p ?_); (refine TA_take 10 rfl (by kernel_rfl) (by kernel_rfl) (by kernel_rfl) ?_; (repeat (first | refine TL_move (hk := ?_) | refine TL_no (hk := ?_) | refine TL_pick_f (hk := ?_))); refine TL_nil_p ?_); (refine TA_take 11 rfl (by kernel_rfl) (by kernel_rfl) (by kernel_rfl) ?_; (repeat (first | refine TL_move (hk := ?_) | refine TL_no (hk := ?_) | refine TL_pick_f (hk := ?_))); refine TL_nil_p ?_); (refine TA_take 12 rfl (by kernel_rfl) (by kernel_rfl) (by kernel_rfl) ?_; (repeat (first | refine TL_move (hk := ?_) | refine TL_no (hk := ?_) | refine TL_pick_f (hk := ?_))); refine TL_nil_p ?_); (refine TA_take 13 rfl (by kernel_rfl) (by kernel_rfl) (by kernel_rfl) ?_; (repeat (first | refine TL_move (hk := ?_) | refine TL_no (hk := ?_) | refine TL_pick_f (hk := ?_))); refine TL_nil_p ?_); (refine TA_take 14 rfl (by kernel_rfl) (by kernel_rfl) (by kernel_rfl) ?_; (repeat (first | refine TL_move (hk := ?_) | refine TL_no (hk := ?_) | refine TL_pick_f (hk := ?_))); refine TL_nil_p ?_)
      (refine TA_take 15 rfl (by kernel_rfl) (by kernel_rfl) (by kernel_rfl) ?_; (try refine TL_yes (hk := ?_)); refine TLP_loadb TE (cs := [.slice XA xn xc, .slice XB xm xd]) (o := 0) (hb := k728) (hD := by first | (simp; done) | (simp; omega)) (hk := ?_); refine TL_nil_p ?_)
      (refine TA_take 16 rfl (by kernel_rfl) (by kernel_rfl) (by kernel_rfl) ?_; (try refine TL_yes (hk := ?_)); refine TLP_loadb TE (cs := [.slice YA yn yc, .slice YB ym yd]) (o := 0) (hb := k928) (hD := by first | (simp; done) | (simp; omega)) (hk := ?_); refine TL_nil_p ?_)
      (refine TA_take 18 rfl (by kernel_rfl) (by kernel_rfl) (by kernel_rfl) ?_; (try refine TL_yes (hk := ?_)); refine TLP_loadb TE (cs := [.slice YA yn yc, .slice YB ym yd]) (o := 0) (hb := k928) (hD := by first | (simp; done) | (simp; omega)) (hk := ?_); refine TL_nil_p ?_)
      (refine TA_take 19 rfl (by kernel_rfl) (by kernel_rfl) (by kernel_rfl) ?_; (try refine TL_yes (hk := ?_)); refine TLP_loadb TE (cs := [.slice XA xn xc, .slice XB xm xd]) (o := 0) (hb := k728) (hD := by first | (simp; done) | (simp; omega)) (hk := ?_); refine TL_nil_p ?_)
      refine TA_one 17 rfl (by kernel_rfl) (by kernel_rfl) ?_; (try refine TL_yes (hk := ?_)); refine TL_call TE (hc := Clash_c XA XB YA YB xn xm yn ym xc xd yc yd ra ka rb kb _ (fXA.be E31) (fXB.be E31) (fYA.be E31) (fYB.be E31) (by omega) (by omega) (by omega) (by omega)) (hq := fun v w' h => E31.ext h.2) (hk := ?_)
      rintro _ w32 ⟨rfl, e32⟩
      have E32 := E31.ext e32
      refine TL_nil_p ?_
      rw [hcab]
      refine TA_one 20 rfl (by kernel_rfl) (by kernel_rfl) ?_; (try refine TL_yes (hk := ?_)); refine TL_call TE (hc := Clash_c YA YB XA XB yn ym xn xm yc yd xc xd rb kb ra ka _ (fYA.be E32) (fYB.be E32) (fXA.be E32) (fXB.be E32) (by omega) (by omega) (by omega) (by omega)) (hq := fun v w' h => E32.ext h.2) (hk := ?_)
      rintro _ w33 ⟨rfl, e33⟩
      have E33 := E32.ext e33
      refine TL_nil_p ?_
      rw [hcba]
      (refine TA_take 21 rfl (by kernel_rfl) (by kernel_rfl) (by kernel_rfl) ?_; (repeat (first | refine TL_bne TE (hk := ?_) | refine TL_yes (hk := ?_))); refine TL_nil_p ?_)
      rw [show (!(cab == cab)) = false by simp]
      (refine TA_take 22 rfl (by kernel_rfl) (by kernel_rfl) (by kernel_rfl) ?_; (repeat (first | refine TL_move (hk := ?_) | refine TL_pick_f (hk := ?_))); refine TL_nil_p ?_); (refine TA_take 23 rfl (by kernel_rfl) (by kernel_rfl) (by kernel_rfl) ?_; (repeat (first | refine TL_move (hk := ?_) | refine TL_pick_f (hk := ?_))); refine TL_nil_p ?_)
      (refine TA_take 24 rfl (by kernel_rfl) (by kernel_rfl) (by kernel_rfl) ?_; (try refine TL_yes (hk := ?_)); refine TLP_loadb TE (cs := [.slice XA xn xc, .slice XB xm xd]) (o := 0) (hb := k728) (hD := by first | (simp; done) | (simp; omega)) (hk := ?_); refine TL_nil_p ?_)
      (refine TA_take 25 rfl (by kernel_rfl) (by kernel_rfl) (by kernel_rfl) ?_; (try refine TL_yes (hk := ?_)); refine TLP_loadb TE (cs := [.slice YA yn yc, .slice YB ym yd]) (o := 0) (hb := k928) (hD := by first | (simp; done) | (simp; omega)) (hk := ?_); refine TL_nil_p ?_)
      refine TA_one 26 rfl (by kernel_rfl) (by kernel_rfl) ?_; (try refine TL_yes (hk := ?_)); refine TL_call TE (hc := Within_c XA XB YA YB xn xm yn ym xc xd yc yd ra ka rb kb _ (fXA.be E33) (fXB.be E33) (fYA.be E33) (fYB.be E33) (by omega) (by omega) (by omega) (by omega)) (hq := fun v w' h => E33.ext h.2) (hk := ?_)
      rintro _ w34 ⟨rfl, e34⟩
      have E34 := E33.ext e34
      refine TL_nil_p ?_
      rw [hwab]
      (refine TA_take 27 rfl (by kernel_rfl) (by kernel_rfl) (by kernel_rfl) ?_; (repeat (first | refine TL_move (hk := ?_) | refine TL_yes (hk := ?_))); refine TL_nil_p ?_)
      (refine TA_take 28 rfl (by kernel_rfl) (by kernel_rfl) (by kernel_rfl) ?_; (repeat (first | refine TL_move (hk := ?_) | refine TL_yes (hk := ?_) | refine TL_no (hk := ?_) | refine TL_pick_f (hk := ?_))); refine TL_nil_p ?_); (refine TA_take 29 rfl (by kernel_rfl) (by kernel_rfl) (by kernel_rfl) ?_; (repeat (first | refine TL_move (hk := ?_) | refine TL_yes (hk := ?_) | refine TL_no (hk := ?_) | refine TL_pick_f (hk := ?_))); refine TL_nil_p ?_); (refine TA_take 30 rfl (by kernel_rfl) (by kernel_rfl) (by kernel_rfl) ?_; (repeat (first | refine TL_move (hk := ?_) | refine TL_yes (hk := ?_) | refine TL_no (hk := ?_) | refine TL_pick_f (hk := ?_))); refine TL_nil_p ?_); (refine TA_take 31 rfl (by kernel_rfl) (by kernel_rfl) (by kernel_rfl) ?_; (repeat (first | refine TL_move (hk := ?_) | refine TL_yes (hk := ?_) | refine TL_no (hk := ?_) | refine TL_pick_f (hk := ?_))); refine TL_nil_p ?_); (refine TA_take 32 rfl (by kernel_rfl) (by kernel_rfl) (by kernel_rfl) ?_; (repeat (first | refine TL_move (hk := ?_) | refine TL_yes (hk := ?_) | refine TL_no (hk := ?_) | refine TL_pick_f (hk := ?_))); refine TL_nil_p ?_); (refine TA_take 33 rfl (by kernel_rfl) (by kernel_rfl) (by kernel_rfl) ?_; (repeat (first | refine TL_move (hk := ?_) | refine TL_yes (hk := ?_) | refine TL_no (hk := ?_) | refine TL_pick_f (hk := ?_))); refine TL_nil_p ?_); (refine TA_take 34 rfl (by kernel_rfl) (by kernel_rfl) (by kernel_rfl) ?_; (repeat (first | refine TL_move (hk := ?_) | refine TL_yes (hk := ?_) | refine TL_no (hk := ?_) | refine TL_pick_f (hk := ?_))); refine TL_nil_p ?_); (refine TA_take 35 rfl (by kernel_rfl) (by kernel_rfl) (by kernel_rfl) ?_; (repeat (first | refine TL_move (hk := ?_) | refine TL_yes (hk := ?_) | refine TL_no (hk := ?_) | refine TL_pick_f (hk := ?_))); refine TL_nil_p ?_); (refine TA_take 36 rfl (by kernel_rfl) (by kernel_rfl) (by kernel_rfl) ?_; (repeat (first | refine TL_move (hk := ?_) | refine TL_yes (hk := ?_) | refine TL_no (hk := ?_) | refine TL_pick_f (hk := ?_))); refine TL_nil_p ?_); (refine TA_take 37 rfl (by kernel_rfl) (by kernel_rfl) (by kernel_rfl) ?_; (repeat (first | refine TL_move (hk := ?_) | refine TL_yes (hk := ?_) | refine TL_no (hk := ?_) | refine TL_pick_f (hk := ?_))); refine TL_nil_p ?_); (refine TA_take 38 rfl (by kernel_rfl) (by kernel_rfl) (by kernel_rfl) ?_; (repeat (first | refine TL_move (hk := ?_) | refine TL_yes (hk := ?_) | refine TL_no (hk := ?_) | refine TL_pick_f (hk := ?_))); refine TL_nil_p ?_)
      refine TA_done (by kernel_rfl) ?_
      repeat (first | refine T_cond_false rfl ?_ | refine T_skip ?_)
      exact T.sub (join () _ (e28.ext E34)) (.c rfl (.c rfl (.c rfl (.n))))
  rintro _ w28 e28
  have k728 := k727.be e28
  have k928 := k927.be e28
  have oXA28 := oXA27.be e28
  have oXB28 := oXB27.be e28
  have oYA28 := oYA27.be e28
  have oYB28 := oYB27.be e28
  clear k727 k927 k1127 oXA27 oXB27 oYA27 oYB27 oZA27 oZB27
  have hofa : (ofM ra ka).length ≤ 100000 := by rw [of_len]; have := setT_len (ra ++ ka); rw [List.length_append] at this; omega
  have hofb : (ofM rb kb).length ≤ 100000 := by rw [of_len]; have := setT_len (rb ++ kb); rw [List.length_append] at this; omega
  repeat (refine T_seq ?_)
  refine T_region_any TE.mixed [] ?_; intro w29 e29 z29
  have k729 := k728.be e29
  have k929 := k928.be e29
  have fXA := (oXA28.be e29).rd
  have fXB := (oXB28.be e29).rd
  have fYA := (oYA28.be e29).rd
  have fYB := (oYB28.be e29).rd
  (refine TA_take 0 rfl (by kernel_rfl) (by kernel_rfl) (by kernel_rfl) ?_; (try refine TL_yes (hk := ?_)); refine TLP_loadb TE (cs := [.slice XA xn xc, .slice XB xm xd]) (o := 0) (hb := k729) (hD := by first | (simp; done) | (simp; omega)) (hk := ?_); refine TL_nil_p ?_)
  (refine TA_take 1 rfl (by kernel_rfl) (by kernel_rfl) (by kernel_rfl) ?_; (try refine TL_yes (hk := ?_)); refine TLP_loadb TE (cs := [.slice YA yn yc, .slice YB ym yd]) (o := 0) (hb := k929) (hD := by first | (simp; done) | (simp; omega)) (hk := ?_); refine TL_nil_p ?_)
  (refine TA_take 3 rfl (by kernel_rfl) (by kernel_rfl) (by kernel_rfl) ?_; (try refine TL_yes (hk := ?_)); refine TLP_loadb TE (cs := [.slice XA xn xc, .slice XB xm xd]) (o := 0) (hb := k729) (hD := by first | (simp; done) | (simp; omega)) (hk := ?_); refine TL_nil_p ?_)
  (refine TA_take 5 rfl (by kernel_rfl) (by kernel_rfl) (by kernel_rfl) ?_; (try refine TL_yes (hk := ?_)); refine TLP_loadb TE (cs := [.slice YA yn yc, .slice YB ym yd]) (o := 0) (hb := k929) (hD := by first | (simp; done) | (simp; omega)) (hk := ?_); refine TL_nil_p ?_)
  refine TA_one 2 rfl (by kernel_rfl) (by kernel_rfl) ?_; (try refine TL_yes (hk := ?_)); refine TL_call TE (hc := Clash_c XA XB YA YB xn xm yn ym xc xd yc yd ra ka rb kb _ fXA fXB fYA fYB (by omega) (by omega) (by omega) (by omega)) (hq := fun v w' h => h.2) (hk := ?_)
  rintro _ w30 ⟨rfl, e30⟩
  refine TL_nil_p ?_
  rw [hcab]
  refine TA_one 4 rfl (by kernel_rfl) (by kernel_rfl) ?_; (try refine TL_yes (hk := ?_)); refine TL_call TE (hc := Locks_c XA XB xn xc xm xd ra ka _ (fXA.be e30) (fXB.be e30) (by omega) (by omega) hofa) (hq := fun v w' ⟨_, _, _, _, h, _⟩ => e30.ext h) (hk := ?_)
  rintro _ w31 ⟨LA, ln, lc, rfl, e31, oLA⟩
  have E31 := e30.ext e31
  refine TL_nil_p ?_
  refine TA_one 6 rfl (by kernel_rfl) (by kernel_rfl) ?_; (try refine TL_yes (hk := ?_)); refine TL_call TE (hc := Locks_c YA YB yn yc ym yd rb kb _ (fYA.be E31) (fYB.be E31) (by omega) (by omega) hofb) (hq := fun v w' ⟨_, _, _, _, h, _⟩ => E31.ext h) (hk := ?_)
  rintro _ w32 ⟨MA, mn, mc, rfl, e32, oMA⟩
  have E32 := E31.ext e32
  have lLA := oLA.len
  have lMA := oMA.len
  rw [lv_len, locksM_len] at lLA lMA
  refine TL_nil_p ?_
  refine TA_one 7 rfl (by kernel_rfl) (by kernel_rfl) ?_; (try refine TL_yes (hk := ?_)); refine TL_call TE (hc := meet_c3 LA MA ln lc mn mc _ _ _ (oLA.be e32).rd oMA.rd (by omega) (by omega)) (hq := fun v w' h => E32.ext h.2) (hk := ?_)
  rintro _ w33 ⟨rfl, e33⟩
  have E33 := E32.ext e33
  refine TL_nil_p ?_
  rw [meet_eq, hcab]
  (refine TA_take 8 rfl (by kernel_rfl) (by kernel_rfl) (by kernel_rfl) ?_; (repeat (refine TL_beq TE (hk := ?_))); refine TL_nil_p ?_)
  rw [show (cab == cab) = true by simp]
  (refine TA_take 9 rfl (by kernel_rfl) (by kernel_rfl) (by kernel_rfl) ?_; (repeat (refine TL_move (hk := ?_))); refine TL_nil_p ?_)
  refine TA_one 10 rfl (by kernel_rfl) (by kernel_rfl) ?_; (try refine TL_yes (hk := ?_)); refine TL_call TE (hc := live_c3 _) (hq := fun v w' h => E33.ext h.2) (hk := ?_)
  rintro _ w34 ⟨rfl, e34⟩
  refine TL_nil_p ?_
  (refine TA_take 11 rfl (by kernel_rfl) (by kernel_rfl) (by kernel_rfl) ?_; (repeat (first | refine TL_assign (hk := ?_) | refine TL_pick_t (hk := ?_))); refine TL_nil_p ?_); (refine TA_take 12 rfl (by kernel_rfl) (by kernel_rfl) (by kernel_rfl) ?_; (repeat (first | refine TL_assign (hk := ?_) | refine TL_pick_t (hk := ?_))); refine TL_nil_p ?_)
  refine TA_done (by kernel_rfl) ?_
  --
  exact T_ret1 rfl rfl ⟨rfl, ((((e026.ext e27).ext e28).ext e29).ext E33).ext e34⟩
end Go.Proofs.Ytfplmpfdhiagaaa
