import Derived.Test.YtkmdmpmimojmbaaCW14
namespace Go.Proofs.Ytkmdmpmimojmbaa
open Go.RowKit Go.Proofs.Eng Go.Proofs.Codec
set_option linter.unusedSimpArgs false
set_option linter.unusedVariables false
attribute [local irreducible] T TL LV TH
set_option maxHeartbeats 1000000

theorem tText_ok {most : Int} {l : List UInt8} {x k : Nat} (hx : num0 l = .ok (x, k)) (h1 : 0 ≤ most) (h2 : (x : Int) ≤ most) (h3 : k + x ≤ l.length) : tText most l = .ok ((l.drop k).take x, k + x) := by
  unfold tText; rw [tLim_ok hx h1 h2]; simp only; rw [if_neg (by omega)]
theorem tText_short {most : Int} {l : List UInt8} {x k : Nat} (hx : num0 l = .ok (x, k)) (h1 : 0 ≤ most) (h2 : (x : Int) ≤ most) (h3 : l.length < k + x) : tText most l = .error 3 := by
  unfold tText; rw [tLim_ok hx h1 h2]; simp only; rw [if_pos h3]
theorem tText_no {most : Int} {l : List UInt8} {x k : Nat} (hx : num0 l = .ok (x, k)) (h : most < 0 ∨ most < (x : Int)) : tText most l = .error 1 := by
  unfold tText; rw [tLim_no hx h]
theorem tText_err {most : Int} {l : List UInt8} {e : Int} (hx : num0 l = .error e) : tText most l = .error e := by
  unfold tText; rw [tLim_err hx]
theorem Rd.mid1 {w : World} {A : Option Addr} {n c p q : Nat} {l : List UInt8} (h : Rd w A n 1 (bv l)) (hp : p ≤ q) (hq : q ≤ n) (hc : n ≤ c) : Rd w (cutA A c p 1) (q - p) 1 (bv ((l.drop p).take (q - p))) := by
  have h2 := h.cut (c := c) (l := p) (h := q) hp hq hc
  have e : ((bv l).drop (p * 1)).take ((q - p) * 1) = bv ((l.drop p).take (q - p)) := by
    unfold bv
    rw [Nat.mul_one, Nat.mul_one, ← List.map_drop, ← List.map_take]
  rw [e] at h2
  exact h2
theorem RText_c (b : Nat) (s : RS) (A : Option Addr) (n c : Nat) (most : Int) (hmo : -9223372036854775808 ≤ most ∧ most ≤ 9223372036854775807) (w : World) (h : Rdr w 67 b s A n c) :
    Ret Try.prog 59 [ptr b, .int .i64 most] w (fun v w' => v = .string ⟨(s.take ([] : List UInt8) (tText most)).1.toArray⟩ ∧ Mod [b] w w' ∧ Rdr w' 67 b (s.take ([] : List UInt8) (tText most)).2 A n c) := by
  have h0 := h
  obtain ⟨hb, hr, ho, hl, hp, hla, hbig, hcap⟩ := h
  refine ret_T (n := 92) Try.func59 rfl rfl ?_
  by_cases he : s.err = 0
  · cases hx : num0 (s.b.drop s.pos) with
    | ok x =>
      obtain ⟨x, k⟩ := x
      have hlt := num0_ok hx
      rw [List.length_drop] at hlt
      by_cases hm : most < 0
      · rw [take_err he (tText_no hx (.inl hm))]
        repeat (first | refine T_seq ?_ | refine T_region ?_ | refine T_region_q TE.mixed (by kernel_rfl) ?_ | refine T_cond_false rfl ?_ | refine T_skip ?_ | refine TL_ne_f (hk := ?_) | refine TL_nil ?_ | refine TL_move (hk := ?_) | refine TL_assign (hk := ?_) | refine TL_load TE (hk := ?_) | refine TL_fieldAddr TE (hk := ?_) | refine TL_nilCheck (hk := ?_) | refine TL_slice_lo TE (hk := ?_))
        refine TL_call_q TE rfl rfl rfl (numq hr hp hcap hbig hx) ?_
        repeat (first | refine TL_move (hk := ?_) | refine TL_assign (hk := ?_) | refine TL_extract (hk := ?_))
        refine TL_nil_q ?_; intro w1 e1
        repeat (first | refine T_seq ?_ | refine T_region ?_ | refine T_region_q TE.mixed (by kernel_rfl) ?_ | refine T_cond_true rfl ?_ | refine TL_lt_t (hk := ?_) | refine TL_eq_t (hk := ?_) | refine TL_eq_f (hk := ?_) | refine TL_nil ?_ | refine TL_move (hk := ?_) | refine TL_assign (hk := ?_) | refine TL_yes (hk := ?_) | refine TL_no (hk := ?_) | refine TL_pick_t (hk := ?_) | refine TL_pick_f (hk := ?_))
        refine TL_nil_q ?_; intro w2 e2
        repeat (first | refine T_seq ?_ | refine T_region ?_ | refine T_cond_true rfl ?_ | refine T_cond_false rfl ?_ | refine T_skip ?_ | refine TL_ne_t (hk := ?_) | refine TL_nil ?_ | refine TL_move (hk := ?_))
        refine TL_call TE (hc := fails_c b s A n c 1 w2 (h0.ext (e1.ext e2))) (hk := ?_)
        rintro _ w3 ⟨rfl, m3, h3⟩
        repeat (first | refine T_seq ?_ | refine T_region ?_ | refine TL_nil ?_ | refine TL_assign (hk := ?_))
        exact T_ret1 rfl rfl ⟨rfl, (Ext.mod (e1.ext e2)).trans m3, h3⟩
      by_cases hg : most < (x : Int)
      · rw [take_err he (tText_no hx (.inr hg))]
        repeat (first | refine T_seq ?_ | refine T_region ?_ | refine T_region_q TE.mixed (by kernel_rfl) ?_ | refine T_cond_false rfl ?_ | refine T_skip ?_ | refine TL_ne_f (hk := ?_) | refine TL_nil ?_ | refine TL_move (hk := ?_) | refine TL_assign (hk := ?_) | refine TL_load TE (hk := ?_) | refine TL_fieldAddr TE (hk := ?_) | refine TL_nilCheck (hk := ?_) | refine TL_slice_lo TE (hk := ?_))
        refine TL_call_q TE rfl rfl rfl (numq hr hp hcap hbig hx) ?_
        repeat (first | refine TL_move (hk := ?_) | refine TL_assign (hk := ?_) | refine TL_extract (hk := ?_))
        refine TL_nil_q ?_; intro w1 e1
        repeat (first | refine T_seq ?_ | refine T_region ?_ | refine T_region_q TE.mixed (by kernel_rfl) ?_ | refine T_cond_true rfl ?_ | refine TL_lt_f (hk := ?_) | refine TL_gt_t (hk := ?_) | refine TL_eq_t (hk := ?_) | refine TL_eq_f (hk := ?_) | refine TL_nil ?_ | refine TL_move (hk := ?_) | refine TL_assign (hk := ?_) | refine TL_yes (hk := ?_) | refine TL_no (hk := ?_) | refine TL_pick_t (hk := ?_) | refine TL_pick_f (hk := ?_) | refine TL_conv TE (hk := ?_))
        refine TL_nil_q ?_; intro w2 e2
        repeat (first | refine T_seq ?_ | refine T_region ?_ | refine T_cond_true rfl ?_ | refine T_cond_false rfl ?_ | refine T_skip ?_ | refine TL_ne_t (hk := ?_) | refine TL_nil ?_ | refine TL_move (hk := ?_))
        refine TL_call TE (hc := fails_c b s A n c 1 w2 (h0.ext (e1.ext e2))) (hk := ?_)
        rintro _ w3 ⟨rfl, m3, h3⟩
        repeat (first | refine T_seq ?_ | refine T_region ?_ | refine TL_nil ?_ | refine TL_assign (hk := ?_))
        exact T_ret1 rfl rfl ⟨rfl, (Ext.mod (e1.ext e2)).trans m3, h3⟩
      by_cases hs : n - s.pos < k + x
      · rw [take_err he (tText_short hx (by omega) (by omega) (by rw [List.length_drop]; omega))]
        repeat (first | refine T_seq ?_ | refine T_region ?_ | refine T_region_q TE.mixed (by kernel_rfl) ?_ | refine T_cond_false rfl ?_ | refine T_skip ?_ | refine TL_ne_f (hk := ?_) | refine TL_nil ?_ | refine TL_move (hk := ?_) | refine TL_assign (hk := ?_) | refine TL_load TE (hk := ?_) | refine TL_fieldAddr TE (hk := ?_) | refine TL_nilCheck (hk := ?_) | refine TL_slice_lo TE (hk := ?_))
        refine TL_call_q TE rfl rfl rfl (numq hr hp hcap hbig hx) ?_
        repeat (first | refine TL_move (hk := ?_) | refine TL_assign (hk := ?_) | refine TL_extract (hk := ?_))
        refine TL_nil_q ?_; intro w1 e1
        repeat (first | refine T_seq ?_ | refine T_region ?_ | refine T_region_q TE.mixed (by kernel_rfl) ?_ | refine T_cond_false rfl ?_ | refine T_skip ?_ | refine TL_sub (hk := ?_) | refine TL_lt_t (hk := ?_) | refine TL_lt_f (hk := ?_) | refine TL_gt_f (hk := ?_) | refine TL_eq_t (hk := ?_) | refine TL_nil ?_ | refine TL_move (hk := ?_) | refine TL_load TE (hk := ?_) | refine TL_fieldAddr TE (hk := ?_) | refine TL_len TE (hk := ?_) | refine TL_yes (hk := ?_) | refine TL_pick_t (hk := ?_) | refine TL_pick_f (hk := ?_) | refine TL_nilCheck (hk := ?_) | refine TL_conv TE (hk := ?_))
        refine TL_nil_q ?_; intro w2 e2
        repeat (first | refine T_seq ?_ | refine T_region ?_ | refine T_cond_true rfl ?_ | refine TL_ne_t (hk := ?_) | refine TL_nil ?_ | refine TL_move (hk := ?_) | refine TL_assign (hk := ?_))
        refine TL_call TE (hc := fails_c b s A n c 3 w2 (h0.ext (e1.ext e2))) (hk := ?_)
        rintro _ w3 ⟨rfl, m3, h3⟩
        repeat (first | refine T_seq ?_ | refine T_region ?_ | refine TL_nil ?_ | refine TL_assign (hk := ?_))
        exact T_ret1 rfl rfl ⟨rfl, (Ext.mod (e1.ext e2)).trans m3, h3⟩
      · rw [take_ok he (tText_ok hx (by omega) (by omega) (by rw [List.length_drop]; omega))]
        have hmid : ∀ w', Ext w w' → Rd w' (cutA A c (s.pos + k) 1) (s.pos + k + x - (s.pos + k)) 1 (bv ((s.b.drop (s.pos + k)).take (s.pos + k + x - (s.pos + k)))) := fun w' e => Rd.mid1 (hr.ext e) (by omega) (by omega) hcap
        repeat (first | refine T_seq ?_ | refine T_region ?_ | refine T_region_q TE.mixed (by kernel_rfl) ?_ | refine T_cond_false rfl ?_ | refine T_skip ?_ | refine TL_ne_f (hk := ?_) | refine TL_nil ?_ | refine TL_move (hk := ?_) | refine TL_assign (hk := ?_) | refine TL_load TE (hk := ?_) | refine TL_fieldAddr TE (hk := ?_) | refine TL_nilCheck (hk := ?_) | refine TL_slice_lo TE (hk := ?_))
        refine TL_call_q TE rfl rfl rfl (numq hr hp hcap hbig hx) ?_
        repeat (first | refine TL_move (hk := ?_) | refine TL_assign (hk := ?_) | refine TL_extract (hk := ?_))
        refine TL_nil_q ?_; intro w1 e1
        repeat (first | refine T_seq ?_ | refine T_region ?_ | refine T_region_q TE.mixed (by kernel_rfl) ?_ | refine T_cond_false rfl ?_ | refine T_skip ?_ | refine TL_sub (hk := ?_) | refine TL_lt_f (hk := ?_) | refine TL_gt_f (hk := ?_) | refine TL_eq_t (hk := ?_) | refine TL_nil ?_ | refine TL_move (hk := ?_) | refine TL_load TE (hk := ?_) | refine TL_fieldAddr TE (hk := ?_) | refine TL_len TE (hk := ?_) | refine TL_yes (hk := ?_) | refine TL_pick_t (hk := ?_) | refine TL_pick_f (hk := ?_) | refine TL_nilCheck (hk := ?_) | refine TL_conv TE (hk := ?_))
        refine TL_nil_q ?_; intro w2 e2
        have hm2 := hmid w2 (e1.ext e2)
        repeat (first | refine T_seq ?_ | refine T_region ?_ | refine T_region_q TE.mixed (by kernel_rfl) ?_ | refine T_cond_false rfl ?_ | refine T_skip ?_ | refine TL_add (hk := ?_) | refine TL_ne_f (hk := ?_) | refine TL_nil ?_ | refine TL_move (hk := ?_) | refine TL_assign (hk := ?_) | refine TL_load TE (hk := ?_) | refine TL_fieldAddr TE (hk := ?_) | refine TL_nilCheck (hk := ?_) | refine TL_slice_lh TE (hk := ?_) | refine TL_conv TE (hk := ?_) | refine TL_conv_bs TE (hk := ?_))
        refine TL_nil_q ?_; intro w4 e4
        repeat (first | refine T_seq ?_ | refine T_region ?_ | refine TL_add (hk := ?_) | refine TL_move (hk := ?_) | refine TL_conv TE (hk := ?_))
        refine TL_call TE (hc := took_c b s A n c (k + x) rfl w4 (h0.ext ((e1.ext e2).ext e4)) (by omega)) (hk := ?_)
        rintro _ w3 ⟨rfl, m3, h3⟩
        repeat (first | refine T_seq ?_ | refine T_region ?_ | refine TL_nil ?_ | refine TL_move (hk := ?_) | refine TL_assign (hk := ?_))
        refine T_ret1 rfl rfl ⟨?_, (Ext.mod ((e1.ext e2).ext e4)).trans m3, h3⟩
        simp only [ofL, List.drop_drop]
        rw [show s.pos + k + x - (s.pos + k) = x by omega]
    | error e =>
      have hne : ¬ e = 0 := num0_err hx
      rw [take_err he (tText_err hx)]
      repeat (first | refine T_seq ?_ | refine T_region ?_ | refine T_region_q TE.mixed (by kernel_rfl) ?_ | refine T_cond_false rfl ?_ | refine T_skip ?_ | refine TL_ne_f (hk := ?_) | refine TL_nil ?_ | refine TL_move (hk := ?_) | refine TL_assign (hk := ?_) | refine TL_load TE (hk := ?_) | refine TL_fieldAddr TE (hk := ?_) | refine TL_nilCheck (hk := ?_) | refine TL_slice_lo TE (hk := ?_))
      refine TL_call_q TE rfl rfl rfl (numq hr hp hcap hbig hx) ?_
      repeat (first | refine TL_move (hk := ?_) | refine TL_assign (hk := ?_) | refine TL_extract (hk := ?_))
      refine TL_nil_q ?_; intro w1 e1
      repeat (first | refine T_seq ?_ | refine T_region ?_ | refine T_region_q TE.mixed (by kernel_rfl) ?_ | refine T_cond_false rfl ?_ | refine T_skip ?_ | refine TL_eq_f (hk := ?_) | refine TL_nil ?_ | refine TL_move (hk := ?_) | refine TL_no (hk := ?_) | refine TL_pick_f (hk := ?_))
      refine TL_nil_q ?_; intro w2 e2
      repeat (first | refine T_seq ?_ | refine T_region ?_ | refine T_cond_true rfl ?_ | refine T_cond_false rfl ?_ | refine T_skip ?_ | refine TL_ne_t (hk := ?_) | refine TL_nil ?_ | refine TL_move (hk := ?_))
      refine TL_call TE (hc := fails_c b s A n c e w2 (h0.ext (e1.ext e2))) (hk := ?_)
      rintro _ w3 ⟨rfl, m3, h3⟩
      repeat (first | refine T_seq ?_ | refine T_region ?_ | refine TL_nil ?_ | refine TL_assign (hk := ?_))
      exact T_ret1 rfl rfl ⟨rfl, (Ext.mod (e1.ext e2)).trans m3, h3⟩
  · rw [take_no he]
    repeat (first | refine T_seq ?_ | refine T_region ?_ | refine T_cond_true rfl ?_ | refine TL_ne_t (hk := ?_) | refine TL_nil ?_ | refine TL_move (hk := ?_) | refine TL_assign (hk := ?_) | refine TL_load TE (hk := ?_) | refine TL_fieldAddr TE (hk := ?_) | refine TL_nilCheck (hk := ?_))
    exact T_ret1 rfl rfl ⟨rfl, Mod.refl _ _, h0⟩
theorem RFail_c (b : Nat) (s : RS) (A : Option Addr) (n c : Nat) (e : Int) (w : World) (h : Rdr w 67 b s A n c) :
    Ret Try.prog 60 [ptr b, .int .i64 e] w (fun v w' => v = .tuple #[] ∧ Mod [b] w w' ∧ Rdr w' 67 b (s.fail e) A n c) := by
  have h0 := h
  obtain ⟨hb, hr, ho, hl, hp, hla, hbig, hcap⟩ := h
  refine ret_T (n := 24) Try.func60 rfl rfl ?_
  by_cases he : s.err = 0
  · by_cases he2 : e = 0
    · have hs : s.fail e = s := by unfold RS.fail; rw [if_neg (by omega)]
      rw [hs]
      repeat (first | refine T_seq ?_ | refine T_region ?_ | refine T_cond_false rfl ?_ | refine T_skip ?_ | refine TL_eq_t (hk := ?_) | refine TL_ne_f (hk := ?_) | refine TL_nil ?_ | refine TL_move (hk := ?_) | refine TL_load TE (hk := ?_) | refine TL_fieldAddr TE (hk := ?_) | refine TL_yes (hk := ?_) | refine TL_pick_t (hk := ?_) | refine TL_nilCheck (hk := ?_))
      exact T_end0 rfl ⟨rfl, Mod.refl _ _, h0⟩
    · have hs : s.fail e = { s with err := e, spot := s.last } := by unfold RS.fail; rw [if_pos ⟨he, he2⟩]
      rw [hs]
      repeat (first | refine T_seq ?_ | refine T_region ?_ | refine T_cond_true rfl ?_ | refine TL_eq_t (hk := ?_) | refine TL_ne_t (hk := ?_) | refine TL_nil ?_ | refine TL_move (hk := ?_) | refine TL_load TE (hk := ?_) | refine TL_fieldAddr TE (hk := ?_) | refine TL_yes (hk := ?_) | refine TL_pick_t (hk := ?_) | refine TL_nilCheck (hk := ?_))
      refine TL_store TE (hk := ?_); intro w1 m1 s1 k1
      repeat (first | refine T_region ?_ | refine TL_nil ?_ | refine TL_move (hk := ?_) | refine TL_load TE (hk := ?_) | refine TL_fieldAddr TE (hk := ?_) | refine TL_nilCheck (hk := ?_))
      refine TL_store TE (hk := ?_); intro w2 m2 s2 k2
      repeat (refine TL_nil ?_)
      have hm := m1.trans m2
      exact T_end0 rfl ⟨rfl, hm, ⟨k2, hr.mod hm ho, ho, hl, hp, hla, hbig, hcap⟩⟩
  · have hs : s.fail e = s := by unfold RS.fail; rw [if_neg (by omega)]
    rw [hs]
    repeat (first | refine T_seq ?_ | refine T_region ?_ | refine T_cond_false rfl ?_ | refine T_skip ?_ | refine TL_eq_f (hk := ?_) | refine TL_nil ?_ | refine TL_move (hk := ?_) | refine TL_load TE (hk := ?_) | refine TL_fieldAddr TE (hk := ?_) | refine TL_no (hk := ?_) | refine TL_pick_f (hk := ?_) | refine TL_nilCheck (hk := ?_))
    exact T_end0 rfl ⟨rfl, Mod.refl _ _, h0⟩
theorem REnd_c (b : Nat) (s : RS) (A : Option Addr) (n c : Nat) (w : World) (h : Rdr w 67 b s A n c) :
    Ret Try.prog 61 [ptr b] w (fun v w' => v = .int .i64 s.fin.err ∧ Mod [b] w w' ∧ Rdr w' 67 b s.fin A n c) := by
  have h0 := h
  obtain ⟨hb, hr, ho, hl, hp, hla, hbig, hcap⟩ := h
  refine ret_T (n := 26) Try.func61 rfl rfl ?_
  by_cases he : s.err = 0
  · by_cases he2 : s.pos < n
    · have hs : s.fin = { s with err := 4, spot := s.pos } := by unfold RS.fin; rw [if_pos ⟨he, by omega⟩]
      rw [hs]
      repeat (first | refine T_seq ?_ | refine T_region ?_ | refine T_region_q TE.mixed (by kernel_rfl) ?_ | refine TL_lt_t (hk := ?_) | refine TL_eq_t (hk := ?_) | refine TL_nil ?_ | refine TL_move (hk := ?_) | refine TL_assign (hk := ?_) | refine TL_load TE (hk := ?_) | refine TL_fieldAddr TE (hk := ?_) | refine TL_len TE (hk := ?_) | refine TL_yes (hk := ?_) | refine TL_pick_t (hk := ?_) | refine TL_nilCheck (hk := ?_))
      refine TL_nil_q ?_; intro w1 e1
      repeat (first | refine T_region ?_ | refine T_cond_true rfl ?_ | refine TL_move (hk := ?_))
      refine TL_call TE (hc := fails_c b s A n c 4 w1 (h0.ext e1)) (hk := ?_)
      rintro _ w3 ⟨rfl, m3, h3⟩
      obtain ⟨hb3, _⟩ := id h3
      repeat (first | refine T_seq ?_ | refine T_region ?_ | refine TL_nil ?_ | refine TL_move (hk := ?_) | refine TL_assign (hk := ?_) | refine TL_load TE (hk := ?_) | refine TL_fieldAddr TE (hk := ?_) | refine TL_nilCheck (hk := ?_))
      exact T_ret1 rfl rfl ⟨rfl, (Ext.mod e1).trans m3, h3⟩
    · have hs : s.fin = s := by unfold RS.fin; rw [if_neg (by omega)]
      rw [hs]
      repeat (first | refine T_seq ?_ | refine T_region ?_ | refine T_region_q TE.mixed (by kernel_rfl) ?_ | refine TL_lt_f (hk := ?_) | refine TL_eq_t (hk := ?_) | refine TL_nil ?_ | refine TL_move (hk := ?_) | refine TL_assign (hk := ?_) | refine TL_load TE (hk := ?_) | refine TL_fieldAddr TE (hk := ?_) | refine TL_len TE (hk := ?_) | refine TL_yes (hk := ?_) | refine TL_pick_t (hk := ?_) | refine TL_nilCheck (hk := ?_))
      refine TL_nil_q ?_; intro w1 e1
      repeat (first | refine T_seq ?_ | refine T_region ?_ | refine T_cond_false rfl ?_ | refine T_skip ?_ | refine TL_nil ?_ | refine TL_move (hk := ?_) | refine TL_assign (hk := ?_) | refine TL_load TE (hk := ?_) | refine TL_fieldAddr TE (hk := ?_) | refine TL_nilCheck (hk := ?_))
      exact T_ret1 rfl rfl ⟨rfl, Ext.mod e1, h0.ext e1⟩
  · have hs : s.fin = s := by unfold RS.fin; rw [if_neg (by omega)]
    rw [hs]
    repeat (first | refine T_seq ?_ | refine T_region ?_ | refine T_region_q TE.mixed (by kernel_rfl) ?_ | refine TL_eq_f (hk := ?_) | refine TL_nil ?_ | refine TL_move (hk := ?_) | refine TL_assign (hk := ?_) | refine TL_load TE (hk := ?_) | refine TL_fieldAddr TE (hk := ?_) | refine TL_no (hk := ?_) | refine TL_pick_f (hk := ?_) | refine TL_nilCheck (hk := ?_))
    refine TL_nil_q ?_; intro w1 e1
    repeat (first | refine T_seq ?_ | refine T_region ?_ | refine T_cond_false rfl ?_ | refine T_skip ?_ | refine TL_nil ?_ | refine TL_move (hk := ?_) | refine TL_assign (hk := ?_) | refine TL_load TE (hk := ?_) | refine TL_fieldAddr TE (hk := ?_) | refine TL_nilCheck (hk := ?_))
    exact T_ret1 rfl rfl ⟨rfl, Ext.mod e1, h0.ext e1⟩
theorem RRest_c (b : Nat) (s : RS) (A : Option Addr) (n c : Nat) (w : World) (h : Rdr w 67 b s A n c) :
    Ret Try.prog 38 [ptr b] w (fun v w' => v = .int .i64 (s.rest : Int) ∧ Ext w w') := by
  have h0 := h
  obtain ⟨hb, hr, ho, hl, hp, hla, hbig, hcap⟩ := h
  refine ret_T (n := 18) Try.func38 rfl rfl ?_
  by_cases he : s.err = 0
  · have hs : s.rest = n - s.pos := by unfold RS.rest; rw [if_pos he, hl]
    rw [hs]
    repeat (first | refine T_seq ?_ | refine T_region ?_ | refine T_region_q TE.mixed (by kernel_rfl) ?_ | refine T_cond_false rfl ?_ | refine T_skip ?_ | refine TL_sub (hk := ?_) | refine TL_ne_f (hk := ?_) | refine TL_nil ?_ | refine TL_move (hk := ?_) | refine TL_assign (hk := ?_) | refine TL_load TE (hk := ?_) | refine TL_fieldAddr TE (hk := ?_) | refine TL_len TE (hk := ?_) | refine TL_nilCheck (hk := ?_))
    refine TL_nil_q ?_; intro w1 e1
    refine T_ret1 rfl rfl ⟨?_, e1⟩
    show Value.int .i64 ((n : Int) - (s.pos : Int)) = _
    rw [show ((n - s.pos : Nat) : Int) = (n : Int) - (s.pos : Int) by omega]
  · have hs : s.rest = 0 := by unfold RS.rest; rw [if_neg he]
    rw [hs]
    repeat (first | refine T_seq ?_ | refine T_region ?_ | refine T_cond_true rfl ?_ | refine TL_ne_t (hk := ?_) | refine TL_nil ?_ | refine TL_move (hk := ?_) | refine TL_assign (hk := ?_) | refine TL_load TE (hk := ?_) | refine TL_fieldAddr TE (hk := ?_) | refine TL_nilCheck (hk := ?_))
    exact T_ret1 rfl rfl ⟨rfl, Mod.refl _ _⟩
end Go.Proofs.Ytkmdmpmimojmbaa
