import Derived.Test.YtkmdmpmimojmbaaCW13
import Derived.Test.YtkmdmpmimojmbaaCW8
namespace Go.Proofs.Ytkmdmpmimojmbaa
open Go.RowKit Go.Proofs.Eng Go.Proofs.Codec
set_option linter.unusedSimpArgs false
set_option linter.unusedVariables false
attribute [local irreducible] T TL LV TH
set_option maxHeartbeats 1000000

theorem fails_c (b : Nat) (s : RS) (A : Option Addr) (n c : Nat) (e : Int) (w : World) (h : Rdr w 67 b s A n c) :
    Ret Try.prog 69 [ptr b, .int .i64 e] w (fun v w' => v = .tuple #[] ∧ Mod [b] w w' ∧ Rdr w' 67 b { s with err := e, spot := s.pos } A n c) := by
  obtain ⟨hb, hr, ho, hl, hp, hla, hbig, hcap⟩ := h
  refine ret_T (n := 15) Try.func69 rfl rfl ?_
  repeat (first | refine T_seq ?_ | refine T_region ?_ | refine TL_move (hk := ?_) | refine TL_fieldAddr TE (hk := ?_) | refine TL_nilCheck (hk := ?_))
  refine TL_store TE (hk := ?_); intro w1 m1 s1 k1
  repeat (first | refine T_region ?_ | refine TL_nil ?_ | refine TL_move (hk := ?_) | refine TL_load TE (hk := ?_) | refine TL_fieldAddr TE (hk := ?_) | refine TL_nilCheck (hk := ?_))
  refine TL_store TE (hk := ?_); intro w2 m2 s2 k2
  repeat (refine TL_nil ?_)
  have hm := m1.trans m2
  exact T_end0 rfl ⟨rfl, hm, ⟨k2, hr.mod hm ho, ho, hl, hp, hla, hbig, hcap⟩⟩
theorem took_c (b : Nat) (s : RS) (A : Option Addr) (n c k : Nat) {z : Int} (hz : z = (k : Int)) (w : World) (h : Rdr w 67 b s A n c) (hk : s.pos + k ≤ n) :
    Ret Try.prog 70 [ptr b, .int .i64 z] w (fun v w' => v = .tuple #[] ∧ Mod [b] w w' ∧ Rdr w' 67 b { s with pos := s.pos + k, last := s.pos } A n c) := by
  obtain ⟨hb, hr, ho, hl, hp, hla, hbig, hcap⟩ := h
  subst hz
  refine ret_T (n := 20) Try.func70 rfl rfl ?_
  repeat (first | refine T_seq ?_ | refine T_region ?_ | refine TL_move (hk := ?_) | refine TL_load TE (hk := ?_) | refine TL_fieldAddr TE (hk := ?_) | refine TL_nilCheck (hk := ?_))
  refine TL_store TE (hk := ?_); intro w1 m1 s1 k1
  repeat (first | refine T_region ?_ | refine TL_add (hk := ?_) | refine TL_nil ?_ | refine TL_move (hk := ?_) | refine TL_load TE (hk := ?_) | refine TL_fieldAddr TE (hk := ?_) | refine TL_nilCheck (hk := ?_))
  refine TL_store TE (hk := ?_); intro w2 m2 s2 k2
  repeat (refine TL_nil ?_)
  have hm := m1.trans m2
  exact T_end0 rfl ⟨rfl, hm, ⟨k2, hr.mod hm ho, ho, hl, hk, hp, hbig, hcap⟩⟩
theorem Rd.tail1 {w : World} {A : Option Addr} {n c p : Nat} {l : List UInt8} (h : Rd w A n 1 (bv l)) (hp : p ≤ n) (hc : n ≤ c) : Rd w (cutA A c p 1) (n - p) 1 (bv (l.drop p)) := by
  have hlen : l.length = n := by simpa using h.1
  have h2 := h.cut (c := c) (l := p) (h := n) hp (Nat.le_refl _) hc
  have e : ((bv l).drop (p * 1)).take ((n - p) * 1) = bv (l.drop p) := by
    unfold bv
    rw [Nat.mul_one, Nat.mul_one, ← List.map_drop, List.take_of_length_le (by simp; omega)]
  rw [e] at h2
  exact h2
theorem numq {w : World} {A : Option Addr} {n c p : Nat} {l : List UInt8} {r : Except Int (Nat × Nat)} (h : Rd w A n 1 (bv l)) (hp : p ≤ n) (hc : n ≤ c) (hn : n ≤ 7036874417) (hr : num0 (l.drop p) = r) :
    ∀ w', Ext w w' → Ret Try.prog 71 [.slice (cutA A c p 1) (n - p) (c - p)] w' (fun u w'' => u = numV r ∧ Ext w' w'') := fun w' e => by
  have := number_c (cutA A c p 1) (n - p) (c - p) (l.drop p) w' ((Rd.tail1 h hp hc).ext e) (by omega)
  rw [hr] at this
  exact this.mono fun v w2 ⟨a, b⟩ => ⟨a, b ▸ Mod.refl _ _⟩
theorem take_no {α : Type} {s : RS} {z0 : α} {t : List UInt8 → Except Int (α × Nat)} (he : ¬ s.err = 0) : s.take z0 t = (z0, s) := by unfold RS.take; rw [if_neg he]

theorem RByte_c (b : Nat) (s : RS) (A : Option Addr) (n c : Nat) (w : World) (h : Rdr w 67 b s A n c) :
    Ret Try.prog 55 [ptr b] w (fun v w' => v = .int .u8 ((s.take (0 : Nat) tByte).1 : Int) ∧ Mod [b] w w' ∧ Rdr w' 67 b (s.take (0 : Nat) tByte).2 A n c) := by
  have h0 := h
  obtain ⟨hb, hr, ho, hl, hp, hla, hbig, hcap⟩ := h
  refine ret_T (n := 34) Try.func55 rfl rfl ?_
  by_cases he : s.err = 0
  · by_cases g : s.pos < n
    · have hd : s.b.drop s.pos = s.b[s.pos] :: s.b.drop (s.pos + 1) := List.drop_eq_getElem_cons _
      have ht : tByte (s.b.drop s.pos) = .ok (gb s.b s.pos, 1) := by rw [hd, gb_get _ _ (by omega)]; rfl
      rw [take_ok he ht]
      repeat (first | refine T_seq ?_ | refine T_region ?_ | refine T_region_q TE.mixed (by kernel_rfl) ?_ | refine T_cond_false rfl ?_ | refine T_skip ?_ | refine TL_ge_f (hk := ?_) | refine TL_ne_f (hk := ?_) | refine TL_nil ?_ | refine TL_move (hk := ?_) | refine TL_assign (hk := ?_) | refine TL_load TE (hk := ?_) | refine TL_fieldAddr TE (hk := ?_) | refine TL_len TE (hk := ?_) | refine TL_nilCheck (hk := ?_))
      refine TL_nil_q ?_; intro w1 e1
      repeat (first | refine T_seq ?_ | refine T_region_q TE.mixed (by kernel_rfl) ?_ | refine T_cond_false rfl ?_ | refine T_skip ?_ | refine TL_move (hk := ?_) | refine TL_assign (hk := ?_) | refine TL_load TE (hk := ?_) | (refine TL_load_b TE (hk := ?_); intro _) | refine TL_fieldAddr TE (hk := ?_) | refine TL_indexAddr1n TE (hk := ?_) | refine TL_nilCheck (hk := ?_))
      refine TL_nil_q ?_; intro w2 e2
      repeat (first | refine T_seq ?_ | refine T_region ?_ | refine TL_move (hk := ?_))
      refine TL_call TE (hc := took_c b s A n c 1 rfl w2 (h0.ext (e1.ext e2)) (by omega)) (hk := ?_)
      rintro _ w3 ⟨rfl, m3, h3⟩
      repeat (first | refine T_seq ?_ | refine T_region ?_ | refine TL_nil ?_ | refine TL_move (hk := ?_) | refine TL_assign (hk := ?_))
      exact T_ret1 rfl rfl ⟨rfl, (Ext.mod (e1.ext e2)).trans m3, h3⟩
    · have ht : tByte (s.b.drop s.pos) = .error 3 := by rw [List.drop_of_length_le (by omega)]; rfl
      rw [take_err he ht]
      repeat (first | refine T_seq ?_ | refine T_region ?_ | refine T_region_q TE.mixed (by kernel_rfl) ?_ | refine T_cond_false rfl ?_ | refine T_skip ?_ | refine TL_ge_t (hk := ?_) | refine TL_ne_f (hk := ?_) | refine TL_nil ?_ | refine TL_move (hk := ?_) | refine TL_assign (hk := ?_) | refine TL_load TE (hk := ?_) | refine TL_fieldAddr TE (hk := ?_) | refine TL_len TE (hk := ?_) | refine TL_nilCheck (hk := ?_))
      refine TL_nil_q ?_; intro w1 e1
      repeat (first | refine T_seq ?_ | refine T_region ?_ | refine T_cond_true rfl ?_ | refine TL_move (hk := ?_))
      refine TL_call TE (hc := fails_c b s A n c 3 w1 (h0.ext e1)) (hk := ?_)
      rintro _ w3 ⟨rfl, m3, h3⟩
      repeat (first | refine T_seq ?_ | refine T_region ?_ | refine TL_nil ?_ | refine TL_assign (hk := ?_))
      exact T_ret1 rfl rfl ⟨rfl, (Ext.mod e1).trans m3, h3⟩
  · rw [take_no he]
    repeat (first | refine T_seq ?_ | refine T_region ?_ | refine T_cond_true rfl ?_ | refine TL_ne_t (hk := ?_) | refine TL_nil ?_ | refine TL_move (hk := ?_) | refine TL_assign (hk := ?_) | refine TL_load TE (hk := ?_) | refine TL_fieldAddr TE (hk := ?_) | refine TL_nilCheck (hk := ?_))
    exact T_ret1 rfl rfl ⟨rfl, Mod.refl _ _, h0⟩

theorem RUint_c (b : Nat) (s : RS) (A : Option Addr) (n c : Nat) (w : World) (h : Rdr w 67 b s A n c) :
    Ret Try.prog 56 [ptr b] w (fun v w' => v = .int .u64 ((s.take (0 : Nat) num0).1 : Int) ∧ Mod [b] w w' ∧ Rdr w' 67 b (s.take (0 : Nat) num0).2 A n c) := by
  have h0 := h
  obtain ⟨hb, hr, ho, hl, hp, hla, hbig, hcap⟩ := h
  refine ret_T (n := 34) Try.func56 rfl rfl ?_
  by_cases he : s.err = 0
  · cases hx : num0 (s.b.drop s.pos) with
    | ok x =>
      obtain ⟨x, k⟩ := x
      have hlt := num0_ok hx
      rw [List.length_drop] at hlt
      rw [take_ok he hx]
      repeat (first | refine T_seq ?_ | refine T_region ?_ | refine T_region_q TE.mixed (by kernel_rfl) ?_ | refine T_cond_false rfl ?_ | refine T_skip ?_ | refine TL_ne_f (hk := ?_) | refine TL_nil ?_ | refine TL_move (hk := ?_) | refine TL_assign (hk := ?_) | refine TL_load TE (hk := ?_) | refine TL_fieldAddr TE (hk := ?_) | refine TL_nilCheck (hk := ?_) | refine TL_slice_lo TE (hk := ?_))
      refine TL_call_q TE rfl rfl rfl (numq hr hp hcap hbig hx) ?_
      repeat (first | refine TL_move (hk := ?_) | refine TL_assign (hk := ?_) | refine TL_extract (hk := ?_))
      refine TL_nil_q ?_; intro w1 e1
      repeat (first | refine T_seq ?_ | refine T_region ?_ | refine T_cond_false rfl ?_ | refine T_skip ?_ | refine TL_ne_f (hk := ?_) | refine TL_nil ?_ | refine TL_move (hk := ?_))
      refine TL_call TE (hc := took_c b s A n c k rfl w1 (h0.ext e1) (by omega)) (hk := ?_)
      rintro _ w3 ⟨rfl, m3, h3⟩
      repeat (first | refine T_seq ?_ | refine T_region ?_ | refine TL_nil ?_ | refine TL_move (hk := ?_) | refine TL_assign (hk := ?_))
      exact T_ret1 rfl rfl ⟨rfl, (Ext.mod e1).trans m3, h3⟩
    | error e =>
      have hne : ¬ e = 0 := num0_err hx
      rw [take_err he hx]
      repeat (first | refine T_seq ?_ | refine T_region ?_ | refine T_region_q TE.mixed (by kernel_rfl) ?_ | refine T_cond_false rfl ?_ | refine T_skip ?_ | refine TL_ne_f (hk := ?_) | refine TL_nil ?_ | refine TL_move (hk := ?_) | refine TL_assign (hk := ?_) | refine TL_load TE (hk := ?_) | refine TL_fieldAddr TE (hk := ?_) | refine TL_nilCheck (hk := ?_) | refine TL_slice_lo TE (hk := ?_))
      refine TL_call_q TE rfl rfl rfl (numq hr hp hcap hbig hx) ?_
      repeat (first | refine TL_move (hk := ?_) | refine TL_assign (hk := ?_) | refine TL_extract (hk := ?_))
      refine TL_nil_q ?_; intro w1 e1
      repeat (first | refine T_seq ?_ | refine T_region ?_ | refine T_cond_true rfl ?_ | refine TL_ne_t (hk := ?_) | refine TL_nil ?_ | refine TL_move (hk := ?_))
      refine TL_call TE (hc := fails_c b s A n c e w1 (h0.ext e1)) (hk := ?_)
      rintro _ w3 ⟨rfl, m3, h3⟩
      repeat (first | refine T_seq ?_ | refine T_region ?_ | refine TL_nil ?_ | refine TL_assign (hk := ?_))
      exact T_ret1 rfl rfl ⟨rfl, (Ext.mod e1).trans m3, h3⟩
  · rw [take_no he]
    repeat (first | refine T_seq ?_ | refine T_region ?_ | refine T_cond_true rfl ?_ | refine TL_ne_t (hk := ?_) | refine TL_nil ?_ | refine TL_move (hk := ?_) | refine TL_assign (hk := ?_) | refine TL_load TE (hk := ?_) | refine TL_fieldAddr TE (hk := ?_) | refine TL_nilCheck (hk := ?_))
    exact T_ret1 rfl rfl ⟨rfl, Mod.refl _ _, h0⟩
theorem take_int (s : RS) : s.take (0 : Int) tInt = (zag (s.take (0 : Nat) num0).1, (s.take (0 : Nat) num0).2) := by
  unfold RS.take tInt
  split
  · split <;> rename_i h <;> cases h1 : num0 (s.b.drop s.pos) <;> rw [h1] at h <;> cases h
    · rfl
    · show _ = (zag 0, _); rw [show zag 0 = 0 from by decide]
  · show _ = (zag 0, _); rw [show zag 0 = 0 from by decide]
theorem RInt_c (b : Nat) (s : RS) (A : Option Addr) (n c : Nat) (w : World) (h : Rdr w 67 b s A n c) :
    Ret Try.prog 57 [ptr b] w (fun v w' => v = .int .i64 (s.take (0 : Int) tInt).1 ∧ Mod [b] w w' ∧ Rdr w' 67 b (s.take (0 : Int) tInt).2 A n c) := by
  rw [take_int]
  have hx : (s.take (0 : Nat) num0).1 < 2 ^ 64 := by
    unfold RS.take
    split
    · split
      · rename_i h; exact (num0_ok h).1
      · exact Nat.two_pow_pos 64
    · exact Nat.two_pow_pos 64
  refine ret_T (n := 17) Try.func57 rfl rfl ?_
  repeat (first | refine T_seq ?_ | refine T_region ?_ | refine TL_nil ?_ | refine TL_move (hk := ?_) | refine TL_assign (hk := ?_))
  refine TL_call TE (hc := RUint_c b s A n c w h) (hk := ?_)
  rintro _ w1 ⟨rfl, m1, h1⟩
  generalize hq : (s.take (0 : Nat) num0).1 = x at hx ⊢
  by_cases h2 : x % 2 = 0
  · repeat (first | refine T_seq ?_ | refine T_region ?_ | refine T_cond_true rfl ?_ | refine TL_quo (hk := ?_) | refine TL_rem (hk := ?_) | refine TL_eq_t (hk := ?_) | refine TL_nil ?_ | refine TL_move (hk := ?_) | refine TL_assign (hk := ?_) | refine TL_conv TE (hk := ?_))
    exact T_ret1 rfl rfl ⟨by unfold zag; rw [if_pos h2]; rfl, m1, h1⟩
  · repeat (first | refine T_seq ?_ | refine T_region ?_ | refine T_cond_false rfl ?_ | refine T_skip ?_ | refine TL_sub (hk := ?_) | refine TL_quo (hk := ?_) | refine TL_rem (hk := ?_) | refine TL_eq_f (hk := ?_) | refine TL_nil ?_ | refine TL_move (hk := ?_) | refine TL_assign (hk := ?_) | refine TL_conv TE (hk := ?_) | refine TL_neg (hk := ?_))
    exact T_ret1 rfl rfl ⟨by unfold zag; rw [if_neg h2]; rfl, m1, h1⟩

theorem tLim_ok {most e : Int} {l : List UInt8} {x k : Nat} (hx : num0 l = .ok (x, k)) (h1 : 0 ≤ most) (h2 : (x : Int) ≤ most) : tLim most e l = .ok (x, k) := by
  unfold tLim; rw [hx]; simp only; rw [if_neg (by omega)]
theorem tLim_no {most e : Int} {l : List UInt8} {x k : Nat} (hx : num0 l = .ok (x, k)) (h : most < 0 ∨ most < (x : Int)) : tLim most e l = .error e := by
  unfold tLim; rw [hx]; simp only; rw [if_pos h]
theorem tLim_err {most e e' : Int} {l : List UInt8} (hx : num0 l = .error e') : tLim most e l = .error e' := by
  unfold tLim; rw [hx]
theorem RCount_c (b : Nat) (s : RS) (A : Option Addr) (n c : Nat) (most : Int) (hmo : -9223372036854775808 ≤ most ∧ most ≤ 9223372036854775807) (w : World) (h : Rdr w 67 b s A n c) :
    Ret Try.prog 58 [ptr b, .int .i64 most] w (fun v w' => v = .int .i64 ((s.take (0 : Nat) (tLim most 6)).1 : Int) ∧ Mod [b] w w' ∧ Rdr w' 67 b (s.take (0 : Nat) (tLim most 6)).2 A n c) := by
  have h0 := h
  obtain ⟨hb, hr, ho, hl, hp, hla, hbig, hcap⟩ := h
  refine ret_T (n := 49) Try.func58 rfl rfl ?_
  by_cases he : s.err = 0
  · cases hx : num0 (s.b.drop s.pos) with
    | ok x =>
      obtain ⟨x, k⟩ := x
      have hlt := num0_ok hx
      rw [List.length_drop] at hlt
      by_cases hm : most < 0
      · rw [take_err he (tLim_no hx (.inl hm))]
        repeat (first | refine T_seq ?_ | refine T_region ?_ | refine T_region_q TE.mixed (by kernel_rfl) ?_ | refine T_cond_false rfl ?_ | refine T_skip ?_ | refine TL_ne_f (hk := ?_) | refine TL_nil ?_ | refine TL_move (hk := ?_) | refine TL_assign (hk := ?_) | refine TL_load TE (hk := ?_) | refine TL_fieldAddr TE (hk := ?_) | refine TL_nilCheck (hk := ?_) | refine TL_slice_lo TE (hk := ?_))
        refine TL_call_q TE rfl rfl rfl (numq hr hp hcap hbig hx) ?_
        repeat (first | refine TL_move (hk := ?_) | refine TL_assign (hk := ?_) | refine TL_extract (hk := ?_))
        refine TL_nil_q ?_; intro w1 e1
        repeat (first | refine T_seq ?_ | refine T_region ?_ | refine T_cond_true rfl ?_ | refine TL_lt_t (hk := ?_) | refine TL_eq_t (hk := ?_) | refine TL_ne_t (hk := ?_) | refine TL_nil ?_ | refine TL_move (hk := ?_) | refine TL_assign (hk := ?_) | refine TL_yes (hk := ?_) | refine TL_no (hk := ?_) | refine TL_pick_t (hk := ?_))
        refine TL_call TE (hc := fails_c b s A n c 6 w1 (h0.ext e1)) (hk := ?_)
        rintro _ w3 ⟨rfl, m3, h3⟩
        repeat (first | refine T_seq ?_ | refine T_region ?_ | refine TL_nil ?_ | refine TL_assign (hk := ?_))
        exact T_ret1 rfl rfl ⟨rfl, (Ext.mod e1).trans m3, h3⟩
      by_cases hg : most < (x : Int)
      · rw [take_err he (tLim_no hx (.inr hg))]
        repeat (first | refine T_seq ?_ | refine T_region ?_ | refine T_region_q TE.mixed (by kernel_rfl) ?_ | refine T_cond_false rfl ?_ | refine T_skip ?_ | refine TL_ne_f (hk := ?_) | refine TL_nil ?_ | refine TL_move (hk := ?_) | refine TL_assign (hk := ?_) | refine TL_load TE (hk := ?_) | refine TL_fieldAddr TE (hk := ?_) | refine TL_nilCheck (hk := ?_) | refine TL_slice_lo TE (hk := ?_))
        refine TL_call_q TE rfl rfl rfl (numq hr hp hcap hbig hx) ?_
        repeat (first | refine TL_move (hk := ?_) | refine TL_assign (hk := ?_) | refine TL_extract (hk := ?_))
        refine TL_nil_q ?_; intro w1 e1
        repeat (first | refine T_seq ?_ | refine T_region ?_ | refine T_cond_true rfl ?_ | refine TL_lt_f (hk := ?_) | refine TL_gt_t (hk := ?_) | refine TL_eq_t (hk := ?_) | refine TL_ne_t (hk := ?_) | refine TL_nil ?_ | refine TL_move (hk := ?_) | refine TL_assign (hk := ?_) | refine TL_yes (hk := ?_) | refine TL_pick_t (hk := ?_) | refine TL_pick_f (hk := ?_) | refine TL_conv TE (hk := ?_))
        refine TL_call TE (hc := fails_c b s A n c 6 w1 (h0.ext e1)) (hk := ?_)
        rintro _ w3 ⟨rfl, m3, h3⟩
        repeat (first | refine T_seq ?_ | refine T_region ?_ | refine TL_nil ?_ | refine TL_assign (hk := ?_))
        exact T_ret1 rfl rfl ⟨rfl, (Ext.mod e1).trans m3, h3⟩
      · rw [take_ok he (tLim_ok hx (by omega) (by omega))]
        repeat (first | refine T_seq ?_ | refine T_region ?_ | refine T_region_q TE.mixed (by kernel_rfl) ?_ | refine T_cond_false rfl ?_ | refine T_skip ?_ | refine TL_ne_f (hk := ?_) | refine TL_nil ?_ | refine TL_move (hk := ?_) | refine TL_assign (hk := ?_) | refine TL_load TE (hk := ?_) | refine TL_fieldAddr TE (hk := ?_) | refine TL_nilCheck (hk := ?_) | refine TL_slice_lo TE (hk := ?_))
        refine TL_call_q TE rfl rfl rfl (numq hr hp hcap hbig hx) ?_
        repeat (first | refine TL_move (hk := ?_) | refine TL_assign (hk := ?_) | refine TL_extract (hk := ?_))
        refine TL_nil_q ?_; intro w1 e1
        repeat (first | refine T_seq ?_ | refine T_region ?_ | refine T_cond_false rfl ?_ | refine T_skip ?_ | refine TL_lt_f (hk := ?_) | refine TL_gt_f (hk := ?_) | refine TL_eq_t (hk := ?_) | refine TL_ne_f (hk := ?_) | refine TL_nil ?_ | refine TL_move (hk := ?_) | refine TL_yes (hk := ?_) | refine TL_pick_t (hk := ?_) | refine TL_pick_f (hk := ?_) | refine TL_conv TE (hk := ?_))
        refine TL_call TE (hc := took_c b s A n c k rfl w1 (h0.ext e1) (by omega)) (hk := ?_)
        rintro _ w3 ⟨rfl, m3, h3⟩
        repeat (first | refine T_seq ?_ | refine T_region ?_ | refine TL_nil ?_ | refine TL_move (hk := ?_) | refine TL_assign (hk := ?_) | refine TL_conv TE (hk := ?_))
        exact T_ret1 rfl rfl ⟨rfl, (Ext.mod e1).trans m3, h3⟩
    | error e =>
      have hne : ¬ e = 0 := num0_err hx
      rw [take_err he (tLim_err hx)]
      repeat (first | refine T_seq ?_ | refine T_region ?_ | refine T_region_q TE.mixed (by kernel_rfl) ?_ | refine T_cond_false rfl ?_ | refine T_skip ?_ | refine TL_ne_f (hk := ?_) | refine TL_nil ?_ | refine TL_move (hk := ?_) | refine TL_assign (hk := ?_) | refine TL_load TE (hk := ?_) | refine TL_fieldAddr TE (hk := ?_) | refine TL_nilCheck (hk := ?_) | refine TL_slice_lo TE (hk := ?_))
      refine TL_call_q TE rfl rfl rfl (numq hr hp hcap hbig hx) ?_
      repeat (first | refine TL_move (hk := ?_) | refine TL_assign (hk := ?_) | refine TL_extract (hk := ?_))
      refine TL_nil_q ?_; intro w1 e1
      repeat (first | refine T_seq ?_ | refine T_region ?_ | refine T_cond_true rfl ?_ | refine T_cond_false rfl ?_ | refine T_skip ?_ | refine TL_eq_f (hk := ?_) | refine TL_ne_t (hk := ?_) | refine TL_nil ?_ | refine TL_move (hk := ?_) | refine TL_no (hk := ?_) | refine TL_pick_f (hk := ?_))
      refine TL_call TE (hc := fails_c b s A n c e w1 (h0.ext e1)) (hk := ?_)
      rintro _ w3 ⟨rfl, m3, h3⟩
      repeat (first | refine T_seq ?_ | refine T_region ?_ | refine TL_nil ?_ | refine TL_assign (hk := ?_))
      exact T_ret1 rfl rfl ⟨rfl, (Ext.mod e1).trans m3, h3⟩
  · rw [take_no he]
    repeat (first | refine T_seq ?_ | refine T_region ?_ | refine T_cond_true rfl ?_ | refine TL_ne_t (hk := ?_) | refine TL_nil ?_ | refine TL_move (hk := ?_) | refine TL_assign (hk := ?_) | refine TL_load TE (hk := ?_) | refine TL_fieldAddr TE (hk := ?_) | refine TL_nilCheck (hk := ?_))
    exact T_ret1 rfl rfl ⟨rfl, Mod.refl _ _, h0⟩
end Go.Proofs.Ytkmdmpmimojmbaa
