import Derived.Test.YtkmdmpmimojmbaaCW6
namespace Go.Proofs.Ytkmdmpmimojmbaa
open Go.RowKit Go.Proofs.Eng Go.Proofs.Codec
set_option linter.unusedSimpArgs false
set_option linter.unusedVariables false
attribute [local irreducible] T TL LV TH
set_option maxHeartbeats 1000000

theorem int_c (b : Nat) (s : RS) (A : Option Addr) (n c : Nat) (w : World) (h : Rdr w 76 b s A n c) :
    Calls Try.prog 49 #[ptr b] w (Took w b s A n c (fun x : Int => .int .i64 x) (tInt (s.b.drop s.pos))) := by
  refine calls_T (n := 14) (args := [ptr b]) Try.func49 rfl rfl ?_
  repeat (first | refine T_seq ?_ | refine T_region ?_ | refine TL_nil ?_ | refine TL_move (hk := ?_) | refine TL_assign (hk := ?_))
  refine TL_callc TE (fst := []) (cap := []) rfl rfl rfl rfl (uint_c b s A n c w h) ?_ ?_ (fun _ h => h)
  · rintro _ w1 ⟨x, k, hx, rfl, m1, h1⟩
    have hlt := (num0_ok hx).1
    have hi : tInt (s.b.drop s.pos) = .ok (zag x, k) := by unfold tInt; rw [hx]
    rw [hi]
    have e1 : x &&& 1 = x % 2 := Nat.and_one_is_mod x
    by_cases h2 : x % 2 = 0
    · repeat (first | refine T_seq ?_ | refine T_region ?_ | (refine TL_and (hk := ?_); intro _) | refine TL_shr (hk := ?_) | refine TL_nil ?_ | refine TL_move (hk := ?_) | refine TL_assign (hk := ?_) | refine TL_conv TE (hk := ?_) | refine TL_neg (hk := ?_))
      refine TL_xor0 rfl rfl rfl (by omega) (by show _ ∧ _; omega) rfl ?_
      repeat (first | refine TL_nil ?_ | refine TL_assign (hk := ?_))
      exact T_ret1' rfl rfl (Took.ok _ k rfl (by unfold zag; rw [if_pos h2]) m1 h1)
    · repeat (first | refine T_seq ?_ | refine T_region ?_ | (refine TL_and (hk := ?_); intro _) | refine TL_shr (hk := ?_) | refine TL_nil ?_ | refine TL_move (hk := ?_) | refine TL_assign (hk := ?_) | refine TL_conv TE (hk := ?_) | refine TL_neg (hk := ?_))
      refine TL_xorm rfl rfl rfl (by omega) (by show _ ∧ _; omega) rfl ?_
      repeat (first | refine TL_nil ?_ | refine TL_assign (hk := ?_))
      exact T_ret1' rfl rfl (Took.ok _ k rfl (by unfold zag; rw [if_neg h2]) m1 h1)
  · rintro ch w1 ⟨e, p, he, rfl, m1, h1⟩
    exact LV_panic (Took.no e p (by unfold tInt; rw [he]) m1 h1)

theorem limited_c (b : Nat) (s : RS) (A : Option Addr) (n c : Nat) (most e : Int) (hmo : -9223372036854775808 ≤ most ∧ most ≤ 9223372036854775807) (w : World) (h : Rdr w 76 b s A n c) :
    Calls Try.prog 52 #[ptr b, .int .i64 most, .int .i64 e] w (Took w b s A n c (fun x : Nat => .int .i64 (x : Int)) (tLim most e (s.b.drop s.pos))) := by
  refine calls_T (n := 23) (args := [ptr b, .int .i64 most, .int .i64 e]) Try.func52 rfl rfl ?_
  repeat (first | refine T_seq ?_ | refine T_region ?_ | refine TL_nil ?_ | refine TL_move (hk := ?_) | refine TL_assign (hk := ?_))
  refine TL_callc TE (fst := []) (cap := []) rfl rfl rfl rfl (uint_c b s A n c w h) ?_ ?_ (fun _ h => h)
  · rintro _ w1 ⟨x, k, hx, rfl, m1, h1⟩
    have hlt := (num0_ok hx).1
    by_cases hm : most < 0
    · have hi : tLim most e (s.b.drop s.pos) = .error e := by unfold tLim; rw [hx]; simp only; rw [if_pos (.inl hm)]
      repeat (first | refine T_seq ?_ | refine T_region ?_ | refine T_cond_true rfl ?_ | refine TL_lt_t (hk := ?_) | refine TL_nil ?_ | refine TL_move (hk := ?_) | refine TL_assign (hk := ?_) | refine TL_no (hk := ?_) | refine TL_pick_t (hk := ?_) | refine TL_makeIface_s TE (hk := ?_) | refine TL_build TE (hk := ?_))
      refine TL_panic rfl ?_
      exact LV_panic (Took.no e _ hi m1 h1)
    · by_cases hg : most < (x : Int)
      · have hi : tLim most e (s.b.drop s.pos) = .error e := by unfold tLim; rw [hx]; simp only; rw [if_pos (.inr hg)]
        repeat (first | refine T_seq ?_ | refine T_region ?_ | refine T_cond_true rfl ?_ | refine TL_lt_f (hk := ?_) | refine TL_gt_t (hk := ?_) | refine TL_nil ?_ | refine TL_move (hk := ?_) | refine TL_assign (hk := ?_) | refine TL_yes (hk := ?_) | refine TL_pick_f (hk := ?_) | refine TL_makeIface_s TE (hk := ?_) | refine TL_conv TE (hk := ?_) | refine TL_build TE (hk := ?_))
        refine TL_panic rfl ?_
        exact LV_panic (Took.no e _ hi m1 h1)
      · have hi : tLim most e (s.b.drop s.pos) = .ok (x, k) := by unfold tLim; rw [hx]; simp only; rw [if_neg (by omega)]
        repeat (first | refine T_seq ?_ | refine T_region ?_ | refine T_cond_false rfl ?_ | refine T_skip ?_ | refine TL_lt_f (hk := ?_) | refine TL_gt_f (hk := ?_) | refine TL_nil ?_ | refine TL_move (hk := ?_) | refine TL_assign (hk := ?_) | refine TL_yes (hk := ?_) | refine TL_pick_f (hk := ?_) | refine TL_conv TE (hk := ?_))
        exact T_ret1' rfl rfl (Took.ok x k hi rfl m1 h1)
  · rintro ch w1 ⟨e, p, he, rfl, m1, h1⟩
    exact LV_panic (Took.no e p (by unfold tLim; rw [he]) m1 h1)

theorem Count1_c (b x y : Nat) (tx ty : TypeId) (s : RS) (A : Option Addr) (n c : Nat) (most : Int) (hmo : -9223372036854775808 ≤ most ∧ most ≤ 9223372036854775807) (w : World) (h : Rdr w 76 b s A n c) (hx : Blk w x tx [ptr b]) (hy : Blk w y ty [.int .i64 most]) :
    Calls Try.prog 65 #[ptr x, ptr y] w (Took w b s A n c (fun x : Nat => .int .i64 (x : Int)) (tLim most 6 (s.b.drop s.pos))) := by
  refine calls_T (n := 6) (args := [ptr x, ptr y]) Try.func65 rfl rfl ?_
  repeat (first | refine T_seq ?_ | refine T_region ?_ | refine TL_nil ?_ | refine TL_assign (hk := ?_) | refine TL_load TE (hk := ?_))
  refine TL_callc TE (fst := []) (cap := []) rfl rfl rfl rfl (limited_c b s A n c most 6 hmo w h) ?_ ?_ (fun _ h => h)
  · rintro _ w1 ⟨z, k, hz, rfl, m1, h1⟩
    repeat (first | refine TL_nil ?_ | refine TL_assign (hk := ?_))
    exact T_ret1' rfl rfl (Took.ok _ k hz rfl m1 h1)
  · rintro ch w1 ⟨e, p, he, rfl, m1, h1⟩
    exact LV_panic (Took.no e p he m1 h1)
theorem tLim_le {most e : Int} {l : List UInt8} {z k : Nat} (hz : tLim most e l = .ok (z, k)) : (z : Int) ≤ most := by
  unfold tLim at hz
  split at hz
  · split at hz
    · cases hz
    · cases hz; omega
  · cases hz
theorem Text1_c (b x y : Nat) (tx ty : TypeId) (s : RS) (A : Option Addr) (n c : Nat) (most : Int) (hmo : -9223372036854775808 ≤ most ∧ most ≤ 9223372036854775807) (w : World) (h : Rdr w 76 b s A n c) (hx : Blk w x tx [ptr b]) (hy : Blk w y ty [.int .i64 most]) (hxb : x ≠ b) :
    Calls Try.prog 51 #[ptr x, ptr y] w (Took w b s A n c (fun x : List UInt8 => .string ⟨x.toArray⟩) (tText most (s.b.drop s.pos))) := by
  refine calls_T (n := 45) (args := [ptr x, ptr y]) Try.func51 rfl rfl ?_
  repeat (first | refine T_seq ?_ | refine T_region ?_ | refine TL_nil ?_ | refine TL_assign (hk := ?_) | refine TL_load TE (hk := ?_))
  refine TL_callc TE (fst := []) (cap := []) rfl rfl rfl rfl (limited_c b s A n c most 1 hmo w h) ?_ ?_ (fun _ h => h)
  · rintro _ w1 ⟨z, k, hz, rfl, m1, h1⟩
    have hx1 := hx.mod m1 (by simpa using hxb)
    obtain ⟨hb, hr, ho, hl, hp, hla, hbig, hcap⟩ := h1
    simp only at hb hr hl hp hla
    have hnl : (s.b.drop s.pos).length = n - s.pos := by rw [List.length_drop, hl]
    have hz0 : (z : Int) ≤ most := tLim_le hz
    by_cases g : (s.b.drop s.pos).length < k + z
    · have hi : tText most (s.b.drop s.pos) = .error 3 := by unfold tText; rw [hz]; simp only; rw [if_pos g]
      repeat (first | refine T_seq ?_ | refine T_region_q TE.mixed (by kernel_rfl) ?_ | refine TL_sub (hk := ?_) | refine TL_gt_t (hk := ?_) | refine TL_nil ?_ | refine TL_move (hk := ?_) | refine TL_assign (hk := ?_) | refine TL_load TE (hk := ?_) | refine TL_fieldAddr TE (hk := ?_) | refine TL_len TE (hk := ?_) | refine TL_nilCheck (hk := ?_))
      refine TL_nil_q ?_; intro w2 e2
      repeat (first | refine T_region ?_ | refine T_cond_true rfl ?_ | refine TL_makeIface_s TE (hk := ?_) | refine TL_build TE (hk := ?_))
      refine TL_panic rfl ?_
      exact LV_panic (Took.no 3 _ hi (m1.ext e2) ⟨hb.be e2, hr.be e2, ho, hl, hp, hla, hbig, hcap⟩)
    · have hi : tText most (s.b.drop s.pos) = .ok (((s.b.drop s.pos).drop k).take z, k + z) := by unfold tText; rw [hz]; simp only; rw [if_neg g]
      repeat (first | refine T_seq ?_ | refine T_region_q TE.mixed (by kernel_rfl) ?_ | refine TL_sub (hk := ?_) | refine TL_gt_f (hk := ?_) | refine TL_nil ?_ | refine TL_move (hk := ?_) | refine TL_assign (hk := ?_) | refine TL_load TE (hk := ?_) | refine TL_fieldAddr TE (hk := ?_) | refine TL_len TE (hk := ?_) | refine TL_nilCheck (hk := ?_))
      refine TL_nil_q ?_; intro w2 e2
      repeat (first | refine T_seq ?_ | refine T_region ?_ | refine T_cond_false rfl ?_ | refine T_skip ?_ | refine TL_add (hk := ?_) | refine TL_move (hk := ?_) | refine TL_load TE (hk := ?_) | refine TL_fieldAddr TE (hk := ?_) | refine TL_nilCheck (hk := ?_))
      refine TL_store TE (hk := ?_); intro w3 m3 s3 k3
      have q1 : ((↑(s.pos + k) : Int) + ↑z - ↑z).toNat = s.pos + k := by omega
      have q2 : ((↑(s.pos + k) : Int) + ↑z).toNat = s.pos + k + z := by omega
      have r3 : Rd w3 A n 1 (bv s.b) := (hr.ext e2).mod m3 ho
      have r4 : Rd w3 (cutA A c (s.pos + k) 1) (s.pos + k + z - (s.pos + k)) 1 (bv (((s.b.drop s.pos).drop k).take z)) := by
        have := r3.cut (c := c) (l := s.pos + k) (h := s.pos + k + z) (by omega) (by omega) (by omega)
        rw [show bv (((s.b.drop s.pos).drop k).take z) = ((bv s.b).drop ((s.pos + k) * 1)).take ((s.pos + k + z - (s.pos + k)) * 1) from by
          simp only [bv, List.map_take, List.map_drop, List.drop_drop, Nat.mul_one, Nat.add_sub_cancel_left]]
        exact this
      repeat (first | refine T_seq ?_ | refine T_region_q TE.mixed (by kernel_rfl) ?_ | refine TL_sub (hk := ?_) | refine TL_nil ?_ | refine TL_move (hk := ?_) | refine TL_load TE (hk := ?_) | refine TL_fieldAddr TE (hk := ?_) | refine TL_nilCheck (hk := ?_) | refine TL_slice_lh TE (hk := ?_))
      rw [q1, q2]
      repeat (first | refine TL_assign (hk := ?_) | refine TL_conv_bs TE (hk := ?_))
      refine TL_nil_q ?_; intro w4 e4
      have hm : Mod [b] w w4 := ((m1.ext e2).trans m3).ext e4
      refine T_ret1' rfl rfl (Took.ok _ (k + z) hi rfl hm ⟨?_, r3.be e4, ho, hl, ?_, hla, hbig, hcap⟩)
      · rw [show s.pos + (k + z) = s.pos + k + z by omega]
        have := k3.be e4
        simpa using this
      · simp only; omega
  · rintro ch w1 ⟨e, p, he, rfl, m1, h1⟩
    exact LV_panic (Took.no e p (by unfold tText; rw [he]) m1 h1)
end Go.Proofs.Ytkmdmpmimojmbaa
