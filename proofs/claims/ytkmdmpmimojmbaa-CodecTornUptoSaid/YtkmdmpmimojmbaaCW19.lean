import Derived.Test.YtkmdmpmimojmbaaCW17
namespace Go.Proofs.Ytkmdmpmimojmbaa
open Go.RowKit Go.Proofs.Eng Go.Proofs.Codec
set_option linter.unusedSimpArgs false
set_option linter.unusedVariables false
attribute [local irreducible] T TL LV TH
set_option maxHeartbeats 2000000

theorem same_t (A B : Option Addr) (n m c d : Nat) (l : List UInt8) (w : World) (h : Rd w A n 1 (bv l)) (g : Rd w B m 1 (bv l)) :
    Ret Try.prog 17 [.slice A n c, .slice B m d] w (fun v w' => v = .bool true ∧ w' = w) :=
  (same_c A B n m c d l l w h g).mono fun v w' ⟨a, b⟩ => ⟨by rw [a]; simp, b⟩
theorem Own.rdm {w w' : World} {base : Nat} {e : TypeId} {s : Nat} {A : Option Addr} {n c : Nat} {xs : List Value} {S : List Nat} (h : Own w base e s A n c xs) (hm : Mod S w w') (hS : Off A S) : Rd w' A n s xs := (h.mod hm hS).rd
theorem blkL_near {A A' : Option Addr} {w w0 : World} {S : List Nat} (h : Near A A' w) (h0 : ∀ x ∈ blkL A, x ∈ S ∨ w0.heap.size ≤ x) (hs : w0.heap.size ≤ w.heap.size) : ∀ x ∈ blkL A', x ∈ S ∨ w0.heap.size ≤ x := fun x hx => by
  cases A' with
  | none => simp [blkL] at hx
  | some a =>
    simp [blkL] at hx
    subst hx
    rcases h a rfl with h | h
    · exact h0 _ (by rw [h]; simp [blkL])
    · exact .inr (Nat.le_trans hs h)

theorem CodecPuts_c (A : Option Addr) (n c : Nat) (l : List UInt8) (N I : Int) (S : ByteArray) (w : World) (hb : Rd w A n 1 (bv l)) (hnc : n ≤ c) (hcm : c ≤ maxLen) (hN : (Lit.int .u64 N).wf = true) (hI : (Lit.int .i64 I).wf = true) (hS : S.size ≤ maxLen) :
    Ret Try.prog 4 [.slice A n c, .int .u64 N, .int .i64 I, .string S] w (fun v w' => v = .bool true ∧ Ext w w') := by
  have hN := fits_of_wf hN
  have hI := fits_of_wf hI
  unfold Fits at hN hI
  unfold maxLen at hcm hS
  obtain ⟨x, rfl⟩ := Int.eq_ofNat_of_zero_le hN.1
  have hlen : l.length = n := by simpa using hb.1
  have hx : x < 2 ^ 64 := by omega
  by_cases g1 : 200000 < n
  · refine ret_T (n := 108) Try.func4 rfl rfl ?_
    repeat (first | refine T_seq ?_ | refine T_region ?_ | refine T_cond_true rfl ?_ | refine TL_gt_t (hk := ?_) | refine TL_nil ?_ | refine TL_move (hk := ?_) | refine TL_assign (hk := ?_) | refine TL_len TE (hk := ?_) | refine TL_no (hk := ?_) | refine TL_pick_t (hk := ?_))
    refine TL_call TE (hc := live_c w) (hk := ?_)
    rintro _ w1 ⟨rfl, e1⟩
    repeat (first | refine TL_nil ?_ | refine TL_assign (hk := ?_))
    exact T_ret1 rfl rfl ⟨rfl, e1⟩
  by_cases g2 : 200000 < S.size
  · refine ret_T (n := 108) Try.func4 rfl rfl ?_
    repeat (first | refine T_seq ?_ | refine T_region ?_ | refine T_cond_true rfl ?_ | refine TL_gt_t (hk := ?_) | refine TL_gt_f (hk := ?_) | refine TL_nil ?_ | refine TL_move (hk := ?_) | refine TL_assign (hk := ?_) | refine TL_len TE (hk := ?_) | refine TL_len_s TE (hk := ?_) | refine TL_yes (hk := ?_) | refine TL_pick_f (hk := ?_))
    refine TL_call TE (hc := live_c w) (hk := ?_)
    rintro _ w1 ⟨rfl, e1⟩
    repeat (first | refine TL_nil ?_ | refine TL_assign (hk := ?_))
    exact T_ret1 rfl rfl ⟨rfl, e1⟩
  have hl1 := encU_len64 hx
  refine ret_T (n := 108) Try.func4 rfl rfl ?_
  repeat (first | refine T_seq ?_ | refine T_region ?_ | refine T_cond_false rfl ?_ | refine T_skip ?_ | refine TL_gt_f (hk := ?_) | refine TL_nil ?_ | refine TL_move (hk := ?_) | refine TL_assign (hk := ?_) | refine TL_len TE (hk := ?_) | refine TL_len_s TE (hk := ?_) | refine TL_yes (hk := ?_) | refine TL_pick_f (hk := ?_))
  refine TL_call TE (hc := lent_c A n c l w hb (by omega)) (hk := ?_)
  rintro _ w1 ⟨Af, cf, rfl, e1, of⟩
  have z1 := e1.size
  have ccf := of.cap
  have hf := Rd.head1 of.rd hlen
  repeat (first | refine T_seq ?_ | refine T_region ?_ | refine TL_nil ?_ | refine TL_move (hk := ?_) | refine TL_assign (hk := ?_) | refine TL_len TE (hk := ?_) | refine TL_slice_hi TE (hk := ?_))
  refine TL_call TE (hc := PutUint_c Af n cf l x w1 rfl hf (by omega) hx) (hk := ?_)
  rintro _ w2 ⟨Ax, nx, cx, rfl, e2, ox⟩
  have z2 := e2.size
  repeat (first | refine T_seq ?_ | refine T_region ?_ | refine TL_nil ?_ | refine TL_move (hk := ?_) | refine TL_assign (hk := ?_) | refine TL_len TE (hk := ?_) | refine TL_slice_hi TE (hk := ?_))
  refine TL_call TE (hc := PutInt_c Af n cf l I w2 (hf.ext e2) (by omega) hI) (hk := ?_)
  rintro _ w3 ⟨Ay, ny, cy, rfl, e3, oy⟩
  have z3 := e3.size
  repeat (first | refine T_seq ?_ | refine T_region ?_ | refine TL_nil ?_ | refine TL_move (hk := ?_) | refine TL_assign (hk := ?_) | refine TL_len TE (hk := ?_) | refine TL_slice_hi TE (hk := ?_))
  refine TL_call TE (hc := PutText_c Af n cf l S w3 (hf.ext (e2.ext e3)) (by omega) (by omega)) (hk := ?_)
  rintro _ w4 ⟨Az, nz, cz, rfl, e4, oz⟩
  have z4 := e4.size
  have e04 : Ext w w4 := ((e1.ext e2).ext e3).ext e4
  have of4 := of.ext ((e2.ext e3).ext e4)
  have ox4 := ox.ext (e3.ext e4)
  have oy4 := oy.ext e4
  have hiX := ox.hi
  have loX := ox.lo
  have hiY := oy.hi
  have hiZ := oz.hi
  have loF := of.lo
  have nxl := ox.len
  rw [bv_length, Nat.mul_one, List.length_append] at nxl
  clear e1 e2 e3 e4 of ox oy hf
  repeat (first | refine T_seq ?_ | refine T_region ?_ | refine TL_nil ?_ | refine TL_move (hk := ?_) | refine TL_assign (hk := ?_))
  refine TL_call TE (hc := RPutUint_c A n c l x w4 rfl (hb.ext e04) (by omega) hx) (hk := ?_)
  rintro _ w5 ⟨Ar, nr, cr, rfl, e5, or⟩
  --
  refine TL_call TE (hc := same_t Ax Ar nx nr cx cr (l ++ encU x) w5 (ox4.ext e5).rd or.rd) (hk := ?_)
  rintro _ w5 ⟨rfl, rfl⟩
  repeat (first | refine TL_move (hk := ?_) | refine TL_yes (hk := ?_) | refine TL_not (hk := ?_))
  refine TL_call TE (hc := RPutInt_c A n c l I w5 (hb.ext (e04.ext e5)) (by omega) hI) (hk := ?_)
  rintro _ w6 ⟨Ar, nr, cr, rfl, e6, or⟩
  repeat (refine TL_yes (hk := ?_))
  refine TL_call TE (hc := same_t Ay Ar ny nr cy cr (l ++ encU (zig I)) w6 (oy4.ext (e5.ext e6)).rd or.rd) (hk := ?_)
  rintro _ w6 ⟨rfl, rfl⟩
  repeat (first | refine TL_move (hk := ?_) | refine TL_yes (hk := ?_) | refine TL_pick_f (hk := ?_) | refine TL_not (hk := ?_))
  refine TL_call TE (hc := RPutText_c A n c l S w6 (hb.ext ((e04.ext e5).ext e6)) (by omega) (by omega)) (hk := ?_)
  rintro _ w7 ⟨Ar, nr, cr, rfl, e7, or⟩
  repeat (refine TL_yes (hk := ?_))
  refine TL_call TE (hc := same_t Az Ar nz nr cz cr (l ++ (encU S.size ++ S.data.toList)) w7 (oz.ext ((e5.ext e6).ext e7)).rd or.rd) (hk := ?_)
  rintro _ w7 ⟨rfl, rfl⟩
  repeat (first | refine TL_move (hk := ?_) | refine TL_yes (hk := ?_) | refine TL_pick_f (hk := ?_) | refine TL_not (hk := ?_))
  refine TL_call TE (hc := kept_t Af A (n + 2) n cf c l w7 (of4.ext ((e5.ext e6).ext e7)).rd (hb.ext (((e04.ext e5).ext e6).ext e7)) (by omega)) (hk := ?_)
  rintro _ w8 ⟨rfl, e8⟩
  have e48 : Ext w4 w8 := ((e5.ext e6).ext e7).ext e8
  have e08 : Ext w w8 := e04.ext e48
  have z48 := e48.size
  have of8 := of4.ext e48
  have ox8 := ox4.ext e48
  have oy8 := oy4.ext e48
  have oz8 := oz.ext e48
  clear e5 e6 e7 e8 or of4 ox4 oy4 oz e04 e48
  repeat (first | refine T_seq ?_ | refine T_region ?_ | refine T_cond_false rfl ?_ | refine T_block ?_ | refine T_skip ?_ | refine TL_nil ?_ | refine TL_assign (hk := ?_) | refine TL_yes (hk := ?_) | refine TL_pick_f (hk := ?_) | refine TL_not (hk := ?_))
  refine T_loop (ι := Nat × List Value) (fun i => [(13, .int .i64 (i.1 : Int)), (10, .slice Ax nx cx), (0, .slice A n c), (1, .int .u64 (x : Int)), (2, .int .i64 I), (3, .string S), (9, .slice Af (n + 2) cf), (11, .slice Ay ny cy), (12, .slice Az nz cz)])
    (fun i w' => i.1 ≤ nx ∧ Own w' w1.heap.size 5 1 Ax nx cx i.2 ∧ Mod (blkL Ax) w8 w') (fun i => nx - i.1) (0, _) (.c rfl (.c rfl (.c rfl (.c rfl (.c rfl (.c rfl (.c rfl (.c rfl (.c rfl (.n)))))))))) ⟨by simp, ox8, Mod.refl _ _⟩ ?_
  clear ox8
  rintro ⟨i, ys⟩ w9 ⟨hi, o9, m9⟩ ih
  simp only at hi o9 m9 ih ⊢
  have hyl := o9.len
  by_cases hin : i < nx
  · repeat (first | refine T_seq ?_ | refine T_region ?_ | refine T_cond_true rfl ?_ | refine T_block ?_ | refine T_skip ?_ | refine TL_lt_t (hk := ?_) | refine TL_nil ?_ | refine TL_move (hk := ?_) | refine TL_indexAddr1n TE (hk := ?_) | refine TL_len TE (hk := ?_))
    refine TL_store_own TE (hk := ?_); intro w10 m10 s10 o10
    repeat (first | refine T_region ?_ | refine T_inBlock ?_ | refine TL_add (hk := ?_) | refine TL_nil ?_ | refine TL_move (hk := ?_) | refine TL_assign (hk := ?_))
    exact ih (i + 1, _) w10 _ (by simp only; omega) ⟨by simp only; omega, o10, m9.trans m10⟩ (.c rfl (.c rfl (.c rfl (.c rfl (.c rfl (.c rfl (.c rfl (.c rfl (.c rfl (.n))))))))))
  have : nx = i := by omega
  subst this
  clear ih hyl
  repeat (first | refine T_seq ?_ | refine T_region ?_ | refine T_cond_false rfl ?_ | refine T_block ?_ | refine T_exit rfl ?_ | refine TL_lt_f (hk := ?_) | refine TL_nil ?_ | refine TL_move (hk := ?_) | refine TL_assign (hk := ?_) | refine TL_len TE (hk := ?_))
  refine T_loop (ι := (Option Addr × Nat × Nat) × List Value × Nat) (fun i => [(14, .int .i64 (i.2.2 : Int)), (10, .slice i.1.1 i.1.2.1 i.1.2.2), (0, .slice A n c), (1, .int .u64 (x : Int)), (2, .int .i64 I), (3, .string S), (9, .slice Af (n + 2) cf), (11, .slice Ay ny cy), (12, .slice Az nz cz)])
    (fun i w' => i.2.2 ≤ 8 ∧ i.1.2.1 = nx + i.2.2 ∧ Own w' w1.heap.size 5 1 i.1.1 i.1.2.1 i.1.2.2 i.2.1 ∧ Mod (blkL Ax) w8 w' ∧ ∀ x ∈ blkL i.1.1, x ∈ blkL Ax ∨ w8.heap.size ≤ x) (fun i => 8 - i.2.2) ((Ax, nx, cx), _, 0) (.c rfl (.c rfl (.c rfl (.c rfl (.c rfl (.c rfl (.c rfl (.c rfl (.c rfl (.n)))))))))) ⟨by simp, by simp, o9, m9, fun x hx => .inl hx⟩ ?_
  clear o9 m9 hi hin
  rintro ⟨⟨A1, n1, c1⟩, ys, j⟩ w9 ⟨hj, hn1, o9, m9, hx9⟩ ih
  simp only at hj hn1 o9 m9 hx9 ih ⊢
  have z8 := e08.size
  have z9 := m9.size
  by_cases hj8 : j < 8
  · repeat (first | refine T_seq ?_ | refine T_region ?_ | refine T_cond_true rfl ?_ | refine T_block ?_ | refine T_skip ?_ | refine TL_lt_t (hk := ?_) | refine TL_nil ?_ | refine TL_move (hk := ?_))
    refine TL_buildSlice TE (hk := ?_); intro b10 w10 e10 h10 h10' k10
    have z10 := e10.size
    refine TL_append TE (hk := ?_); intro A2 c2 w11 o11 m11 n11
    repeat (first | refine T_region ?_ | refine T_inBlock ?_ | refine TL_add (hk := ?_) | refine TL_nil ?_ | refine TL_move (hk := ?_) | refine TL_assign (hk := ?_))
    refine ih ((A2, n1 + 1, c2), _, j + 1) w11 _ (by simp only; omega) ⟨by simp only; omega, by simp only; omega, o11, (m9.ext e10).step m11 hx9, blkL_near n11 hx9 (by omega)⟩ (.c rfl (.c rfl (.c rfl (.c rfl (.c rfl (.c rfl (.c rfl (.c rfl (.c rfl (.n))))))))))
  have hAx : ∀ {C : Option Addr} {z : Nat}, Lo C z → z ≤ w1.heap.size → Off C (blkL Ax) := fun h hz => Off.nb2 hiX (h.mono hz)
  have ry : Rd w9 Ay ny 1 (bv (l ++ encU (zig I))) := Own.rdm oy8 m9 (Off.nb (x := w2.heap.size) (y := 0) loX hiY)
  have rz : Rd w9 Az nz 1 (bv (l ++ (encU S.size ++ S.data.toList))) := Own.rdm oz8 m9 (Off.nb (x := w2.heap.size) (y := 0) loX (hiZ.mono (by omega)))
  have rf : Rd w9 Af (n + 2) 1 (bv (l ++ [9, 8])) := Own.rdm of8 m9 (hAx loF (Nat.le_refl _))
  have rb : Rd w9 A n 1 (bv l) := by
    rcases Nat.eq_zero_or_pos n with h0 | h0
    · subst h0; exact ⟨hb.1, fun h => by omega⟩
    · exact (hb.ext e08).mod m9 (hAx (hb.lo h0) z1)
  have e09 : Ext w w9 := Mod.step e08 m9 (fun y hy => .inr (by
    cases Ax with
    | none => simp [blkL] at hy
    | some ad => simp [blkL] at hy; have := hiX ad rfl; omega))
  clear o9 m9 hx9 ih oy8 oz8 of8 e08
  repeat (first | refine T_seq ?_ | refine T_region ?_ | refine T_cond_false rfl ?_ | refine T_exit rfl ?_ | refine TL_lt_f (hk := ?_) | refine TL_nil ?_ | refine TL_move (hk := ?_))
  refine TL_call TE (hc := RPutInt_c A n c l I w9 rb (by omega) hI) (hk := ?_)
  rintro _ w6 ⟨Ar, nr, cr, rfl, e6, or⟩
  --
  refine TL_call TE (hc := same_t Ay Ar ny nr cy cr (l ++ encU (zig I)) w6 (ry.ext e6) or.rd) (hk := ?_)
  rintro _ w6 ⟨rfl, rfl⟩
  repeat (first | refine TL_move (hk := ?_) | refine TL_yes (hk := ?_))
  refine TL_call TE (hc := RPutText_c A n c l S w6 (rb.ext e6) (by omega) (by omega)) (hk := ?_)
  rintro _ w7 ⟨Ar, nr, cr, rfl, e7, or⟩
  repeat (refine TL_yes (hk := ?_))
  refine TL_call TE (hc := same_t Az Ar nz nr cz cr (l ++ (encU S.size ++ S.data.toList)) w7 (rz.ext (e6.ext e7)) or.rd) (hk := ?_)
  rintro _ w7 ⟨rfl, rfl⟩
  repeat (first | refine TL_move (hk := ?_) | refine TL_yes (hk := ?_) | refine TL_pick_t (hk := ?_))
  refine TL_call TE (hc := kept_t Af A (n + 2) n cf c l w7 (rf.ext (e6.ext e7)) (rb.ext (e6.ext e7)) (by omega)) (hk := ?_)
  rintro _ w8 ⟨rfl, e8⟩
  repeat (first | refine TL_move (hk := ?_) | refine TL_yes (hk := ?_) | refine TL_pick_t (hk := ?_))
  refine TL_call TE (hc := live_c w8) (hk := ?_)
  rintro _ w10 ⟨rfl, e10⟩
  repeat (first | refine TL_nil ?_ | refine TL_assign (hk := ?_) | refine TL_pick_t (hk := ?_))
  exact T_ret1 rfl rfl ⟨rfl, (((e09.ext e6).ext e7).ext e8).ext e10⟩
end Go.Proofs.Ytkmdmpmimojmbaa
