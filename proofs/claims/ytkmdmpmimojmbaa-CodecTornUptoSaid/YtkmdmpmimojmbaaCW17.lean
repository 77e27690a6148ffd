import Derived.Test.YtkmdmpmimojmbaaCW16
namespace Go.Proofs.Ytkmdmpmimojmbaa
open Go.RowKit Go.Proofs.Eng Go.Proofs.Codec
set_option linter.unusedSimpArgs false
set_option linter.unusedVariables false
attribute [local irreducible] T TL LV TH
set_option maxHeartbeats 3000000

theorem num_q {w : World} (z : Int) : ∀ w', Ext w w' → Ret Try.prog 11 [.int .i64 z] w' (fun u w'' => u = .int .i64 z ∧ Ext w' w'') := fun w' _ => (num_c z w').mono fun _ _ ⟨a, b⟩ => ⟨a, b ▸ Mod.refl _ _⟩
theorem kept_t (A B : Option Addr) (n m c d : Nat) (k : List UInt8) (w : World) (h : Rd w A n 1 (bv (k ++ [9, 8]))) (g : Rd w B m 1 (bv k)) (hm : m ≤ 70368744177000) :
    Ret Try.prog 21 [.slice A n c, .slice B m d] w (fun v w' => v = .bool true ∧ Ext w w') :=
  (kept_c A B n m c d _ k w h g hm).mono fun v w' ⟨a, b⟩ => ⟨by rw [a]; simp, b⟩
theorem Rd.head1 {w : World} {A : Option Addr} {n m : Nat} {l t : List UInt8} (h : Rd w A n 1 (bv (l ++ t))) (hl : l.length = m) : Rd w A m 1 (bv l) := by
  have hn : (l ++ t).length = n := by simpa using h.1
  have h2 := h.take (h := m) (by simp at hn; omega)
  have e : (bv (l ++ t)).take (m * 1) = bv l := by rw [bv_append, Nat.mul_one, ← hl]; simp
  rw [e] at h2
  exact h2
theorem Mod.in2 {a b c : World} {x y : Nat} (h : Ext a b) (m : Mod [x, y] b c) (hx : a.heap.size ≤ x) (hy : a.heap.size ≤ y) : Ext a c :=
  Mod.step h m (fun q hq => .inr (by simp only [List.mem_cons, List.not_mem_nil, or_false] at hq; omega))
theorem Off.nb {A C : Option Addr} {x y : Nat} (hA : Lo A x) (hC : Hi C x) : Off C (blkL A) := fun ad e hm => by
  cases A with
  | none => simp [Eng.blkL] at hm
  | some a => simp [Eng.blkL] at hm; have := hA a rfl; have := hC ad e; omega
theorem Off.nb2 {A C : Option Addr} {x : Nat} (hA : Hi A x) (hC : Lo C x) : Off C (blkL A) := fun ad e hm => by
  cases A with
  | none => simp [Eng.blkL] at hm
  | some a => simp [Eng.blkL] at hm; have := hA a rfl; have := hC ad e; omega
theorem not_blkL {A : Option Addr} {x b : Nat} (hA : Lo A x) (hb : x ≤ b) : b ∉ blkL A := fun hm => by
  cases A with
  | none => simp [Eng.blkL] at hm
  | some a => simp [Eng.blkL] at hm; have := hA a rfl; omega
theorem Rd.mod2 {w w' : World} {A : Option Addr} {n s : Nat} {xs : List Value} {S : List Nat} (h : Rd w A n s xs) (hm : Mod S w w') (hS : Lo A w.heap.size → Off A S) : Rd w' A n s xs := by
  rcases Nat.eq_zero_or_pos n with rfl | hn
  · exact ⟨h.1, fun h0 => by omega⟩
  · exact h.mod hm (hS (h.lo hn))

def tyRead : Ty := .struct (.cons (.int .i64) (.cons (.int .i64) (.cons (.int .i64) .unit)))
theorem read_row {w : World} {x : List Value} (h : Fit w tyRead x) : ∃ K m e, x = [.int .i64 K, .int .i64 m, .int .i64 e] ∧ -9223372036854775808 ≤ m ∧ m ≤ 9223372036854775807 := by
  obtain ⟨_, _, rfl, _, ⟨K, rfl, _⟩, _, _, rfl, _, ⟨m, rfl, hm⟩, _, _, rfl, _, ⟨e, rfl, _⟩, rfl⟩ := h
  exact ⟨K, m, e, rfl, hm.1, hm.2⟩
theorem flat_row {s : Nat} : ∀ (xs : List (List Value)) (i : Nat) (x : List Value), (∀ y ∈ xs, y.length = s) → xs[i]? = some x → (xs.flatten.drop (i * s)).take s = x
  | [], i, x, _, h => by simp at h
  | y :: t, 0, x, hs, h => by
    simp at h
    subst h
    have := hs y (by simp)
    simp [← this]
  | y :: t, i + 1, x, hs, h => by
    have hy := hs y (by simp)
    rw [List.flatten_cons, Nat.succ_mul, Nat.add_comm, ← List.drop_drop, ← hy, List.drop_left, hy]
    exact flat_row t i x (fun z hz => hs z (by simp [hz])) (by simpa using h)

theorem CodecReads_c (A : Option Addr) (n c : Nat) (l : List UInt8) (v1 : Value) (w : World) {base : Nat} (hb : Rd w A n 1 (bv l)) (hnc : n ≤ c) (hcm : c ≤ maxLen) (hv : Reads Try.prog w base 60 v1) :
    Ret Try.prog 9 [.slice A n c, v1] w (fun v w' => v = .bool true ∧ Ext w w') := by
  obtain ⟨A2, n2, c2, rfl⟩ := hv.slice TE rfl
  obtain ⟨_, _, _, xs, he, h21, h22, hxl, hrow, hfit⟩ := hv.fit TE (.slice tyRead) (by decide +kernel)
  cases he
  have hl2 : n2 ≤ maxLen := by omega
  unfold maxLen at hcm hl2
  have hs3 : ∀ y ∈ xs, y.length = 3 := fun y hy => (hfit y hy).1
  have hrow : Rd w A2 n2 3 xs.flatten := hrow
  have hlen : l.length = n := by simpa using hb.1
  by_cases g1 : 200000 < n
  · refine ret_T (n := 107) Try.func9 rfl rfl ?_
    repeat (first | refine T_seq ?_ | refine T_region ?_ | refine T_cond_true rfl ?_ | refine TL_gt_t (hk := ?_) | refine TL_nil ?_ | refine TL_move (hk := ?_) | refine TL_assign (hk := ?_) | refine TL_len TE (hk := ?_) | refine TL_no (hk := ?_) | refine TL_pick_t (hk := ?_))
    refine TL_call TE (hc := live_c w) (hk := ?_)
    rintro _ w1 ⟨rfl, e1⟩
    repeat (first | refine TL_nil ?_ | refine TL_assign (hk := ?_))
    exact T_ret1 rfl rfl ⟨rfl, e1⟩
  by_cases g2 : 500 < n2
  · refine ret_T (n := 107) Try.func9 rfl rfl ?_
    repeat (first | refine T_seq ?_ | refine T_region ?_ | refine T_cond_true rfl ?_ | refine TL_gt_t (hk := ?_) | refine TL_gt_f (hk := ?_) | refine TL_nil ?_ | refine TL_move (hk := ?_) | refine TL_assign (hk := ?_) | refine TL_len TE (hk := ?_) | refine TL_yes (hk := ?_) | refine TL_pick_f (hk := ?_))
    refine TL_call TE (hc := live_c w) (hk := ?_)
    rintro _ w1 ⟨rfl, e1⟩
    repeat (first | refine TL_nil ?_ | refine TL_assign (hk := ?_))
    exact T_ret1 rfl rfl ⟨rfl, e1⟩
  refine ret_T (n := 107) Try.func9 rfl rfl ?_
  repeat (first | refine T_seq ?_ | refine T_region ?_ | refine T_cond_false rfl ?_ | refine T_skip ?_ | refine TL_gt_f (hk := ?_) | refine TL_nil ?_ | refine TL_move (hk := ?_) | refine TL_assign (hk := ?_) | refine TL_len TE (hk := ?_) | refine TL_yes (hk := ?_) | refine TL_pick_f (hk := ?_))
  refine TL_call TE (hc := lent_c A n c l w hb (by omega)) (hk := ?_)
  rintro _ w1 ⟨A3, c3, rfl, e1, o3⟩
  have s1 := e1.size
  have hc3 := o3.cap
  repeat (first | refine T_seq ?_ | refine T_region ?_ | refine TL_nil ?_ | refine TL_move (hk := ?_) | refine TL_assign (hk := ?_) | refine TL_len TE (hk := ?_) | refine TL_slice_hi TE (hk := ?_))
  refine TL_call TE (hc := NewReader_c A3 n c3 l w1 (Rd.head1 o3.rd hlen) (by omega)) (hk := ?_)
  rintro _ w2 ⟨bp, A4, n4, c4, rfl, e2, hbp, hi4, lo4, hp2⟩
  have o3b := o3.be e2
  have hb2 := hb.ext (e1.ext e2)
  have hrow2 := hrow.ext (e1.ext e2)
  repeat (first | refine T_seq ?_ | refine T_region ?_ | refine TL_pnil_f TE (hk := ?_) | refine TL_nil ?_ | refine TL_move (hk := ?_) | refine TL_assign (hk := ?_) | refine TL_yes (hk := ?_))
  refine TL_call TE (hc := kept_t A3 A (n + 2) n c3 c l w2 o3b.rd hb2 (by omega)) (hk := ?_)
  rintro _ w3 ⟨rfl, e3⟩
  have o3c := o3b.be e3
  have hb3 := hb2.ext e3
  have hrow3 := hrow2.ext e3
  have hp3 := hp2.ext e3
  have e03 : Ext w w3 := (e1.ext e2).ext e3
  have lo3 : Lo A3 w1.heap.size := o3.lo
  have hi3 : Hi A3 w.heap.size := o3.hi
  have s3b := e3.size
  clear e1 e2 e3 o3 o3b hb2 hrow2 hp2
  repeat (first | refine T_seq ?_ | refine T_region ?_ | refine T_cond_false rfl ?_ | refine T_block ?_ | refine T_skip ?_ | refine TL_nil ?_ | refine TL_assign (hk := ?_) | refine TL_yes (hk := ?_) | refine TL_pick_f (hk := ?_) | refine TL_not (hk := ?_))
  refine T_loop (ι := Nat × List Value) (fun i => [(7, .int .i64 (i.1 : Int)), (5, .slice A3 (n + 2) c3), (0, .slice A n c), (1, .slice A2 n2 c2), (6, ptr bp)])
    (fun i w' => i.1 ≤ n + 2 ∧ Own w' w.heap.size 5 1 A3 (n + 2) c3 i.2 ∧ Mod (blkL A3) w3 w') (fun i => n + 2 - i.1) (0, _) (.c rfl (.c rfl (.c rfl (.c rfl (.c rfl (.n)))))) ⟨by simp, o3c, Mod.refl _ _⟩ ?_
  rintro ⟨i, ys⟩ w4 ⟨hi, o4, m4⟩ ih
  simp only at hi o4 m4 ih ⊢
  have hyl := o4.len
  by_cases hin : i < n + 2
  · repeat (first | refine T_seq ?_ | refine T_region ?_ | refine T_cond_true rfl ?_ | refine T_block ?_ | refine T_skip ?_ | refine TL_lt_t (hk := ?_) | refine TL_nil ?_ | refine TL_move (hk := ?_) | refine TL_indexAddr1n TE (hk := ?_) | refine TL_len TE (hk := ?_))
    refine TL_store_own TE (hk := ?_); intro w5 m5 s5 o5
    repeat (first | refine T_region ?_ | refine T_inBlock ?_ | refine TL_add (hk := ?_) | refine TL_nil ?_ | refine TL_move (hk := ?_) | refine TL_assign (hk := ?_))
    exact ih (i + 1, _) w5 _ (by simp only; omega) ⟨by simp only; omega, o5, m4.trans m5⟩ (.c rfl (.c rfl (.c rfl (.c rfl (.c rfl (.n))))))
  have : i = n + 2 := by omega
  subst this
  clear ih
  have e04 : Ext w w4 := e03.own m4 hi3
  have m4s := m4.size
  have hp4 : Rdr w4 76 bp _ A4 n4 c4 := hp3.mod m4 (not_blkL lo3 hbp) (Off.nb (x := w1.heap.size) (y := 0) lo3 hi4)
  have hb4 := hb.ext e04
  have hrow4 := hrow.ext e04
  have lbp := hp4.blk.lt
  clear hp3 m4 o4 o3c e03 hb3 hrow3
  repeat (first | refine T_seq ?_ | refine T_region ?_ | refine T_cond_false rfl ?_ | refine T_exit rfl ?_ | refine TL_lt_f (hk := ?_) | refine TL_nil ?_ | refine TL_move (hk := ?_) | refine TL_len TE (hk := ?_))
  refine TL_call TE (hc := New_c A n c l w4 hb4 (by omega)) (hk := ?_)
  rintro _ w5 ⟨br, A5, n5, c5, rfl, e5, hbr, hi5, hr5⟩
  have hp5 := hp4.ext e5
  have e05 : Ext w w5 := e04.ext e5
  have hne : bp ≠ br := by omega
  have ho4 : Off A4 [br] := Off.lo (lo4.mono (Nat.le_trans s3b m4s)) hbr
  have ho5 : Off A5 [bp] := Off.hi hi5 lbp
  have hbp0 : w.heap.size ≤ bp := by omega
  have hbr0 : w.heap.size ≤ br := by have := e04.size; omega
  clear e5 hp4
  repeat (first | refine T_seq ?_ | refine T_region ?_ | refine T_block ?_ | refine TL_nil ?_ | refine TL_assign (hk := ?_))
  refine T_loop (ι := Nat × RS) (fun i => [(9, .int .i64 (i.1 : Int)), (1, .slice A2 n2 c2), (6, ptr bp), (8, ptr br)])
    (fun i w' => i.1 ≤ n2 ∧ Rdr w' 76 bp i.2 A4 n4 c4 ∧ Rdr w' 67 br i.2 A5 n5 c5 ∧ Ext w w') (fun i => n2 - i.1) (0, _) (.c rfl (.c rfl (.c rfl (.c rfl (.n))))) ⟨by simp, hp5, hr5, e05⟩ ?_
  clear hp5 hr5 e05 hrow4 hb4
  rintro ⟨i, s⟩ w6 ⟨hi, hp6, hr6, e06⟩ ih
  simp only at hi hp6 hr6 e06 ih ⊢
  have hrow6 := hrow.ext e06
  have hn4 := hp6.len
  by_cases hin : i < n2
  · obtain ⟨x, hx⟩ : ∃ x, xs[i]? = some x := ⟨_, List.getElem?_eq_getElem (by omega)⟩
    obtain ⟨K, m, e, rfl, hm1, hm2⟩ := read_row (hfit x (List.mem_of_getElem? hx)).2
    have hcell := flat_row xs i _ hs3 hx
    repeat (first | refine T_seq ?_ | refine T_region ?_ | refine T_cond_true rfl ?_ | refine T_block ?_ | refine T_skip ?_ | refine TL_lt_t (hk := ?_) | refine TL_nil ?_ | refine TL_move (hk := ?_) | refine TL_indexAddrn TE (hk := ?_) | refine TL_len TE (hk := ?_))
    refine TL_loada TE rfl rfl rfl hrow6 (cs := [.int .i64 K, .int .i64 m, .int .i64 e]) hcell (by simp) (hk := ?_)
    --
    refine TL_call TE (hc := reads_c bp br s A4 A5 n4 c4 n5 c5 K m e ⟨hm1, hm2⟩ w6 hp6 hr6 hne ho4 ho5) (hk := ?_)
    rintro _ w7 ⟨rfl, m7, hp7, hr7⟩
    have e07 : Ext w w7 := Mod.in2 e06 m7 hbp0 hbr0
    generalize readS K m e s = s7 at hp7 hr7
    clear hp6 hr6 m7 hrow6
    repeat (first | refine T_seq ?_ | refine T_region ?_ | refine T_cond_false rfl ?_ | refine T_skip ?_ | refine TL_nil ?_ | refine TL_move (hk := ?_) | refine TL_not (hk := ?_))
    refine TL_call TE (hc := Why_c bp s7 A4 n4 c4 w7 hp7) (hk := ?_)
    rintro _ w8 ⟨rfl, e8⟩
    have hp8 := hp7.ext e8
    have hr8 := hr7.ext e8
    have e08 : Ext w w8 := e07.ext e8
    clear hp7 hr7 e07 e8
    have hrb := hr8.blk
    clear hn4 hcell hx hm1 hm2 hbp0 hbr0 ho4 lo4 ho5 hne lo3 hi3 hi4 hi5 hbr lbp hxl hs3 hfit h21 h22 hl2 hbp hc3 s1
    by_cases h0 : s7.err = 0
    · rw [if_pos h0, h0]
      rw [h0] at hrb
      repeat (first | refine T_seq ?_ | refine T_region_q TE.mixed (by kernel_rfl) ?_ | refine TL_nil ?_ | refine TL_move (hk := ?_) | refine TL_assign (hk := ?_) | refine TL_extract (hk := ?_))
      refine TL_call_q TE rfl rfl rfl (num_q 0) ?_
      repeat (first | refine TL_eq_t (hk := ?_) | refine TL_ne_f (hk := ?_) | refine TL_move (hk := ?_) | refine TL_load TE (hk := ?_) | refine TL_fieldAddr TE (hk := ?_) | refine TL_yes (hk := ?_) | refine TL_no (hk := ?_) | refine TL_pick_t (hk := ?_) | refine TL_pick_f (hk := ?_) | refine TL_nilCheck (hk := ?_))
      refine TL_call_q TE rfl rfl rfl (fun w' e => Rest_c bp s7 A4 n4 c4 w' (hp8.ext e)) ?_
      repeat (first | refine TL_move (hk := ?_) | refine TL_yes (hk := ?_))
      refine TL_call_q TE rfl rfl rfl (fun w' e => RRest_c br s7 A5 n5 c5 w' (hr8.ext e)) ?_
      repeat (first | refine TL_ne_f (hk := ?_) | refine TL_yes (hk := ?_) | refine TL_pick_f (hk := ?_))
      refine TL_nil_q ?_; intro w9 e9
      repeat (first | refine T_region ?_ | refine T_cond_false rfl ?_ | refine T_inBlock ?_ | refine T_skip ?_ | refine TL_add (hk := ?_) | refine TL_nil ?_ | refine TL_move (hk := ?_) | refine TL_assign (hk := ?_))
      exact ih (i + 1, s7) w9 _ (by simp only; omega) ⟨by simp only; omega, hp8.ext e9, hr8.ext e9, e08.ext e9⟩ (.c rfl (.c rfl (.c rfl (.c rfl (.n)))))
    · rw [if_neg h0]
      repeat (first | refine T_seq ?_ | refine T_region_q TE.mixed (by kernel_rfl) ?_ | refine TL_nil ?_ | refine TL_move (hk := ?_) | refine TL_assign (hk := ?_) | refine TL_extract (hk := ?_))
      refine TL_call_q TE rfl rfl rfl (num_q s7.err) ?_
      repeat (first | refine TL_eq_f (hk := ?_) | refine TL_ne_t (hk := ?_) | refine TL_ne_f (hk := ?_) | refine TL_move (hk := ?_) | refine TL_load TE (hk := ?_) | refine TL_fieldAddr TE (hk := ?_) | refine TL_yes (hk := ?_) | refine TL_no (hk := ?_) | refine TL_pick_t (hk := ?_) | refine TL_pick_f (hk := ?_) | refine TL_nilCheck (hk := ?_))
      refine TL_call_q TE rfl rfl rfl (fun w' e => Rest_c bp s7 A4 n4 c4 w' (hp8.ext e)) ?_
      repeat (first | refine TL_move (hk := ?_) | refine TL_yes (hk := ?_))
      refine TL_call_q TE rfl rfl rfl (fun w' e => RRest_c br s7 A5 n5 c5 w' (hr8.ext e)) ?_
      repeat (first | refine TL_ne_f (hk := ?_) | refine TL_yes (hk := ?_) | refine TL_pick_f (hk := ?_))
      refine TL_nil_q ?_; intro w9 e9
      repeat (first | refine T_region ?_ | refine T_cond_false rfl ?_ | refine T_inBlock ?_ | refine T_skip ?_ | refine TL_add (hk := ?_) | refine TL_nil ?_ | refine TL_move (hk := ?_) | refine TL_assign (hk := ?_))
      exact ih (i + 1, s7) w9 _ (by simp only; omega) ⟨by simp only; omega, hp8.ext e9, hr8.ext e9, e08.ext e9⟩ (.c rfl (.c rfl (.c rfl (.c rfl (.n)))))
  · repeat (first | refine T_seq ?_ | refine T_region ?_ | refine T_cond_false rfl ?_ | refine T_exit rfl ?_ | refine TL_lt_f (hk := ?_) | refine TL_nil ?_ | refine TL_move (hk := ?_) | refine TL_len TE (hk := ?_))
    refine TL_call TE (hc := live_c w6) (hk := ?_)
    rintro _ w9 ⟨rfl, e9⟩
    repeat (first | refine TL_nil ?_ | refine TL_assign (hk := ?_))
    exact T_ret1 rfl rfl ⟨rfl, e06.ext e9⟩
end Go.Proofs.Ytkmdmpmimojmbaa
