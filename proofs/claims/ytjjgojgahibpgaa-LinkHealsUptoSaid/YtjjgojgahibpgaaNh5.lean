import Derived.Test.YtjjgojgahibpgaaNh4
/- Parts: NAct2 NLW1 NLW2 NLaw2 HMem NLW5 NLW3 NLW4 NLW6. -/
/- What is done to a net, as it is given. -/
namespace Go.Proofs.Ytjjgojgahibpgaa
open Go.RowKit Go.Proofs.Eng Go.Proofs.Codec Go.Proofs.Link
set_option linter.unusedSimpArgs false
set_option linter.unusedVariables false set_option maxRecDepth 10000
attribute [local irreducible] T TL LV TH TA
structure DV where
  kd : Int
  a : Int
  c : Int
  A : Option Addr
  n : Nat
  d : Nat
  b : Bs
def dv0 : DV := ⟨0, 0, 0, none, 0, 0, []⟩
def dvV (x : DV) : List Value := [.int .i64 x.kd, .int .i64 x.a, .int .i64 x.c, .slice x.A x.n x.d]
theorem dvV_len (x : DV) : (dvV x).length = 4 := rfl
def DV.dd (x : DV) : DD := ⟨x.kd, x.a, x.c, x.b⟩
structure DvOk (w : World) (x : DV) : Prop where
  rd : Rd w x.A x.n 1 (bv x.b)
  nc : x.n ≤ x.d
  nb : x.n ≤ 1048576
  ra : -9223372036854775808 ≤ x.a ∧ x.a ≤ 9223372036854775807
  rc : -9223372036854775808 ≤ x.c ∧ x.c ≤ 9223372036854775807
theorem DvOk.be {w w' : World} {x : DV} (h : DvOk w x) (e : Ext w w') : DvOk w' x := { h with rd := h.rd.be e }
abbrev tyDid : Ty := .struct (.cons (.int .i64) (.cons (.int .i64) (.cons (.int .i64) (.cons (.slice (.int .u8)) .unit))))
abbrev tyWide : Ty := .struct (.cons (.int .i64) (.cons (.int .i64) (.cons (.int .i64) (.cons (.slice tyDid) .unit))))
theorem did_of {w : World} (x : List Value) (k : Nat) (hk : k ≤ 1048576) (h : FitB w tyDid x k) : 1 ≤ k ∧ ∃ a : DV, x = dvV a ∧ DvOk w a := by
  obtain ⟨x1, y1, p1, q1, rfl, -, h2, ⟨h3, kd, rfl, f1⟩, x2, y2, p2, q2, rfl, -, h5, ⟨h6, a, rfl, f2⟩, x3, y3, p3, q3, rfl, -, h8, ⟨h9, c, rfl, f3⟩, x4, y4, p4, q4, rfl, -, h10, hb, hz⟩ := h
  have hz : y4 = [] := hz
  subst hz
  have ay := hb
  obtain ⟨B, m, d, xs, ms, rfl, _⟩ := hb
  obtain ⟨l, g1, g2, g3, g4⟩ := FitB.bytes ay
  exact ⟨by omega, ⟨kd, a, c, B, m, d, l⟩, rfl, g1, g2, by simp only; omega, f2, f3⟩
theorem agg_4 {v a b c d : Value} (h : v.cells.toList = [a, b, c, d]) : v = .agg #[a, b, c, d] := by
  cases v with
  | agg cs =>
    have e : cs.toList = [a, b, c, d] := h
    congr
    exact Array.toList_inj.1 (by simpa using e)
  | _ => simp [Value.cells] at h
theorem wide_in {w : World} {base : Nat} {v : Value} (h : ReadsB Try.prog w base 87 v 1048576) :
    ∃ (N W P : Int) (A : Option Addr) (n c : Nat) (l : List DV), v = .agg #[.int .i64 N, .int .i64 W, .int .i64 P, .slice A n c] ∧ i64ok N ∧ i64ok W ∧ i64ok P ∧ Rd w A n 4 (rowV dvV l) ∧ l.length = n ∧ (∀ x ∈ l, DvOk w x) ∧ n ≤ 1048576 := by
  obtain ⟨x1, y1, p1, q1, h1, -, h2, ⟨h3, N, rfl, f1⟩, x2, y2, p2, q2, rfl, -, h5, ⟨h6, W, rfl, f2⟩, x3, y3, p3, q3, rfl, -, h8, ⟨h9, P, rfl, f3⟩, x4, y4, p4, q4, rfl, -, h10, hs, hz⟩ := h.fit TE tyWide (by decide +kernel)
  have hz : y4 = [] := hz
  subst hz
  obtain ⟨_, A, n, c, l, rfl, g1, g2, g3, g4, g5, g6⟩ := FitB.row (g := dvV) (Q := DvOk w) (M := 1048576) did_of hs (by omega)
  exact ⟨N, W, P, A, n, c, l, agg_4 h1, f1, f2, f3, g5, g4, g6, by omega⟩
def totD (l : List DV) (i : Nat) : Nat := ((l.take i).map fun x => x.n).sum
theorem totD_succ (l : List DV) (i : Nat) (hi : i < l.length) : totD l (i + 1) = totD l i + (l.getD i dv0).n := by
  unfold totD
  rw [List.take_succ_eq_append_getElem hi, List.map_append, List.sum_append, List.getD_eq_getElem?_getD, List.getElem?_eq_getElem hi]
  simp
set_option maxHeartbeats 3200000
theorem huge_c26 (N W P : Int) (A : Option Addr) (n c : Nat) (l : List DV) (w : World) (h : Rd w A n 4 (rowV dvV l)) (hl : l.length = n) (hm : ∀ x ∈ l, DvOk w x) (hn : n ≤ 1048576) :
    Ret Try.prog 56 [.agg #[.int .i64 N, .int .i64 W, .int .i64 P, .slice A n c]] w (fun v w' => (v = .bool true ∨ v = .bool false ∧ n ≤ 400 ∧ ∀ x ∈ l, x.kd = 10 → x.a ≤ 50) ∧ Ext w w') := by
  refine ret_T (n := 91) Try.func56 rfl rfl ?_
  repeat (first | refine T_seq ?_ | refine T_region ?_)
  refine TL_box (hk := ?_); intro b2 w2 e2 h2 h2' k2
  replace k2 : Blk w2 b2 87 [.int .i64 N, .int .i64 W, .int .i64 P, .slice A n c] := k2
  have h1 := h.be e2
  repeat (first | refine T_seq ?_ | refine T_region ?_ | refine T_block ?_ | refine TL_nil ?_ | refine TL_assign (hk := ?_))
  refine T_loop (ι := Nat) (fun i => [(4, .int .i64 (i : Int)), (3, .int .i64 ((totD l i : Nat) : Int)), (1, ptr b2)]) (fun i w' => w' = w2 ∧ i ≤ n ∧ i ≤ 401 ∧ totD l i ≤ i * 1048576) (fun i => n - i) 0 (.c rfl (.c rfl (.c rfl (.n)))) ⟨rfl, Nat.zero_le _, Nat.zero_le _, by simp [totD]⟩ ?_
  rintro i w2 ⟨rfl, hi, hi2, ht⟩ ih
  --
  refine T_seq ?_
  refine T_seq ?_
  refine T_join (ι := Unit) (fun _ => [(15, .bool (decide (i < n ∧ i ≤ 400))), (4, .int .i64 (i : Int)), (3, .int .i64 ((totD l i : Nat) : Int)), (1, ptr b2)]) (fun _ w' => w' = w2) (fun kk join => ?_) ?_
  · by_cases a1 : i < n
    · by_cases a2 : i ≤ 400
      · rw [decide_eq_true ⟨a1, a2⟩] at join
        repeat (first | refine T_region ?_ | refine TL_lt_t (hk := ?_) | refine TL_le_t (hk := ?_) | refine TL_nil ?_ | refine TL_move (hk := ?_) | refine TL_load TE (hk := ?_) | refine TL_fieldAddr TE (hk := ?_) | refine TL_len TE (hk := ?_) | refine TL_yes (hk := ?_) | refine TL_pick_t (hk := ?_))
        exact T.sub (join () _ rfl) (.c rfl (.c rfl (.c rfl (.c rfl (.n)))))
      · rw [show decide (i < n ∧ i ≤ 400) = false from decide_eq_false (fun q => a2 q.2)] at join
        repeat (first | refine T_region ?_ | refine TL_lt_t (hk := ?_) | refine TL_le_f (hk := ?_) | refine TL_nil ?_ | refine TL_move (hk := ?_) | refine TL_load TE (hk := ?_) | refine TL_fieldAddr TE (hk := ?_) | refine TL_len TE (hk := ?_) | refine TL_yes (hk := ?_) | refine TL_pick_t (hk := ?_))
        exact T.sub (join () _ rfl) (.c rfl (.c rfl (.c rfl (.c rfl (.n)))))
    · rw [show decide (i < n ∧ i ≤ 400) = false from decide_eq_false (fun q => a1 q.1)] at join
      repeat (first | refine T_region ?_ | refine TL_lt_f (hk := ?_) | refine TL_nil ?_ | refine TL_move (hk := ?_) | refine TL_load TE (hk := ?_) | refine TL_fieldAddr TE (hk := ?_) | refine TL_len TE (hk := ?_) | refine TL_no (hk := ?_) | refine TL_pick_f (hk := ?_))
      exact T.sub (join () _ rfl) (.c rfl (.c rfl (.c rfl (.c rfl (.n)))))
  rintro _ w2 rfl
  by_cases hg : i < n ∧ i ≤ 400
  · rw [decide_eq_true hg]
    obtain ⟨hlt, hlt2⟩ := hg
    have hA : A ≠ none := by obtain ⟨_, _, hq, _⟩ := h1.2 (by omega); rw [hq]; simp
    have hv : (rowV dvV l)[i * 4 + 3]? = some (.slice (l.getD i dv0).A (l.getD i dv0).n (l.getD i dv0).d) := rowV_at dvV_len l i 3 dv0 (by omega) (by omega)
    have hsu := totD_succ l i (by omega)
    have hb := (hm _ (getMem (d := dv0) (show i < l.length by omega))).nb
    generalize l.getD i dv0 = x at hv hsu hb
    have hc : ((totD l i : Nat) : Int) + (x.n : Int) = ((totD l (i + 1) : Nat) : Int) := by omega
    repeat (first | refine T_seq ?_ | refine T_region ?_ | refine T_cond_true rfl ?_ | refine T_block ?_ | refine T_inBlock ?_ | refine T_skip ?_ | refine TL_add (hk := ?_) | refine TL_nil ?_ | refine TL_move (hk := ?_) | refine TL_assign (hk := ?_) | refine TL_load TE (hk := ?_) | refine TL_load_rd TE (hk := ?_) | refine TL_fieldAddr TE (hk := ?_) | refine TL_fieldAddr_e TE (hk := ?_) | refine TL_indexAddrn TE (hk := ?_) | refine TL_len TE (hk := ?_))
    rw [hc]
    --
    exact ih (i + 1) _ _ (by omega) ⟨rfl, by omega, by omega, by omega⟩ (.c rfl (.c rfl (.c rfl (.n))))
  · rw [decide_eq_false hg]
    clear ih
    obtain ⟨T0, hT0⟩ : ∃ T0, totD l i = T0 := ⟨_, rfl⟩
    rw [hT0]
    rw [hT0] at ht
    clear hg hT0 hi
    repeat (first | refine T_seq ?_ | refine T_region ?_ | refine T_cond_false rfl ?_ | refine T_block ?_ | refine T_exit rfl ?_ | refine TL_nil ?_ | refine TL_assign (hk := ?_))
    refine T_loop (ι := Nat × Nat) (fun j => [(6, .int .i64 (j.1 : Int)), (5, .int .i64 (j.2 : Int)), (3, .int .i64 (T0 : Int)), (1, ptr b2)]) (fun j w' => w' = w2 ∧ j.1 ≤ n ∧ j.1 ≤ 401 ∧ j.2 ≤ j.1 * 50 ∧ ∀ q, q < j.1 → (l.getD q dv0).kd = 10 → (l.getD q dv0).a ≤ 50) (fun j => n - j.1) (0, 0) (.c rfl (.c rfl (.c rfl (.c rfl (.n))))) ⟨rfl, Nat.zero_le _, Nat.zero_le _, Nat.zero_le _, fun q hq => by simp at hq⟩ ?_
    rintro ⟨j, D⟩ w2 ⟨rfl, hj, hj2, hD, hall⟩ ih
    simp only at hj hj2 hD hall ih
    --
    refine T_seq ?_
    refine T_seq ?_
    refine T_join (ι := Unit) (fun _ => [(35, .bool (decide (j < n ∧ j ≤ 400))), (6, .int .i64 (j : Int)), (5, .int .i64 (D : Int)), (3, .int .i64 (T0 : Int)), (1, ptr b2)]) (fun _ w' => w' = w2) (fun kk join => ?_) ?_
    · by_cases a1 : j < n
      · by_cases a2 : j ≤ 400
        · rw [decide_eq_true ⟨a1, a2⟩] at join
          repeat (first | refine T_region ?_ | refine TL_lt_t (hk := ?_) | refine TL_le_t (hk := ?_) | refine TL_nil ?_ | refine TL_move (hk := ?_) | refine TL_load TE (hk := ?_) | refine TL_fieldAddr TE (hk := ?_) | refine TL_len TE (hk := ?_) | refine TL_yes (hk := ?_) | refine TL_pick_t (hk := ?_))
          exact T.sub (join () _ rfl) (.c rfl (.c rfl (.c rfl (.c rfl (.c rfl (.n))))))
        · rw [show decide (j < n ∧ j ≤ 400) = false from decide_eq_false (fun q => a2 q.2)] at join
          repeat (first | refine T_region ?_ | refine TL_lt_t (hk := ?_) | refine TL_le_f (hk := ?_) | refine TL_nil ?_ | refine TL_move (hk := ?_) | refine TL_load TE (hk := ?_) | refine TL_fieldAddr TE (hk := ?_) | refine TL_len TE (hk := ?_) | refine TL_yes (hk := ?_) | refine TL_pick_t (hk := ?_))
          exact T.sub (join () _ rfl) (.c rfl (.c rfl (.c rfl (.c rfl (.c rfl (.n))))))
      · rw [show decide (j < n ∧ j ≤ 400) = false from decide_eq_false (fun q => a1 q.1)] at join
        repeat (first | refine T_region ?_ | refine TL_lt_f (hk := ?_) | refine TL_nil ?_ | refine TL_move (hk := ?_) | refine TL_load TE (hk := ?_) | refine TL_fieldAddr TE (hk := ?_) | refine TL_len TE (hk := ?_) | refine TL_no (hk := ?_) | refine TL_pick_f (hk := ?_))
        exact T.sub (join () _ rfl) (.c rfl (.c rfl (.c rfl (.c rfl (.c rfl (.n))))))
    rintro _ w2 rfl
    by_cases hg : j < n ∧ j ≤ 400
    · rw [decide_eq_true hg]
      obtain ⟨hlt, hlt2⟩ := hg
      have hA : A ≠ none := by obtain ⟨_, _, hq, _⟩ := h1.2 (by omega); rw [hq]; simp
      have hv0 : (rowV dvV l)[j * 4 + 0]? = some (.int .i64 (l.getD j dv0).kd) := rowV_at dvV_len l j 0 dv0 (by omega) (by omega)
      have hv1 : (rowV dvV l)[j * 4 + 1]? = some (.int .i64 (l.getD j dv0).a) := rowV_at dvV_len l j 1 dv0 (by omega) (by omega)
      have hs : ∀ {P : Prop}, ((l.getD j dv0).kd = 10 → (l.getD j dv0).a ≤ 50) → ∀ q, q < j + 1 → (l.getD q dv0).kd = 10 → (l.getD q dv0).a ≤ 50 := fun {P} h q hq => by
        by_cases e : q = j
        · rw [e]; exact h
        · exact hall q (by omega)
      generalize l.getD j dv0 = x at hv0 hv1 hs
      by_cases a1 : x.kd = 10
      · by_cases a2 : 0 < x.a
        · by_cases a3 : 50 < x.a
          · clear ih
            repeat (first | refine T_seq ?_ | refine T_region ?_ | refine T_cond_true rfl ?_ | refine T_block ?_ | refine T_skip ?_ | refine TL_gt_t (hk := ?_) | refine TL_eq_t (hk := ?_) | refine TL_nil ?_ | refine TL_move (hk := ?_) | refine TL_assign (hk := ?_) | refine TL_load TE (hk := ?_) | refine TL_load_rd TE (hk := ?_) | refine TL_fieldAddr TE (hk := ?_) | refine TL_fieldAddr_e TE (hk := ?_) | refine TL_indexAddrn TE (hk := ?_) | refine TL_yes (hk := ?_) | refine TL_pick_t (hk := ?_))
            exact T_ret1 rfl rfl ⟨.inl rfl, e2⟩
          · obtain ⟨y, hy⟩ := Int.eq_ofNat_of_zero_le (show 0 ≤ x.a by omega)
            have hc : (D : Int) + x.a = ((D + y : Nat) : Int) := by omega
            repeat (first | refine T_seq ?_ | refine T_region ?_ | refine T_cond_true rfl ?_ | refine T_cond_false rfl ?_ | refine T_block ?_ | refine T_inBlock ?_ | refine T_skip ?_ | refine TL_add (hk := ?_) | refine TL_gt_t (hk := ?_) | refine TL_gt_f (hk := ?_) | refine TL_eq_t (hk := ?_) | refine TL_nil ?_ | refine TL_move (hk := ?_) | refine TL_assign (hk := ?_) | refine TL_load TE (hk := ?_) | refine TL_load_rd TE (hk := ?_) | refine TL_fieldAddr TE (hk := ?_) | refine TL_fieldAddr_e TE (hk := ?_) | refine TL_indexAddrn TE (hk := ?_) | refine TL_yes (hk := ?_) | refine TL_pick_t (hk := ?_))
            rw [hc]
            --
            exact ih (j + 1, D + y) _ _ (by simp only; omega) ⟨rfl, by simp only; omega, by simp only; omega, by simp only; omega, hs (P := True) (fun _ => by omega)⟩ (.c rfl (.c rfl (.c rfl (.c rfl (.n)))))
        · repeat (first | refine T_seq ?_ | refine T_region ?_ | refine T_cond_true rfl ?_ | refine T_cond_false rfl ?_ | refine T_block ?_ | refine T_inBlock ?_ | refine T_skip ?_ | refine TL_add (hk := ?_) | refine TL_gt_f (hk := ?_) | refine TL_eq_t (hk := ?_) | refine TL_nil ?_ | refine TL_move (hk := ?_) | refine TL_assign (hk := ?_) | refine TL_load TE (hk := ?_) | refine TL_load_rd TE (hk := ?_) | refine TL_fieldAddr TE (hk := ?_) | refine TL_fieldAddr_e TE (hk := ?_) | refine TL_indexAddrn TE (hk := ?_) | refine TL_yes (hk := ?_) | refine TL_pick_t (hk := ?_))
          exact ih (j + 1, D) _ _ (by simp only; omega) ⟨rfl, by simp only; omega, by simp only; omega, by simp only; omega, hs (P := True) (fun _ => by omega)⟩ (.c rfl (.c rfl (.c rfl (.c rfl (.n)))))
      · repeat (first | refine T_seq ?_ | refine T_region ?_ | refine T_cond_true rfl ?_ | refine T_cond_false rfl ?_ | refine T_block ?_ | refine T_inBlock ?_ | refine T_skip ?_ | refine TL_add (hk := ?_) | refine TL_eq_f (hk := ?_) | refine TL_nil ?_ | refine TL_move (hk := ?_) | refine TL_assign (hk := ?_) | refine TL_load TE (hk := ?_) | refine TL_load_rd TE (hk := ?_) | refine TL_fieldAddr TE (hk := ?_) | refine TL_fieldAddr_e TE (hk := ?_) | refine TL_indexAddrn TE (hk := ?_) | refine TL_no (hk := ?_) | refine TL_pick_f (hk := ?_))
        exact ih (j + 1, D) _ _ (by simp only; omega) ⟨rfl, by simp only; omega, by simp only; omega, by simp only; omega, hs (P := True) (fun q => absurd q a1)⟩ (.c rfl (.c rfl (.c rfl (.c rfl (.n)))))
    · rw [decide_eq_false hg]
      clear ih
      by_cases b1 : 400 < n
      · repeat (first | refine T_seq ?_ | refine T_region ?_ | refine T_cond_false rfl ?_ | refine T_exit rfl ?_ | refine TL_gt_t (hk := ?_) | refine TL_nil ?_ | refine TL_move (hk := ?_) | refine TL_assign (hk := ?_) | refine TL_load TE (hk := ?_) | refine TL_fieldAddr TE (hk := ?_) | refine TL_len TE (hk := ?_) | refine TL_no (hk := ?_) | refine TL_pick_t (hk := ?_))
        exact T_ret1 rfl rfl ⟨.inl rfl, e2⟩
      have hres : n ≤ 400 ∧ ∀ x ∈ l, x.kd = 10 → x.a ≤ 50 := ⟨by omega, fun x hx => by
        obtain ⟨q, hq, rfl⟩ := List.mem_iff_getElem.1 hx
        have := hall q (by omega)
        rwa [List.getD_eq_getElem?_getD, List.getElem?_eq_getElem hq] at this⟩
      clear hall hg
      by_cases b2 : 50000 < T0
      · repeat (first | refine T_seq ?_ | refine T_region ?_ | refine T_cond_false rfl ?_ | refine T_exit rfl ?_ | refine TL_gt_t (hk := ?_) | refine TL_gt_f (hk := ?_) | refine TL_nil ?_ | refine TL_move (hk := ?_) | refine TL_assign (hk := ?_) | refine TL_load TE (hk := ?_) | refine TL_fieldAddr TE (hk := ?_) | refine TL_len TE (hk := ?_) | refine TL_yes (hk := ?_) | refine TL_no (hk := ?_) | refine TL_pick_t (hk := ?_) | refine TL_pick_f (hk := ?_))
        exact T_ret1 rfl rfl ⟨.inl rfl, e2⟩
      by_cases b3 : 300 < D
      · repeat (first | refine T_seq ?_ | refine T_region ?_ | refine T_cond_false rfl ?_ | refine T_exit rfl ?_ | refine TL_gt_t (hk := ?_) | refine TL_gt_f (hk := ?_) | refine TL_nil ?_ | refine TL_move (hk := ?_) | refine TL_assign (hk := ?_) | refine TL_load TE (hk := ?_) | refine TL_fieldAddr TE (hk := ?_) | refine TL_len TE (hk := ?_) | refine TL_yes (hk := ?_) | refine TL_no (hk := ?_) | refine TL_pick_t (hk := ?_) | refine TL_pick_f (hk := ?_))
        exact T_ret1 rfl rfl ⟨.inl rfl, e2⟩
      by_cases b4 : 50 < P
      · by_cases b5 : P ≤ 1000
        · repeat (first | refine T_seq ?_ | refine T_region ?_ | refine T_cond_false rfl ?_ | refine T_exit rfl ?_ | refine TL_le_t (hk := ?_) | refine TL_gt_t (hk := ?_) | refine TL_gt_f (hk := ?_) | refine TL_nil ?_ | refine TL_move (hk := ?_) | refine TL_assign (hk := ?_) | refine TL_load TE (hk := ?_) | refine TL_fieldAddr TE (hk := ?_) | refine TL_len TE (hk := ?_) | refine TL_yes (hk := ?_) | refine TL_pick_t (hk := ?_) | refine TL_pick_f (hk := ?_))
          exact T_ret1 rfl rfl ⟨.inl rfl, e2⟩
        · repeat (first | refine T_seq ?_ | refine T_region ?_ | refine T_cond_false rfl ?_ | refine T_exit rfl ?_ | refine TL_le_f (hk := ?_) | refine TL_gt_t (hk := ?_) | refine TL_gt_f (hk := ?_) | refine TL_nil ?_ | refine TL_move (hk := ?_) | refine TL_assign (hk := ?_) | refine TL_load TE (hk := ?_) | refine TL_fieldAddr TE (hk := ?_) | refine TL_len TE (hk := ?_) | refine TL_yes (hk := ?_) | refine TL_pick_t (hk := ?_) | refine TL_pick_f (hk := ?_))
          exact T_ret1 rfl rfl ⟨.inr ⟨rfl, hres⟩, e2⟩
      · repeat (first | refine T_seq ?_ | refine T_region ?_ | refine T_cond_false rfl ?_ | refine T_exit rfl ?_ | refine TL_gt_f (hk := ?_) | refine TL_nil ?_ | refine TL_move (hk := ?_) | refine TL_assign (hk := ?_) | refine TL_load TE (hk := ?_) | refine TL_fieldAddr TE (hk := ?_) | refine TL_len TE (hk := ?_) | refine TL_yes (hk := ?_) | refine TL_no (hk := ?_) | refine TL_pick_f (hk := ?_))
        exact T_ret1 rfl rfl ⟨.inr ⟨rfl, hres⟩, e2⟩
end Go.Proofs.Ytjjgojgahibpgaa

namespace Go.Proofs.Ytjjgojgahibpgaa
open Go.RowKit Go.Proofs.Eng Go.Proofs.Codec Go.Proofs.Link
set_option linter.unusedSimpArgs false
set_option linter.unusedVariables false set_option maxRecDepth 10000
attribute [local irreducible] T TL LV TH TA
set_option maxHeartbeats 3200000
/-! A message over a net. -/
def y0 : NS := nsN 3 2 1
def y1 : NS := (sendX y0 0 2 [120]).1
def y2 : NS := (letX y1 0).1
def y3 : NS := (delX y2 0).1
def y4 : NS := (nextX y3 2).1
def y5 : NS := (drainX y4 9).1
theorem y_a : (sendX y0 0 2 [120]).2 = 0 := by decide +kernel
theorem y_b : (letX y1 0).2 = 1 := by decide +kernel
theorem y_c : (delX y2 0).2 = 0 := by decide +kernel
theorem y_d : (nextX y3 2).2 = some (0, [120]) := by decide +kernel
theorem y_e (b : Bs) : sendX y4 0 0 b = (y4, 2) := by
  unfold sendX
  rw [if_neg (by unfold twoN; simp)]
theorem y_f : restN y4 = 1 := by decide +kernel
theorem y_g : (drainX y4 9).2 = 1 := by decide +kernel
theorem y_h : restN y5 = 0 := by decide +kernel
theorem y_n : y1.N = 3 ∧ y2.N = 3 ∧ y3.N = 3 ∧ y4.N = 3 ∧ y5.N = 3 := by decide +kernel
theorem y_i : NJ 1 y1 ∧ NJ 1 y2 ∧ NJ 1 y3 ∧ NJ 1 y4 := by
  have i0 : NI 0 y0 (fun _ _ => []) (fun _ _ => 0) := NI.start (N := 3) (W := 2) (P := 1) (by decide) (by decide) (by decide)
  obtain ⟨L1, i1⟩ := i0.sendX (by decide) 0 2 [120]
  have i2 := i1.letX 0
  have i3 := (i2.delX 0).1
  obtain ⟨T4, i4⟩ := i3.nextX 2
  exact ⟨⟨_, _, i1⟩, ⟨_, _, i2⟩, ⟨_, _, i3⟩, ⟨_, _, i4⟩⟩
section
variable {base p : Nat} {M : NM} {F : Nat → Nat → Nat → Nat} {h : Nat → Nat} {ns : NS} {k : Nat} {L : LL} {U : Nat → Nat → Nat}
theorem NSendX_c (a c : Int) (B : Option Addr) (n cc : Nat) (l : Bs) (w : World) (g : NetG LayP ns.N w base p M F h ns) (hI : NI k ns L U) (hr : Rd w B n 1 (bv l)) (hn : n ≤ 70368744177664) :
    Ret Try.prog 46 [ptr p, .int .i64 a, .int .i64 c, .slice B n cc] w (fun v w' => v = .int .i64 ((sendX ns a c l).2 : Int) ∧ ∃ F' h', NetG LayP ns.N w' base p M F' h' (sendX ns a c l).1 ∧ Tn h h' w w') :=
  (NSend_c a c B n cc l w g hI hr hn).mono fun v w' q => by
    unfold sendX
    rcases q with ⟨h1, rfl, rfl⟩ | ⟨x, y, rfl, rfl, hx, hy, hxy, rfl, F', h', g', t'⟩
    · rw [if_neg (by rw [h1]; decide)]
      exact ⟨rfl, F, h, g, Tn.refl _ _⟩
    · rw [if_pos (twoN_t hx hy hxy)]
      simp only [Int.toNat_natCast]
      exact ⟨by simp, F', h', g', t'⟩
end
/-- A net of its own behind some world. -/
def OwN (Y : Lay) (w0 w : World) (p : Nat) (ns : NS) : Prop := ∃ base M F h, NetG Y ns.N w base p M F h ns ∧ w0.heap.size ≤ base ∧ Ext w0 w
theorem OwN.turn {Y : Lay} {w0 w w' : World} {p N base : Nat} {h h' : Nat → Nat} {M' : NM} {F' : Nat → Nat → Nat → Nat} {ns' : NS} (e : Ext w0 w) (ho : ∀ b, h b ≠ 0 → w0.heap.size ≤ b) (hb : w0.heap.size ≤ base) (g : NetG Y N w' base p M' F' h' ns') (hN : ns'.N = N) (t : Tn h h' w w') : OwN Y w0 w' p ns' :=
  ⟨base, M', F', h', by rw [hN]; exact g, hb, t.ext0 e ho⟩
theorem net_c26 (w : World) : Ret Try.prog 57 [] w (fun v w' => v = .bool true ∧ Ext w w') := by
  obtain ⟨n1, n2, n3, n4, n5⟩ := y_n
  obtain ⟨⟨L1, T1, i1⟩, ⟨L2, T2, i2⟩, ⟨L3, T3, i3⟩, ⟨L4, T4, i4⟩⟩ := y_i
  have i0 : NI 0 y0 (fun _ _ => []) (fun _ _ => 0) := NI.start (N := 3) (W := 2) (P := 1) (by decide) (by decide) (by decide)
  refine ret_T (n := 81) Try.func57 rfl rfl ?_
  repeat (first | refine T_seq ?_ | refine T_region ?_ | refine TL_nil ?_ | refine TL_assign (hk := ?_))
  refine TL_call TE (hc := NNewNet_c 3 2 1 _ (by omega) (by omega) (by omega)) (hk := ?_)
  rintro _ w1 ⟨e1, ⟨hf, -⟩ | ⟨n, W', P', hn, hW, hP, -, -, -, -, -, p, M, F, h, rfl, g⟩⟩
  · exact absurd hf (by decide)
  obtain rfl : n = 3 := by omega
  obtain rfl : W' = 2 := by omega
  obtain rfl : P' = 1 := by omega
  replace g : NetG LayP y0.N w1 w.heap.size p M F h y0 := g
  obtain ⟨_, M, F, h, g, hb, -⟩ : OwN LayP w w1 p y0 := ⟨_, M, F, h, g, Nat.le_refl _, e1⟩
  have ho : ∀ b, h b ≠ 0 → w.heap.size ≤ b := fun b q => by have := (g.old b q).1; omega
  repeat (first | refine T_seq ?_ | refine T_region ?_ | refine TL_nil ?_ | refine TL_move (hk := ?_) | refine TL_assign (hk := ?_) | refine TL_extract (hk := ?_))
  refine TL_call TE (hc := num_c26 _ _) (hk := ?_)
  rintro _ w1 ⟨rfl, rfl⟩
  repeat (first | refine T_seq ?_ | refine T_region ?_ | refine T_cond_false rfl ?_ | refine T_skip ?_ | refine TL_ne_f (hk := ?_) | refine TL_pnil_f TE (hk := ?_) | refine TL_nil ?_ | refine TL_move (hk := ?_) | refine TL_yes (hk := ?_) | refine TL_pick_f (hk := ?_))
  refine TL_buildSlice TE (hk := ?_); intro b2 w2 e2 p2 p2' k2
  replace k2 : Blk w2 b2 5 (bv [120]) := k2
  --
  refine TL_conv_ss TE (hk := ?_); intro w2 m2 z2 r2
  have e2' := Mod.step e2 m2 (by simp; omega)
  have g2 := g.ext e2'
  have E2 := e1.ext e2'
  --
  refine TL_call TE (hc := NSendX_c 0 2 _ 1 1 [120] _ g2 i0 r2 (by omega)) (hk := ?_)
  rintro _ w3 ⟨rfl, F3, h3, g3, t3⟩
  obtain ⟨_, M, F, h, g, hb, E3⟩ : OwN LayP w w3 p y1 := OwN.turn E2 ho hb g3 n1 t3
  have ho : ∀ b, h b ≠ 0 → w.heap.size ≤ b := fun b q => by have := (g.old b q).1; omega
  rw [y_a]
  clear g2 g3 t3 r2 k2 e1 e2 e2' m2 E2
  repeat (first | refine T_seq ?_ | refine T_region ?_ | refine TL_nil ?_ | refine TL_move (hk := ?_) | refine TL_assign (hk := ?_))
  refine TL_call TE (hc := NLet_c 0 _ g i1) (hk := ?_)
  rintro _ w4 ⟨rfl, M4, F4, h4, g4, t4⟩
  obtain ⟨_, M, F, h, g, hb, E4⟩ : OwN LayP w w4 p y2 := OwN.turn E3 ho hb g4 (n2.trans n1.symm) t4
  have ho : ∀ b, h b ≠ 0 → w.heap.size ≤ b := fun b q => by have := (g.old b q).1; omega
  rw [y_b]
  clear g4 t4 E3
  repeat (first | refine T_seq ?_ | refine T_region ?_ | refine TL_nil ?_ | refine TL_move (hk := ?_) | refine TL_assign (hk := ?_))
  refine TL_call TE (hc := NDeliver_c 0 _ g i2) (hk := ?_)
  rintro _ w5 ⟨rfl, M5, F5, h5, g5, t5⟩
  obtain ⟨bb, M, F, h, g, hb, E5⟩ : OwN LayP w w5 p y3 := OwN.turn E4 ho hb g5 (n3.trans n2.symm) t5
  have ho : ∀ b, h b ≠ 0 → w.heap.size ≤ b := fun b q => by have := (g.old b q).1; omega
  rw [y_c]
  clear g5 t5 E4
  have hnx := NNext_c 2 _ g i3
  have hpr : nextX y3 2 = (y4, some (0, [120])) := by rw [← y_d]; rfl
  rw [hpr] at hnx
  repeat (first | refine T_seq ?_ | refine T_region ?_ | refine TL_nil ?_ | refine TL_move (hk := ?_) | refine TL_assign (hk := ?_))
  refine TL_call TE (hc := hnx) (hk := ?_)
  rintro _ w6 ⟨x, F6, h6, rfl, g6, t6, hx, hz⟩
  have E6 : Ext w w6 := t6.ext0 E5 ho
  replace g6 : NetG LayP y4.N w6 bb p M F6 h6 y4 := by rw [n4, ← n3]; exact g6
  have ho' : ∀ b, h6 b ≠ 0 → w.heap.size ≤ b := fun b q => by have := (g6.old b q).1; omega
  have rx := hx.rd
  have hxl := hx.len
  clear t6 E5 hnx g
  repeat (first | refine T_seq ?_ | refine T_region ?_ | refine TL_nil ?_ | refine TL_move (hk := ?_) | refine TL_assign (hk := ?_) | refine TL_extract (hk := ?_))
  refine TL_call TE (hc := NSendX_c 0 0 none 0 0 [] _ g6 i4 (Rd.nil _ _ _) (by omega)) (hk := ?_)
  rintro _ w7 ⟨rfl, F7, h7, g7, t7⟩
  rw [y_e] at g7
  rw [y_e]
  have rx7 := (hx.tn t7 (fun u hu => (hz u hu).1)).1.rd
  obtain ⟨_, M, F, h, g, hb, E7⟩ : OwN LayP w w7 p y4 := OwN.turn E6 ho' hb g7 rfl t7
  have ho : ∀ b, h b ≠ 0 → w.heap.size ≤ b := fun b q => by have := (g.old b q).1; omega
  clear g7 t7 E6 ho' rx hx hz
  repeat (first | refine T_seq ?_ | refine T_region ?_ | refine TL_nil ?_ | refine TL_move (hk := ?_) | refine TL_assign (hk := ?_))
  refine TL_call TE (hc := num_c26 _ _) (hk := ?_)
  rintro _ w7 ⟨rfl, rfl⟩
  repeat (first | refine TL_eq_t (hk := ?_) | refine TL_move (hk := ?_) | refine TL_yes (hk := ?_) | refine TL_pick_t (hk := ?_))
  refine TL_call TE (hc := num_c26 _ _) (hk := ?_)
  rintro _ w7 ⟨rfl, rfl⟩
  repeat (first | refine TL_eq_t (hk := ?_) | refine TL_seq_t (hk := ?_) | refine TL_move (hk := ?_) | refine TL_yes (hk := ?_) | refine TL_pick_t (hk := ?_) | refine TL_conv_bs TE (hk := ?_))
  refine TL_call TE (hc := num_c26 _ _) (hk := ?_)
  rintro _ w7 ⟨rfl, rfl⟩
  repeat (first | refine TL_eq_t (hk := ?_) | refine TL_move (hk := ?_) | refine TL_yes (hk := ?_) | refine TL_pick_t (hk := ?_))
  refine TL_call TE (hc := NRest_c _ g i4) (hk := ?_)
  rintro _ w7 ⟨rfl, rfl⟩
  rw [y_f]
  repeat (first | refine TL_eq_t (hk := ?_) | refine TL_move (hk := ?_) | refine TL_yes (hk := ?_) | refine TL_pick_t (hk := ?_))
  refine TL_call TE (hc := NDrain_c 9 _ (by omega) g i4) (hk := ?_)
  rintro _ w8 ⟨rfl, M8, F8, h8, g8, t8⟩
  obtain ⟨_, M, F, h, g, hb, E8⟩ : OwN LayP w w8 p y5 := OwN.turn E7 ho hb g8 (n5.trans n4.symm) t8
  rw [y_g]
  have i5 : NI 1 y5 L4 T4 := NI.drain 9 i4
  clear g8 t8 E7 rx7
  repeat (first | refine TL_eq_t (hk := ?_) | refine TL_move (hk := ?_) | refine TL_yes (hk := ?_) | refine TL_pick_t (hk := ?_))
  refine TL_call TE (hc := NRest_c _ g i5) (hk := ?_)
  rintro _ w8 ⟨rfl, rfl⟩
  rw [y_h]
  repeat (first | refine TL_eq_t (hk := ?_) | refine TL_nil ?_ | refine TL_assign (hk := ?_) | refine TL_yes (hk := ?_) | refine TL_pick_t (hk := ?_))
  exact T_ret1 rfl rfl ⟨rfl, E8⟩
end Go.Proofs.Ytjjgojgahibpgaa

namespace Go.Proofs.Ytjjgojgahibpgaa
open Go.RowKit Go.Proofs.Eng Go.Proofs.Codec Go.Proofs.Link
set_option linter.unusedSimpArgs false
set_option linter.unusedVariables false set_option maxRecDepth 10000
attribute [local irreducible] T TL LV TH TA
set_option maxHeartbeats 3200000
/-- Two nets, apart from each other. -/
structure NPm (w0 w : World) (nA : NS) (b1 p1 : Nat) (M1 : NM) (F1 : Nat → Nat → Nat → Nat) (h1 : Nat → Nat) (nB : NS) (b2 p2 : Nat) (M2 : NM) (F2 : Nat → Nat → Nat → Nat) (h2 : Nat → Nat) : Prop where
  e : Ext w0 w
  A : NetG LayP nA.N w b1 p1 M1 F1 h1 nA
  B : NetG LayR nB.N w b2 p2 M2 F2 h2 nB
  dj : ∀ b, h1 b = 0 ∨ h2 b = 0
  l1 : w0.heap.size ≤ b1
  l2 : w0.heap.size ≤ b2
section
variable {w0 w w' : World} {nA nB nA' nB' : NS} {b1 p1 b2 p2 : Nat} {M1 M2 M' : NM} {F1 F2 F' : Nat → Nat → Nat → Nat} {h1 h2 h' : Nat → Nat}
theorem NPm.a (h : NPm w0 w nA b1 p1 M1 F1 h1 nB b2 p2 M2 F2 h2) (g : NetG LayP nA.N w' b1 p1 M' F' h' nA') (hN : nA'.N = nA.N) (t : Tn h1 h' w w') : NPm w0 w' nA' b1 p1 M' F' h' nB b2 p2 M2 F2 h2 :=
  have k := h.B.tn t h.dj
  ⟨t.ext0 h.e (fun b hb => by have := (h.A.old b hb).1; have := h.l1; omega), by rw [hN]; exact g, k.1, k.2, h.l1, h.l2⟩
theorem NPm.b (h : NPm w0 w nA b1 p1 M1 F1 h1 nB b2 p2 M2 F2 h2) (g : NetG LayR nB.N w' b2 p2 M' F' h' nB') (hN : nB'.N = nB.N) (t : Tn h2 h' w w') : NPm w0 w' nA b1 p1 M1 F1 h1 nB' b2 p2 M' F' h' :=
  have k := h.A.tn t (fun b => (h.dj b).symm)
  ⟨t.ext0 h.e (fun b hb => by have := (h.B.old b hb).1; have := h.l2; omega), k.1, by rw [hN]; exact g, fun b => (k.2 b).symm, h.l1, h.l2⟩
theorem NPm.mod {S : List Nat} (h : NPm w0 w nA b1 p1 M1 F1 h1 nB b2 p2 M2 F2 h2) (m : Eng.Mod S w w') (s1 : ∀ b ∈ S, h1 b = 0) (s2 : ∀ b ∈ S, h2 b = 0) (s0 : ∀ b ∈ S, w0.heap.size ≤ b) : NPm w0 w' nA b1 p1 M1 F1 h1 nB b2 p2 M2 F2 h2 :=
  ⟨Mod.step h.e m (fun b hb => .inr (s0 b hb)), h.A.mod m s1, h.B.mod m s2, h.dj, h.l1, h.l2⟩
theorem NPm.ext (h : NPm w0 w nA b1 p1 M1 F1 h1 nB b2 p2 M2 F2 h2) (e : Ext w w') : NPm w0 w' nA b1 p1 M1 F1 h1 nB b2 p2 M2 F2 h2 := h.mod e (fun b hb => by cases hb) (fun b hb => by cases hb) (fun b hb => by cases hb)
/-- What is new is nobody's. -/
theorem NPm.new (h : NPm w0 w nA b1 p1 M1 F1 h1 nB b2 p2 M2 F2 h2) {b : Nat} (hb : w.heap.size ≤ b) : h1 b = 0 ∧ h2 b = 0 := by
  constructor
  · by_cases q : h1 b = 0
    · exact q
    · have := (h.A.old b q).2; omega
  · by_cases q : h2 b = 0
    · exact q
    · have := (h.B.old b q).2; omega
end
def NPd (w0 w : World) (nA : NS) (b1 p1 : Nat) (h1 : Nat → Nat) (nB : NS) (b2 p2 : Nat) (h2 : Nat → Nat) : Prop := ∃ M1 F1 M2 F2, NPm w0 w nA b1 p1 M1 F1 h1 nB b2 p2 M2 F2 h2
def NP (w0 w : World) (ns : NS) (p1 p2 : Nat) : Prop := ∃ b1 h1 b2 h2, NPd w0 w ns b1 p1 h1 ns b2 p2 h2
end Go.Proofs.Ytjjgojgahibpgaa

/- What holds of a net all the while that it is told what has come. -/
namespace Go.Proofs.Ytjjgojgahibpgaa
open Go.Proofs.Eng Go.Proofs.Codec Go.Proofs.Link
set_option linter.unusedSimpArgs false
set_option linter.unusedVariables false
structure NH (k : Nat) (ns : NS) (L : LL) (T : Nat → Nat → Nat) : Prop where
  ni : NI k ns L T
  re : restN ns ≤ k
  sy : ∀ a c, ns.P a c = ns.P c a
  dl : ∀ a, L a a = []
  dt : ∀ a, T a a = 0
theorem rest_le {ns ns' : NS} (hN : ns'.N = ns.N) (h : ∀ a c, a < ns.N → c < ns.N → rE (ns'.E a c) ≤ rE (ns.E a c)) : restN ns' ≤ restN ns := by
  rw [restN_s2, restN_s2, hN]
  exact s2_le h
theorem rest_cong {ns ns' : NS} (hN : ns'.N = ns.N) (hE : ns'.E = ns.E) : restN ns' = restN ns := by rw [restN_s2, restN_s2, hN, hE]
theorem rest_one {ns : NS} {a c : Nat} {e : ES} (h : rE e ≤ rE (ns.E a c) + 1) : restN { ns with E := upd2 ns.E a c e } ≤ restN ns + 1 := by
  rw [restN_s2, restN_s2]
  unfold s2
  have key : ∀ x, x ≠ a → sm (fun y => rE (upd2 ns.E a c e x y)) ns.N = sm (fun y => rE (ns.E x y)) ns.N := fun x hx => sm_eq ns.N fun y _ => by rw [upd2_ne _ _ (fun q => hx q.1)]
  have ka : sm (fun y => rE (upd2 ns.E a c e a y)) ns.N ≤ sm (fun y => rE (ns.E a y)) ns.N + 1 := (sm_one (a := c) (by rw [upd2_at]; exact h) (fun y hy => by rw [upd2_ne _ _ (fun q => hy q.2)]) ns.N).1
  exact (sm_one (a := a) ka key ns.N).1
theorem rest_same {ns : NS} {a c : Nat} {e : ES} (h : rE e = rE (ns.E a c)) : restN { ns with E := upd2 ns.E a c e } = restN ns := by
  rw [restN_s2, restN_s2]
  unfold s2
  refine sm_eq _ fun x _ => sm_eq _ fun y _ => ?_
  show rE (upd2 ns.E a c e x y) = _
  by_cases q : x = a ∧ y = c
  · obtain ⟨rfl, rfl⟩ := q; rw [upd2_at, h]
  · rw [upd2_ne _ _ q]
theorem rest_less {ns ns' : NS} {a c : Nat} {e : ES} (hN : ns'.N = ns.N) (hE : ns'.E = upd2 ns.E a c e) (h : rE e ≤ rE (ns.E a c)) : restN ns' ≤ restN ns :=
  rest_le hN fun x y _ _ => by
    rw [hE]
    by_cases q : x = a ∧ y = c
    · obtain ⟨rfl, rfl⟩ := q; rw [upd2_at]; exact h
    · rw [upd2_ne _ _ q]; exact Nat.le_refl _
theorem letK_rest (a : Nat) (k : Nat) (ns : NS) : restN (letK a k ns) ≤ restN ns := rest_le (letK_N a k ns).1 fun x y _ _ => by
  rw [letK_E]
  split
  · rw [out_rE]; exact Nat.le_refl _
  · exact Nat.le_refl _
section
variable {k : Nat} {ns : NS} {L : LL} {T : Nat → Nat → Nat}
theorem NH.up (h : NH k ns L T) : NH (k + 1) ns L T := { h with ni := h.ni.mono (Nat.le_succ k), re := by have := h.re; omega }
theorem NH.start {W P N : Nat} (hN : 2 ≤ N ∧ N ≤ 8) (hW : 1 ≤ W ∧ W ≤ 256) (hP : 1 ≤ P ∧ P ≤ 1000) : NH 0 ⟨N, W, P, fun _ _ => nE W P, fun _ _ => false, []⟩ (fun _ _ => []) (fun _ _ => 0) :=
  ⟨NI.start hN hW hP, by
    rw [restN_s2]
    refine Nat.le_of_eq ?_
    have : ∀ (n : Nat) (g : Nat → Nat), (∀ i, g i = 0) → sm g n = 0 := fun n g hg => by
      induction n with
      | zero => rfl
      | succ n ih => unfold sm; rw [ih, hg]
    exact this _ _ (fun a => this _ _ (fun c => rfl)), fun _ _ => rfl, fun _ => rfl, fun _ => rfl⟩
theorem NH.send (h : NH k ns L T) (hk : k < 600) {a c : Nat} (ha : a < ns.N) (hc : c < ns.N) (hac : a ≠ c) (b : Bs) (h0 : (sendN ns a c b).2 = 0) : NH (k + 1) (sendN ns a c b).1 (upd2 L a c (L a c ++ [b])) T :=
  { ni := h.ni.send hk ha hc hac b h0
    re := by have := rest_one (ns := ns) (a := a) (c := c) (send_rE (ns.E a c) b); have := h.re; show restN { ns with E := _ } ≤ _; omega
    sy := h.sy
    dl := fun x => by rw [upd2_ne _ _ (fun q => hac (q.1.symm.trans q.2))]; exact h.dl x
    dt := h.dt }
theorem NH.letX (h : NH k ns L T) (a : Int) : NH k (letX ns a).1 L T :=
  { h with
    ni := h.ni.letX a
    re := by
      refine Nat.le_trans ?_ h.re
      unfold Go.Proofs.Ytjjgojgahibpgaa.letX
      split
      · exact letK_rest _ _ _
      · exact Nat.le_refl _
    sy := by
      unfold Go.Proofs.Ytjjgojgahibpgaa.letX
      split
      · rw [(letK_N _ _ ns).2.2.2]; exact h.sy
      · exact h.sy }
theorem NH.delX (h : NH k ns L T) (i : Int) : NH k (delX ns i).1 L T :=
  { h with
    ni := (h.ni.delX i).1
    re := by
      refine Nat.le_trans ?_ h.re
      unfold Go.Proofs.Ytjjgojgahibpgaa.delX delN
      split
      · split
        · exact Nat.le_refl _
        · exact rest_less rfl rfl (recv_rE _ _)
      · exact Nat.le_refl _
    sy := by
      unfold Go.Proofs.Ytjjgojgahibpgaa.delX delN
      split
      · split <;> exact h.sy
      · exact h.sy }
theorem NH.dropX (h : NH k ns L T) (i : Int) : NH k (dropX ns i).1 L T :=
  { h with
    ni := h.ni.dropX i
    re := by refine Nat.le_trans (Nat.le_of_eq ?_) h.re; unfold Go.Proofs.Ytjjgojgahibpgaa.dropX; split <;> exact rest_cong rfl rfl
    sy := by unfold Go.Proofs.Ytjjgojgahibpgaa.dropX; split <;> exact h.sy }
theorem NH.dblX (h : NH k ns L T) (i : Int) : NH k (dblX ns i).1 L T :=
  { h with
    ni := h.ni.dblX i
    re := by
      refine Nat.le_trans (Nat.le_of_eq ?_) h.re
      unfold Go.Proofs.Ytjjgojgahibpgaa.dblX dblN
      split
      · split <;> exact rest_cong rfl rfl
      · rfl
    sy := by
      unfold Go.Proofs.Ytjjgojgahibpgaa.dblX dblN
      split
      · split <;> exact h.sy
      · exact h.sy }
theorem set_sym (P : Nat → Nat → Bool) (h : ∀ a c, P a c = P c a) (a c : Nat) (v : Bool) (x y : Nat) : upd2 (upd2 P a c v) c a v x y = if (x = a ∧ y = c) ∨ (x = c ∧ y = a) then v else P x y := by
  by_cases e1 : x = c ∧ y = a
  · obtain ⟨rfl, rfl⟩ := e1
    rw [upd2_at, if_pos (.inr ⟨rfl, rfl⟩)]
  · rw [upd2_ne _ _ e1]
    by_cases e2 : x = a ∧ y = c
    · obtain ⟨rfl, rfl⟩ := e2
      rw [upd2_at, if_pos (.inl ⟨rfl, rfl⟩)]
    · rw [upd2_ne _ _ e2, if_neg (fun q => q.elim e2 e1)]
theorem NH.partX (h : NH k ns L T) (a c : Int) (v : Bool) : NH k (partX ns a c v).1 L T :=
  { h with
    ni := h.ni.partX a c v
    re := by refine Nat.le_trans (Nat.le_of_eq ?_) h.re; unfold Go.Proofs.Ytjjgojgahibpgaa.partX; split <;> exact rest_cong rfl rfl
    sy := fun x y => by
      unfold Go.Proofs.Ytjjgojgahibpgaa.partX
      split
      · show upd2 (upd2 ns.P _ _ v) _ _ v x y = upd2 (upd2 ns.P _ _ v) _ _ v y x
        rw [set_sym _ h.sy, set_sym _ h.sy, h.sy x y]
        by_cases q : (x = a.toNat ∧ y = c.toNat) ∨ (x = c.toNat ∧ y = a.toNat)
        · rw [if_pos q, if_pos (q.elim (fun z => .inr ⟨z.2, z.1⟩) (fun z => .inl ⟨z.2, z.1⟩))]
        · rw [if_neg q, if_neg (fun z => q (z.elim (fun z => .inr ⟨z.2, z.1⟩) (fun z => .inl ⟨z.2, z.1⟩)))]
      · exact h.sy x y }
/-- After a join two are not parted, and nobody is who was not. -/
theorem join_P (h : NH k ns L T) {a c : Nat} (ha : a < ns.N) (hc : c < ns.N) (hac : a ≠ c) : (partX ns a c false).1.P a c = false ∧ ∀ x y, ns.P x y = false → (partX ns a c false).1.P x y = false := by
  unfold Go.Proofs.Ytjjgojgahibpgaa.partX
  simp only [Int.toNat_natCast]
  by_cases q : ns.P a c = false
  · rw [if_neg (fun z => z.2 q)]
    exact ⟨q, fun x y h => h⟩
  · rw [if_pos ⟨twoN_t ha hc hac, q⟩]
    refine ⟨?_, fun x y hxy => ?_⟩
    · show upd2 (upd2 ns.P a c false) c a false a c = false
      rw [set_sym _ h.sy, if_pos (.inl ⟨rfl, rfl⟩)]
    · show upd2 (upd2 ns.P a c false) c a false x y = false
      rw [set_sym _ h.sy, hxy]
      split <;> rfl
theorem NH.tick (h : NH k ns L T) : NH k (tickN ns) L T :=
  { h with
    ni := h.ni.tick
    re := Nat.le_trans (rest_le (ns := ns) (ns' := tickN ns) rfl fun a c _ _ => Nat.le_of_eq (tick_rE (ns.E a c))) h.re
    sy := h.sy }
theorem NH.next (h : NH k ns L T) {a c : Nat} (ha : a < ns.N) (hc : c < ns.N) {b : Bs} {t : List Bs} (he : (ns.E a c).come = b :: t) :
    a ≠ c ∧ (L c a)[T c a]? = some b ∧ NH k (nextN ns a c) L (upd2 T c a (T c a + 1)) := by
  obtain ⟨g1, g2, g3⟩ := h.ni.next ha hc he
  exact ⟨g1, g2, { h with
    ni := g3
    re := by refine Nat.le_trans (Nat.le_of_eq ?_) h.re; exact rest_same (next_rE _)
    sy := h.sy
    dt := fun x => by rw [upd2_ne _ _ (fun q => g1 (q.2.symm.trans q.1))]; exact h.dt x }⟩
def comeR (ns : NS) (a : Nat) : Nat := sm (fun c => (ns.E a c).come.length) ns.N
theorem come_next {a c : Nat} (hc : c < ns.N) {b : Bs} {t : List Bs} (he : (ns.E a c).come = b :: t) : comeR (nextN ns a c) a < comeR ns a := by
  have h0 : (nextE (ns.E a c)).1.come = t := by unfold nextE; rw [he]
  unfold comeR
  refine sm_lt ns.N hc (fun y hy => ?_) ?_
  · show (upd2 ns.E a c (nextE (ns.E a c)).1 a y).come.length ≤ _
    by_cases q : y = c
    · subst q; rw [upd2_at, h0, he]; simp
    · rw [upd2_ne _ _ (fun z => q z.2)]; exact Nat.le_refl _
  · show (upd2 ns.E a c (nextE (ns.E a c)).1 a c).come.length < _
    rw [upd2_at, h0, he]; simp
/-- The end: all is told. -/
theorem NH.told (h : NH k ns L T) (hr : restN ns = 0) (hc : ∀ a c, a < ns.N → c < ns.N → (ns.E a c).come = []) {a c : Nat} (ha : a < ns.N) (hc' : c < ns.N) : T a c = (L a c).length := by
  by_cases e : a = c
  · subst e; rw [h.dl, h.dt]; rfl
  · have h1 := healed h.ni hr ha hc' e
    have h2 := (h.ni.mt c a hc' ha (Ne.symm e)).left.1
    rw [hc c a hc' ha] at h2
    simp at h2
    omega
end
end Go.Proofs.Ytjjgojgahibpgaa

/- What was sent over a net, and how much of it was told. -/
namespace Go.Proofs.Ytjjgojgahibpgaa
open Go.RowKit Go.Proofs.Eng Go.Proofs.Codec Go.Proofs.Link
set_option linter.unusedSimpArgs false
set_option linter.unusedVariables false set_option maxRecDepth 10000
attribute [local irreducible] T TL LV TH TA
def row2 (N : Nat) (f : Nat → Nat → Value) : List Value := rowF (N * N) fun k => f (k / N) (k % N)
@[simp] theorem row2_len (N : Nat) (f : Nat → Nat → Value) : (row2 N f).length = N * N := by unfold row2; rw [rowF_len]
theorem ix_lt {N a c : Nat} (ha : a < N) (hc : c < N) : a * N + c < N * N := by
  have := Nat.mul_le_mul_right N (show a + 1 ≤ N by omega)
  rw [Nat.succ_mul] at this
  omega
theorem ix_div {N a c : Nat} (hc : c < N) : (a * N + c) / N = a ∧ (a * N + c) % N = c := by
  have h0 : 0 < N := by omega
  constructor
  · rw [Nat.mul_comm, Nat.mul_add_div h0, Nat.div_eq_of_lt hc, Nat.add_zero]
  · rw [Nat.mul_comm, Nat.mul_add_mod, Nat.mod_eq_of_lt hc]
theorem row2_get {N a c : Nat} (f : Nat → Nat → Value) (ha : a < N) (hc : c < N) : (row2 N f)[a * N + c]? = some (f a c) := by
  unfold row2
  rw [rowF_get _ (ix_lt ha hc), (ix_div hc).1, (ix_div hc).2]
theorem row2_set {N a c : Nat} (f : Nat → Nat → Value) (v : Value) (ha : a < N) (hc : c < N) : (row2 N f).set (a * N + c) v = row2 N (upd2 f a c v) := by
  unfold row2
  rw [rowF_set]
  refine rowF_cong fun k hk => ?_
  unfold upd
  by_cases e : k = a * N + c
  · rw [if_pos e, e, (ix_div hc).1, (ix_div hc).2, upd2_at]
  · rw [if_neg e, upd2_ne]
    rintro ⟨q1, q2⟩
    apply e
    have := Nat.div_add_mod k N
    rw [q1, q2, Nat.mul_comm] at this
    exact this.symm
theorem row2_cong {N : Nat} {f g : Nat → Nat → Value} (h : ∀ a c, a < N → c < N → f a c = g a c) (h0 : 0 < N) : row2 N f = row2 N g := by
  unfold row2
  refine rowF_cong fun k hk => h _ _ (Nat.div_lt_of_lt_mul hk) (Nat.mod_lt _ h0)
structure HMem (w0 w : World) (base N : Nat) (S H : SV) (sr : Nat → Nat → SV) (sb : Nat → Nat → List SV) (L : LL) (T : Nat → Nat → Nat) (g : Nat → Nat) : Prop where
  os : Own w base 53 1 S.1 S.2.1 S.2.2 (row2 N fun a c => slV (sr a c))
  orr : ∀ a c, a < N → c < N → Own w base 23 1 (sr a c).1 (sr a c).2.1 (sr a c).2.2 (slVs (sb a c))
  bl : ∀ a c, a < N → c < N → (sb a c).length = (L a c).length
  bd : ∀ a c i, a < N → c < N → i < (sb a c).length → Rd w0 ((sb a c).getD i (none, 0, 0)).1 ((sb a c).getD i (none, 0, 0)).2.1 1 (bv ((L a c).getD i []))
  oh : Own w base 3 1 H.1 H.2.1 H.2.2 (row2 N fun a c => .int .i64 (T a c : Int))
  gS : ∀ b ∈ blkL S.1, g b = 1
  gH : ∀ b ∈ blkL H.1, g b = 2
  gR : ∀ a c, a < N → c < N → ∀ b ∈ blkL (sr a c).1, g b = 3 + (a * 8 + c)
  old : ∀ b, g b ≠ 0 → base ≤ b ∧ b < w.heap.size
  n8 : 2 ≤ N ∧ N ≤ 8
section
variable {w0 w w' w1 w2 w3 : World} {base N : Nat} {S H : SV} {sr : Nat → Nat → SV} {sb : Nat → Nat → List SV} {L : LL} {T : Nat → Nat → Nat} {g : Nat → Nat} {Z : List Nat}
theorem HMem.mod (h : HMem w0 w base N S H sr sb L T g) (hm : Eng.Mod Z w w') (hZ : ∀ b ∈ Z, g b = 0) : HMem w0 w' base N S H sr sb L T g :=
  have nin : ∀ b k, g b = k + 1 → b ∉ Z := fun b k e q => by rw [hZ b q] at e; cases e
  { h with
    os := h.os.modL hm (fun b hb => nin b _ (h.gS b hb))
    orr := fun a c ha hc => (h.orr a c ha hc).modL hm (fun b hb => nin b (2 + (a * 8 + c)) (by rw [h.gR a c ha hc b hb]; omega))
    oh := h.oh.modL hm (fun b hb => nin b _ (h.gH b hb))
    old := fun b hb => by have := h.old b hb; have := hm.size; omega }
theorem HMem.ext (h : HMem w0 w base N S H sr sb L T g) (e : Ext w w') : HMem w0 w' base N S H sr sb L T g := h.mod e (fun b hb => by cases hb)
theorem HMem.tn (h : HMem w0 w base N S H sr sb L T g) {o o' : Nat → Nat} (t : Tn o o' w w') (hd : ∀ b, o b = 0 ∨ g b = 0) : HMem w0 w' base N S H sr sb L T g ∧ ∀ b, o' b = 0 ∨ g b = 0 := by
  obtain ⟨⟨S, m1, s1⟩, n1, z1⟩ := t
  refine ⟨h.mod m1 (fun b hb => (hd b).resolve_left (s1 b hb)), fun b => ?_⟩
  by_cases q : o' b = 0
  · exact .inl q
  · right
    rcases n1 b q with h1 | h1
    · exact (hd b).resolve_left h1
    · by_cases y : g b = 0
      · exact y
      · have := (h.old b y).2; omega
/-- One more is told. -/
theorem HMem.tell (h : HMem w0 w base N S H sr sb L T g) {a c : Nat} (ha : a < N) (hc : c < N) (hm : Eng.Mod (blkL H.1) w w') (ho : Own w' base 3 1 H.1 H.2.1 H.2.2 ((row2 N fun a c => .int .i64 (T a c : Int)).set (a * N + c) (.int .i64 ((T a c + 1 : Nat) : Int)))) :
    HMem w0 w' base N S H sr sb L (upd2 T a c (T a c + 1)) g ∧ Tn g g w w' := by
  have nin : ∀ b k, g b = k → k ≠ 2 → b ∉ blkL H.1 := fun b k e k2 q => by have := h.gH b q; omega
  refine ⟨{ h with
    os := h.os.modL hm (fun b hb => nin b _ (h.gS b hb) (by decide))
    orr := fun a c ha hc => (h.orr a c ha hc).modL hm (fun b hb => nin b _ (h.gR a c ha hc b hb) (by omega))
    oh := ?_
    old := fun b hb => by have := h.old b hb; have := hm.size; omega }, ⟨_, hm, fun b hb => by rw [h.gH b hb]; decide⟩, fun b hb => .inl hb, hm.size⟩
  rw [row2_set _ _ ha hc] at ho
  rwa [row2_cong (g := upd2 (fun a c => .int .i64 (T a c : Int)) a c (.int .i64 ((T a c + 1 : Nat) : Int))) (fun x y _ _ => ?_) (by have := h.n8; omega)]
  by_cases e : x = a ∧ y = c
  · obtain ⟨rfl, rfl⟩ := e; rw [upd2_at, upd2_at]
  · rw [upd2_ne _ _ e, upd2_ne _ _ e]
/-- One more is sent. -/
theorem HMem.send (h : HMem w0 w base N S H sr sb L T g) {a c : Nat} (ha : a < N) (hc : c < N) {x y : SV} {l : Bs} (e1 : Ext w w1) (m2 : Eng.Mod (blkL (sr a c).1) w1 w2) (hy : Own w2 base 23 1 y.1 y.2.1 y.2.2 (slVs (sb a c ++ [x]))) (hn : Near (sr a c).1 y.1 w1)
    (m3 : Eng.Mod (blkL S.1) w2 w3) (ho : Own w3 base 53 1 S.1 S.2.1 S.2.2 ((row2 N fun a c => slV (sr a c)).set (a * N + c) (slV y))) (hx : Rd w0 x.1 x.2.1 1 (bv l)) :
    ∃ g', HMem w0 w3 base N S H (upd2 sr a c y) (upd2 sb a c (sb a c ++ [x])) (upd2 L a c (L a c ++ [l])) T g' ∧ Tn g g' w w3 := by
  have z1 := e1.size
  have z2 := m2.size
  have z3 := m3.size
  have n8 := h.n8
  have hn' : ∀ b ∈ blkL y.1, b ∈ blkL (sr a c).1 ∨ w.heap.size ≤ b := fun b hb => (Near.blk hn b hb).imp id (fun q => by omega)
  obtain ⟨o1, o2, o3⟩ := own_grow (g := g) (z := 3 + (a * 8 + c)) (by omega) (h.gR a c ha hc) hn' (fun b hb => (h.old b hb).2)
  have hS : ∀ b ∈ blkL S.1 ++ blkL (sr a c).1, g b = 1 ∨ g b = 3 + (a * 8 + c) := fun b hb => (List.mem_append.1 hb).imp (h.gS b) (h.gR a c ha hc b)
  have m13 : Eng.Mod (blkL S.1 ++ blkL (sr a c).1) w w3 := ((e1.mono (S' := blkL S.1 ++ blkL (sr a c).1) (by simp)).step m2 (fun b hb => .inl (List.mem_append_right _ hb))).step m3 (fun b hb => .inl (List.mem_append_left _ hb))
  have nin : ∀ b z, g b = z → z ≠ 1 → z ≠ 3 + (a * 8 + c) → b ∉ blkL S.1 ++ blkL (sr a c).1 := fun b z e a1 a2 q => by rcases hS b q with h | h <;> omega
  have hyS : ∀ b ∈ blkL y.1, b ∉ blkL S.1 := fun b hb q => by
    have a1 := h.gS b q
    rcases hn' b hb with h1 | h1
    · have := h.gR a c ha hc b h1; omega
    · have := (h.old b (by omega)).2; omega
  have hy3 := hy.modL m3 hyS
  refine ⟨updF g (blkL y.1) (3 + (a * 8 + c)), { os := ?_, orr := fun x' y' hx' hy' => ?_, bl := fun x' y' hx' hy' => ?_, bd := fun x' y' i hx' hy' hi => ?_, oh := h.oh.modL m13 (fun b hb => nin b _ (h.gH b hb) (by decide) (by omega)), gS := fun b hb => o2 _ _ (h.gS b hb) (by decide), gH := fun b hb => o2 _ _ (h.gH b hb) (by decide), gR := fun x' y' hx' hy' b hb => ?_, old := fun b hb => ?_, n8 := h.n8 }, ⟨_, m13, fun b hb => by rcases hS b hb with h | h <;> omega⟩, o3, by omega⟩
  · rw [row2_set _ _ ha hc] at ho
    rwa [row2_cong (g := upd2 (fun a c => slV (sr a c)) a c (slV y)) (fun x y _ _ => ?_) (by omega)]
    by_cases e : x = a ∧ y = c
    · obtain ⟨rfl, rfl⟩ := e; rw [upd2_at, upd2_at]
    · rw [upd2_ne _ _ e, upd2_ne _ _ e]
  · by_cases e : x' = a ∧ y' = c
    · obtain ⟨rfl, rfl⟩ := e; simp only [upd2_at]; exact hy3
    · simp only [upd2_ne _ _ e]
      exact (h.orr x' y' hx' hy').modL m13 (fun b hb => nin b _ (h.gR x' y' hx' hy' b hb) (by omega) (fun q => e ⟨by omega, by omega⟩))
  · by_cases e : x' = a ∧ y' = c
    · obtain ⟨rfl, rfl⟩ := e; simp only [upd2_at, List.length_append, List.length_cons, List.length_nil, h.bl x' y' hx' hy']
    · simp only [upd2_ne _ _ e]; exact h.bl x' y' hx' hy'
  · by_cases e : x' = a ∧ y' = c
    · obtain ⟨rfl, rfl⟩ := e
      simp only [upd2_at] at hi ⊢
      have hl := h.bl x' y' hx' hy'
      by_cases q : i < (sb x' y').length
      · have e1 : (sb x' y' ++ [x]).getD i (none, 0, 0) = (sb x' y').getD i (none, 0, 0) := by simp [List.getD_eq_getElem?_getD, List.getElem?_append_left q]
        have e2 : (L x' y' ++ [l]).getD i [] = (L x' y').getD i [] := by simp [List.getD_eq_getElem?_getD, List.getElem?_append_left (by omega : i < (L x' y').length)]
        rw [e1, e2]
        exact h.bd x' y' i hx' hy' q
      · simp only [List.length_append, List.length_cons, List.length_nil] at hi
        have hi' : i = (sb x' y').length := by omega
        have e1 : (sb x' y' ++ [x]).getD i (none, 0, 0) = x := by subst hi'; simp [List.getD_eq_getElem?_getD]
        have e2 : (L x' y' ++ [l]).getD i [] = l := by rw [show i = (L x' y').length by omega]; simp [List.getD_eq_getElem?_getD]
        rw [e1, e2]
        exact hx
    · simp only [upd2_ne _ _ e] at hi ⊢
      exact h.bd x' y' i hx' hy' hi
  · by_cases e : x' = a ∧ y' = c
    · obtain ⟨rfl, rfl⟩ := e
      simp only [upd2_at] at hb
      exact o1 b hb
    · simp only [upd2_ne _ _ e] at hb
      exact o2 _ _ (h.gR x' y' hx' hy' b hb) (by omega)
  · by_cases q : b ∈ blkL y.1
    · have := hy3.bl b q; omega
    · rw [updF_out q] at hb
      have := h.old b hb; omega
end
end Go.Proofs.Ytjjgojgahibpgaa

namespace Go.Proofs.Ytjjgojgahibpgaa
open Go.RowKit Go.Proofs.Eng Go.Proofs.Codec Go.Proofs.Link
set_option linter.unusedSimpArgs false
set_option linter.unusedVariables false set_option maxRecDepth 10000
attribute [local irreducible] T TL LV TH TA
set_option maxHeartbeats 6400000
/-- A net, what was sent, what was told: apart. -/
structure THm (w0 w : World) (ns : NS) (b1 p : Nat) (M : NM) (F : Nat → Nat → Nat → Nat) (h : Nat → Nat) (b2 : Nat) (S H : SV) (sr : Nat → Nat → SV) (sb : Nat → Nat → List SV) (L : LL) (T : Nat → Nat → Nat) (g : Nat → Nat) : Prop where
  e : Ext w0 w
  A : NetG LayP ns.N w b1 p M F h ns
  B : HMem w0 w b2 ns.N S H sr sb L T g
  dj : ∀ b, h b = 0 ∨ g b = 0
  l1 : w0.heap.size ≤ b1
  l2 : w0.heap.size ≤ b2
section
variable {w0 w w' : World} {ns ns' : NS} {b1 p b2 : Nat} {M M' : NM} {F F' : Nat → Nat → Nat → Nat} {h h' g g' : Nat → Nat} {S H : SV} {sr sr' : Nat → Nat → SV} {sb sb' : Nat → Nat → List SV} {L L' : LL} {T T' : Nat → Nat → Nat}
theorem THm.a (t0 : THm w0 w ns b1 p M F h b2 S H sr sb L T g) (gg : NetG LayP ns.N w' b1 p M' F' h' ns') (hN : ns'.N = ns.N) (t : Tn h h' w w') : THm w0 w' ns' b1 p M' F' h' b2 S H sr sb L T g :=
  have k := t0.B.tn t t0.dj
  ⟨t.ext0 t0.e (fun b hb => by have := (t0.A.old b hb).1; have := t0.l1; omega), by rw [hN]; exact gg, by rw [hN]; exact k.1, k.2, t0.l1, t0.l2⟩
theorem THm.b (t0 : THm w0 w ns b1 p M F h b2 S H sr sb L T g) (gg : HMem w0 w' b2 ns.N S H sr' sb' L' T' g') (t : Tn g g' w w') : THm w0 w' ns b1 p M F h b2 S H sr' sb' L' T' g' :=
  have k := t0.A.tn t (fun b => (t0.dj b).symm)
  ⟨t.ext0 t0.e (fun b hb => by have := (t0.B.old b hb).1; have := t0.l2; omega), k.1, gg, fun b => (k.2 b).symm, t0.l1, t0.l2⟩
theorem THm.ext (t0 : THm w0 w ns b1 p M F h b2 S H sr sb L T g) (e : Ext w w') : THm w0 w' ns b1 p M F h b2 S H sr sb L T g := ⟨t0.e.ext e, t0.A.ext e, t0.B.ext e, t0.dj, t0.l1, t0.l2⟩
theorem THm.new (t0 : THm w0 w ns b1 p M F h b2 S H sr sb L T g) {b : Nat} (hb : w.heap.size ≤ b) : h b = 0 ∧ g b = 0 := by
  constructor
  · by_cases q : h b = 0
    · exact q
    · have := (t0.A.old b q).2; omega
  · by_cases q : g b = 0
    · exact q
    · have := (t0.B.old b q).2; omega
theorem THm.lens (t0 : THm w0 w ns b1 p M F h b2 S H sr sb L T g) : S.2.1 = ns.N * ns.N ∧ H.2.1 = ns.N * ns.N ∧ ∀ a c, a < ns.N → c < ns.N → (sr a c).2.1 = (L a c).length := by
  have h1 := t0.B.os.len
  have h2 := t0.B.oh.len
  rw [row2_len] at h1 h2
  refine ⟨by omega, by omega, fun a c ha hc => ?_⟩
  have h3 := (t0.B.orr a c ha hc).len
  have h4 := t0.B.bl a c ha hc
  rw [slVs_length] at h3
  omega
end
def THp (w0 w : World) (ns : NS) (b1 p : Nat) (b2 : Nat) (S H : SV) (L : LL) (T : Nat → Nat → Nat) : Prop := ∃ M F h sr sb g, THm w0 w ns b1 p M F h b2 S H sr sb L T g
theorem told_c26 (w0 w : World) {ns : NS} {b1 p b2 k : Nat} {S H : SV} {L : LL} {Tt : Nat → Nat → Nat} (D : THp w0 w ns b1 p b2 S H L Tt) (hI : NH k ns L Tt) :
    Ret Try.prog 63 [ptr p, .int .i64 (ns.N : Int), slV S, slV H] w (fun v w' => v = .bool true ∧ w.heap.size ≤ w'.heap.size ∧ ∃ ns' T', THp w0 w' ns' b1 p b2 S H L T' ∧ NH k ns' L T' ∧ ns'.N = ns.N ∧ restN ns' = restN ns ∧ ∀ a c, a < ns.N → c < ns.N → (ns'.E a c).come = []) := by
  have n8 := hI.ni.n2
  refine ret_T (n := 76) Try.func63 rfl rfl ?_
  repeat (first | refine T_seq ?_ | refine T_region ?_ | refine T_block ?_ | refine TL_nil ?_ | refine TL_assign (hk := ?_))
  refine T_loop (ι := Nat) (fun i => [(9, .int .i64 (i : Int)), (0, ptr p), (1, .int .i64 (ns.N : Int)), (2, slV S), (3, slV H)])
    (fun i w' => i ≤ ns.N ∧ w.heap.size ≤ w'.heap.size ∧ ∃ ns' T', THp w0 w' ns' b1 p b2 S H L T' ∧ NH k ns' L T' ∧ ns'.N = ns.N ∧ restN ns' = restN ns ∧ ∀ a c, a < i → c < ns.N → (ns'.E a c).come = []) (fun i => ns.N - i) 0 (.c rfl (.c rfl (.c rfl (.c rfl (.c rfl (.n)))))) ⟨Nat.zero_le _, Nat.le_refl _, ns, Tt, D, hI, rfl, rfl, fun a c ha => by omega⟩ ?_
  clear D hI Tt
  rintro i w1 ⟨hi, z1, ns1, T1, D1, i1, hN1, hr1, hc1⟩ ih
  by_cases hlt : i < ns.N
  · repeat (first | refine T_seq ?_ | refine T_region ?_ | refine T_cond_true rfl ?_ | refine T_block ?_ | refine T_skip ?_ | refine TL_lt_t (hk := ?_) | refine TL_nil ?_ | refine TL_move (hk := ?_))
    refine T_loop (ι := Nat) (fun _ => [(9, .int .i64 (i : Int)), (0, ptr p), (1, .int .i64 (ns.N : Int)), (2, slV S), (3, slV H)])
      (fun u w' => w.heap.size ≤ w'.heap.size ∧ ∃ ns' T', THp w0 w' ns' b1 p b2 S H L T' ∧ NH k ns' L T' ∧ ns'.N = ns.N ∧ restN ns' = restN ns ∧ (∀ a c, a < i → c < ns.N → (ns'.E a c).come = []) ∧ comeR ns' i = u) (fun u => u) (comeR ns1 i) (.c rfl (.c rfl (.c rfl (.c rfl (.c rfl (.n)))))) ⟨z1, ns1, T1, D1, i1, hN1, hr1, hc1, rfl⟩ ?_
    clear z1 D1 i1 hN1 hr1 hc1 T1 ns1
    rintro u w1 ⟨z1, ns1, T1, ⟨M, F, h, sr, sb, g, D1⟩, i1, hN1, hr1, hc1, hu1⟩ ih2
    have hlt1 : i < ns1.N := by omega
    have hn := NNext_c (i : Int) _ D1.A i1.ni
    have hnx : nextX ns1 (i : Int) = match firstN ns1 i ns1.N with | none => (ns1, none) | some c => (nextN ns1 i c, some (c, (ns1.E i c).come.headD [])) := by
      unfold nextX
      rw [if_pos (inN_t hlt1)]
      rfl
    rw [hnx] at hn
    cases hf : firstN ns1 i ns1.N with
    | none =>
      rw [hf] at hn
      simp only at hn
      have hno := first_none hf
      clear ih2
      repeat (first | refine T_seq ?_ | refine T_region ?_ | refine T_block ?_ | refine TL_move (hk := ?_))
      refine TL_call TE (hc := hn) (hk := ?_)
      rintro _ w2 ⟨rfl, rfl⟩
      repeat (first | refine T_seq ?_ | refine T_region ?_ | refine T_cond_true rfl ?_ | refine T_inBlock ?_ | refine T_exit rfl ?_ | refine TL_add (hk := ?_) | refine TL_nil ?_ | refine TL_move (hk := ?_) | refine TL_assign (hk := ?_) | refine TL_extract (hk := ?_) | refine TL_not (hk := ?_))
      exact ih (i + 1) _ _ (by omega) ⟨by omega, z1, ns1, T1, ⟨M, F, h, sr, sb, g, D1⟩, i1, hN1, hr1, fun a c ha hc => by
        by_cases e : a = i
        · rw [e]; exact hno c (by omega)
        · exact hc1 a c (by omega) hc⟩ (.c rfl (.c rfl (.c rfl (.c rfl (.c rfl (.n))))))
    | some c =>
      rw [hf] at hn
      simp only at hn
      obtain ⟨hcN, hne, -⟩ := first_some hf
      obtain ⟨b, t, he⟩ := List.exists_cons_of_ne_nil hne
      obtain ⟨hic, hLT, i2⟩ := i1.next hlt1 hcN he
      have hcm := come_next hcN he
      have hrs : restN (nextN ns1 i c) = restN ns1 := rest_same (next_rE _)
      rw [show (ns1.E i c).come.headD [] = b by rw [he]; rfl] at hn
      have hTl : T1 c i < (L c i).length := (List.getElem?_eq_some_iff.1 hLT).1
      have hlnL := (i1.ni.mt c i hcN hlt1 (Ne.symm hic)).hL
      repeat (first | refine T_seq ?_ | refine T_region ?_ | refine T_block ?_ | refine TL_move (hk := ?_))
      refine TL_call TE (hc := hn) (hk := ?_)
      rintro _ w2 ⟨y, F2, h2, rfl, g2, t2, hy, hyz⟩
      have D2 : THm w0 w2 (nextN ns1 i c) b1 p M F2 h2 b2 S H sr sb L T1 g := D1.a g2 rfl t2
      have z2 := t2.size
      obtain ⟨l1, l2, l3⟩ := D2.lens
      replace l1 : S.2.1 = ns1.N * ns1.N := l1
      replace l2 : H.2.1 = ns1.N * ns1.N := l2
      replace l3 := l3 c i hcN hlt1
      clear D1 g2 t2 hn
      have hix := ix_lt hcN hlt1
      have hN8 := Nat.mul_le_mul n8.2 n8.2
      have hc0 : (0 : Int) ≤ (c : Int) := by omega
      have hcn : (c : Int) < (ns.N : Int) := by omega
      have hci : ¬ (c : Int) = (i : Int) := by omega
      have hmul : (c : Int) * (ns.N : Int) = ((c * ns.N : Nat) : Int) := by simp
      have hadd : ((c * ns.N : Nat) : Int) + (i : Int) = ((c * ns1.N + i : Nat) : Int) := by rw [hN1]; omega
      have hcb : c * ns.N ≤ 64 := by
        have hix2 := hix
        rw [hN1] at hix2
        omega
      repeat (first | refine T_seq ?_ | refine T_region ?_ | refine T_cond_false rfl ?_ | refine T_skip ?_ | refine TL_add (hk := ?_) | refine TL_mul (hk := ?_) | refine TL_lt_f (hk := ?_) | refine TL_ge_f (hk := ?_) | refine TL_eq_f (hk := ?_) | refine TL_nil ?_ | refine TL_move (hk := ?_) | refine TL_assign (hk := ?_) | refine TL_yes (hk := ?_) | refine TL_pick_f (hk := ?_) | refine TL_extract (hk := ?_) | refine TL_not (hk := ?_))
      rw [hmul]
      --
      rw [hadd]
      clear hmul hadd
      have rS := D2.B.os.rd
      have rH := D2.B.oh.rd
      have rR := (D2.B.orr c i hcN hlt1).rd
      have hv1 := row2_get (fun a c => slV (sr a c)) hcN hlt1
      have hv2 := row2_get (fun a c => .int .i64 (T1 a c : Int)) hcN hlt1
      have hbl := D2.B.bl c i hcN hlt1
      have hv3 := slVs_get (sb c i) (T1 c i) (by omega)
      have hbd := D2.B.bd c i (T1 c i) hcN hlt1 (by omega)
      have hLb : (L c i).getD (T1 c i) [] = b := by rw [List.getD_eq_getElem?_getD, hLT]; rfl
      rw [hLb] at hbd
      have hbd2 := hbd.be D2.e
      have hHn : H.1 ≠ none := by obtain ⟨_, _, hq, _⟩ := rH.2 (by omega); rw [hq]; simp
      generalize hz : (sb c i).getD (T1 c i) (none, 0, 0) = x at hv3 hbd hbd2
      obtain ⟨K, hK⟩ : ∃ K, c * ns1.N + i = K := ⟨_, rfl⟩
      rw [hK] at hv1 hv2 hix
      rw [hK]
      have o1 : Off S.1 [] := Off.nil _
      have o2 : Off H.1 [] := Off.nil _
      have o3 : Off (sr c i).1 [] := Off.nil _
      --
      refine T_region_any TE.mixed [] ?_; intro w3 e3 z3
      have rS := rS.be e3
      have rH := rH.be e3
      have rR := rR.be e3
      have hbd3 := hbd2.be e3
      have hy3 := hy.rd.be e3
      (refine TA_take 0 rfl (by kernel_rfl) (by kernel_rfl) (by kernel_rfl) ?_; (repeat (first | refine TL_ge_f (hk := ?_) | refine TL_move (hk := ?_) | refine TLP_load_rd TE (hk := ?_) | refine TL_indexAddr1n TE (hk := ?_) | refine TL_len TE (hk := ?_) | refine TL_yes (hk := ?_))); refine TL_nil_p ?_); (refine TA_take 1 rfl (by kernel_rfl) (by kernel_rfl) (by kernel_rfl) ?_; (repeat (first | refine TL_ge_f (hk := ?_) | refine TL_move (hk := ?_) | refine TLP_load_rd TE (hk := ?_) | refine TL_indexAddr1n TE (hk := ?_) | refine TL_len TE (hk := ?_) | refine TL_yes (hk := ?_))); refine TL_nil_p ?_); (refine TA_take 2 rfl (by kernel_rfl) (by kernel_rfl) (by kernel_rfl) ?_; (repeat (first | refine TL_ge_f (hk := ?_) | refine TL_move (hk := ?_) | refine TLP_load_rd TE (hk := ?_) | refine TL_indexAddr1n TE (hk := ?_) | refine TL_len TE (hk := ?_) | refine TL_yes (hk := ?_))); refine TL_nil_p ?_); (refine TA_take 3 rfl (by kernel_rfl) (by kernel_rfl) (by kernel_rfl) ?_; (repeat (first | refine TL_ge_f (hk := ?_) | refine TL_move (hk := ?_) | refine TLP_load_rd TE (hk := ?_) | refine TL_indexAddr1n TE (hk := ?_) | refine TL_len TE (hk := ?_) | refine TL_yes (hk := ?_))); refine TL_nil_p ?_); (refine TA_take 4 rfl (by kernel_rfl) (by kernel_rfl) (by kernel_rfl) ?_; (repeat (first | refine TL_ge_f (hk := ?_) | refine TL_move (hk := ?_) | refine TLP_load_rd TE (hk := ?_) | refine TL_indexAddr1n TE (hk := ?_) | refine TL_len TE (hk := ?_) | refine TL_yes (hk := ?_))); refine TL_nil_p ?_); (refine TA_take 5 rfl (by kernel_rfl) (by kernel_rfl) (by kernel_rfl) ?_; (repeat (first | refine TL_ge_f (hk := ?_) | refine TL_move (hk := ?_) | refine TLP_load_rd TE (hk := ?_) | refine TL_indexAddr1n TE (hk := ?_) | refine TL_len TE (hk := ?_) | refine TL_yes (hk := ?_))); refine TL_nil_p ?_); (refine TA_take 6 rfl (by kernel_rfl) (by kernel_rfl) (by kernel_rfl) ?_; (repeat (first | refine TL_ge_f (hk := ?_) | refine TL_move (hk := ?_) | refine TLP_load_rd TE (hk := ?_) | refine TL_indexAddr1n TE (hk := ?_) | refine TL_len TE (hk := ?_) | refine TL_yes (hk := ?_))); refine TL_nil_p ?_); (refine TA_take 7 rfl (by kernel_rfl) (by kernel_rfl) (by kernel_rfl) ?_; (repeat (first | refine TL_ge_f (hk := ?_) | refine TL_move (hk := ?_) | refine TLP_load_rd TE (hk := ?_) | refine TL_indexAddr1n TE (hk := ?_) | refine TL_len TE (hk := ?_) | refine TL_yes (hk := ?_))); refine TL_nil_p ?_); (refine TA_take 8 rfl (by kernel_rfl) (by kernel_rfl) (by kernel_rfl) ?_; (repeat (first | refine TL_ge_f (hk := ?_) | refine TL_move (hk := ?_) | refine TLP_load_rd TE (hk := ?_) | refine TL_indexAddr1n TE (hk := ?_) | refine TL_len TE (hk := ?_) | refine TL_yes (hk := ?_))); refine TL_nil_p ?_); (refine TA_take 9 rfl (by kernel_rfl) (by kernel_rfl) (by kernel_rfl) ?_; (repeat (first | refine TL_ge_f (hk := ?_) | refine TL_move (hk := ?_) | refine TLP_load_rd TE (hk := ?_) | refine TL_indexAddr1n TE (hk := ?_) | refine TL_len TE (hk := ?_) | refine TL_yes (hk := ?_))); refine TL_nil_p ?_); (refine TA_take 10 rfl (by kernel_rfl) (by kernel_rfl) (by kernel_rfl) ?_; (repeat (first | refine TL_ge_f (hk := ?_) | refine TL_move (hk := ?_) | refine TLP_load_rd TE (hk := ?_) | refine TL_indexAddr1n TE (hk := ?_) | refine TL_len TE (hk := ?_) | refine TL_yes (hk := ?_))); refine TL_nil_p ?_); (refine TA_take 11 rfl (by kernel_rfl) (by kernel_rfl) (by kernel_rfl) ?_; (repeat (first | refine TL_ge_f (hk := ?_) | refine TL_move (hk := ?_) | refine TLP_load_rd TE (hk := ?_) | refine TL_indexAddr1n TE (hk := ?_) | refine TL_len TE (hk := ?_) | refine TL_yes (hk := ?_))); refine TL_nil_p ?_); (refine TA_take 12 rfl (by kernel_rfl) (by kernel_rfl) (by kernel_rfl) ?_; (repeat (first | refine TL_ge_f (hk := ?_) | refine TL_move (hk := ?_) | refine TLP_load_rd TE (hk := ?_) | refine TL_indexAddr1n TE (hk := ?_) | refine TL_len TE (hk := ?_) | refine TL_yes (hk := ?_))); refine TL_nil_p ?_); (refine TA_take 13 rfl (by kernel_rfl) (by kernel_rfl) (by kernel_rfl) ?_; (repeat (first | refine TL_ge_f (hk := ?_) | refine TL_move (hk := ?_) | refine TLP_load_rd TE (hk := ?_) | refine TL_indexAddr1n TE (hk := ?_) | refine TL_len TE (hk := ?_) | refine TL_yes (hk := ?_))); refine TL_nil_p ?_); (refine TA_take 14 rfl (by kernel_rfl) (by kernel_rfl) (by kernel_rfl) ?_; (repeat (first | refine TL_ge_f (hk := ?_) | refine TL_move (hk := ?_) | refine TLP_load_rd TE (hk := ?_) | refine TL_indexAddr1n TE (hk := ?_) | refine TL_len TE (hk := ?_) | refine TL_yes (hk := ?_))); refine TL_nil_p ?_); (refine TA_take 15 rfl (by kernel_rfl) (by kernel_rfl) (by kernel_rfl) ?_; (repeat (first | refine TL_ge_f (hk := ?_) | refine TL_move (hk := ?_) | refine TLP_load_rd TE (hk := ?_) | refine TL_indexAddr1n TE (hk := ?_) | refine TL_len TE (hk := ?_) | refine TL_yes (hk := ?_))); refine TL_nil_p ?_); (refine TA_take 16 rfl (by kernel_rfl) (by kernel_rfl) (by kernel_rfl) ?_; (repeat (first | refine TL_ge_f (hk := ?_) | refine TL_move (hk := ?_) | refine TLP_load_rd TE (hk := ?_) | refine TL_indexAddr1n TE (hk := ?_) | refine TL_len TE (hk := ?_) | refine TL_yes (hk := ?_))); refine TL_nil_p ?_); (refine TA_take 17 rfl (by kernel_rfl) (by kernel_rfl) (by kernel_rfl) ?_; (repeat (first | refine TL_ge_f (hk := ?_) | refine TL_move (hk := ?_) | refine TLP_load_rd TE (hk := ?_) | refine TL_indexAddr1n TE (hk := ?_) | refine TL_len TE (hk := ?_) | refine TL_yes (hk := ?_))); refine TL_nil_p ?_); (refine TA_take 18 rfl (by kernel_rfl) (by kernel_rfl) (by kernel_rfl) ?_; (repeat (first | refine TL_ge_f (hk := ?_) | refine TL_move (hk := ?_) | refine TLP_load_rd TE (hk := ?_) | refine TL_indexAddr1n TE (hk := ?_) | refine TL_len TE (hk := ?_) | refine TL_yes (hk := ?_))); refine TL_nil_p ?_); (refine TA_take 19 rfl (by kernel_rfl) (by kernel_rfl) (by kernel_rfl) ?_; (repeat (first | refine TL_ge_f (hk := ?_) | refine TL_move (hk := ?_) | refine TLP_load_rd TE (hk := ?_) | refine TL_indexAddr1n TE (hk := ?_) | refine TL_len TE (hk := ?_) | refine TL_yes (hk := ?_))); refine TL_nil_p ?_); (refine TA_take 20 rfl (by kernel_rfl) (by kernel_rfl) (by kernel_rfl) ?_; (repeat (first | refine TL_ge_f (hk := ?_) | refine TL_move (hk := ?_) | refine TLP_load_rd TE (hk := ?_) | refine TL_indexAddr1n TE (hk := ?_) | refine TL_len TE (hk := ?_) | refine TL_yes (hk := ?_))); refine TL_nil_p ?_); (refine TA_take 21 rfl (by kernel_rfl) (by kernel_rfl) (by kernel_rfl) ?_; (repeat (first | refine TL_ge_f (hk := ?_) | refine TL_move (hk := ?_) | refine TLP_load_rd TE (hk := ?_) | refine TL_indexAddr1n TE (hk := ?_) | refine TL_len TE (hk := ?_) | refine TL_yes (hk := ?_))); refine TL_nil_p ?_)
      refine TA_one 22 rfl (by kernel_rfl) (by kernel_rfl) ?_; (try refine TL_yes (hk := ?_)); refine TL_call TE (hc := (same_c26 y.1 x.1 y.2.1 y.2.2 x.2.1 x.2.2 b b _ hy3 hbd3)) (hq := (by rintro _ w4 ⟨rfl, rfl⟩; exact Mod.refl _ _)) (hk := ?_)
      rintro _ w4 ⟨rfl, rfl⟩
      rw [decide_eq_true rfl]
      refine TL_nil_p ?_
      (refine TA_one 23 rfl (by kernel_rfl) (by kernel_rfl) ?_; (repeat (first | refine TL_yes (hk := ?_) | refine TL_pick_f (hk := ?_) | refine TL_not (hk := ?_))); refine TL_nil_p ?_); (refine TA_one 24 rfl (by kernel_rfl) (by kernel_rfl) ?_; (repeat (first | refine TL_yes (hk := ?_) | refine TL_pick_f (hk := ?_) | refine TL_not (hk := ?_))); refine TL_nil_p ?_)
      refine TA_done (by kernel_rfl) ?_
      have D4 := D2.ext e3
      have hcT : ((T1 c i : Nat) : Int) + 1 = ((T1 c i + 1 : Nat) : Int) := by omega
      clear rS rR hbd hbd2 hbd3 hy3 D2
      repeat (first | refine T_region ?_ | refine T_cond_false rfl ?_ | refine T_skip ?_ | refine TL_add (hk := ?_) | refine TL_move (hk := ?_) | refine TL_load_rd TE (hk := ?_) | refine TL_indexAddr1n TE (hk := ?_))
      rw [hcT]
      refine TL_store_own TE (ho := D4.B.oh) (hj := by rw [row2_len]; exact hix) (hk := ?_); intro w5 m5 z5 o5
      have z4 := e3.size
      rw [← hK] at o5
      obtain ⟨B5, t5⟩ := D4.B.tell hcN hlt1 m5 o5
      have D5 := D4.b B5 t5
      repeat (first | refine T_inBlock ?_ | refine TL_nil ?_)
      exact ih2 _ _ _ (by omega) ⟨by omega, nextN ns1 i c, _, ⟨_, _, _, _, _, _, D5⟩, i2, hN1, by omega, fun a' c' ha' hc' => by
        show (upd2 ns1.E i c _ a' c').come = []
        rw [upd2_ne _ _ (fun q => by omega)]
        exact hc1 a' c' ha' hc', rfl⟩ (.c rfl (.c rfl (.c rfl (.c rfl (.c rfl (.n))))))
  · have hie : ns.N = i := by omega
    clear ih
    repeat (first | refine T_seq ?_ | refine T_region ?_ | refine T_cond_false rfl ?_ | refine T_exit rfl ?_ | refine TL_lt_f (hk := ?_) | refine TL_nil ?_ | refine TL_move (hk := ?_) | refine TL_assign (hk := ?_))
    exact T_ret1 rfl rfl ⟨rfl, z1, ns1, T1, D1, i1, hN1, hr1, fun a c ha hc => hc1 a c (by omega) hc⟩
end Go.Proofs.Ytjjgojgahibpgaa

namespace Go.Proofs.Ytjjgojgahibpgaa
open Go.RowKit Go.Proofs.Eng Go.Proofs.Codec Go.Proofs.Link
set_option linter.unusedSimpArgs false
set_option linter.unusedVariables false set_option maxRecDepth 10000
attribute [local irreducible] T TL LV TH TA
set_option maxHeartbeats 6400000
end Go.Proofs.Ytjjgojgahibpgaa

namespace Go.Proofs.Ytjjgojgahibpgaa
open Go.RowKit Go.Proofs.Eng Go.Proofs.Codec Go.Proofs.Link
set_option linter.unusedSimpArgs false
set_option linter.unusedVariables false set_option maxRecDepth 10000
attribute [local irreducible] T TL LV TH TA
set_option maxHeartbeats 6400000
end Go.Proofs.Ytjjgojgahibpgaa

namespace Go.Proofs.Ytjjgojgahibpgaa
open Go.RowKit Go.Proofs.Eng Go.Proofs.Codec Go.Proofs.Link
set_option linter.unusedSimpArgs false
set_option linter.unusedVariables false set_option maxRecDepth 10000
attribute [local irreducible] T TL LV TH TA
set_option maxHeartbeats 6400000
theorem Blk.tn {w w' : World} {b : Nat} {t : TypeId} {cs : List Value} {o o' : Nat → Nat} (k : Blk w b t cs) (tn : Tn o o' w w') (h : o b = 0) : Blk w' b t cs := by
  obtain ⟨⟨S, m, s⟩, -, -⟩ := tn
  exact k.mod m (fun q => s b q h)
theorem sendX_ok {ns : NS} {a c : Int} {b : Bs} (h : (sendX ns a c b).2 = 0) : ∃ x y : Nat, a = x ∧ c = y ∧ x < ns.N ∧ y < ns.N ∧ x ≠ y ∧ sendX ns a c b = sendN ns x y b ∧ (sendN ns x y b).2 = 0 := by
  unfold sendX at h ⊢
  by_cases q : twoN ns a c = true
  · rw [if_pos q] at h ⊢
    obtain ⟨x, y, rfl, rfl, hx, hy, hxy⟩ := twoN_nat q
    simp only [Int.toNat_natCast] at h ⊢
    exact ⟨x, y, rfl, rfl, hx, hy, hxy, rfl, h⟩
  · rw [if_neg q] at h
    cases h
theorem sendX_no {ns : NS} {a c : Int} {b : Bs} (h : ¬ (sendX ns a c b).2 = 0) : (sendX ns a c b).1 = ns := by
  unfold sendX at h ⊢
  by_cases q : twoN ns a c = true
  · rw [if_pos q] at h ⊢
    exact send_no _ _ _ _ h
  · rw [if_neg q]
theorem row2_rep (N : Nat) (v : Value) : List.replicate (N * N) v = row2 N fun _ _ => v := rowF_rep _ _
theorem mul_N {N : Nat} (hN : N ≤ 8) : N * N ≤ 64 := Nat.mul_le_mul hN hN
section
variable {w0 w : World} {ns : NS} {b1 p b2 k : Nat} {S H : SV} {L : LL} {T : Nat → Nat → Nat}
theorem THp.lens (D : THp w0 w ns b1 p b2 S H L T) : S.2.1 = ns.N * ns.N ∧ H.2.1 = ns.N * ns.N := by
  obtain ⟨M, F, h, sr, sb, g, D⟩ := D
  obtain ⟨h1, h2, -⟩ := D.lens
  exact ⟨h1, h2⟩
theorem THp.e (D : THp w0 w ns b1 p b2 S H L T) : Ext w0 w := by
  obtain ⟨M, F, h, sr, sb, g, D⟩ := D
  exact D.e
theorem THp.ext {w' : World} (D : THp w0 w ns b1 p b2 S H L T) (e : Ext w w') : THp w0 w' ns b1 p b2 S H L T := by
  obtain ⟨M, F, h, sr, sb, g, D⟩ := D
  exact ⟨M, F, h, sr, sb, g, D.ext e⟩
end
theorem LinkHeals_c (v0 : Value) (w : World) {base : Nat} (hM : 1048576 ≤ 1048576) (hv : ReadsB Try.prog w base 87 v0 1048576) :
    Ret Try.prog 10 [v0] w (fun v w' => v = .bool true ∧ Ext w w') := by
  obtain ⟨N, W, P, A, n, c, l, rfl, hN, hW, hP, hA, hl, hm, hn⟩ := wide_in hv
  clear hv hM
  unfold i64ok at hN hW hP
  refine ret_T (n := 253) Try.func10 rfl rfl ?_
  repeat (first | refine T_seq ?_ | refine T_region ?_)
  refine TL_box (hk := ?_); intro bx w2 e2 q2 q2' k2
  replace k2 : Blk w2 bx 87 [.int .i64 N, .int .i64 W, .int .i64 P, .slice A n c] := k2
  have h2 := hA.be e2
  have hm2 : ∀ x ∈ l, DvOk w2 x := fun x hx => (hm x hx).be e2
  repeat (first | refine T_seq ?_ | refine T_region ?_ | refine TL_nil ?_ | refine TL_assign (hk := ?_))
  refine TL_loadb TE (cs := [.int .i64 N, .int .i64 W, .int .i64 P, .slice A n c]) (o := 0) rfl rfl k2 rfl rfl (Nat.succ_pos _) (hk := ?_)
  --
  refine TL_call TE (hc := huge_c26 N W P A n c l _ h2 hl hm2 hn) (hk := ?_)
  rintro _ w3 ⟨rfl | ⟨rfl, hn4, h10⟩, e3⟩
  · repeat (first | refine T_seq ?_ | refine T_region ?_ | refine T_cond_true rfl ?_ | refine TL_nil ?_)
    refine TL_call TE (hc := net_c26 _) (hk := ?_)
    rintro _ w4 ⟨rfl, e4⟩
    repeat (first | refine TL_nil ?_ | refine TL_assign (hk := ?_))
    exact T_ret1 rfl rfl ⟨rfl, (e2.ext e3).ext e4⟩
  have k3 := k2.be e3
  have z3 := e3.size
  clear h10
  repeat (first | refine T_seq ?_ | refine T_region ?_ | refine T_cond_false rfl ?_ | refine T_skip ?_ | refine TL_nil ?_ | refine TL_load TE (hk := ?_) | refine TL_fieldAddr TE (hk := ?_))
  refine TL_call TE (hc := NNewNet_c N W P _ hN hW hP) (hk := ?_)
  rintro _ w4 ⟨e4, ⟨hf, rfl⟩ | ⟨N', W', P', rfl, rfl, rfl, hN1, hN2, hW', hP', hf, p, M, F, o1, rfl, g1⟩⟩
  · repeat (first | refine T_seq ?_ | refine T_region ?_ | refine TL_nil ?_ | refine TL_move (hk := ?_) | refine TL_assign (hk := ?_) | refine TL_extract (hk := ?_))
    refine TL_call TE (hc := num_c26 _ _) (hk := ?_)
    rintro _ w4 ⟨rfl, rfl⟩
    repeat (first | refine T_seq ?_ | refine T_region ?_ | refine T_cond_true rfl ?_ | refine TL_ne_t (hk := ?_) | refine TL_nil ?_ | refine TL_move (hk := ?_) | refine TL_no (hk := ?_) | refine TL_pick_t (hk := ?_))
    refine TL_call TE (hc := num_c26 _ _) (hk := ?_)
    rintro _ w4 ⟨rfl, rfl⟩
    repeat (first | refine TL_ne_t (hk := ?_) | refine TL_pnil_t TE (hk := ?_) | refine TL_beq TE (hk := ?_) | refine TL_move (hk := ?_) | refine TL_yes (hk := ?_))
    refine TL_call TE (hc := net_c26 _) (hk := ?_)
    rintro _ w6 ⟨rfl, e6⟩
    repeat (first | refine TL_nil ?_ | refine TL_assign (hk := ?_) | refine TL_pick_t (hk := ?_))
    exact T_ret1 rfl rfl ⟨rfl, ((e2.ext e3).ext e4).ext e6⟩
  have hI0 : NH 0 (nsN N' W' P') (fun _ _ => []) (fun _ _ => 0) := NH.start ⟨hN1, hN2⟩ hW' hP'
  have k4 := k3.be e4
  have z4 := e4.size
  have hNN := mul_N hN2
  have hmul : (N' : Int) * (N' : Int) = ((N' * N' : Nat) : Int) := by simp
  repeat (first | refine T_seq ?_ | refine T_region ?_ | refine TL_nil ?_ | refine TL_move (hk := ?_) | refine TL_assign (hk := ?_) | refine TL_extract (hk := ?_))
  refine TL_call TE (hc := num_c26 _ _) (hk := ?_)
  rintro _ w4 ⟨rfl, rfl⟩
  repeat (first | refine T_seq ?_ | refine T_region ?_ | refine T_cond_false rfl ?_ | refine T_skip ?_ | refine TL_mul (hk := ?_) | refine TL_ne_f (hk := ?_) | refine TL_pnil_f TE (hk := ?_) | refine TL_nil ?_ | refine TL_move (hk := ?_) | refine TL_load TE (hk := ?_) | refine TL_fieldAddr TE (hk := ?_) | refine TL_yes (hk := ?_) | refine TL_pick_f (hk := ?_))
  rw [hmul]
  refine TL_makeSlice TE (m := N' * N') (hk := ?_); intro b5 w5 e5 p5 p5' k5
  rw [row2_rep] at k5
  have kx5 := k4.be e5
  have z5 := e5.size
  repeat (first | refine T_seq ?_ | refine T_region ?_ | refine TL_mul (hk := ?_) | refine TL_nil ?_ | refine TL_assign (hk := ?_) | refine TL_load TE (hk := ?_) | refine TL_fieldAddr TE (hk := ?_))
  rw [hmul]
  refine TL_makeSlice TE (m := N' * N') (hk := ?_); intro b6 w6 e6 p6 p6' k6
  rw [row2_rep] at k6
  have z6 := e6.size
  have D0 : THp w2 w6 (nsN N' W' P') w3.heap.size p w4.heap.size (some ⟨b5, 0, none⟩, N' * N', N' * N') (some ⟨b6, 0, none⟩, N' * N', N' * N') (fun _ _ => []) (fun _ _ => 0) := by
    have hb56 : b5 ≠ b6 := by omega
    refine ⟨M, F, o1, fun _ _ => (none, 0, 0), fun _ _ => [], fun b => if b = b5 then 1 else if b = b6 then 2 else 0, (((e3.ext e4).ext e5).ext e6), (g1.ext e5).ext e6, { os := Own.of_blk (k5.be e6) p5 (by rw [row2_len]; exact (Nat.mul_one _).symm) (Nat.le_trans hNN (by decide)), orr := fun a c ha hc => Own.nil _ _ _ _, bl := fun a c ha hc => rfl, bd := fun a c i ha hc hi => by simp at hi, oh := Own.of_blk k6 (by omega) (by rw [row2_len]; exact (Nat.mul_one _).symm) (Nat.le_trans hNN (by decide)), gS := fun b hb => ?_, gH := fun b hb => ?_, gR := fun a c ha hc b hb => (by cases hb), old := fun b hb => ?_, n8 := ⟨hN1, hN2⟩ }, fun b => ?_, z3, by omega⟩
    · rw [show b = b5 by simpa [blkL] using hb, if_pos rfl]
    · rw [show b = b6 by simpa [blkL] using hb, if_neg (Ne.symm hb56), if_pos rfl]
    · by_cases q1 : b = b5
      · rw [q1]; omega
      · by_cases q2 : b = b6
        · rw [q2]; omega
        · rw [if_neg q1, if_neg q2] at hb; exact absurd rfl hb
    · by_cases q : o1 b = 0
      · exact .inl q
      · have := (g1.old b q).2
        right
        rw [if_neg (by omega), if_neg (by omega)]
  generalize w3.heap.size = B1 at D0
  generalize w4.heap.size = B2 at D0
  obtain ⟨S, hS⟩ : ∃ S : SV, S = (some ⟨b5, 0, none⟩, N' * N', N' * N') := ⟨_, rfl⟩
  obtain ⟨H, hH⟩ : ∃ H : SV, H = (some ⟨b6, 0, none⟩, N' * N', N' * N') := ⟨_, rfl⟩
  rw [← hS, ← hH] at D0
  clear k5 k6 kx5 g1 k3 k4 e3 e4 e5 e6 z3 z4 z5 z6 p5 p5' p6 p6' hW' hP' hf
  repeat (first | refine T_seq ?_ | refine T_region ?_ | refine T_block ?_ | refine TL_nil ?_ | refine TL_assign (hk := ?_))
  refine T_loop (ι := Nat) (fun i => [(7, .int .i64 (i : Int)), (3, ptr p), (5, slV S), (6, slV H), (1, ptr bx), (2, .bool false)])
    (fun i w' => i ≤ n ∧ ∃ ns L U, THp w2 w' ns B1 p B2 S H L U ∧ NH i ns L U ∧ ns.N = N') (fun i => n - i) 0 (by rw [hS, hH]; exact (.c rfl (.c rfl (.c rfl (.c rfl (.c rfl (.c rfl (.n)))))))) ⟨Nat.zero_le _, _, _, _, D0, hI0, rfl⟩ ?_
  clear D0 hI0 hS hH
  rintro i w3 ⟨hi, ns, L, U, D3, hI, hN'⟩ ih
  have k3 := k2.be D3.e
  by_cases hlt : i < n
  · have r3 := h2.be D3.e
    have hel := rowV_elem dvV_len l i dv0 (by omega)
    have hmem : l.getD i dv0 ∈ l := getMem (by omega)
    have hx2 := hm2 _ hmem
    obtain ⟨x, hx⟩ : ∃ x, l.getD i dv0 = x := ⟨_, rfl⟩
    rw [hx] at hel hx2
    have hAn : A ≠ none := by obtain ⟨_, _, hq, _⟩ := r3.2 (by omega); rw [hq]; simp
    repeat (first | refine T_seq ?_ | refine T_region ?_ | refine T_cond_true rfl ?_ | refine T_block ?_ | refine T_skip ?_ | refine TL_lt_t (hk := ?_) | refine TL_nil ?_ | refine TL_move (hk := ?_) | refine TL_load TE (hk := ?_) | refine TL_fieldAddr TE (hk := ?_) | refine TL_indexAddrn TE (hk := ?_) | refine TL_len TE (hk := ?_))
    refine TL_loada TE (cs := dvV x) (hx := rfl) (ht := rfl) (hi := rfl) (hr := r3) (hc := hel) (h0 := Nat.succ_pos _) (hk := ?_)
    --
    refine TL_alloc TE (hk := ?_); intro b8 w4 e4 p8 p8' k8
    --
    refine TL_storea TE (hk := ?_); intro w5 m5 z5 k9
    replace k9 : Blk w5 b8 96 [.int .i64 x.kd, .int .i64 x.a, .int .i64 x.c, .slice x.A x.n x.d] := k9
    have e35 : Ext w3 w5 := Mod.step e4 m5 (by simp; omega)
    obtain ⟨M, F, o, sr, sb, g, D3⟩ := D3
    have h8 := D3.new p8
    have D5 := D3.ext e35
    have hnb := hx2.nb
    have hup := hI.up
    clear k8 m5 e4 k3 r3 hel
    by_cases c1 : x.kd = 1
    · have hD8 : b8 ∉ ownB w5 o := fun q => ownB_mem q h8.1
      have hbl := hx2.rd.1
      rw [bv_length] at hbl
      repeat (first | refine T_seq ?_ | refine T_region ?_ | refine T_cond_true rfl ?_ | refine T_block ?_ | refine TL_eq_t (hk := ?_) | refine TL_nil ?_ | refine TL_assign (hk := ?_) | refine TL_load TE (hk := ?_) | refine TL_fieldAddr TE (hk := ?_))
      refine T_region_any TE.mixed (ownB w5 o) ?_; intro w6 e6 z6
      have D6 := D5.ext e6
      have k6 := k9.be e6
      have rx6 := hx2.rd.be D6.e
      (refine TA_take 0 rfl (by kernel_rfl) (by kernel_rfl) (by kernel_rfl) ?_; (repeat (first | refine TL_move (hk := ?_) | refine TLP_load TE (hk := ?_) | refine TL_fieldAddr TE (hk := ?_))); refine TL_nil_p ?_); (refine TA_take 1 rfl (by kernel_rfl) (by kernel_rfl) (by kernel_rfl) ?_; (repeat (first | refine TL_move (hk := ?_) | refine TLP_load TE (hk := ?_) | refine TL_fieldAddr TE (hk := ?_))); refine TL_nil_p ?_); (refine TA_take 2 rfl (by kernel_rfl) (by kernel_rfl) (by kernel_rfl) ?_; (repeat (first | refine TL_move (hk := ?_) | refine TLP_load TE (hk := ?_) | refine TL_fieldAddr TE (hk := ?_))); refine TL_nil_p ?_); (refine TA_take 3 rfl (by kernel_rfl) (by kernel_rfl) (by kernel_rfl) ?_; (repeat (first | refine TL_move (hk := ?_) | refine TLP_load TE (hk := ?_) | refine TL_fieldAddr TE (hk := ?_))); refine TL_nil_p ?_); (refine TA_take 4 rfl (by kernel_rfl) (by kernel_rfl) (by kernel_rfl) ?_; (repeat (first | refine TL_move (hk := ?_) | refine TLP_load TE (hk := ?_) | refine TL_fieldAddr TE (hk := ?_))); refine TL_nil_p ?_); (refine TA_take 6 rfl (by kernel_rfl) (by kernel_rfl) (by kernel_rfl) ?_; (repeat (first | refine TL_move (hk := ?_) | refine TLP_load TE (hk := ?_) | refine TL_fieldAddr TE (hk := ?_))); refine TL_nil_p ?_); (refine TA_take 7 rfl (by kernel_rfl) (by kernel_rfl) (by kernel_rfl) ?_; (repeat (first | refine TL_move (hk := ?_) | refine TLP_load TE (hk := ?_) | refine TL_fieldAddr TE (hk := ?_))); refine TL_nil_p ?_)
      refine TA_one 5 rfl (by kernel_rfl) (by kernel_rfl) ?_
      refine TL_buildSlice0 TE (hf := rfl) (hq := fun w' e => Ext.un e) (hk := ?_); intro b7 w7 e7 p7 p7' k7
      have o7 : Own w7 w6.heap.size 5 1 (some ⟨b7, 0, none⟩) 0 0 [] := Own.of_blk k7 p7 rfl (by decide)
      have z7 := e7.size
      have rx7 := rx6.be e7
      refine TL_nil_p ?_
      refine TA_one 8 rfl (by kernel_rfl) (by kernel_rfl) ?_
      refine TL_append TE (ho := o7) (hr := rx7) (h1 := bv_one _) (hf := rfl) (hq := fun w' m => Ext.un (e7.step m (fun b hb => .inr (by simp [blkL] at hb; omega)))) (hk := ?_); intro A8 c8' w8 o8 m8 n8
      rw [List.nil_append] at o8
      have e68 : Ext w6 w8 := e7.step m8 (fun b hb => .inr (by simp [blkL] at hb; omega))
      have D8 := D6.ext e68
      have k8 := k6.be e68
      refine TL_nil_p ?_
      refine TA_one 9 rfl (by kernel_rfl) (by kernel_rfl) ?_; (try refine TL_yes (hk := ?_)); refine TL_call TE (hc := (NSendX_c x.a x.c A8 (0 + x.n) c8' x.b _ D8.A hI.ni o8.rd (by omega))) (hq := (by rintro _ w9 ⟨rfl, F', h', g', t'⟩; exact t'.inD (Ext.un e68) (ownB_in z6))) (hk := ?_)
      rintro _ w9 ⟨rfl, F9, o9, g9, t9⟩
      have M9 := t9.inD (Ext.un e68) (ownB_in z6)
      have D9 := D8.a g9 (sendX_N _ _ _).1 t9
      have k9' := Blk.tn k8 t9 h8.1
      have o9b : o9 b8 = 0 := t9.old h8.1 (by have := e68.size; omega)
      refine TL_nil_p ?_
      refine TA_one 10 rfl (by kernel_rfl) (by kernel_rfl) ?_; (try refine TL_yes (hk := ?_)); refine TL_call TE (hc := num_c26 _ _) (hq := (by rintro _ w10 ⟨rfl, rfl⟩; exact M9)) (hk := ?_)
      rintro _ w9 ⟨rfl, rfl⟩
      refine TL_nil_p ?_
      clear D5 D6 D8 k9 k6 k8 rx6 rx7 o7 o8 m8 k7
      by_cases h0 : (sendX ns x.a x.c x.b).2 = 0
      · have h0' : (((sendX ns x.a x.c x.b).2 : Nat) : Int) = 0 := by omega
        obtain ⟨a', c', ha', hc', hxa, hxc, hac, hse, hs0⟩ := sendX_ok h0
        have hns := hI.send (by omega) hxa hxc hac x.b hs0
        have hix := ix_lt hxa hxc
        have hN8 := mul_N hN2
        have hm1 : x.a * (N' : Int) = ((a' * N' : Nat) : Int) := by rw [ha']; simp
        have hm2' : ((a' * N' : Nat) : Int) + x.c = ((a' * N' + c' : Nat) : Int) := by rw [hc']; omega
        have hxb : bx ∉ ownB w5 o := fun q => ownB_mem q (by
          by_cases y : o bx = 0
          · exact y
          · have := (D3.A.old bx y).1; have := D3.l1; omega)
        have kx9 := k2.be D9.e
        rw [hN'] at hix
        have hal : a' * N' ≤ 64 := by omega
        (refine TA_one 11 rfl (by kernel_rfl) (by kernel_rfl) ?_; (repeat (refine TL_eq_t (hk := ?_))); refine TL_nil_p ?_)
        refine TA_done (by kernel_rfl) ?_
        repeat (first | refine T_seq ?_ | refine T_region ?_ | refine T_cond_true rfl ?_ | refine T_cond_false rfl ?_ | refine T_skip ?_ | refine TL_add (hk := ?_) | refine TL_mul (hk := ?_) | refine TL_lt_f (hk := ?_) | refine TL_ge_f (hk := ?_) | refine TL_nil ?_ | refine TL_move (hk := ?_) | refine TL_assign (hk := ?_) | refine TL_load TE (hk := ?_) | refine TL_fieldAddr TE (hk := ?_) | refine TL_yes (hk := ?_) | refine TL_pick_f (hk := ?_))
        rw [hm1]
        --
        rw [hm2']
        rw [hse] at D9
        have B9 : HMem w2 w9 B2 N' S H sr sb L U g := by rw [← hN']; exact D9.B
        have hS2 : S.2.1 = N' * N' := by rw [← hN']; exact D9.lens.1
        have hxa' : a' < N' := by omega
        have hxc' : c' < N' := by omega
        have rS9 := B9.os.rd
        have hv1 := row2_get (fun a c => slV (sr a c)) hxa' hxc'
        have hsl : (sr a' c').2.1 ≤ 600 := by
          have h3 := D9.lens.2.2 a' c' hxa hxc
          have h4 := (hI.ni.mt a' c' hxa hxc hac).hL
          omega
        have hgD : ∀ b ∈ blkL (sr a' c').1, g b = 3 + (a' * 8 + c') := B9.gR a' c' hxa' hxc'
        have hSD : Off S.1 (blkL (sr a' c').1) := off_of fun b hb q => by have := B9.gS b hb; have := hgD b q; omega
        have hbD : b8 ∉ blkL (sr a' c').1 := fun q => by have := hgD b8 q; have := h8.2; omega
        have hbs := B9.orr a' c' hxa' hxc'
        have hbz : B2 ≤ w9.heap.size := by
          have := (B9.old (g := g))
          have h0 : 0 < N' * N' := Nat.mul_pos (by omega) (by omega)
          obtain ⟨ad, _, hq, _⟩ := rS9.2 (by omega)
          have := B9.os.bl ad (by rw [hq]; simp [blkL])
          omega
        obtain ⟨K, hK⟩ : ∃ K, a' * N' + c' = K := ⟨_, rfl⟩
        rw [hK] at hv1 hix
        rw [hK]
        --
        refine T_region_anyz TE.mixed (blkL (sr a' c').1) (some 11) ?_; intro w10 e10 z10
        have rS10 := rS9.be e10
        have k10 := k9'.be e10
        have hbs10 := hbs.be e10
        (refine TA_take 0 rfl (by kernel_rfl) (by kernel_rfl) (by kernel_rfl) ?_; (repeat (first | refine TL_move (hk := ?_) | refine TLP_load TE (hk := ?_) | refine TLP_load_rd TE (hk := ?_) | refine TL_fieldAddr TE (hk := ?_) | refine TL_indexAddr1n TE (hk := ?_))); refine TL_nil_p ?_); (refine TA_take 1 rfl (by kernel_rfl) (by kernel_rfl) (by kernel_rfl) ?_; (repeat (first | refine TL_move (hk := ?_) | refine TLP_load TE (hk := ?_) | refine TLP_load_rd TE (hk := ?_) | refine TL_fieldAddr TE (hk := ?_) | refine TL_indexAddr1n TE (hk := ?_))); refine TL_nil_p ?_); (refine TA_take 2 rfl (by kernel_rfl) (by kernel_rfl) (by kernel_rfl) ?_; (repeat (first | refine TL_move (hk := ?_) | refine TLP_load TE (hk := ?_) | refine TLP_load_rd TE (hk := ?_) | refine TL_fieldAddr TE (hk := ?_) | refine TL_indexAddr1n TE (hk := ?_))); refine TL_nil_p ?_); (refine TA_take 3 rfl (by kernel_rfl) (by kernel_rfl) (by kernel_rfl) ?_; (repeat (first | refine TL_move (hk := ?_) | refine TLP_load TE (hk := ?_) | refine TLP_load_rd TE (hk := ?_) | refine TL_fieldAddr TE (hk := ?_) | refine TL_indexAddr1n TE (hk := ?_))); refine TL_nil_p ?_); (refine TA_take 4 rfl (by kernel_rfl) (by kernel_rfl) (by kernel_rfl) ?_; (repeat (first | refine TL_move (hk := ?_) | refine TLP_load TE (hk := ?_) | refine TLP_load_rd TE (hk := ?_) | refine TL_fieldAddr TE (hk := ?_) | refine TL_indexAddr1n TE (hk := ?_))); refine TL_nil_p ?_); (refine TA_take 5 rfl (by kernel_rfl) (by kernel_rfl) (by kernel_rfl) ?_; (repeat (first | refine TL_move (hk := ?_) | refine TLP_load TE (hk := ?_) | refine TLP_load_rd TE (hk := ?_) | refine TL_fieldAddr TE (hk := ?_) | refine TL_indexAddr1n TE (hk := ?_))); refine TL_nil_p ?_); (refine TA_take 6 rfl (by kernel_rfl) (by kernel_rfl) (by kernel_rfl) ?_; (repeat (first | refine TL_move (hk := ?_) | refine TLP_load TE (hk := ?_) | refine TLP_load_rd TE (hk := ?_) | refine TL_fieldAddr TE (hk := ?_) | refine TL_indexAddr1n TE (hk := ?_))); refine TL_nil_p ?_); (refine TA_take 7 rfl (by kernel_rfl) (by kernel_rfl) (by kernel_rfl) ?_; (repeat (first | refine TL_move (hk := ?_) | refine TLP_load TE (hk := ?_) | refine TLP_load_rd TE (hk := ?_) | refine TL_fieldAddr TE (hk := ?_) | refine TL_indexAddr1n TE (hk := ?_))); refine TL_nil_p ?_)
        refine TA_one 8 rfl (by kernel_rfl) (by kernel_rfl) ?_
        refine TL_buildSlice TE (hf := rfl) (hq := fun w' e => Ext.un e) (hk := ?_); intro b11 w11 e11 p11 p11' k11
        have r11 : Rd w11 (some ⟨b11, 0, none⟩) 1 1 (slVs [(x.A, x.n, x.d)]) := Rd.blk k11 rfl
        have z11 := e11.size
        refine TL_nil_p ?_
        refine TA_one 9 rfl (by kernel_rfl) (by kernel_rfl) ?_
        refine TL_append TE (ho := hbs10.be e11) (hr := r11) (h1 := slVs_one [(x.A, x.n, x.d)]) (hf := rfl) (hq := fun w' m => (Ext.un e11).trans m) (hk := ?_); intro A12 c12 w12 o12 m12 n12
        rw [← slVs_append] at o12
        have S12 := ((B9.os.be e10).be e11).modL m12 (fun b hb q => by have := B9.gS b hb; have := hgD b q; omega)
        refine TL_nil_p ?_
        (refine TA_one 10 rfl (by kernel_rfl) (by kernel_rfl) ?_; (repeat (refine TL_indexAddr1n TE (hk := ?_))); refine TL_nil_p ?_)
        refine TA_one 11 rfl (by kernel_rfl) (by kernel_rfl) ?_
        refine TL_store_own TE (ho := S12) (hj := by rw [row2_len]; exact hix) (hf := rfl) (hq := fun _ _ _ => trivial) (hk := ?_); intro w13 m13 z13 o13
        refine TL_nil_z (by kernel_rfl) ?_
        rw [← hK] at o13
        obtain ⟨g', B13, t13⟩ := B9.send hxa' hxc' (x := (x.A, x.n, x.d)) (y := (A12, (sr a' c').2.1 + 1, c12)) (l := x.b) (e10.ext e11) m12 o12 n12 m13 o13 hx2.rd
        have D13 := D9.b (by rw [show (sendN ns a' c' x.b).1.N = N' from hN']; exact B13) t13
        repeat (first | refine T_region ?_ | refine T_inBlock ?_ | refine TL_add (hk := ?_) | refine TL_nil ?_ | refine TL_move (hk := ?_) | refine TL_assign (hk := ?_))
        exact ih (i + 1) _ _ (by omega) ⟨by omega, _, _, _, ⟨_, _, _, _, _, _, D13⟩, hns, hN'⟩ (.c rfl (.c rfl (.c rfl (.c rfl (.c rfl (.c rfl (.n)))))))
      · have h0' : ¬ (((sendX ns x.a x.c x.b).2 : Nat) : Int) = 0 := by omega
        rw [sendX_no h0] at D9
        (refine TA_one 11 rfl (by kernel_rfl) (by kernel_rfl) ?_; (repeat (refine TL_eq_f (hk := ?_))); refine TL_nil_p ?_)
        refine TA_done (by kernel_rfl) ?_
        repeat (first | refine T_region ?_ | refine T_cond_false rfl ?_ | refine T_inBlock ?_ | refine T_skip ?_ | refine TL_add (hk := ?_) | refine TL_nil ?_ | refine TL_move (hk := ?_) | refine TL_assign (hk := ?_))
        exact ih (i + 1) _ _ (by omega) ⟨by omega, _, _, _, ⟨_, _, _, _, _, _, D9⟩, hup, hN'⟩ (.c rfl (.c rfl (.c rfl (.c rfl (.c rfl (.c rfl (.n)))))))
    by_cases c2 : x.kd = 2
    · repeat (first | refine T_seq ?_ | refine T_region ?_ | refine T_cond_true rfl ?_ | refine T_cond_false rfl ?_ | refine T_block ?_ | refine TL_eq_t (hk := ?_) | refine TL_eq_f (hk := ?_) | refine TL_nil ?_ | refine TL_move (hk := ?_) | refine TL_assign (hk := ?_) | refine TL_load TE (hk := ?_) | refine TL_fieldAddr TE (hk := ?_))
      refine TL_call TE (hc := NLet_c x.a _ D5.A hI.ni) (hk := ?_)
      rintro _ w6 ⟨rfl, M6, F6, o6, g6, t6⟩
      have D6 := D5.a g6 (letX_N _).1 t6
      repeat (first | refine T_region ?_ | refine T_inBlock ?_ | refine TL_add (hk := ?_) | refine TL_nil ?_ | refine TL_move (hk := ?_) | refine TL_assign (hk := ?_))
      exact ih (i + 1) _ _ (by omega) ⟨by omega, _, _, _, ⟨_, _, _, _, _, _, D6⟩, (hI.letX x.a).up, (letX_N _).1.trans hN'⟩ (.c rfl (.c rfl (.c rfl (.c rfl (.c rfl (.c rfl (.n)))))))
    by_cases c3 : x.kd = 3
    · repeat (first | refine T_seq ?_ | refine T_region ?_ | refine T_cond_true rfl ?_ | refine T_cond_false rfl ?_ | refine T_block ?_ | refine TL_eq_t (hk := ?_) | refine TL_eq_f (hk := ?_) | refine TL_nil ?_ | refine TL_move (hk := ?_) | refine TL_assign (hk := ?_) | refine TL_load TE (hk := ?_) | refine TL_fieldAddr TE (hk := ?_))
      refine TL_call TE (hc := NPackets_c _ D5.A hI.ni) (hk := ?_)
      rintro _ w6 ⟨O, ys, rfl, e6, hO⟩
      have D6 := D5.ext e6
      have k6 := k9.be e6
      have hol := hO.own.len
      rw [rowV_len pkV_len] at hol
      have hyl := congrArg List.length hO.eq
      rw [List.length_map] at hyl
      clear hO D5 k9
      repeat (first | refine T_seq ?_ | refine T_region ?_ | refine TL_nil ?_ | refine TL_move (hk := ?_) | refine TL_assign (hk := ?_) | refine TL_load TE (hk := ?_) | refine TL_fieldAddr TE (hk := ?_) | refine TL_len TE (hk := ?_))
      refine TL_call TE (hc := NDeliver_c x.a _ D6.A hI.ni) (hk := ?_)
      rintro _ w7 ⟨rfl, M7, F7, o7, g7, t7⟩
      have D7 := D6.a g7 (delX_N _).1 t7
      have k7 := Blk.tn k6 t7 h8.1
      obtain ⟨hI7, hres⟩ := hI.ni.delX x.a
      have hd := (hI.delX x.a).up
      have hdN := (delX_N (ns := ns) x.a).1.trans hN'
      rcases hres with h0 | ⟨h7, hin⟩
      · rw [h0]
        repeat (first | refine T_seq ?_ | refine T_region ?_ | refine TL_nil ?_ | refine TL_move (hk := ?_) | refine TL_assign (hk := ?_))
        refine TL_call TE (hc := num_c26 _ _) (hk := ?_)
        rintro _ w7 ⟨rfl, rfl⟩
        repeat (first | refine T_region ?_ | refine T_cond_false rfl ?_ | refine T_inBlock ?_ | refine T_skip ?_ | refine TL_add (hk := ?_) | refine TL_ne_f (hk := ?_) | refine TL_nil ?_ | refine TL_move (hk := ?_) | refine TL_assign (hk := ?_) | refine TL_no (hk := ?_) | refine TL_pick_f (hk := ?_))
        exact ih (i + 1) _ _ (by omega) ⟨by omega, _, _, _, ⟨_, _, _, _, _, _, D7⟩, hd, hdN⟩ (.c rfl (.c rfl (.c rfl (.c rfl (.c rfl (.c rfl (.n)))))))
      · rw [h7]
        have hin' : ¬ (0 ≤ x.a ∧ x.a < (ns.way.length : Int)) := by unfold inN at hin; simpa using hin
        repeat (first | refine T_seq ?_ | refine T_region ?_ | refine TL_nil ?_ | refine TL_move (hk := ?_) | refine TL_assign (hk := ?_))
        refine TL_call TE (hc := num_c26 _ _) (hk := ?_)
        rintro _ w7 ⟨rfl, rfl⟩
        repeat (first | refine TL_ne_t (hk := ?_) | refine TL_move (hk := ?_) | refine TL_yes (hk := ?_))
        refine TL_call TE (hc := num_c26 _ _) (hk := ?_)
        rintro _ w7 ⟨rfl, rfl⟩
        by_cases hp : 0 ≤ x.a
        · have hq : ¬ x.a < ((O.2.1 : Nat) : Int) := by omega
          repeat (first | refine T_region ?_ | refine T_cond_false rfl ?_ | refine T_inBlock ?_ | refine T_skip ?_ | refine TL_add (hk := ?_) | refine TL_lt_f (hk := ?_) | refine TL_ge_t (hk := ?_) | refine TL_ne_f (hk := ?_) | refine TL_nil ?_ | refine TL_move (hk := ?_) | refine TL_assign (hk := ?_) | refine TL_load TE (hk := ?_) | refine TL_fieldAddr TE (hk := ?_) | refine TL_yes (hk := ?_) | refine TL_pick_t (hk := ?_) | refine TL_pick_f (hk := ?_))
          exact ih (i + 1) _ _ (by omega) ⟨by omega, _, _, _, ⟨_, _, _, _, _, _, D7⟩, hd, hdN⟩ (.c rfl (.c rfl (.c rfl (.c rfl (.c rfl (.c rfl (.n)))))))
        · repeat (first | refine T_region ?_ | refine T_cond_false rfl ?_ | refine T_inBlock ?_ | refine T_skip ?_ | refine TL_add (hk := ?_) | refine TL_ge_f (hk := ?_) | refine TL_ne_f (hk := ?_) | refine TL_nil ?_ | refine TL_move (hk := ?_) | refine TL_assign (hk := ?_) | refine TL_load TE (hk := ?_) | refine TL_fieldAddr TE (hk := ?_) | refine TL_yes (hk := ?_) | refine TL_no (hk := ?_) | refine TL_pick_t (hk := ?_) | refine TL_pick_f (hk := ?_))
          exact ih (i + 1) _ _ (by omega) ⟨by omega, _, _, _, ⟨_, _, _, _, _, _, D7⟩, hd, hdN⟩ (.c rfl (.c rfl (.c rfl (.c rfl (.c rfl (.c rfl (.n)))))))
    by_cases c4 : x.kd = 4
    · repeat (first | refine T_seq ?_ | refine T_region ?_ | refine T_cond_true rfl ?_ | refine T_cond_false rfl ?_ | refine T_block ?_ | refine TL_eq_t (hk := ?_) | refine TL_eq_f (hk := ?_) | refine TL_nil ?_ | refine TL_move (hk := ?_) | refine TL_assign (hk := ?_) | refine TL_load TE (hk := ?_) | refine TL_fieldAddr TE (hk := ?_))
      refine TL_call TE (hc := NDrop_c x.a _ D5.A hI.ni) (hk := ?_)
      rintro _ w6 ⟨rfl, M6, F6, o6, g6, t6⟩
      have D6 := D5.a g6 (dropX_N _).1 t6
      repeat (first | refine T_region ?_ | refine T_inBlock ?_ | refine TL_add (hk := ?_) | refine TL_nil ?_ | refine TL_move (hk := ?_) | refine TL_assign (hk := ?_))
      exact ih (i + 1) _ _ (by omega) ⟨by omega, _, _, _, ⟨_, _, _, _, _, _, D6⟩, (hI.dropX x.a).up, (dropX_N _).1.trans hN'⟩ (.c rfl (.c rfl (.c rfl (.c rfl (.c rfl (.c rfl (.n)))))))
    by_cases c5 : x.kd = 5
    · repeat (first | refine T_seq ?_ | refine T_region ?_ | refine T_cond_true rfl ?_ | refine T_cond_false rfl ?_ | refine T_block ?_ | refine TL_eq_t (hk := ?_) | refine TL_eq_f (hk := ?_) | refine TL_nil ?_ | refine TL_move (hk := ?_) | refine TL_assign (hk := ?_) | refine TL_load TE (hk := ?_) | refine TL_fieldAddr TE (hk := ?_))
      refine TL_call TE (hc := NDouble_c x.a _ D5.A hI.ni) (hk := ?_)
      rintro _ w6 ⟨rfl, M6, F6, o6, g6, t6⟩
      have D6 := D5.a g6 (dblX_N _).1 t6
      repeat (first | refine T_region ?_ | refine T_inBlock ?_ | refine TL_add (hk := ?_) | refine TL_nil ?_ | refine TL_move (hk := ?_) | refine TL_assign (hk := ?_))
      exact ih (i + 1) _ _ (by omega) ⟨by omega, _, _, _, ⟨_, _, _, _, _, _, D6⟩, (hI.dblX x.a).up, (dblX_N _).1.trans hN'⟩ (.c rfl (.c rfl (.c rfl (.c rfl (.c rfl (.c rfl (.n)))))))
    by_cases c6 : x.kd = 6
    · repeat (first | refine T_seq ?_ | refine T_region ?_ | refine T_cond_true rfl ?_ | refine T_cond_false rfl ?_ | refine T_block ?_ | refine TL_eq_t (hk := ?_) | refine TL_eq_f (hk := ?_) | refine TL_nil ?_ | refine TL_move (hk := ?_) | refine TL_assign (hk := ?_) | refine TL_load TE (hk := ?_) | refine TL_fieldAddr TE (hk := ?_))
      refine TL_call TE (hc := NPart_c x.a x.c _ D5.A) (hk := ?_)
      rintro _ w6 ⟨rfl, g6, t6⟩
      have D6 := D5.a g6 (partX_N _ _ _).1 t6
      repeat (first | refine T_region ?_ | refine T_inBlock ?_ | refine TL_add (hk := ?_) | refine TL_nil ?_ | refine TL_move (hk := ?_) | refine TL_assign (hk := ?_))
      exact ih (i + 1) _ _ (by omega) ⟨by omega, _, _, _, ⟨_, _, _, _, _, _, D6⟩, (hI.partX x.a x.c true).up, (partX_N _ _ _).1.trans hN'⟩ (.c rfl (.c rfl (.c rfl (.c rfl (.c rfl (.c rfl (.n)))))))
    by_cases c7 : x.kd = 7
    · repeat (first | refine T_seq ?_ | refine T_region ?_ | refine T_cond_true rfl ?_ | refine T_cond_false rfl ?_ | refine T_block ?_ | refine TL_eq_t (hk := ?_) | refine TL_eq_f (hk := ?_) | refine TL_nil ?_ | refine TL_move (hk := ?_) | refine TL_assign (hk := ?_) | refine TL_load TE (hk := ?_) | refine TL_fieldAddr TE (hk := ?_))
      refine TL_call TE (hc := NJoin_c x.a x.c _ D5.A) (hk := ?_)
      rintro _ w6 ⟨rfl, g6, t6⟩
      have D6 := D5.a g6 (partX_N _ _ _).1 t6
      repeat (first | refine T_region ?_ | refine T_inBlock ?_ | refine TL_add (hk := ?_) | refine TL_nil ?_ | refine TL_move (hk := ?_) | refine TL_assign (hk := ?_))
      exact ih (i + 1) _ _ (by omega) ⟨by omega, _, _, _, ⟨_, _, _, _, _, _, D6⟩, (hI.partX x.a x.c false).up, (partX_N _ _ _).1.trans hN'⟩ (.c rfl (.c rfl (.c rfl (.c rfl (.c rfl (.c rfl (.n)))))))
    by_cases c8 : x.kd = 8
    · repeat (first | refine T_seq ?_ | refine T_region ?_ | refine T_cond_true rfl ?_ | refine T_cond_false rfl ?_ | refine T_block ?_ | refine TL_eq_t (hk := ?_) | refine TL_eq_f (hk := ?_) | refine TL_nil ?_ | refine TL_move (hk := ?_) | refine TL_assign (hk := ?_) | refine TL_load TE (hk := ?_) | refine TL_fieldAddr TE (hk := ?_))
      refine TL_call TE (hc := NTick_c _ D5.A hI.ni) (hk := ?_)
      rintro _ w6 ⟨F6, o6, g6, t6⟩
      have D6 := D5.a g6 rfl t6
      repeat (first | refine T_region ?_ | refine T_inBlock ?_ | refine TL_add (hk := ?_) | refine TL_nil ?_ | refine TL_move (hk := ?_) | refine TL_assign (hk := ?_))
      exact ih (i + 1) _ _ (by omega) ⟨by omega, _, _, _, ⟨_, _, _, _, _, _, D6⟩, hI.tick.up, hN'⟩ (.c rfl (.c rfl (.c rfl (.c rfl (.c rfl (.c rfl (.n)))))))
    by_cases c9 : x.kd = 9
    · have hto := told_c26 w2 _ ⟨_, _, _, _, _, _, D5⟩ hI
      rw [hN'] at hto
      have k3 := k2.be D5.e
      repeat (first | refine T_seq ?_ | refine T_region ?_ | refine T_cond_true rfl ?_ | refine T_cond_false rfl ?_ | refine T_block ?_ | refine TL_eq_t (hk := ?_) | refine TL_eq_f (hk := ?_) | refine TL_nil ?_ | refine TL_move (hk := ?_) | refine TL_assign (hk := ?_) | refine TL_load TE (hk := ?_) | refine TL_fieldAddr TE (hk := ?_))
      refine TL_call TE (hc := hto) (hk := ?_)
      rintro _ w6 ⟨rfl, z6, ns6, U6, D6, i6, hN6, hr6, hc6⟩
      repeat (first | refine T_region ?_ | refine T_cond_false rfl ?_ | refine T_inBlock ?_ | refine T_skip ?_ | refine TL_add (hk := ?_) | refine TL_nil ?_ | refine TL_move (hk := ?_) | refine TL_assign (hk := ?_) | refine TL_not (hk := ?_))
      exact ih (i + 1) _ _ (by omega) ⟨by omega, ns6, L, U6, D6, i6.up, hN6⟩ (.c rfl (.c rfl (.c rfl (.c rfl (.c rfl (.c rfl (.n)))))))
    repeat (first | refine T_seq ?_ | refine T_region ?_ | refine T_cond_false rfl ?_ | refine T_block ?_ | refine T_inBlock ?_ | refine T_skip ?_ | refine TL_add (hk := ?_) | refine TL_eq_f (hk := ?_) | refine TL_nil ?_ | refine TL_move (hk := ?_) | refine TL_assign (hk := ?_) | refine TL_load TE (hk := ?_) | refine TL_fieldAddr TE (hk := ?_))
    exact ih (i + 1) _ _ (by omega) ⟨by omega, _, _, _, ⟨_, _, _, _, _, _, D5⟩, hup, hN'⟩ (.c rfl (.c rfl (.c rfl (.c rfl (.c rfl (.c rfl (.n)))))))
  · obtain rfl : i = n := by omega
    clear ih hlt
    repeat (first | refine T_seq ?_ | refine T_region ?_ | refine T_cond_false rfl ?_ | refine T_block ?_ | refine T_exit rfl ?_ | refine TL_lt_f (hk := ?_) | refine TL_nil ?_ | refine TL_move (hk := ?_) | refine TL_assign (hk := ?_) | refine TL_load TE (hk := ?_) | refine TL_fieldAddr TE (hk := ?_) | refine TL_len TE (hk := ?_))
    refine T_loop (ι := Nat) (fun a => [(12, .int .i64 (a : Int)), (3, ptr p), (5, slV S), (6, slV H), (1, ptr bx), (2, .bool false)])
      (fun a w' => a ≤ N' ∧ ∃ ns, THp w2 w' ns B1 p B2 S H L U ∧ NH i ns L U ∧ ns.N = N' ∧ ∀ x y, y < x → x < a → ns.P x y = false) (fun a => N' - a) 0 (.c rfl (.c rfl (.c rfl (.c rfl (.c rfl (.c rfl (.n))))))) ⟨Nat.zero_le _, ns, D3, hI, hN', fun x y h1 h2 => by omega⟩ ?_
    clear D3 hI hN' k3 ns
    rintro a w3 ⟨ha, ns, D3, hI, hN', hP3⟩ ih
    have k3 := k2.be D3.e
    by_cases hat : a < N'
    · repeat (first | refine T_seq ?_ | refine T_region ?_ | refine T_cond_true rfl ?_ | refine T_block ?_ | refine T_skip ?_ | refine TL_lt_t (hk := ?_) | refine TL_nil ?_ | refine TL_move (hk := ?_) | refine TL_assign (hk := ?_) | refine TL_load TE (hk := ?_) | refine TL_fieldAddr TE (hk := ?_))
      refine T_loop (ι := Nat) (fun b => [(13, .int .i64 (b : Int)), (12, .int .i64 (a : Int)), (3, ptr p), (5, slV S), (6, slV H), (1, ptr bx), (2, .bool false)])
        (fun b w' => b ≤ a ∧ ∃ ns, THp w2 w' ns B1 p B2 S H L U ∧ NH i ns L U ∧ ns.N = N' ∧ (∀ x y, y < x → x < a → ns.P x y = false) ∧ ∀ y, y < b → ns.P a y = false) (fun b => a - b) 0 (.c rfl (.c rfl (.c rfl (.c rfl (.c rfl (.c rfl (.c rfl (.n)))))))) ⟨Nat.zero_le _, ns, D3, hI, hN', hP3, fun y h1 => by omega⟩ ?_
      clear D3 hI hN' k3 hP3 ns
      rintro b w3 ⟨hb, ns, D3, hI, hN', hP3, hP4⟩ ih2
      by_cases hbt : b < a
      · obtain ⟨M, F, o, sr, sb, g, D3⟩ := D3
        repeat (first | refine T_seq ?_ | refine T_region ?_ | refine T_cond_true rfl ?_ | refine T_block ?_ | refine T_skip ?_ | refine TL_lt_t (hk := ?_) | refine TL_nil ?_ | refine TL_move (hk := ?_))
        refine TL_call TE (hc := NJoin_c (a : Int) (b : Int) _ D3.A) (hk := ?_)
        rintro _ w4 ⟨rfl, g4, t4⟩
        have D4 := D3.a g4 (partX_N _ _ _).1 t4
        obtain ⟨j1, j2⟩ := join_P hI (a := a) (c := b) (by omega) (by omega) (by omega)
        repeat (first | refine T_region ?_ | refine T_inBlock ?_ | refine TL_add (hk := ?_) | refine TL_nil ?_ | refine TL_move (hk := ?_) | refine TL_assign (hk := ?_))
        exact ih2 (b + 1) _ _ (by omega) ⟨by omega, _, ⟨_, _, _, _, _, _, D4⟩, hI.partX a b false, (partX_N _ _ _).1.trans hN', fun x y h1 h2 => j2 x y (hP3 x y h1 h2), fun y hy => by
          by_cases e : y = b
          · rw [e]; exact j1
          · exact j2 a y (hP4 y (by omega))⟩ (.c rfl (.c rfl (.c rfl (.c rfl (.c rfl (.c rfl (.c rfl (.n))))))))
      · obtain rfl : b = a := by omega
        clear ih2
        repeat (first | refine T_seq ?_ | refine T_region ?_ | refine T_cond_false rfl ?_ | refine T_inBlock ?_ | refine T_exit rfl ?_ | refine TL_add (hk := ?_) | refine TL_lt_f (hk := ?_) | refine TL_nil ?_ | refine TL_move (hk := ?_) | refine TL_assign (hk := ?_))
        exact ih (b + 1) _ _ (by omega) ⟨by omega, ns, D3, hI, hN', fun x y h1 h2 => by
          by_cases e : x = b
          · rw [e]; exact hP4 y (by omega)
          · exact hP3 x y h1 (by omega)⟩ (.c rfl (.c rfl (.c rfl (.c rfl (.c rfl (.c rfl (.n)))))))
    · obtain rfl : a = N' := by omega
      clear ih
      have hP : ∀ x y, x < ns.N → y < ns.N → x ≠ y → ns.P x y = false := fun x y hx hy hxy => by
        by_cases e : y < x
        · exact hP3 x y e (by omega)
        · rw [hI.sy]; exact hP3 y x (by omega) (by omega)
      have hre := hI.re
      obtain ⟨M, F, o, sr, sb, g, D3⟩ := D3
      have hr0 := heal hI.ni (by omega) hP
      have hcr : 2 * ((restN ns : Nat) : Int) + 2 = ((2 * restN ns + 2 : Nat) : Int) := by omega
      repeat (first | refine T_seq ?_ | refine T_region ?_ | refine T_cond_false rfl ?_ | refine T_exit rfl ?_ | refine TL_lt_f (hk := ?_) | refine TL_nil ?_ | refine TL_move (hk := ?_) | refine TL_load TE (hk := ?_) | refine TL_fieldAddr TE (hk := ?_))
      refine TL_call TE (hc := NRest_c _ D3.A hI.ni) (hk := ?_)
      rintro _ w3 ⟨rfl, rfl⟩
      repeat (first | refine TL_add (hk := ?_) | refine TL_mul (hk := ?_))
      rw [hcr]
      refine TL_call TE (hc := NDrain_c ((2 * restN ns + 2 : Nat) : Int) _ (by omega) D3.A hI.ni) (hk := ?_)
      rintro _ w4 ⟨rfl, M4, F4, o4, g4, t4⟩
      have hdx : drainX ns ((2 * restN ns + 2 : Nat) : Int) = drainN (2 * restN ns + 2) ns := rfl
      have hdN := drainN_N (2 * restN ns + 2) ns
      rw [hdx] at g4
      have D4 := D3.a g4 hdN.1 t4
      have i4 : NH i (drainN (2 * restN ns + 2) ns).1 L U := { ni := NI.drain _ hI.ni, re := by omega, sy := by rw [hdN.2.2.2]; exact hI.sy, dl := hI.dl, dt := hI.dt }
      generalize (drainN (2 * restN ns + 2) ns).1 = n4 at hr0 hdN D4 i4
      have hN4 : n4.N = a := hdN.1.trans hN'
      clear g4 t4 D3 hI hN' hcr hdx hdN hP hP3 k3
      have k4 := k2.be D4.e
      repeat (first | refine T_seq ?_ | refine T_region ?_ | refine TL_nil ?_ | refine TL_move (hk := ?_))
      refine TL_call TE (hc := NRest_c _ D4.A i4.ni) (hk := ?_)
      rintro _ w4 ⟨rfl, rfl⟩
      have hto := told_c26 w2 _ ⟨_, _, _, _, _, _, D4⟩ i4
      rw [hr0]
      rw [hN4] at hto
      repeat (first | refine TL_ne_f (hk := ?_) | refine TL_move (hk := ?_) | refine TL_load TE (hk := ?_) | refine TL_fieldAddr TE (hk := ?_) | refine TL_yes (hk := ?_))
      refine TL_call TE (hc := hto) (hk := ?_)
      rintro _ w5 ⟨rfl, z5, n5, U5, D5, i5, hN5, hr5, hc5⟩
      rw [hr0] at hr5
      have hall : ∀ x y, x < a → y < a → U5 x y = (L x y).length := fun x y hx hy => i5.told hr5 (fun x y hx hy => hc5 x y (by omega) (by omega)) (by omega) (by omega)
      obtain ⟨M5, F5, o5, sr5, sb5, g5, D5⟩ := D5
      obtain ⟨l1, l2, l3⟩ := D5.lens
      rw [hN5] at l1 l2
      have hB := D5.B
      rw [hN5] at hB
      have hNN := mul_N hN2
      obtain ⟨K, hK⟩ : ∃ K, a * a = K := ⟨_, rfl⟩
      rw [hK] at l1 l2 hNN
      have rS := hB.os.rd
      have rH := hB.oh.rd
      clear hto
      repeat (first | refine T_seq ?_ | refine T_region ?_ | refine T_cond_false rfl ?_ | refine T_block ?_ | refine T_skip ?_ | refine TL_nil ?_ | refine TL_assign (hk := ?_) | refine TL_yes (hk := ?_) | refine TL_pick_f (hk := ?_) | refine TL_not (hk := ?_))
      refine T_loop (ι := Nat) (fun q => [(14, .int .i64 (q : Int)), (5, slV S), (6, slV H), (2, .bool false)]) (fun q w' => q ≤ K ∧ Ext w5 w') (fun q => K - q) 0 (.c rfl (.c rfl (.c rfl (.c rfl (.n))))) ⟨Nat.zero_le _, Mod.refl _ _⟩ ?_
      rintro q w6 ⟨hq, e6⟩ ih
      by_cases hqt : q < K
      · have h0a : 0 < a := by omega
        have hd1 : q / a < a := Nat.div_lt_of_lt_mul (by omega)
        have hd2 : q % a < a := Nat.mod_lt _ h0a
        have rS6 := rS.be e6
        have rH6 := rH.be e6
        have hv1 : (row2 a fun a c => slV (sr5 a c))[q]? = some (slV (sr5 (q / a) (q % a))) := by unfold row2; exact rowF_get _ (by omega)
        have hv2 : (row2 a fun a c => .int .i64 (U5 a c : Int))[q]? = some (.int .i64 ((U5 (q / a) (q % a) : Nat) : Int)) := by unfold row2; exact rowF_get _ (by omega)
        have hl3 := l3 (q / a) (q % a) (by omega) (by omega)
        have hU := hall (q / a) (q % a) hd1 hd2
        repeat (first | refine T_seq ?_ | refine T_region ?_ | refine T_region_q TE.mixed (by kernel_rfl) ?_ | refine T_cond_true rfl ?_ | refine T_block ?_ | refine T_skip ?_ | refine TL_lt_t (hk := ?_) | refine TL_ne_f (hk := ?_) | refine TL_nil ?_ | refine TL_move (hk := ?_) | refine TL_load_rd TE (hk := ?_) | refine TL_indexAddr1n TE (hk := ?_) | refine TL_len TE (hk := ?_))
        refine TL_nil_q ?_; intro w7 e7
        repeat (first | refine T_region ?_ | refine T_cond_false rfl ?_ | refine T_inBlock ?_ | refine T_skip ?_ | refine TL_add (hk := ?_) | refine TL_nil ?_ | refine TL_move (hk := ?_) | refine TL_assign (hk := ?_))
        exact ih (q + 1) _ _ (by omega) ⟨by omega, e6.ext e7⟩ (.c rfl (.c rfl (.c rfl (.c rfl (.n)))))
      · clear ih
        repeat (first | refine T_seq ?_ | refine T_region ?_ | refine T_cond_false rfl ?_ | refine T_exit rfl ?_ | refine TL_lt_f (hk := ?_) | refine TL_nil ?_ | refine TL_move (hk := ?_) | refine TL_len TE (hk := ?_))
        refine TL_call TE (hc := net_c26 _) (hk := ?_)
        rintro _ w7 ⟨rfl, e7⟩
        repeat (first | refine TL_move (hk := ?_) | refine TL_yes (hk := ?_))
        refine TL_call TE (hc := live_c26 _) (hk := ?_)
        rintro _ w8 ⟨rfl, e8⟩
        repeat (first | refine TL_nil ?_ | refine TL_assign (hk := ?_) | refine TL_pick_t (hk := ?_))
        exact T_ret1 rfl rfl ⟨rfl, (((e2.ext D5.e).ext e6).ext e7).ext e8⟩
end Go.Proofs.Ytjjgojgahibpgaa
