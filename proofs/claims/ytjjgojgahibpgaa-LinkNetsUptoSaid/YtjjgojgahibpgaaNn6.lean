import Derived.Test.YtjjgojgahibpgaaNn5
/- Parts: NAct2 NLW1 NLW2 NLW3 NLW4. -/
/- What is done to a net, as it is given. -/
namespace Go.Proofs.Ytjjgojgahibpgaa
open Go.RowKit Go.Proofs.Eng Go.Proofs.Codec Go.Proofs.Link
set_option linter.unusedSimpArgs false
set_option linter.unusedVariables false set_option maxRecDepth 10000
attribute [local irreducible] T TL LV TH TA
structure DV where
  kd : Int
  a : Int
  c : Int
  A : Option Addr
  n : Nat
  d : Nat
  b : Bs
def dv0 : DV := ⟨0, 0, 0, none, 0, 0, []⟩
def dvV (x : DV) : List Value := [.int .i64 x.kd, .int .i64 x.a, .int .i64 x.c, .slice x.A x.n x.d]
theorem dvV_len (x : DV) : (dvV x).length = 4 := rfl
def DV.dd (x : DV) : DD := ⟨x.kd, x.a, x.c, x.b⟩
structure DvOk (w : World) (x : DV) : Prop where
  rd : Rd w x.A x.n 1 (bv x.b)
  nc : x.n ≤ x.d
  nb : x.n ≤ 1048576
  ra : -9223372036854775808 ≤ x.a ∧ x.a ≤ 9223372036854775807
  rc : -9223372036854775808 ≤ x.c ∧ x.c ≤ 9223372036854775807
theorem DvOk.be {w w' : World} {x : DV} (h : DvOk w x) (e : Ext w w') : DvOk w' x := { h with rd := h.rd.be e }
abbrev tyDid : Ty := .struct (.cons (.int .i64) (.cons (.int .i64) (.cons (.int .i64) (.cons (.slice (.int .u8)) .unit))))
abbrev tyWide : Ty := .struct (.cons (.int .i64) (.cons (.int .i64) (.cons (.int .i64) (.cons (.slice tyDid) .unit))))
theorem did_of {w : World} (x : List Value) (k : Nat) (hk : k ≤ 1048576) (h : FitB w tyDid x k) : 1 ≤ k ∧ ∃ a : DV, x = dvV a ∧ DvOk w a := by
  obtain ⟨x1, y1, p1, q1, rfl, -, h2, ⟨h3, kd, rfl, f1⟩, x2, y2, p2, q2, rfl, -, h5, ⟨h6, a, rfl, f2⟩, x3, y3, p3, q3, rfl, -, h8, ⟨h9, c, rfl, f3⟩, x4, y4, p4, q4, rfl, -, h10, hb, hz⟩ := h
  have hz : y4 = [] := hz
  subst hz
  have ay := hb
  obtain ⟨B, m, d, xs, ms, rfl, _⟩ := hb
  obtain ⟨l, g1, g2, g3, g4⟩ := FitB.bytes ay
  exact ⟨by omega, ⟨kd, a, c, B, m, d, l⟩, rfl, g1, g2, by simp only; omega, f2, f3⟩
theorem agg_4 {v a b c d : Value} (h : v.cells.toList = [a, b, c, d]) : v = .agg #[a, b, c, d] := by
  cases v with
  | agg cs =>
    have e : cs.toList = [a, b, c, d] := h
    congr
    exact Array.toList_inj.1 (by simpa using e)
  | _ => simp [Value.cells] at h
theorem wide_in {w : World} {base : Nat} {v : Value} (h : ReadsB Try.prog w base 87 v 1048576) :
    ∃ (N W P : Int) (A : Option Addr) (n c : Nat) (l : List DV), v = .agg #[.int .i64 N, .int .i64 W, .int .i64 P, .slice A n c] ∧ i64ok N ∧ i64ok W ∧ i64ok P ∧ Rd w A n 4 (rowV dvV l) ∧ l.length = n ∧ (∀ x ∈ l, DvOk w x) ∧ n ≤ 1048576 := by
  obtain ⟨x1, y1, p1, q1, h1, -, h2, ⟨h3, N, rfl, f1⟩, x2, y2, p2, q2, rfl, -, h5, ⟨h6, W, rfl, f2⟩, x3, y3, p3, q3, rfl, -, h8, ⟨h9, P, rfl, f3⟩, x4, y4, p4, q4, rfl, -, h10, hs, hz⟩ := h.fit TE tyWide (by decide +kernel)
  have hz : y4 = [] := hz
  subst hz
  obtain ⟨_, A, n, c, l, rfl, g1, g2, g3, g4, g5, g6⟩ := FitB.row (g := dvV) (Q := DvOk w) (M := 1048576) did_of hs (by omega)
  exact ⟨N, W, P, A, n, c, l, agg_4 h1, f1, f2, f3, g5, g4, g6, by omega⟩
def totD (l : List DV) (i : Nat) : Nat := ((l.take i).map fun x => x.n).sum
theorem totD_succ (l : List DV) (i : Nat) (hi : i < l.length) : totD l (i + 1) = totD l i + (l.getD i dv0).n := by
  unfold totD
  rw [List.take_succ_eq_append_getElem hi, List.map_append, List.sum_append, List.getD_eq_getElem?_getD, List.getElem?_eq_getElem hi]
  simp
set_option maxHeartbeats 3200000
theorem huge_c26 (N W P : Int) (A : Option Addr) (n c : Nat) (l : List DV) (w : World) (h : Rd w A n 4 (rowV dvV l)) (hl : l.length = n) (hm : ∀ x ∈ l, DvOk w x) (hn : n ≤ 1048576) :
    Ret Try.prog 56 [.agg #[.int .i64 N, .int .i64 W, .int .i64 P, .slice A n c]] w (fun v w' => (v = .bool true ∨ v = .bool false ∧ n ≤ 400 ∧ ∀ x ∈ l, x.kd = 10 → x.a ≤ 50) ∧ Ext w w') := by
  refine ret_T (n := 91) Try.func56 rfl rfl ?_
  repeat (first | refine T_seq ?_ | refine T_region ?_)
  refine TL_box (hk := ?_); intro b2 w2 e2 h2 h2' k2
  replace k2 : Blk w2 b2 87 [.int .i64 N, .int .i64 W, .int .i64 P, .slice A n c] := k2
  have h1 := h.be e2
  repeat (first | refine T_seq ?_ | refine T_region ?_ | refine T_block ?_ | refine TL_nil ?_ | refine TL_assign (hk := ?_))
  refine T_loop (ι := Nat) (fun i => [(4, .int .i64 (i : Int)), (3, .int .i64 ((totD l i : Nat) : Int)), (1, ptr b2)]) (fun i w' => w' = w2 ∧ i ≤ n ∧ i ≤ 401 ∧ totD l i ≤ i * 1048576) (fun i => n - i) 0 (.c rfl (.c rfl (.c rfl (.n)))) ⟨rfl, Nat.zero_le _, Nat.zero_le _, by simp [totD]⟩ ?_
  rintro i w2 ⟨rfl, hi, hi2, ht⟩ ih
  --
  refine T_seq ?_
  refine T_seq ?_
  refine T_join (ι := Unit) (fun _ => [(15, .bool (decide (i < n ∧ i ≤ 400))), (4, .int .i64 (i : Int)), (3, .int .i64 ((totD l i : Nat) : Int)), (1, ptr b2)]) (fun _ w' => w' = w2) (fun kk join => ?_) ?_
  · by_cases a1 : i < n
    · by_cases a2 : i ≤ 400
      · rw [decide_eq_true ⟨a1, a2⟩] at join
        repeat (first | refine T_region ?_ | refine TL_lt_t (hk := ?_) | refine TL_le_t (hk := ?_) | refine TL_nil ?_ | refine TL_move (hk := ?_) | refine TL_load TE (hk := ?_) | refine TL_fieldAddr TE (hk := ?_) | refine TL_len TE (hk := ?_) | refine TL_yes (hk := ?_) | refine TL_pick_t (hk := ?_))
        exact T.sub (join () _ rfl) (.c rfl (.c rfl (.c rfl (.c rfl (.n)))))
      · rw [show decide (i < n ∧ i ≤ 400) = false from decide_eq_false (fun q => a2 q.2)] at join
        repeat (first | refine T_region ?_ | refine TL_lt_t (hk := ?_) | refine TL_le_f (hk := ?_) | refine TL_nil ?_ | refine TL_move (hk := ?_) | refine TL_load TE (hk := ?_) | refine TL_fieldAddr TE (hk := ?_) | refine TL_len TE (hk := ?_) | refine TL_yes (hk := ?_) | refine TL_pick_t (hk := ?_))
        exact T.sub (join () _ rfl) (.c rfl (.c rfl (.c rfl (.c rfl (.n)))))
    · rw [show decide (i < n ∧ i ≤ 400) = false from decide_eq_false (fun q => a1 q.1)] at join
      repeat (first | refine T_region ?_ | refine TL_lt_f (hk := ?_) | refine TL_nil ?_ | refine TL_move (hk := ?_) | refine TL_load TE (hk := ?_) | refine TL_fieldAddr TE (hk := ?_) | refine TL_len TE (hk := ?_) | refine TL_no (hk := ?_) | refine TL_pick_f (hk := ?_))
      exact T.sub (join () _ rfl) (.c rfl (.c rfl (.c rfl (.c rfl (.n)))))
  rintro _ w2 rfl
  by_cases hg : i < n ∧ i ≤ 400
  · rw [decide_eq_true hg]
    obtain ⟨hlt, hlt2⟩ := hg
    have hA : A ≠ none := by obtain ⟨_, _, hq, _⟩ := h1.2 (by omega); rw [hq]; simp
    have hv : (rowV dvV l)[i * 4 + 3]? = some (.slice (l.getD i dv0).A (l.getD i dv0).n (l.getD i dv0).d) := rowV_at dvV_len l i 3 dv0 (by omega) (by omega)
    have hsu := totD_succ l i (by omega)
    have hb := (hm _ (getMem (d := dv0) (show i < l.length by omega))).nb
    generalize l.getD i dv0 = x at hv hsu hb
    have hc : ((totD l i : Nat) : Int) + (x.n : Int) = ((totD l (i + 1) : Nat) : Int) := by omega
    repeat (first | refine T_seq ?_ | refine T_region ?_ | refine T_cond_true rfl ?_ | refine T_block ?_ | refine T_inBlock ?_ | refine T_skip ?_ | refine TL_add (hk := ?_) | refine TL_nil ?_ | refine TL_move (hk := ?_) | refine TL_assign (hk := ?_) | refine TL_load TE (hk := ?_) | refine TL_load_rd TE (hk := ?_) | refine TL_fieldAddr TE (hk := ?_) | refine TL_fieldAddr_e TE (hk := ?_) | refine TL_indexAddrn TE (hk := ?_) | refine TL_len TE (hk := ?_))
    rw [hc]
    --
    exact ih (i + 1) _ _ (by omega) ⟨rfl, by omega, by omega, by omega⟩ (.c rfl (.c rfl (.c rfl (.n))))
  · rw [decide_eq_false hg]
    clear ih
    obtain ⟨T0, hT0⟩ : ∃ T0, totD l i = T0 := ⟨_, rfl⟩
    rw [hT0]
    rw [hT0] at ht
    clear hg hT0 hi
    repeat (first | refine T_seq ?_ | refine T_region ?_ | refine T_cond_false rfl ?_ | refine T_block ?_ | refine T_exit rfl ?_ | refine TL_nil ?_ | refine TL_assign (hk := ?_))
    refine T_loop (ι := Nat × Nat) (fun j => [(6, .int .i64 (j.1 : Int)), (5, .int .i64 (j.2 : Int)), (3, .int .i64 (T0 : Int)), (1, ptr b2)]) (fun j w' => w' = w2 ∧ j.1 ≤ n ∧ j.1 ≤ 401 ∧ j.2 ≤ j.1 * 50 ∧ ∀ q, q < j.1 → (l.getD q dv0).kd = 10 → (l.getD q dv0).a ≤ 50) (fun j => n - j.1) (0, 0) (.c rfl (.c rfl (.c rfl (.c rfl (.n))))) ⟨rfl, Nat.zero_le _, Nat.zero_le _, Nat.zero_le _, fun q hq => by simp at hq⟩ ?_
    rintro ⟨j, D⟩ w2 ⟨rfl, hj, hj2, hD, hall⟩ ih
    simp only at hj hj2 hD hall ih
    --
    refine T_seq ?_
    refine T_seq ?_
    refine T_join (ι := Unit) (fun _ => [(35, .bool (decide (j < n ∧ j ≤ 400))), (6, .int .i64 (j : Int)), (5, .int .i64 (D : Int)), (3, .int .i64 (T0 : Int)), (1, ptr b2)]) (fun _ w' => w' = w2) (fun kk join => ?_) ?_
    · by_cases a1 : j < n
      · by_cases a2 : j ≤ 400
        · rw [decide_eq_true ⟨a1, a2⟩] at join
          repeat (first | refine T_region ?_ | refine TL_lt_t (hk := ?_) | refine TL_le_t (hk := ?_) | refine TL_nil ?_ | refine TL_move (hk := ?_) | refine TL_load TE (hk := ?_) | refine TL_fieldAddr TE (hk := ?_) | refine TL_len TE (hk := ?_) | refine TL_yes (hk := ?_) | refine TL_pick_t (hk := ?_))
          exact T.sub (join () _ rfl) (.c rfl (.c rfl (.c rfl (.c rfl (.c rfl (.n))))))
        · rw [show decide (j < n ∧ j ≤ 400) = false from decide_eq_false (fun q => a2 q.2)] at join
          repeat (first | refine T_region ?_ | refine TL_lt_t (hk := ?_) | refine TL_le_f (hk := ?_) | refine TL_nil ?_ | refine TL_move (hk := ?_) | refine TL_load TE (hk := ?_) | refine TL_fieldAddr TE (hk := ?_) | refine TL_len TE (hk := ?_) | refine TL_yes (hk := ?_) | refine TL_pick_t (hk := ?_))
          exact T.sub (join () _ rfl) (.c rfl (.c rfl (.c rfl (.c rfl (.c rfl (.n))))))
      · rw [show decide (j < n ∧ j ≤ 400) = false from decide_eq_false (fun q => a1 q.1)] at join
        repeat (first | refine T_region ?_ | refine TL_lt_f (hk := ?_) | refine TL_nil ?_ | refine TL_move (hk := ?_) | refine TL_load TE (hk := ?_) | refine TL_fieldAddr TE (hk := ?_) | refine TL_len TE (hk := ?_) | refine TL_no (hk := ?_) | refine TL_pick_f (hk := ?_))
        exact T.sub (join () _ rfl) (.c rfl (.c rfl (.c rfl (.c rfl (.c rfl (.n))))))
    rintro _ w2 rfl
    by_cases hg : j < n ∧ j ≤ 400
    · rw [decide_eq_true hg]
      obtain ⟨hlt, hlt2⟩ := hg
      have hA : A ≠ none := by obtain ⟨_, _, hq, _⟩ := h1.2 (by omega); rw [hq]; simp
      have hv0 : (rowV dvV l)[j * 4 + 0]? = some (.int .i64 (l.getD j dv0).kd) := rowV_at dvV_len l j 0 dv0 (by omega) (by omega)
      have hv1 : (rowV dvV l)[j * 4 + 1]? = some (.int .i64 (l.getD j dv0).a) := rowV_at dvV_len l j 1 dv0 (by omega) (by omega)
      have hs : ∀ {P : Prop}, ((l.getD j dv0).kd = 10 → (l.getD j dv0).a ≤ 50) → ∀ q, q < j + 1 → (l.getD q dv0).kd = 10 → (l.getD q dv0).a ≤ 50 := fun {P} h q hq => by
        by_cases e : q = j
        · rw [e]; exact h
        · exact hall q (by omega)
      generalize l.getD j dv0 = x at hv0 hv1 hs
      by_cases a1 : x.kd = 10
      · by_cases a2 : 0 < x.a
        · by_cases a3 : 50 < x.a
          · clear ih
            repeat (first | refine T_seq ?_ | refine T_region ?_ | refine T_cond_true rfl ?_ | refine T_block ?_ | refine T_skip ?_ | refine TL_gt_t (hk := ?_) | refine TL_eq_t (hk := ?_) | refine TL_nil ?_ | refine TL_move (hk := ?_) | refine TL_assign (hk := ?_) | refine TL_load TE (hk := ?_) | refine TL_load_rd TE (hk := ?_) | refine TL_fieldAddr TE (hk := ?_) | refine TL_fieldAddr_e TE (hk := ?_) | refine TL_indexAddrn TE (hk := ?_) | refine TL_yes (hk := ?_) | refine TL_pick_t (hk := ?_))
            exact T_ret1 rfl rfl ⟨.inl rfl, e2⟩
          · obtain ⟨y, hy⟩ := Int.eq_ofNat_of_zero_le (show 0 ≤ x.a by omega)
            have hc : (D : Int) + x.a = ((D + y : Nat) : Int) := by omega
            repeat (first | refine T_seq ?_ | refine T_region ?_ | refine T_cond_true rfl ?_ | refine T_cond_false rfl ?_ | refine T_block ?_ | refine T_inBlock ?_ | refine T_skip ?_ | refine TL_add (hk := ?_) | refine TL_gt_t (hk := ?_) | refine TL_gt_f (hk := ?_) | refine TL_eq_t (hk := ?_) | refine TL_nil ?_ | refine TL_move (hk := ?_) | refine TL_assign (hk := ?_) | refine TL_load TE (hk := ?_) | refine TL_load_rd TE (hk := ?_) | refine TL_fieldAddr TE (hk := ?_) | refine TL_fieldAddr_e TE (hk := ?_) | refine TL_indexAddrn TE (hk := ?_) | refine TL_yes (hk := ?_) | refine TL_pick_t (hk := ?_))
            rw [hc]
            --
            exact ih (j + 1, D + y) _ _ (by simp only; omega) ⟨rfl, by simp only; omega, by simp only; omega, by simp only; omega, hs (P := True) (fun _ => by omega)⟩ (.c rfl (.c rfl (.c rfl (.c rfl (.n)))))
        · repeat (first | refine T_seq ?_ | refine T_region ?_ | refine T_cond_true rfl ?_ | refine T_cond_false rfl ?_ | refine T_block ?_ | refine T_inBlock ?_ | refine T_skip ?_ | refine TL_add (hk := ?_) | refine TL_gt_f (hk := ?_) | refine TL_eq_t (hk := ?_) | refine TL_nil ?_ | refine TL_move (hk := ?_) | refine TL_assign (hk := ?_) | refine TL_load TE (hk := ?_) | refine TL_load_rd TE (hk := ?_) | refine TL_fieldAddr TE (hk := ?_) | refine TL_fieldAddr_e TE (hk := ?_) | refine TL_indexAddrn TE (hk := ?_) | refine TL_yes (hk := ?_) | refine TL_pick_t (hk := ?_))
          exact ih (j + 1, D) _ _ (by simp only; omega) ⟨rfl, by simp only; omega, by simp only; omega, by simp only; omega, hs (P := True) (fun _ => by omega)⟩ (.c rfl (.c rfl (.c rfl (.c rfl (.n)))))
      · repeat (first | refine T_seq ?_ | refine T_region ?_ | refine T_cond_true rfl ?_ | refine T_cond_false rfl ?_ | refine T_block ?_ | refine T_inBlock ?_ | refine T_skip ?_ | refine TL_add (hk := ?_) | refine TL_eq_f (hk := ?_) | refine TL_nil ?_ | refine TL_move (hk := ?_) | refine TL_assign (hk := ?_) | refine TL_load TE (hk := ?_) | refine TL_load_rd TE (hk := ?_) | refine TL_fieldAddr TE (hk := ?_) | refine TL_fieldAddr_e TE (hk := ?_) | refine TL_indexAddrn TE (hk := ?_) | refine TL_no (hk := ?_) | refine TL_pick_f (hk := ?_))
        exact ih (j + 1, D) _ _ (by simp only; omega) ⟨rfl, by simp only; omega, by simp only; omega, by simp only; omega, hs (P := True) (fun q => absurd q a1)⟩ (.c rfl (.c rfl (.c rfl (.c rfl (.n)))))
    · rw [decide_eq_false hg]
      clear ih
      by_cases b1 : 400 < n
      · repeat (first | refine T_seq ?_ | refine T_region ?_ | refine T_cond_false rfl ?_ | refine T_exit rfl ?_ | refine TL_gt_t (hk := ?_) | refine TL_nil ?_ | refine TL_move (hk := ?_) | refine TL_assign (hk := ?_) | refine TL_load TE (hk := ?_) | refine TL_fieldAddr TE (hk := ?_) | refine TL_len TE (hk := ?_) | refine TL_no (hk := ?_) | refine TL_pick_t (hk := ?_))
        exact T_ret1 rfl rfl ⟨.inl rfl, e2⟩
      have hres : n ≤ 400 ∧ ∀ x ∈ l, x.kd = 10 → x.a ≤ 50 := ⟨by omega, fun x hx => by
        obtain ⟨q, hq, rfl⟩ := List.mem_iff_getElem.1 hx
        have := hall q (by omega)
        rwa [List.getD_eq_getElem?_getD, List.getElem?_eq_getElem hq] at this⟩
      clear hall hg
      by_cases b2 : 50000 < T0
      · repeat (first | refine T_seq ?_ | refine T_region ?_ | refine T_cond_false rfl ?_ | refine T_exit rfl ?_ | refine TL_gt_t (hk := ?_) | refine TL_gt_f (hk := ?_) | refine TL_nil ?_ | refine TL_move (hk := ?_) | refine TL_assign (hk := ?_) | refine TL_load TE (hk := ?_) | refine TL_fieldAddr TE (hk := ?_) | refine TL_len TE (hk := ?_) | refine TL_yes (hk := ?_) | refine TL_no (hk := ?_) | refine TL_pick_t (hk := ?_) | refine TL_pick_f (hk := ?_))
        exact T_ret1 rfl rfl ⟨.inl rfl, e2⟩
      by_cases b3 : 300 < D
      · repeat (first | refine T_seq ?_ | refine T_region ?_ | refine T_cond_false rfl ?_ | refine T_exit rfl ?_ | refine TL_gt_t (hk := ?_) | refine TL_gt_f (hk := ?_) | refine TL_nil ?_ | refine TL_move (hk := ?_) | refine TL_assign (hk := ?_) | refine TL_load TE (hk := ?_) | refine TL_fieldAddr TE (hk := ?_) | refine TL_len TE (hk := ?_) | refine TL_yes (hk := ?_) | refine TL_no (hk := ?_) | refine TL_pick_t (hk := ?_) | refine TL_pick_f (hk := ?_))
        exact T_ret1 rfl rfl ⟨.inl rfl, e2⟩
      by_cases b4 : 50 < P
      · by_cases b5 : P ≤ 1000
        · repeat (first | refine T_seq ?_ | refine T_region ?_ | refine T_cond_false rfl ?_ | refine T_exit rfl ?_ | refine TL_le_t (hk := ?_) | refine TL_gt_t (hk := ?_) | refine TL_gt_f (hk := ?_) | refine TL_nil ?_ | refine TL_move (hk := ?_) | refine TL_assign (hk := ?_) | refine TL_load TE (hk := ?_) | refine TL_fieldAddr TE (hk := ?_) | refine TL_len TE (hk := ?_) | refine TL_yes (hk := ?_) | refine TL_pick_t (hk := ?_) | refine TL_pick_f (hk := ?_))
          exact T_ret1 rfl rfl ⟨.inl rfl, e2⟩
        · repeat (first | refine T_seq ?_ | refine T_region ?_ | refine T_cond_false rfl ?_ | refine T_exit rfl ?_ | refine TL_le_f (hk := ?_) | refine TL_gt_t (hk := ?_) | refine TL_gt_f (hk := ?_) | refine TL_nil ?_ | refine TL_move (hk := ?_) | refine TL_assign (hk := ?_) | refine TL_load TE (hk := ?_) | refine TL_fieldAddr TE (hk := ?_) | refine TL_len TE (hk := ?_) | refine TL_yes (hk := ?_) | refine TL_pick_t (hk := ?_) | refine TL_pick_f (hk := ?_))
          exact T_ret1 rfl rfl ⟨.inr ⟨rfl, hres⟩, e2⟩
      · repeat (first | refine T_seq ?_ | refine T_region ?_ | refine T_cond_false rfl ?_ | refine T_exit rfl ?_ | refine TL_gt_f (hk := ?_) | refine TL_nil ?_ | refine TL_move (hk := ?_) | refine TL_assign (hk := ?_) | refine TL_load TE (hk := ?_) | refine TL_fieldAddr TE (hk := ?_) | refine TL_len TE (hk := ?_) | refine TL_yes (hk := ?_) | refine TL_no (hk := ?_) | refine TL_pick_f (hk := ?_))
        exact T_ret1 rfl rfl ⟨.inr ⟨rfl, hres⟩, e2⟩
end Go.Proofs.Ytjjgojgahibpgaa

namespace Go.Proofs.Ytjjgojgahibpgaa
open Go.RowKit Go.Proofs.Eng Go.Proofs.Codec Go.Proofs.Link
set_option linter.unusedSimpArgs false
set_option linter.unusedVariables false set_option maxRecDepth 10000
attribute [local irreducible] T TL LV TH TA
set_option maxHeartbeats 3200000
/-! A message over a net. -/
def y0 : NS := nsN 3 2 1
def y1 : NS := (sendX y0 0 2 [120]).1
def y2 : NS := (letX y1 0).1
def y3 : NS := (delX y2 0).1
def y4 : NS := (nextX y3 2).1
def y5 : NS := (drainX y4 9).1
theorem y_a : (sendX y0 0 2 [120]).2 = 0 := by decide +kernel
theorem y_b : (letX y1 0).2 = 1 := by decide +kernel
theorem y_c : (delX y2 0).2 = 0 := by decide +kernel
theorem y_d : (nextX y3 2).2 = some (0, [120]) := by decide +kernel
theorem y_e (b : Bs) : sendX y4 0 0 b = (y4, 2) := by
  unfold sendX
  rw [if_neg (by unfold twoN; simp)]
theorem y_f : restN y4 = 1 := by decide +kernel
theorem y_g : (drainX y4 9).2 = 1 := by decide +kernel
theorem y_h : restN y5 = 0 := by decide +kernel
theorem y_n : y1.N = 3 ∧ y2.N = 3 ∧ y3.N = 3 ∧ y4.N = 3 ∧ y5.N = 3 := by decide +kernel
theorem y_i : NJ 1 y1 ∧ NJ 1 y2 ∧ NJ 1 y3 ∧ NJ 1 y4 := by
  have i0 : NI 0 y0 (fun _ _ => []) (fun _ _ => 0) := NI.start (N := 3) (W := 2) (P := 1) (by decide) (by decide) (by decide)
  obtain ⟨L1, i1⟩ := i0.sendX (by decide) 0 2 [120]
  have i2 := i1.letX 0
  have i3 := (i2.delX 0).1
  obtain ⟨T4, i4⟩ := i3.nextX 2
  exact ⟨⟨_, _, i1⟩, ⟨_, _, i2⟩, ⟨_, _, i3⟩, ⟨_, _, i4⟩⟩
section
variable {base p : Nat} {M : NM} {F : Nat → Nat → Nat → Nat} {h : Nat → Nat} {ns : NS} {k : Nat} {L : LL} {U : Nat → Nat → Nat}
theorem NSendX_c (a c : Int) (B : Option Addr) (n cc : Nat) (l : Bs) (w : World) (g : NetG LayP ns.N w base p M F h ns) (hI : NI k ns L U) (hr : Rd w B n 1 (bv l)) (hn : n ≤ 70368744177664) :
    Ret Try.prog 46 [ptr p, .int .i64 a, .int .i64 c, .slice B n cc] w (fun v w' => v = .int .i64 ((sendX ns a c l).2 : Int) ∧ ∃ F' h', NetG LayP ns.N w' base p M F' h' (sendX ns a c l).1 ∧ Tn h h' w w') :=
  (NSend_c a c B n cc l w g hI hr hn).mono fun v w' q => by
    unfold sendX
    rcases q with ⟨h1, rfl, rfl⟩ | ⟨x, y, rfl, rfl, hx, hy, hxy, rfl, F', h', g', t'⟩
    · rw [if_neg (by rw [h1]; decide)]
      exact ⟨rfl, F, h, g, Tn.refl _ _⟩
    · rw [if_pos (twoN_t hx hy hxy)]
      simp only [Int.toNat_natCast]
      exact ⟨by simp, F', h', g', t'⟩
end
/-- A net of its own behind some world. -/
def OwN (Y : Lay) (w0 w : World) (p : Nat) (ns : NS) : Prop := ∃ base M F h, NetG Y ns.N w base p M F h ns ∧ w0.heap.size ≤ base ∧ Ext w0 w
theorem OwN.turn {Y : Lay} {w0 w w' : World} {p N base : Nat} {h h' : Nat → Nat} {M' : NM} {F' : Nat → Nat → Nat → Nat} {ns' : NS} (e : Ext w0 w) (ho : ∀ b, h b ≠ 0 → w0.heap.size ≤ b) (hb : w0.heap.size ≤ base) (g : NetG Y N w' base p M' F' h' ns') (hN : ns'.N = N) (t : Tn h h' w w') : OwN Y w0 w' p ns' :=
  ⟨base, M', F', h', by rw [hN]; exact g, hb, t.ext0 e ho⟩
theorem net_c26 (w : World) : Ret Try.prog 57 [] w (fun v w' => v = .bool true ∧ Ext w w') := by
  obtain ⟨n1, n2, n3, n4, n5⟩ := y_n
  obtain ⟨⟨L1, T1, i1⟩, ⟨L2, T2, i2⟩, ⟨L3, T3, i3⟩, ⟨L4, T4, i4⟩⟩ := y_i
  have i0 : NI 0 y0 (fun _ _ => []) (fun _ _ => 0) := NI.start (N := 3) (W := 2) (P := 1) (by decide) (by decide) (by decide)
  refine ret_T (n := 81) Try.func57 rfl rfl ?_
  repeat (first | refine T_seq ?_ | refine T_region ?_ | refine TL_nil ?_ | refine TL_assign (hk := ?_))
  refine TL_call TE (hc := NNewNet_c 3 2 1 _ (by omega) (by omega) (by omega)) (hk := ?_)
  rintro _ w1 ⟨e1, ⟨hf, -⟩ | ⟨n, W', P', hn, hW, hP, -, -, -, -, -, p, M, F, h, rfl, g⟩⟩
  · exact absurd hf (by decide)
  obtain rfl : n = 3 := by omega
  obtain rfl : W' = 2 := by omega
  obtain rfl : P' = 1 := by omega
  replace g : NetG LayP y0.N w1 w.heap.size p M F h y0 := g
  obtain ⟨_, M, F, h, g, hb, -⟩ : OwN LayP w w1 p y0 := ⟨_, M, F, h, g, Nat.le_refl _, e1⟩
  have ho : ∀ b, h b ≠ 0 → w.heap.size ≤ b := fun b q => by have := (g.old b q).1; omega
  repeat (first | refine T_seq ?_ | refine T_region ?_ | refine TL_nil ?_ | refine TL_move (hk := ?_) | refine TL_assign (hk := ?_) | refine TL_extract (hk := ?_))
  refine TL_call TE (hc := num_c26 _ _) (hk := ?_)
  rintro _ w1 ⟨rfl, rfl⟩
  repeat (first | refine T_seq ?_ | refine T_region ?_ | refine T_cond_false rfl ?_ | refine T_skip ?_ | refine TL_ne_f (hk := ?_) | refine TL_pnil_f TE (hk := ?_) | refine TL_nil ?_ | refine TL_move (hk := ?_) | refine TL_yes (hk := ?_) | refine TL_pick_f (hk := ?_))
  refine TL_buildSlice TE (hk := ?_); intro b2 w2 e2 p2 p2' k2
  replace k2 : Blk w2 b2 5 (bv [120]) := k2
  --
  refine TL_conv_ss TE (hk := ?_); intro w2 m2 z2 r2
  have e2' := Mod.step e2 m2 (by simp; omega)
  have g2 := g.ext e2'
  have E2 := e1.ext e2'
  --
  refine TL_call TE (hc := NSendX_c 0 2 _ 1 1 [120] _ g2 i0 r2 (by omega)) (hk := ?_)
  rintro _ w3 ⟨rfl, F3, h3, g3, t3⟩
  obtain ⟨_, M, F, h, g, hb, E3⟩ : OwN LayP w w3 p y1 := OwN.turn E2 ho hb g3 n1 t3
  have ho : ∀ b, h b ≠ 0 → w.heap.size ≤ b := fun b q => by have := (g.old b q).1; omega
  rw [y_a]
  clear g2 g3 t3 r2 k2 e1 e2 e2' m2 E2
  repeat (first | refine T_seq ?_ | refine T_region ?_ | refine TL_nil ?_ | refine TL_move (hk := ?_) | refine TL_assign (hk := ?_))
  refine TL_call TE (hc := NLet_c 0 _ g i1) (hk := ?_)
  rintro _ w4 ⟨rfl, M4, F4, h4, g4, t4⟩
  obtain ⟨_, M, F, h, g, hb, E4⟩ : OwN LayP w w4 p y2 := OwN.turn E3 ho hb g4 (n2.trans n1.symm) t4
  have ho : ∀ b, h b ≠ 0 → w.heap.size ≤ b := fun b q => by have := (g.old b q).1; omega
  rw [y_b]
  clear g4 t4 E3
  repeat (first | refine T_seq ?_ | refine T_region ?_ | refine TL_nil ?_ | refine TL_move (hk := ?_) | refine TL_assign (hk := ?_))
  refine TL_call TE (hc := NDeliver_c 0 _ g i2) (hk := ?_)
  rintro _ w5 ⟨rfl, M5, F5, h5, g5, t5⟩
  obtain ⟨bb, M, F, h, g, hb, E5⟩ : OwN LayP w w5 p y3 := OwN.turn E4 ho hb g5 (n3.trans n2.symm) t5
  have ho : ∀ b, h b ≠ 0 → w.heap.size ≤ b := fun b q => by have := (g.old b q).1; omega
  rw [y_c]
  clear g5 t5 E4
  have hnx := NNext_c 2 _ g i3
  have hpr : nextX y3 2 = (y4, some (0, [120])) := by rw [← y_d]; rfl
  rw [hpr] at hnx
  repeat (first | refine T_seq ?_ | refine T_region ?_ | refine TL_nil ?_ | refine TL_move (hk := ?_) | refine TL_assign (hk := ?_))
  refine TL_call TE (hc := hnx) (hk := ?_)
  rintro _ w6 ⟨x, F6, h6, rfl, g6, t6, hx, hz⟩
  have E6 : Ext w w6 := t6.ext0 E5 ho
  replace g6 : NetG LayP y4.N w6 bb p M F6 h6 y4 := by rw [n4, ← n3]; exact g6
  have ho' : ∀ b, h6 b ≠ 0 → w.heap.size ≤ b := fun b q => by have := (g6.old b q).1; omega
  have rx := hx.rd
  have hxl := hx.len
  clear t6 E5 hnx g
  repeat (first | refine T_seq ?_ | refine T_region ?_ | refine TL_nil ?_ | refine TL_move (hk := ?_) | refine TL_assign (hk := ?_) | refine TL_extract (hk := ?_))
  refine TL_call TE (hc := NSendX_c 0 0 none 0 0 [] _ g6 i4 (Rd.nil _ _ _) (by omega)) (hk := ?_)
  rintro _ w7 ⟨rfl, F7, h7, g7, t7⟩
  rw [y_e] at g7
  rw [y_e]
  have rx7 := (hx.tn t7 (fun u hu => (hz u hu).1)).1.rd
  obtain ⟨_, M, F, h, g, hb, E7⟩ : OwN LayP w w7 p y4 := OwN.turn E6 ho' hb g7 rfl t7
  have ho : ∀ b, h b ≠ 0 → w.heap.size ≤ b := fun b q => by have := (g.old b q).1; omega
  clear g7 t7 E6 ho' rx hx hz
  repeat (first | refine T_seq ?_ | refine T_region ?_ | refine TL_nil ?_ | refine TL_move (hk := ?_) | refine TL_assign (hk := ?_))
  refine TL_call TE (hc := num_c26 _ _) (hk := ?_)
  rintro _ w7 ⟨rfl, rfl⟩
  repeat (first | refine TL_eq_t (hk := ?_) | refine TL_move (hk := ?_) | refine TL_yes (hk := ?_) | refine TL_pick_t (hk := ?_))
  refine TL_call TE (hc := num_c26 _ _) (hk := ?_)
  rintro _ w7 ⟨rfl, rfl⟩
  repeat (first | refine TL_eq_t (hk := ?_) | refine TL_seq_t (hk := ?_) | refine TL_move (hk := ?_) | refine TL_yes (hk := ?_) | refine TL_pick_t (hk := ?_) | refine TL_conv_bs TE (hk := ?_))
  refine TL_call TE (hc := num_c26 _ _) (hk := ?_)
  rintro _ w7 ⟨rfl, rfl⟩
  repeat (first | refine TL_eq_t (hk := ?_) | refine TL_move (hk := ?_) | refine TL_yes (hk := ?_) | refine TL_pick_t (hk := ?_))
  refine TL_call TE (hc := NRest_c _ g i4) (hk := ?_)
  rintro _ w7 ⟨rfl, rfl⟩
  rw [y_f]
  repeat (first | refine TL_eq_t (hk := ?_) | refine TL_move (hk := ?_) | refine TL_yes (hk := ?_) | refine TL_pick_t (hk := ?_))
  refine TL_call TE (hc := NDrain_c 9 _ (by omega) g i4) (hk := ?_)
  rintro _ w8 ⟨rfl, M8, F8, h8, g8, t8⟩
  obtain ⟨_, M, F, h, g, hb, E8⟩ : OwN LayP w w8 p y5 := OwN.turn E7 ho hb g8 (n5.trans n4.symm) t8
  rw [y_g]
  have i5 : NI 1 y5 L4 T4 := NI.drain 9 i4
  clear g8 t8 E7 rx7
  repeat (first | refine TL_eq_t (hk := ?_) | refine TL_move (hk := ?_) | refine TL_yes (hk := ?_) | refine TL_pick_t (hk := ?_))
  refine TL_call TE (hc := NRest_c _ g i5) (hk := ?_)
  rintro _ w8 ⟨rfl, rfl⟩
  rw [y_h]
  repeat (first | refine TL_eq_t (hk := ?_) | refine TL_nil ?_ | refine TL_assign (hk := ?_) | refine TL_yes (hk := ?_) | refine TL_pick_t (hk := ?_))
  exact T_ret1 rfl rfl ⟨rfl, E8⟩
end Go.Proofs.Ytjjgojgahibpgaa

namespace Go.Proofs.Ytjjgojgahibpgaa
open Go.RowKit Go.Proofs.Eng Go.Proofs.Codec Go.Proofs.Link
set_option linter.unusedSimpArgs false
set_option linter.unusedVariables false set_option maxRecDepth 10000
attribute [local irreducible] T TL LV TH TA
set_option maxHeartbeats 3200000
theorem packets_c26 (O Q : SV) (ys zs : List (PK × SV)) (w : World) (hO : Rd w O.1 O.2.1 3 (rowV pkV ys)) (hQ : Rd w Q.1 Q.2.1 3 (rowV pkV zs)) (hx : ∀ x ∈ ys, Rd w x.2.1 x.2.2.1 1 (bv x.1.b)) (hz : ∀ x ∈ zs, Rd w x.2.1 x.2.2.1 1 (bv x.1.b)) (he : ys.map (·.1) = zs.map (·.1)) (hn : ys.length ≤ 1000000) :
    Ret Try.prog 62 [slV O, slV Q] w (fun v w' => v = .bool true ∧ Ext w w') := by
  have hl1 : O.2.1 = ys.length := by have := hO.1; rw [rowV_len pkV_len] at this; omega
  have hl2 : Q.2.1 = zs.length := by have := hQ.1; rw [rowV_len pkV_len] at this; omega
  have hl := congrArg List.length he
  rw [List.length_map, List.length_map] at hl
  refine ret_T (n := 55) Try.func62 rfl rfl ?_
  repeat (first | refine T_seq ?_ | refine T_region ?_ | refine T_cond_false rfl ?_ | refine T_block ?_ | refine T_skip ?_ | refine TL_ne_f (hk := ?_) | refine TL_nil ?_ | refine TL_move (hk := ?_) | refine TL_assign (hk := ?_) | refine TL_len TE (hk := ?_))
  refine T_loop (ι := Nat) (fun i => [(5, .int .i64 (i : Int)), (0, slV O), (1, slV Q)]) (fun i w' => i ≤ ys.length ∧ Ext w w') (fun i => ys.length - i) 0 (.c rfl (.c rfl (.c rfl (.n)))) ⟨Nat.zero_le _, Mod.refl _ _⟩ ?_
  rintro i w1 ⟨hi, e1⟩ ih
  by_cases hlt : i < ys.length
  · have r1 := hO.be e1
    have r2 := hQ.be e1
    have hv0 : (rowV pkV ys)[i * 3 + 0]? = some (.int .i64 ((ys.getD i pk0).1.fr : Int)) := rowV_at pkV_len ys i 0 pk0 hlt (by omega)
    have hv1 : (rowV pkV ys)[i * 3 + 1]? = some (.int .i64 ((ys.getD i pk0).1.to : Int)) := rowV_at pkV_len ys i 1 pk0 hlt (by omega)
    have hv2 : (rowV pkV ys)[i * 3 + 2]? = some (slV (ys.getD i pk0).2) := rowV_at pkV_len ys i 2 pk0 hlt (by omega)
    have hu0 : (rowV pkV zs)[i * 3 + 0]? = some (.int .i64 ((zs.getD i pk0).1.fr : Int)) := rowV_at pkV_len zs i 0 pk0 (by omega) (by omega)
    have hu1 : (rowV pkV zs)[i * 3 + 1]? = some (.int .i64 ((zs.getD i pk0).1.to : Int)) := rowV_at pkV_len zs i 1 pk0 (by omega) (by omega)
    have hu2 : (rowV pkV zs)[i * 3 + 2]? = some (slV (zs.getD i pk0).2) := rowV_at pkV_len zs i 2 pk0 (by omega) (by omega)
    have hx1 := (hx _ (getMem (d := pk0) hlt)).be e1
    have hz1 := (hz _ (getMem (d := pk0) (show i < zs.length by omega))).be e1
    have heq : (ys.getD i pk0).1 = (zs.getD i pk0).1 := by
      have h3 := congrArg (fun l => l[i]?) he
      simp only [List.getElem?_map] at h3
      rw [List.getD_eq_getElem?_getD, List.getD_eq_getElem?_getD]
      rw [List.getElem?_eq_getElem hlt, List.getElem?_eq_getElem (show i < zs.length by omega)] at h3 ⊢
      simpa using h3
    generalize ys.getD i pk0 = y at hv0 hv1 hv2 hx1 heq
    generalize zs.getD i pk0 = z at hu0 hu1 hu2 hz1 heq
    obtain ⟨yp, ys'⟩ := y
    obtain ⟨zp, zs'⟩ := z
    simp only at heq hv0 hv1 hv2 hu0 hu1 hu2 hx1 hz1
    subst heq
    have hA1 : O.1 ≠ none := by obtain ⟨_, _, hq, _⟩ := r1.2 (by omega); rw [hq]; simp
    have hA2 : Q.1 ≠ none := by obtain ⟨_, _, hq, _⟩ := r2.2 (by omega); rw [hq]; simp
    have o1 : Off O.1 [] := Off.nil _
    have o2 : Off Q.1 [] := Off.nil _
    repeat (first | refine T_seq ?_ | refine T_region ?_ | refine T_cond_true rfl ?_ | refine T_block ?_ | refine T_skip ?_ | refine TL_lt_t (hk := ?_) | refine TL_nil ?_ | refine TL_move (hk := ?_) | refine TL_len TE (hk := ?_))
    refine T_region_any TE.mixed [] ?_; intro w2 e2 z2
    have r1 := r1.be e2
    have r2 := r2.be e2
    have hx2 := hx1.be e2
    have hz2 := hz1.be e2
    (refine TA_take 0 rfl (by kernel_rfl) (by kernel_rfl) (by kernel_rfl) ?_; (repeat (first | refine TL_ne_f (hk := ?_) | refine TL_move (hk := ?_) | refine TLP_load_rd TE (hk := ?_) | refine TL_fieldAddr_e TE (hk := ?_) | refine TL_indexAddrn TE (hk := ?_) | refine TL_yes (hk := ?_) | refine TL_pick_f (hk := ?_))); refine TL_nil_p ?_); (refine TA_take 1 rfl (by kernel_rfl) (by kernel_rfl) (by kernel_rfl) ?_; (repeat (first | refine TL_ne_f (hk := ?_) | refine TL_move (hk := ?_) | refine TLP_load_rd TE (hk := ?_) | refine TL_fieldAddr_e TE (hk := ?_) | refine TL_indexAddrn TE (hk := ?_) | refine TL_yes (hk := ?_) | refine TL_pick_f (hk := ?_))); refine TL_nil_p ?_); (refine TA_take 2 rfl (by kernel_rfl) (by kernel_rfl) (by kernel_rfl) ?_; (repeat (first | refine TL_ne_f (hk := ?_) | refine TL_move (hk := ?_) | refine TLP_load_rd TE (hk := ?_) | refine TL_fieldAddr_e TE (hk := ?_) | refine TL_indexAddrn TE (hk := ?_) | refine TL_yes (hk := ?_) | refine TL_pick_f (hk := ?_))); refine TL_nil_p ?_); (refine TA_take 3 rfl (by kernel_rfl) (by kernel_rfl) (by kernel_rfl) ?_; (repeat (first | refine TL_ne_f (hk := ?_) | refine TL_move (hk := ?_) | refine TLP_load_rd TE (hk := ?_) | refine TL_fieldAddr_e TE (hk := ?_) | refine TL_indexAddrn TE (hk := ?_) | refine TL_yes (hk := ?_) | refine TL_pick_f (hk := ?_))); refine TL_nil_p ?_); (refine TA_take 4 rfl (by kernel_rfl) (by kernel_rfl) (by kernel_rfl) ?_; (repeat (first | refine TL_ne_f (hk := ?_) | refine TL_move (hk := ?_) | refine TLP_load_rd TE (hk := ?_) | refine TL_fieldAddr_e TE (hk := ?_) | refine TL_indexAddrn TE (hk := ?_) | refine TL_yes (hk := ?_) | refine TL_pick_f (hk := ?_))); refine TL_nil_p ?_); (refine TA_take 5 rfl (by kernel_rfl) (by kernel_rfl) (by kernel_rfl) ?_; (repeat (first | refine TL_ne_f (hk := ?_) | refine TL_move (hk := ?_) | refine TLP_load_rd TE (hk := ?_) | refine TL_fieldAddr_e TE (hk := ?_) | refine TL_indexAddrn TE (hk := ?_) | refine TL_yes (hk := ?_) | refine TL_pick_f (hk := ?_))); refine TL_nil_p ?_); (refine TA_take 6 rfl (by kernel_rfl) (by kernel_rfl) (by kernel_rfl) ?_; (repeat (first | refine TL_ne_f (hk := ?_) | refine TL_move (hk := ?_) | refine TLP_load_rd TE (hk := ?_) | refine TL_fieldAddr_e TE (hk := ?_) | refine TL_indexAddrn TE (hk := ?_) | refine TL_yes (hk := ?_) | refine TL_pick_f (hk := ?_))); refine TL_nil_p ?_); (refine TA_take 7 rfl (by kernel_rfl) (by kernel_rfl) (by kernel_rfl) ?_; (repeat (first | refine TL_ne_f (hk := ?_) | refine TL_move (hk := ?_) | refine TLP_load_rd TE (hk := ?_) | refine TL_fieldAddr_e TE (hk := ?_) | refine TL_indexAddrn TE (hk := ?_) | refine TL_yes (hk := ?_) | refine TL_pick_f (hk := ?_))); refine TL_nil_p ?_); (refine TA_take 8 rfl (by kernel_rfl) (by kernel_rfl) (by kernel_rfl) ?_; (repeat (first | refine TL_ne_f (hk := ?_) | refine TL_move (hk := ?_) | refine TLP_load_rd TE (hk := ?_) | refine TL_fieldAddr_e TE (hk := ?_) | refine TL_indexAddrn TE (hk := ?_) | refine TL_yes (hk := ?_) | refine TL_pick_f (hk := ?_))); refine TL_nil_p ?_); (refine TA_take 9 rfl (by kernel_rfl) (by kernel_rfl) (by kernel_rfl) ?_; (repeat (first | refine TL_ne_f (hk := ?_) | refine TL_move (hk := ?_) | refine TLP_load_rd TE (hk := ?_) | refine TL_fieldAddr_e TE (hk := ?_) | refine TL_indexAddrn TE (hk := ?_) | refine TL_yes (hk := ?_) | refine TL_pick_f (hk := ?_))); refine TL_nil_p ?_); (refine TA_take 10 rfl (by kernel_rfl) (by kernel_rfl) (by kernel_rfl) ?_; (repeat (first | refine TL_ne_f (hk := ?_) | refine TL_move (hk := ?_) | refine TLP_load_rd TE (hk := ?_) | refine TL_fieldAddr_e TE (hk := ?_) | refine TL_indexAddrn TE (hk := ?_) | refine TL_yes (hk := ?_) | refine TL_pick_f (hk := ?_))); refine TL_nil_p ?_); (refine TA_take 11 rfl (by kernel_rfl) (by kernel_rfl) (by kernel_rfl) ?_; (repeat (first | refine TL_ne_f (hk := ?_) | refine TL_move (hk := ?_) | refine TLP_load_rd TE (hk := ?_) | refine TL_fieldAddr_e TE (hk := ?_) | refine TL_indexAddrn TE (hk := ?_) | refine TL_yes (hk := ?_) | refine TL_pick_f (hk := ?_))); refine TL_nil_p ?_); (refine TA_take 12 rfl (by kernel_rfl) (by kernel_rfl) (by kernel_rfl) ?_; (repeat (first | refine TL_ne_f (hk := ?_) | refine TL_move (hk := ?_) | refine TLP_load_rd TE (hk := ?_) | refine TL_fieldAddr_e TE (hk := ?_) | refine TL_indexAddrn TE (hk := ?_) | refine TL_yes (hk := ?_) | refine TL_pick_f (hk := ?_))); refine TL_nil_p ?_); (refine TA_take 13 rfl (by kernel_rfl) (by kernel_rfl) (by kernel_rfl) ?_; (repeat (first | refine TL_ne_f (hk := ?_) | refine TL_move (hk := ?_) | refine TLP_load_rd TE (hk := ?_) | refine TL_fieldAddr_e TE (hk := ?_) | refine TL_indexAddrn TE (hk := ?_) | refine TL_yes (hk := ?_) | refine TL_pick_f (hk := ?_))); refine TL_nil_p ?_); (refine TA_take 14 rfl (by kernel_rfl) (by kernel_rfl) (by kernel_rfl) ?_; (repeat (first | refine TL_ne_f (hk := ?_) | refine TL_move (hk := ?_) | refine TLP_load_rd TE (hk := ?_) | refine TL_fieldAddr_e TE (hk := ?_) | refine TL_indexAddrn TE (hk := ?_) | refine TL_yes (hk := ?_) | refine TL_pick_f (hk := ?_))); refine TL_nil_p ?_); (refine TA_take 15 rfl (by kernel_rfl) (by kernel_rfl) (by kernel_rfl) ?_; (repeat (first | refine TL_ne_f (hk := ?_) | refine TL_move (hk := ?_) | refine TLP_load_rd TE (hk := ?_) | refine TL_fieldAddr_e TE (hk := ?_) | refine TL_indexAddrn TE (hk := ?_) | refine TL_yes (hk := ?_) | refine TL_pick_f (hk := ?_))); refine TL_nil_p ?_); (refine TA_take 16 rfl (by kernel_rfl) (by kernel_rfl) (by kernel_rfl) ?_; (repeat (first | refine TL_ne_f (hk := ?_) | refine TL_move (hk := ?_) | refine TLP_load_rd TE (hk := ?_) | refine TL_fieldAddr_e TE (hk := ?_) | refine TL_indexAddrn TE (hk := ?_) | refine TL_yes (hk := ?_) | refine TL_pick_f (hk := ?_))); refine TL_nil_p ?_); (refine TA_take 17 rfl (by kernel_rfl) (by kernel_rfl) (by kernel_rfl) ?_; (repeat (first | refine TL_ne_f (hk := ?_) | refine TL_move (hk := ?_) | refine TLP_load_rd TE (hk := ?_) | refine TL_fieldAddr_e TE (hk := ?_) | refine TL_indexAddrn TE (hk := ?_) | refine TL_yes (hk := ?_) | refine TL_pick_f (hk := ?_))); refine TL_nil_p ?_); (refine TA_take 18 rfl (by kernel_rfl) (by kernel_rfl) (by kernel_rfl) ?_; (repeat (first | refine TL_ne_f (hk := ?_) | refine TL_move (hk := ?_) | refine TLP_load_rd TE (hk := ?_) | refine TL_fieldAddr_e TE (hk := ?_) | refine TL_indexAddrn TE (hk := ?_) | refine TL_yes (hk := ?_) | refine TL_pick_f (hk := ?_))); refine TL_nil_p ?_); (refine TA_take 19 rfl (by kernel_rfl) (by kernel_rfl) (by kernel_rfl) ?_; (repeat (first | refine TL_ne_f (hk := ?_) | refine TL_move (hk := ?_) | refine TLP_load_rd TE (hk := ?_) | refine TL_fieldAddr_e TE (hk := ?_) | refine TL_indexAddrn TE (hk := ?_) | refine TL_yes (hk := ?_) | refine TL_pick_f (hk := ?_))); refine TL_nil_p ?_); (refine TA_take 20 rfl (by kernel_rfl) (by kernel_rfl) (by kernel_rfl) ?_; (repeat (first | refine TL_ne_f (hk := ?_) | refine TL_move (hk := ?_) | refine TLP_load_rd TE (hk := ?_) | refine TL_fieldAddr_e TE (hk := ?_) | refine TL_indexAddrn TE (hk := ?_) | refine TL_yes (hk := ?_) | refine TL_pick_f (hk := ?_))); refine TL_nil_p ?_); (refine TA_take 21 rfl (by kernel_rfl) (by kernel_rfl) (by kernel_rfl) ?_; (repeat (first | refine TL_ne_f (hk := ?_) | refine TL_move (hk := ?_) | refine TLP_load_rd TE (hk := ?_) | refine TL_fieldAddr_e TE (hk := ?_) | refine TL_indexAddrn TE (hk := ?_) | refine TL_yes (hk := ?_) | refine TL_pick_f (hk := ?_))); refine TL_nil_p ?_); (refine TA_take 22 rfl (by kernel_rfl) (by kernel_rfl) (by kernel_rfl) ?_; (repeat (first | refine TL_ne_f (hk := ?_) | refine TL_move (hk := ?_) | refine TLP_load_rd TE (hk := ?_) | refine TL_fieldAddr_e TE (hk := ?_) | refine TL_indexAddrn TE (hk := ?_) | refine TL_yes (hk := ?_) | refine TL_pick_f (hk := ?_))); refine TL_nil_p ?_); (refine TA_take 23 rfl (by kernel_rfl) (by kernel_rfl) (by kernel_rfl) ?_; (repeat (first | refine TL_ne_f (hk := ?_) | refine TL_move (hk := ?_) | refine TLP_load_rd TE (hk := ?_) | refine TL_fieldAddr_e TE (hk := ?_) | refine TL_indexAddrn TE (hk := ?_) | refine TL_yes (hk := ?_) | refine TL_pick_f (hk := ?_))); refine TL_nil_p ?_); (refine TA_take 24 rfl (by kernel_rfl) (by kernel_rfl) (by kernel_rfl) ?_; (repeat (first | refine TL_ne_f (hk := ?_) | refine TL_move (hk := ?_) | refine TLP_load_rd TE (hk := ?_) | refine TL_fieldAddr_e TE (hk := ?_) | refine TL_indexAddrn TE (hk := ?_) | refine TL_yes (hk := ?_) | refine TL_pick_f (hk := ?_))); refine TL_nil_p ?_); (refine TA_take 25 rfl (by kernel_rfl) (by kernel_rfl) (by kernel_rfl) ?_; (repeat (first | refine TL_ne_f (hk := ?_) | refine TL_move (hk := ?_) | refine TLP_load_rd TE (hk := ?_) | refine TL_fieldAddr_e TE (hk := ?_) | refine TL_indexAddrn TE (hk := ?_) | refine TL_yes (hk := ?_) | refine TL_pick_f (hk := ?_))); refine TL_nil_p ?_); (refine TA_take 26 rfl (by kernel_rfl) (by kernel_rfl) (by kernel_rfl) ?_; (repeat (first | refine TL_ne_f (hk := ?_) | refine TL_move (hk := ?_) | refine TLP_load_rd TE (hk := ?_) | refine TL_fieldAddr_e TE (hk := ?_) | refine TL_indexAddrn TE (hk := ?_) | refine TL_yes (hk := ?_) | refine TL_pick_f (hk := ?_))); refine TL_nil_p ?_); (refine TA_take 27 rfl (by kernel_rfl) (by kernel_rfl) (by kernel_rfl) ?_; (repeat (first | refine TL_ne_f (hk := ?_) | refine TL_move (hk := ?_) | refine TLP_load_rd TE (hk := ?_) | refine TL_fieldAddr_e TE (hk := ?_) | refine TL_indexAddrn TE (hk := ?_) | refine TL_yes (hk := ?_) | refine TL_pick_f (hk := ?_))); refine TL_nil_p ?_); (refine TA_take 28 rfl (by kernel_rfl) (by kernel_rfl) (by kernel_rfl) ?_; (repeat (first | refine TL_ne_f (hk := ?_) | refine TL_move (hk := ?_) | refine TLP_load_rd TE (hk := ?_) | refine TL_fieldAddr_e TE (hk := ?_) | refine TL_indexAddrn TE (hk := ?_) | refine TL_yes (hk := ?_) | refine TL_pick_f (hk := ?_))); refine TL_nil_p ?_); (refine TA_take 29 rfl (by kernel_rfl) (by kernel_rfl) (by kernel_rfl) ?_; (repeat (first | refine TL_ne_f (hk := ?_) | refine TL_move (hk := ?_) | refine TLP_load_rd TE (hk := ?_) | refine TL_fieldAddr_e TE (hk := ?_) | refine TL_indexAddrn TE (hk := ?_) | refine TL_yes (hk := ?_) | refine TL_pick_f (hk := ?_))); refine TL_nil_p ?_); (refine TA_take 30 rfl (by kernel_rfl) (by kernel_rfl) (by kernel_rfl) ?_; (repeat (first | refine TL_ne_f (hk := ?_) | refine TL_move (hk := ?_) | refine TLP_load_rd TE (hk := ?_) | refine TL_fieldAddr_e TE (hk := ?_) | refine TL_indexAddrn TE (hk := ?_) | refine TL_yes (hk := ?_) | refine TL_pick_f (hk := ?_))); refine TL_nil_p ?_); (refine TA_take 31 rfl (by kernel_rfl) (by kernel_rfl) (by kernel_rfl) ?_; (repeat (first | refine TL_ne_f (hk := ?_) | refine TL_move (hk := ?_) | refine TLP_load_rd TE (hk := ?_) | refine TL_fieldAddr_e TE (hk := ?_) | refine TL_indexAddrn TE (hk := ?_) | refine TL_yes (hk := ?_) | refine TL_pick_f (hk := ?_))); refine TL_nil_p ?_); (refine TA_take 32 rfl (by kernel_rfl) (by kernel_rfl) (by kernel_rfl) ?_; (repeat (first | refine TL_ne_f (hk := ?_) | refine TL_move (hk := ?_) | refine TLP_load_rd TE (hk := ?_) | refine TL_fieldAddr_e TE (hk := ?_) | refine TL_indexAddrn TE (hk := ?_) | refine TL_yes (hk := ?_) | refine TL_pick_f (hk := ?_))); refine TL_nil_p ?_); (refine TA_take 33 rfl (by kernel_rfl) (by kernel_rfl) (by kernel_rfl) ?_; (repeat (first | refine TL_ne_f (hk := ?_) | refine TL_move (hk := ?_) | refine TLP_load_rd TE (hk := ?_) | refine TL_fieldAddr_e TE (hk := ?_) | refine TL_indexAddrn TE (hk := ?_) | refine TL_yes (hk := ?_) | refine TL_pick_f (hk := ?_))); refine TL_nil_p ?_); (refine TA_take 34 rfl (by kernel_rfl) (by kernel_rfl) (by kernel_rfl) ?_; (repeat (first | refine TL_ne_f (hk := ?_) | refine TL_move (hk := ?_) | refine TLP_load_rd TE (hk := ?_) | refine TL_fieldAddr_e TE (hk := ?_) | refine TL_indexAddrn TE (hk := ?_) | refine TL_yes (hk := ?_) | refine TL_pick_f (hk := ?_))); refine TL_nil_p ?_)
    refine TA_one 35 rfl (by kernel_rfl) (by kernel_rfl) ?_; (try refine TL_yes (hk := ?_)); refine TL_call TE (hc := (same_c26 ys'.1 zs'.1 ys'.2.1 ys'.2.2 zs'.2.1 zs'.2.2 yp.b yp.b _ hx2 hz2)) (hq := (by rintro _ w3 ⟨rfl, rfl⟩; exact Mod.refl _ _)) (hk := ?_)
    rintro _ w3 ⟨rfl, rfl⟩
    rw [decide_eq_true rfl]
    refine TL_nil_p ?_
    (refine TA_one 36 rfl (by kernel_rfl) (by kernel_rfl) ?_; (repeat (first | refine TL_yes (hk := ?_) | refine TL_pick_f (hk := ?_) | refine TL_not (hk := ?_))); refine TL_nil_p ?_); (refine TA_one 37 rfl (by kernel_rfl) (by kernel_rfl) ?_; (repeat (first | refine TL_yes (hk := ?_) | refine TL_pick_f (hk := ?_) | refine TL_not (hk := ?_))); refine TL_nil_p ?_)
    refine TA_done (by kernel_rfl) ?_
    repeat (first | refine T_region ?_ | refine T_cond_false rfl ?_ | refine T_inBlock ?_ | refine T_skip ?_ | refine TL_add (hk := ?_) | refine TL_nil ?_ | refine TL_move (hk := ?_) | refine TL_assign (hk := ?_))
    exact ih (i + 1) _ _ (by omega) ⟨by omega, e1.ext e2⟩ (.c rfl (.c rfl (.c rfl (.n))))
  · clear ih
    repeat (first | refine T_seq ?_ | refine T_region ?_ | refine T_cond_false rfl ?_ | refine T_exit rfl ?_ | refine TL_lt_f (hk := ?_) | refine TL_nil ?_ | refine TL_move (hk := ?_) | refine TL_assign (hk := ?_) | refine TL_len TE (hk := ?_))
    exact T_ret1 rfl rfl ⟨rfl, e1⟩
/-- Two nets, apart from each other. -/
structure NPm (w0 w : World) (nA : NS) (b1 p1 : Nat) (M1 : NM) (F1 : Nat → Nat → Nat → Nat) (h1 : Nat → Nat) (nB : NS) (b2 p2 : Nat) (M2 : NM) (F2 : Nat → Nat → Nat → Nat) (h2 : Nat → Nat) : Prop where
  e : Ext w0 w
  A : NetG LayP nA.N w b1 p1 M1 F1 h1 nA
  B : NetG LayR nB.N w b2 p2 M2 F2 h2 nB
  dj : ∀ b, h1 b = 0 ∨ h2 b = 0
  l1 : w0.heap.size ≤ b1
  l2 : w0.heap.size ≤ b2
section
variable {w0 w w' : World} {nA nB nA' nB' : NS} {b1 p1 b2 p2 : Nat} {M1 M2 M' : NM} {F1 F2 F' : Nat → Nat → Nat → Nat} {h1 h2 h' : Nat → Nat}
theorem NPm.a (h : NPm w0 w nA b1 p1 M1 F1 h1 nB b2 p2 M2 F2 h2) (g : NetG LayP nA.N w' b1 p1 M' F' h' nA') (hN : nA'.N = nA.N) (t : Tn h1 h' w w') : NPm w0 w' nA' b1 p1 M' F' h' nB b2 p2 M2 F2 h2 :=
  have k := h.B.tn t h.dj
  ⟨t.ext0 h.e (fun b hb => by have := (h.A.old b hb).1; have := h.l1; omega), by rw [hN]; exact g, k.1, k.2, h.l1, h.l2⟩
theorem NPm.b (h : NPm w0 w nA b1 p1 M1 F1 h1 nB b2 p2 M2 F2 h2) (g : NetG LayR nB.N w' b2 p2 M' F' h' nB') (hN : nB'.N = nB.N) (t : Tn h2 h' w w') : NPm w0 w' nA b1 p1 M1 F1 h1 nB' b2 p2 M' F' h' :=
  have k := h.A.tn t (fun b => (h.dj b).symm)
  ⟨t.ext0 h.e (fun b hb => by have := (h.B.old b hb).1; have := h.l2; omega), k.1, by rw [hN]; exact g, fun b => (k.2 b).symm, h.l1, h.l2⟩
theorem NPm.mod {S : List Nat} (h : NPm w0 w nA b1 p1 M1 F1 h1 nB b2 p2 M2 F2 h2) (m : Eng.Mod S w w') (s1 : ∀ b ∈ S, h1 b = 0) (s2 : ∀ b ∈ S, h2 b = 0) (s0 : ∀ b ∈ S, w0.heap.size ≤ b) : NPm w0 w' nA b1 p1 M1 F1 h1 nB b2 p2 M2 F2 h2 :=
  ⟨Mod.step h.e m (fun b hb => .inr (s0 b hb)), h.A.mod m s1, h.B.mod m s2, h.dj, h.l1, h.l2⟩
theorem NPm.ext (h : NPm w0 w nA b1 p1 M1 F1 h1 nB b2 p2 M2 F2 h2) (e : Ext w w') : NPm w0 w' nA b1 p1 M1 F1 h1 nB b2 p2 M2 F2 h2 := h.mod e (fun b hb => by cases hb) (fun b hb => by cases hb) (fun b hb => by cases hb)
/-- What is new is nobody's. -/
theorem NPm.new (h : NPm w0 w nA b1 p1 M1 F1 h1 nB b2 p2 M2 F2 h2) {b : Nat} (hb : w.heap.size ≤ b) : h1 b = 0 ∧ h2 b = 0 := by
  constructor
  · by_cases q : h1 b = 0
    · exact q
    · have := (h.A.old b q).2; omega
  · by_cases q : h2 b = 0
    · exact q
    · have := (h.B.old b q).2; omega
end
def NPd (w0 w : World) (nA : NS) (b1 p1 : Nat) (h1 : Nat → Nat) (nB : NS) (b2 p2 : Nat) (h2 : Nat → Nat) : Prop := ∃ M1 F1 M2 F2, NPm w0 w nA b1 p1 M1 F1 h1 nB b2 p2 M2 F2 h2
def NP (w0 w : World) (ns : NS) (p1 p2 : Nat) : Prop := ∃ b1 h1 b2 h2, NPd w0 w ns b1 p1 h1 ns b2 p2 h2
theorem did_1 {ns : NS} {d : DD} (h : d.kd = 1) : didX ns d = (sendX ns d.a d.c d.b).1 := by simp [didX, h]
theorem did_2 {ns : NS} {d : DD} (h : d.kd = 2) : didX ns d = (letX ns d.a).1 := by simp [didX, h]
theorem did_3 {ns : NS} {d : DD} (h : d.kd = 3) : didX ns d = (delX ns d.a).1 := by simp [didX, h]
theorem did_4 {ns : NS} {d : DD} (h : d.kd = 4) : didX ns d = (dropX ns d.a).1 := by simp [didX, h]
theorem did_5 {ns : NS} {d : DD} (h : d.kd = 5) : didX ns d = (dblX ns d.a).1 := by simp [didX, h]
theorem did_9 {ns : NS} {d : DD} (h : d.kd = 9) : didX ns d = (nextX ns d.a).1 := by simp [didX, h]
theorem did_10 {ns : NS} {d : DD} (h : d.kd = 10) : didX ns d = (drainX ns d.a).1 := by simp [didX, h]
theorem did_6 {ns : NS} {d : DD} (h : d.kd = 6) : didX ns d = (partX ns d.a d.c true).1 := by simp [didX, h]
theorem did_7 {ns : NS} {d : DD} (h : d.kd = 7) : didX ns d = (partX ns d.a d.c false).1 := by simp [didX, h]
theorem did_8 {ns : NS} {d : DD} (h : d.kd = 8) : didX ns d = tickN ns := by simp [didX, h]
theorem did_0 {ns : NS} {d : DD} (k1 : ¬ d.kd = 1) (k2 : ¬ d.kd = 2) (k3 : ¬ d.kd = 3) (k4 : ¬ d.kd = 4) (k5 : ¬ d.kd = 5) (k6 : ¬ d.kd = 6) (k7 : ¬ d.kd = 7) (k8 : ¬ d.kd = 8) (k9 : ¬ d.kd = 9) (k10 : ¬ d.kd = 10) : didX ns d = ns := by simp [didX, k1, k2, k3, k4, k5, k6, k7, k8, k9, k10]
end Go.Proofs.Ytjjgojgahibpgaa

namespace Go.Proofs.Ytjjgojgahibpgaa
open Go.RowKit Go.Proofs.Eng Go.Proofs.Codec Go.Proofs.Link
set_option linter.unusedSimpArgs false
set_option linter.unusedVariables false set_option maxRecDepth 10000
attribute [local irreducible] T TL LV TH TA
set_option maxHeartbeats 6400000
theorem done_c26 (x : DV) (w0 w : World) {ns : NS} {b1 p1 b2 p2 : Nat} {M1 M2 : NM} {F1 F2 : Nat → Nat → Nat → Nat} {h1 h2 : Nat → Nat} {k : Nat} {L : LL} {U : Nat → Nat → Nat} (N : NPm w0 w ns b1 p1 M1 F1 h1 ns b2 p2 M2 F2 h2) (hI : NI k ns L U) (hx : DvOk w0 x) (h10 : x.kd = 10 → x.a ≤ 50) :
    Ret Try.prog 60 [ptr p1, ptr p2, .agg #[.int .i64 x.kd, .int .i64 x.a, .int .i64 x.c, .slice x.A x.n x.d]] w (fun v w' => v = .bool true ∧ w.heap.size ≤ w'.heap.size ∧ NP w0 w' (didX ns x.dd) p1 p2) := by
  refine ret_T (n := 169) Try.func60 rfl rfl ?_
  repeat (first | refine T_seq ?_ | refine T_region ?_)
  refine TL_box (hk := ?_); intro b5 w3 e3 q3 q3' k3
  replace k3 : Blk w3 b5 96 [.int .i64 x.kd, .int .i64 x.a, .int .i64 x.c, .slice x.A x.n x.d] := k3
  have hb5 := N.new q3
  have N3 := N.ext e3
  have z3 := e3.size
  have z0 := N.e.size
  have hnb := hx.nb
  have hbl := hx.rd.1
  rw [bv_length] at hbl
  repeat (first | refine T_seq ?_ | refine T_region ?_ | refine TL_nil ?_ | refine TL_assign (hk := ?_))
  refine TL_buildSlice0 TE (hk := ?_); intro b4 w4 e4 q4 q4' k4
  have o4 : Own w4 w3.heap.size 5 1 (some ⟨b4, 0, none⟩) 0 0 [] := Own.of_blk k4 q4 rfl (by decide)
  have hx4 := (hx.be (N3.e.ext e4)).rd
  have hone := bv_one x.b
  have k34 := k3.be e4
  repeat (first | refine TL_load TE (hk := ?_) | refine TL_fieldAddr TE (hk := ?_))
  refine TL_append TE (hk := ?_); intro GA gc w5 o5 m5 n5
  rw [List.nil_append] at o5
  have e35 : Ext w3 w5 := Mod.own e4 m5 o4.hi
  have N5 := N3.ext e35
  have k5 := k3.be e35
  have hG : ∀ b ∈ blkL GA, w3.heap.size ≤ b := fun b hb => Hi.blk o5.hi b hb
  have hG0 : ∀ b ∈ blkL GA, h1 b = 0 ∧ h2 b = 0 := fun b hb => N3.new (hG b hb)
  have z5 := e35.size
  have hb5G : b5 ∉ blkL GA := fun q => by have := hG b5 q; omega
  clear k3 k34 k4 o4 e4 m5 n5 N3 hx4 hone
  by_cases k1 : x.kd = 1
  · rw [did_1 (d := x.dd) k1]
    repeat (first | refine T_seq ?_ | refine T_region ?_ | refine T_cond_true rfl ?_ | refine T_block ?_ | refine TL_eq_t (hk := ?_) | refine TL_nil ?_ | refine TL_move (hk := ?_) | refine TL_assign (hk := ?_) | refine TL_load TE (hk := ?_) | refine TL_fieldAddr TE (hk := ?_))
    refine TL_call TE (hc := NSendX_c x.a x.c GA (0 + x.n) gc x.b _ N5.A hI o5.rd (by omega)) (hk := ?_)
    rintro _ w6 ⟨rfl, F6, h6, g6, t6⟩
    have N6 := N5.a g6 (sendX_N _ _ _).1 t6
    obtain ⟨o6, hz6⟩ := o5.tn t6 (fun b hb => (hG0 b hb).1)
    have k6 : Blk w6 b5 96 [.int .i64 x.kd, .int .i64 x.a, .int .i64 x.c, .slice x.A x.n x.d] := by
      obtain ⟨⟨S, m, s⟩, -, -⟩ := t6
      exact k5.mod m (fun q => s b5 q hb5.1)
    have z6 := t6.size
    clear N5 k5 o5 g6
    repeat (first | refine T_seq ?_ | refine T_region ?_ | refine TL_nil ?_ | refine TL_move (hk := ?_) | refine TL_assign (hk := ?_))
    refine TL_call TE (hc := spoil_c26 GA (0 + x.n) gc _ x.b _ o6 (by omega)) (hk := ?_)
    rintro _ w7 m7
    have N7 := N6.mod m7 hz6 (fun b hb => (hG0 b hb).2) (fun b hb => by have := hG b hb; omega)
    have k7 := k6.mod m7 hb5G
    have z7 := m7.size
    have hD5 : b5 ∉ ownB w7 h2 := fun q => ownB_mem q hb5.2
    clear N6 k6 o6
    repeat (first | refine T_seq ?_ | refine TL_nil ?_)
    refine T_region_any TE.mixed (ownB w7 h2) ?_; intro w8 e8 z8
    have N8 := N7.ext e8
    have k8 := k7.be e8
    (refine TA_take 0 rfl (by kernel_rfl) (by kernel_rfl) (by kernel_rfl) ?_; (repeat (first | refine TL_move (hk := ?_) | refine TLP_load TE (hk := ?_) | refine TL_fieldAddr TE (hk := ?_))); refine TL_nil_p ?_); (refine TA_take 2 rfl (by kernel_rfl) (by kernel_rfl) (by kernel_rfl) ?_; (repeat (first | refine TL_move (hk := ?_) | refine TLP_load TE (hk := ?_) | refine TL_fieldAddr TE (hk := ?_))); refine TL_nil_p ?_); (refine TA_take 3 rfl (by kernel_rfl) (by kernel_rfl) (by kernel_rfl) ?_; (repeat (first | refine TL_move (hk := ?_) | refine TLP_load TE (hk := ?_) | refine TL_fieldAddr TE (hk := ?_))); refine TL_nil_p ?_); (refine TA_take 4 rfl (by kernel_rfl) (by kernel_rfl) (by kernel_rfl) ?_; (repeat (first | refine TL_move (hk := ?_) | refine TLP_load TE (hk := ?_) | refine TL_fieldAddr TE (hk := ?_))); refine TL_nil_p ?_); (refine TA_take 5 rfl (by kernel_rfl) (by kernel_rfl) (by kernel_rfl) ?_; (repeat (first | refine TL_move (hk := ?_) | refine TLP_load TE (hk := ?_) | refine TL_fieldAddr TE (hk := ?_))); refine TL_nil_p ?_); (refine TA_take 6 rfl (by kernel_rfl) (by kernel_rfl) (by kernel_rfl) ?_; (repeat (first | refine TL_move (hk := ?_) | refine TLP_load TE (hk := ?_) | refine TL_fieldAddr TE (hk := ?_))); refine TL_nil_p ?_); (refine TA_take 7 rfl (by kernel_rfl) (by kernel_rfl) (by kernel_rfl) ?_; (repeat (first | refine TL_move (hk := ?_) | refine TLP_load TE (hk := ?_) | refine TL_fieldAddr TE (hk := ?_))); refine TL_nil_p ?_); (refine TA_take 8 rfl (by kernel_rfl) (by kernel_rfl) (by kernel_rfl) ?_; (repeat (first | refine TL_move (hk := ?_) | refine TLP_load TE (hk := ?_) | refine TL_fieldAddr TE (hk := ?_))); refine TL_nil_p ?_)
    refine TA_one 1 rfl (by kernel_rfl) (by kernel_rfl) ?_; (try refine TL_yes (hk := ?_)); refine TL_call TE (hc := num_c26 _ _) (hq := (by rintro _ w9 ⟨rfl, rfl⟩; exact Mod.refl _ _)) (hk := ?_)
    rintro _ w8 ⟨rfl, rfl⟩
    refine TL_nil_p ?_
    refine TA_one 9 rfl (by kernel_rfl) (by kernel_rfl) ?_; (try refine TL_yes (hk := ?_)); refine TL_call TE (hc := (RNSend_c x.a x.c x.A x.n x.d x.b _ N8.B hI (hx.be N8.e).rd (by omega))) (hq := (by rintro _ w9 ⟨rfl, F', h', g', t'⟩; exact t'.inD (Mod.refl _ _) (ownB_in z8))) (hk := ?_)
    rintro _ w9 ⟨rfl, F9, h9, g9, t9⟩
    have N9 := N8.b g9 (sendX_N _ _ _).1 t9
    have z9 := t9.size
    refine TL_nil_p ?_
    (refine TA_one 10 rfl (by kernel_rfl) (by kernel_rfl) ?_; (repeat (first | refine TL_eq_t (hk := ?_) | refine TL_assign (hk := ?_))); refine TL_nil_p ?_); (refine TA_one 11 rfl (by kernel_rfl) (by kernel_rfl) ?_; (repeat (first | refine TL_eq_t (hk := ?_) | refine TL_assign (hk := ?_))); refine TL_nil_p ?_)
    refine TA_done (by kernel_rfl) ?_
    --
    exact T_ret1 rfl rfl ⟨rfl, by have := e8.size; omega, _, _, _, _, _, _, _, _, N9⟩
  by_cases k2 : x.kd = 2
  · rw [did_2 (d := x.dd) k2]
    have hD5 : b5 ∉ ownB w5 h1 ++ ownB w5 h2 := fun q => (List.mem_append.1 q).elim (fun q => ownB_mem q hb5.1) (fun q => ownB_mem q hb5.2)
    repeat (first | refine T_seq ?_ | refine T_region ?_ | refine T_cond_true rfl ?_ | refine T_cond_false rfl ?_ | refine T_block ?_ | refine TL_eq_t (hk := ?_) | refine TL_eq_f (hk := ?_) | refine TL_nil ?_ | refine TL_assign (hk := ?_) | refine TL_load TE (hk := ?_) | refine TL_fieldAddr TE (hk := ?_))
    refine T_region_any TE.mixed (ownB w5 h1 ++ ownB w5 h2) ?_; intro w8 e8 z8
    have N8 := N5.ext e8
    have k8 := k5.be e8
    (refine TA_take 0 rfl (by kernel_rfl) (by kernel_rfl) (by kernel_rfl) ?_; (repeat (first | refine TL_move (hk := ?_) | refine TLP_load TE (hk := ?_) | refine TL_fieldAddr TE (hk := ?_))); refine TL_nil_p ?_); (refine TA_take 1 rfl (by kernel_rfl) (by kernel_rfl) (by kernel_rfl) ?_; (repeat (first | refine TL_move (hk := ?_) | refine TLP_load TE (hk := ?_) | refine TL_fieldAddr TE (hk := ?_))); refine TL_nil_p ?_); (refine TA_take 2 rfl (by kernel_rfl) (by kernel_rfl) (by kernel_rfl) ?_; (repeat (first | refine TL_move (hk := ?_) | refine TLP_load TE (hk := ?_) | refine TL_fieldAddr TE (hk := ?_))); refine TL_nil_p ?_); (refine TA_take 4 rfl (by kernel_rfl) (by kernel_rfl) (by kernel_rfl) ?_; (repeat (first | refine TL_move (hk := ?_) | refine TLP_load TE (hk := ?_) | refine TL_fieldAddr TE (hk := ?_))); refine TL_nil_p ?_); (refine TA_take 5 rfl (by kernel_rfl) (by kernel_rfl) (by kernel_rfl) ?_; (repeat (first | refine TL_move (hk := ?_) | refine TLP_load TE (hk := ?_) | refine TL_fieldAddr TE (hk := ?_))); refine TL_nil_p ?_); (refine TA_take 6 rfl (by kernel_rfl) (by kernel_rfl) (by kernel_rfl) ?_; (repeat (first | refine TL_move (hk := ?_) | refine TLP_load TE (hk := ?_) | refine TL_fieldAddr TE (hk := ?_))); refine TL_nil_p ?_)
    refine TA_one 3 rfl (by kernel_rfl) (by kernel_rfl) ?_; (try refine TL_yes (hk := ?_)); refine TL_call TE (hc := (NLet_c x.a _ N8.A hI)) (hq := (by rintro _ w9 ⟨rfl, M', F', h', g', t'⟩; exact t'.inD (Mod.refl _ _) (fun b hb q => List.mem_append_left _ (ownB_in z8 b hb q)))) (hk := ?_)
    rintro _ w9 ⟨rfl, M9', F9, h9, g9, t9⟩
    have M9 := t9.inD (Mod.refl _ _) (fun b hb q => List.mem_append_left (ownB w5 h2) (ownB_in z8 b hb q))
    have N9 := N8.a g9 (letX_N _).1 t9
    have z9 := t9.size
    clear N8
    refine TL_nil_p ?_
    refine TA_one 7 rfl (by kernel_rfl) (by kernel_rfl) ?_; (try refine TL_yes (hk := ?_)); refine TL_call TE (hc := (RNLet_c x.a _ N9.B hI)) (hq := (by rintro _ w10 ⟨rfl, M', F', h', g', t'⟩; exact t'.inD M9 (fun b hb q => List.mem_append_right _ (ownB_in z8 b hb q)))) (hk := ?_)
    rintro _ w10 ⟨rfl, M10, F10, h10', g10, t10⟩
    have N10 := N9.b g10 (letX_N _).1 t10
    have z10 := t10.size
    refine TL_nil_p ?_
    (refine TA_one 8 rfl (by kernel_rfl) (by kernel_rfl) ?_; (repeat (first | refine TL_eq_t (hk := ?_) | refine TL_assign (hk := ?_))); refine TL_nil_p ?_); (refine TA_one 9 rfl (by kernel_rfl) (by kernel_rfl) ?_; (repeat (first | refine TL_eq_t (hk := ?_) | refine TL_assign (hk := ?_))); refine TL_nil_p ?_)
    refine TA_done (by kernel_rfl) ?_
    --
    exact T_ret1 rfl rfl ⟨rfl, by have := e8.size; omega, _, _, _, _, _, _, _, _, N10⟩
  by_cases k3 : x.kd = 3
  · rw [did_3 (d := x.dd) k3]
    have hD5 : b5 ∉ ownB w5 h1 ++ ownB w5 h2 := fun q => (List.mem_append.1 q).elim (fun q => ownB_mem q hb5.1) (fun q => ownB_mem q hb5.2)
    repeat (first | refine T_seq ?_ | refine T_region ?_ | refine T_cond_true rfl ?_ | refine T_cond_false rfl ?_ | refine T_block ?_ | refine TL_eq_t (hk := ?_) | refine TL_eq_f (hk := ?_) | refine TL_nil ?_ | refine TL_assign (hk := ?_) | refine TL_load TE (hk := ?_) | refine TL_fieldAddr TE (hk := ?_))
    refine T_region_any TE.mixed (ownB w5 h1 ++ ownB w5 h2) ?_; intro w8 e8 z8
    have N8 := N5.ext e8
    have k8 := k5.be e8
    (refine TA_take 0 rfl (by kernel_rfl) (by kernel_rfl) (by kernel_rfl) ?_; (repeat (first | refine TL_move (hk := ?_) | refine TLP_load TE (hk := ?_) | refine TL_fieldAddr TE (hk := ?_))); refine TL_nil_p ?_); (refine TA_take 1 rfl (by kernel_rfl) (by kernel_rfl) (by kernel_rfl) ?_; (repeat (first | refine TL_move (hk := ?_) | refine TLP_load TE (hk := ?_) | refine TL_fieldAddr TE (hk := ?_))); refine TL_nil_p ?_); (refine TA_take 2 rfl (by kernel_rfl) (by kernel_rfl) (by kernel_rfl) ?_; (repeat (first | refine TL_move (hk := ?_) | refine TLP_load TE (hk := ?_) | refine TL_fieldAddr TE (hk := ?_))); refine TL_nil_p ?_); (refine TA_take 5 rfl (by kernel_rfl) (by kernel_rfl) (by kernel_rfl) ?_; (repeat (first | refine TL_move (hk := ?_) | refine TLP_load TE (hk := ?_) | refine TL_fieldAddr TE (hk := ?_))); refine TL_nil_p ?_); (refine TA_take 6 rfl (by kernel_rfl) (by kernel_rfl) (by kernel_rfl) ?_; (repeat (first | refine TL_move (hk := ?_) | refine TLP_load TE (hk := ?_) | refine TL_fieldAddr TE (hk := ?_))); refine TL_nil_p ?_); (refine TA_take 7 rfl (by kernel_rfl) (by kernel_rfl) (by kernel_rfl) ?_; (repeat (first | refine TL_move (hk := ?_) | refine TLP_load TE (hk := ?_) | refine TL_fieldAddr TE (hk := ?_))); refine TL_nil_p ?_)
    refine TA_one 3 rfl (by kernel_rfl) (by kernel_rfl) ?_; (try refine TL_yes (hk := ?_)); refine TL_call TE (hc := (NDeliver_c x.a _ N8.A hI)) (hq := (by rintro _ w9 ⟨rfl, M', F', h', g', t'⟩; exact t'.inD (Mod.refl _ _) (fun b hb q => List.mem_append_left _ (ownB_in z8 b hb q)))) (hk := ?_)
    rintro _ w9 ⟨rfl, M9', F9, h9, g9, t9⟩
    have M9 := t9.inD (Mod.refl _ _) (fun b hb q => List.mem_append_left (ownB w5 h2) (ownB_in z8 b hb q))
    have N9 := N8.a g9 (delX_N _).1 t9
    have z9 := t9.size
    clear N8
    refine TL_nil_p ?_
    refine TA_one 4 rfl (by kernel_rfl) (by kernel_rfl) ?_; (try refine TL_yes (hk := ?_)); refine TL_call TE (hc := num_c26 _ _) (hq := (by rintro _ w10 ⟨rfl, rfl⟩; exact M9)) (hk := ?_)
    rintro _ w9 ⟨rfl, rfl⟩
    refine TL_nil_p ?_
    refine TA_one 8 rfl (by kernel_rfl) (by kernel_rfl) ?_; (try refine TL_yes (hk := ?_)); refine TL_call TE (hc := (RNDeliver_c x.a _ N9.B hI)) (hq := (by rintro _ w10 ⟨rfl, M', F', h', g', t'⟩; exact t'.inD M9 (fun b hb q => List.mem_append_right _ (ownB_in z8 b hb q)))) (hk := ?_)
    rintro _ w10 ⟨rfl, M10, F10, h10', g10, t10⟩
    have N10 := N9.b g10 (delX_N _).1 t10
    have z10 := t10.size
    refine TL_nil_p ?_
    (refine TA_one 9 rfl (by kernel_rfl) (by kernel_rfl) ?_; (repeat (first | refine TL_eq_t (hk := ?_) | refine TL_assign (hk := ?_))); refine TL_nil_p ?_); (refine TA_one 10 rfl (by kernel_rfl) (by kernel_rfl) ?_; (repeat (first | refine TL_eq_t (hk := ?_) | refine TL_assign (hk := ?_))); refine TL_nil_p ?_)
    refine TA_done (by kernel_rfl) ?_
    --
    exact T_ret1 rfl rfl ⟨rfl, by have := e8.size; omega, _, _, _, _, _, _, _, _, N10⟩
  by_cases k4 : x.kd = 4
  · rw [did_4 (d := x.dd) k4]
    have hD5 : b5 ∉ ownB w5 h1 ++ ownB w5 h2 := fun q => (List.mem_append.1 q).elim (fun q => ownB_mem q hb5.1) (fun q => ownB_mem q hb5.2)
    repeat (first | refine T_seq ?_ | refine T_region ?_ | refine T_cond_true rfl ?_ | refine T_cond_false rfl ?_ | refine T_block ?_ | refine TL_eq_t (hk := ?_) | refine TL_eq_f (hk := ?_) | refine TL_nil ?_ | refine TL_assign (hk := ?_) | refine TL_load TE (hk := ?_) | refine TL_fieldAddr TE (hk := ?_))
    refine T_region_any TE.mixed (ownB w5 h1 ++ ownB w5 h2) ?_; intro w8 e8 z8
    have N8 := N5.ext e8
    have k8 := k5.be e8
    (refine TA_take 0 rfl (by kernel_rfl) (by kernel_rfl) (by kernel_rfl) ?_; (repeat (first | refine TL_move (hk := ?_) | refine TLP_load TE (hk := ?_) | refine TL_fieldAddr TE (hk := ?_))); refine TL_nil_p ?_); (refine TA_take 1 rfl (by kernel_rfl) (by kernel_rfl) (by kernel_rfl) ?_; (repeat (first | refine TL_move (hk := ?_) | refine TLP_load TE (hk := ?_) | refine TL_fieldAddr TE (hk := ?_))); refine TL_nil_p ?_); (refine TA_take 2 rfl (by kernel_rfl) (by kernel_rfl) (by kernel_rfl) ?_; (repeat (first | refine TL_move (hk := ?_) | refine TLP_load TE (hk := ?_) | refine TL_fieldAddr TE (hk := ?_))); refine TL_nil_p ?_); (refine TA_take 4 rfl (by kernel_rfl) (by kernel_rfl) (by kernel_rfl) ?_; (repeat (first | refine TL_move (hk := ?_) | refine TLP_load TE (hk := ?_) | refine TL_fieldAddr TE (hk := ?_))); refine TL_nil_p ?_); (refine TA_take 5 rfl (by kernel_rfl) (by kernel_rfl) (by kernel_rfl) ?_; (repeat (first | refine TL_move (hk := ?_) | refine TLP_load TE (hk := ?_) | refine TL_fieldAddr TE (hk := ?_))); refine TL_nil_p ?_); (refine TA_take 6 rfl (by kernel_rfl) (by kernel_rfl) (by kernel_rfl) ?_; (repeat (first | refine TL_move (hk := ?_) | refine TLP_load TE (hk := ?_) | refine TL_fieldAddr TE (hk := ?_))); refine TL_nil_p ?_)
    refine TA_one 3 rfl (by kernel_rfl) (by kernel_rfl) ?_; (try refine TL_yes (hk := ?_)); refine TL_call TE (hc := (NDrop_c x.a _ N8.A hI)) (hq := (by rintro _ w9 ⟨rfl, M', F', h', g', t'⟩; exact t'.inD (Mod.refl _ _) (fun b hb q => List.mem_append_left _ (ownB_in z8 b hb q)))) (hk := ?_)
    rintro _ w9 ⟨rfl, M9', F9, h9, g9, t9⟩
    have M9 := t9.inD (Mod.refl _ _) (fun b hb q => List.mem_append_left (ownB w5 h2) (ownB_in z8 b hb q))
    have N9 := N8.a g9 (dropX_N _).1 t9
    have z9 := t9.size
    clear N8
    refine TL_nil_p ?_
    refine TA_one 7 rfl (by kernel_rfl) (by kernel_rfl) ?_; (try refine TL_yes (hk := ?_)); refine TL_call TE (hc := (RNDrop_c x.a _ N9.B hI)) (hq := (by rintro _ w10 ⟨rfl, M', F', h', g', t', -⟩; exact t'.inD M9 (fun b hb q => List.mem_append_right _ (ownB_in z8 b hb q)))) (hk := ?_)
    rintro _ w10 ⟨rfl, M10, F10, h10', g10, t10, -⟩
    have N10 := N9.b g10 (dropX_N _).1 t10
    have z10 := t10.size
    refine TL_nil_p ?_
    (refine TA_one 8 rfl (by kernel_rfl) (by kernel_rfl) ?_; (repeat (first | refine TL_beq TE (hk := ?_) | refine TL_assign (hk := ?_))); refine TL_nil_p ?_); (refine TA_one 9 rfl (by kernel_rfl) (by kernel_rfl) ?_; (repeat (first | refine TL_beq TE (hk := ?_) | refine TL_assign (hk := ?_))); refine TL_nil_p ?_)
    refine TA_done (by kernel_rfl) ?_
    --
    exact T_ret1 rfl rfl ⟨by simp, by have := e8.size; omega, _, _, _, _, _, _, _, _, N10⟩
  by_cases k5' : x.kd = 5
  · rw [did_5 (d := x.dd) k5']
    have hD5 : b5 ∉ ownB w5 h1 ++ ownB w5 h2 := fun q => (List.mem_append.1 q).elim (fun q => ownB_mem q hb5.1) (fun q => ownB_mem q hb5.2)
    repeat (first | refine T_seq ?_ | refine T_region ?_ | refine T_cond_true rfl ?_ | refine T_cond_false rfl ?_ | refine T_block ?_ | refine TL_eq_t (hk := ?_) | refine TL_eq_f (hk := ?_) | refine TL_nil ?_ | refine TL_assign (hk := ?_) | refine TL_load TE (hk := ?_) | refine TL_fieldAddr TE (hk := ?_))
    refine T_region_any TE.mixed (ownB w5 h1 ++ ownB w5 h2) ?_; intro w8 e8 z8
    have N8 := N5.ext e8
    have k8 := k5.be e8
    (refine TA_take 0 rfl (by kernel_rfl) (by kernel_rfl) (by kernel_rfl) ?_; (repeat (first | refine TL_move (hk := ?_) | refine TLP_load TE (hk := ?_) | refine TL_fieldAddr TE (hk := ?_))); refine TL_nil_p ?_); (refine TA_take 1 rfl (by kernel_rfl) (by kernel_rfl) (by kernel_rfl) ?_; (repeat (first | refine TL_move (hk := ?_) | refine TLP_load TE (hk := ?_) | refine TL_fieldAddr TE (hk := ?_))); refine TL_nil_p ?_); (refine TA_take 2 rfl (by kernel_rfl) (by kernel_rfl) (by kernel_rfl) ?_; (repeat (first | refine TL_move (hk := ?_) | refine TLP_load TE (hk := ?_) | refine TL_fieldAddr TE (hk := ?_))); refine TL_nil_p ?_); (refine TA_take 4 rfl (by kernel_rfl) (by kernel_rfl) (by kernel_rfl) ?_; (repeat (first | refine TL_move (hk := ?_) | refine TLP_load TE (hk := ?_) | refine TL_fieldAddr TE (hk := ?_))); refine TL_nil_p ?_); (refine TA_take 5 rfl (by kernel_rfl) (by kernel_rfl) (by kernel_rfl) ?_; (repeat (first | refine TL_move (hk := ?_) | refine TLP_load TE (hk := ?_) | refine TL_fieldAddr TE (hk := ?_))); refine TL_nil_p ?_); (refine TA_take 6 rfl (by kernel_rfl) (by kernel_rfl) (by kernel_rfl) ?_; (repeat (first | refine TL_move (hk := ?_) | refine TLP_load TE (hk := ?_) | refine TL_fieldAddr TE (hk := ?_))); refine TL_nil_p ?_)
    refine TA_one 3 rfl (by kernel_rfl) (by kernel_rfl) ?_; (try refine TL_yes (hk := ?_)); refine TL_call TE (hc := (NDouble_c x.a _ N8.A hI)) (hq := (by rintro _ w9 ⟨rfl, M', F', h', g', t'⟩; exact t'.inD (Mod.refl _ _) (fun b hb q => List.mem_append_left _ (ownB_in z8 b hb q)))) (hk := ?_)
    rintro _ w9 ⟨rfl, M9', F9, h9, g9, t9⟩
    have M9 := t9.inD (Mod.refl _ _) (fun b hb q => List.mem_append_left (ownB w5 h2) (ownB_in z8 b hb q))
    have N9 := N8.a g9 (dblX_N _).1 t9
    have z9 := t9.size
    clear N8
    refine TL_nil_p ?_
    refine TA_one 7 rfl (by kernel_rfl) (by kernel_rfl) ?_; (try refine TL_yes (hk := ?_)); refine TL_call TE (hc := (RNDouble_c x.a _ N9.B hI)) (hq := (by rintro _ w10 ⟨rfl, M', F', h', g', t'⟩; exact t'.inD M9 (fun b hb q => List.mem_append_right _ (ownB_in z8 b hb q)))) (hk := ?_)
    rintro _ w10 ⟨rfl, M10, F10, h10', g10, t10⟩
    have N10 := N9.b g10 (dblX_N _).1 t10
    have z10 := t10.size
    refine TL_nil_p ?_
    (refine TA_one 8 rfl (by kernel_rfl) (by kernel_rfl) ?_; (repeat (first | refine TL_beq TE (hk := ?_) | refine TL_assign (hk := ?_))); refine TL_nil_p ?_); (refine TA_one 9 rfl (by kernel_rfl) (by kernel_rfl) ?_; (repeat (first | refine TL_beq TE (hk := ?_) | refine TL_assign (hk := ?_))); refine TL_nil_p ?_)
    refine TA_done (by kernel_rfl) ?_
    --
    exact T_ret1 rfl rfl ⟨by simp, by have := e8.size; omega, _, _, _, _, _, _, _, _, N10⟩
  by_cases k6 : x.kd = 6
  · rw [did_6 (d := x.dd) k6]
    have hD5 : b5 ∉ ownB w5 h1 ++ ownB w5 h2 := fun q => (List.mem_append.1 q).elim (fun q => ownB_mem q hb5.1) (fun q => ownB_mem q hb5.2)
    repeat (first | refine T_seq ?_ | refine T_region ?_ | refine T_cond_true rfl ?_ | refine T_cond_false rfl ?_ | refine T_block ?_ | refine TL_eq_t (hk := ?_) | refine TL_eq_f (hk := ?_) | refine TL_nil ?_ | refine TL_assign (hk := ?_) | refine TL_load TE (hk := ?_) | refine TL_fieldAddr TE (hk := ?_))
    refine T_region_any TE.mixed (ownB w5 h1 ++ ownB w5 h2) ?_; intro w8 e8 z8
    have N8 := N5.ext e8
    have k8 := k5.be e8
    (refine TA_take 0 rfl (by kernel_rfl) (by kernel_rfl) (by kernel_rfl) ?_; (repeat (first | refine TL_move (hk := ?_) | refine TLP_load TE (hk := ?_) | refine TL_fieldAddr TE (hk := ?_))); refine TL_nil_p ?_); (refine TA_take 1 rfl (by kernel_rfl) (by kernel_rfl) (by kernel_rfl) ?_; (repeat (first | refine TL_move (hk := ?_) | refine TLP_load TE (hk := ?_) | refine TL_fieldAddr TE (hk := ?_))); refine TL_nil_p ?_); (refine TA_take 2 rfl (by kernel_rfl) (by kernel_rfl) (by kernel_rfl) ?_; (repeat (first | refine TL_move (hk := ?_) | refine TLP_load TE (hk := ?_) | refine TL_fieldAddr TE (hk := ?_))); refine TL_nil_p ?_); (refine TA_take 3 rfl (by kernel_rfl) (by kernel_rfl) (by kernel_rfl) ?_; (repeat (first | refine TL_move (hk := ?_) | refine TLP_load TE (hk := ?_) | refine TL_fieldAddr TE (hk := ?_))); refine TL_nil_p ?_); (refine TA_take 4 rfl (by kernel_rfl) (by kernel_rfl) (by kernel_rfl) ?_; (repeat (first | refine TL_move (hk := ?_) | refine TLP_load TE (hk := ?_) | refine TL_fieldAddr TE (hk := ?_))); refine TL_nil_p ?_); (refine TA_take 6 rfl (by kernel_rfl) (by kernel_rfl) (by kernel_rfl) ?_; (repeat (first | refine TL_move (hk := ?_) | refine TLP_load TE (hk := ?_) | refine TL_fieldAddr TE (hk := ?_))); refine TL_nil_p ?_); (refine TA_take 7 rfl (by kernel_rfl) (by kernel_rfl) (by kernel_rfl) ?_; (repeat (first | refine TL_move (hk := ?_) | refine TLP_load TE (hk := ?_) | refine TL_fieldAddr TE (hk := ?_))); refine TL_nil_p ?_); (refine TA_take 8 rfl (by kernel_rfl) (by kernel_rfl) (by kernel_rfl) ?_; (repeat (first | refine TL_move (hk := ?_) | refine TLP_load TE (hk := ?_) | refine TL_fieldAddr TE (hk := ?_))); refine TL_nil_p ?_); (refine TA_take 9 rfl (by kernel_rfl) (by kernel_rfl) (by kernel_rfl) ?_; (repeat (first | refine TL_move (hk := ?_) | refine TLP_load TE (hk := ?_) | refine TL_fieldAddr TE (hk := ?_))); refine TL_nil_p ?_); (refine TA_take 10 rfl (by kernel_rfl) (by kernel_rfl) (by kernel_rfl) ?_; (repeat (first | refine TL_move (hk := ?_) | refine TLP_load TE (hk := ?_) | refine TL_fieldAddr TE (hk := ?_))); refine TL_nil_p ?_)
    refine TA_one 5 rfl (by kernel_rfl) (by kernel_rfl) ?_; (try refine TL_yes (hk := ?_)); refine TL_call TE (hc := (NPart_c x.a x.c _ N8.A)) (hq := (by rintro _ w9 ⟨rfl, g', t'⟩; exact t'.inD (Mod.refl _ _) (fun b hb q => List.mem_append_left _ (ownB_in z8 b hb q)))) (hk := ?_)
    rintro _ w9 ⟨rfl, g9, t9⟩
    have M9 := t9.inD (Mod.refl _ _) (fun b hb q => List.mem_append_left (ownB w5 h2) (ownB_in z8 b hb q))
    have N9 := N8.a g9 (partX_N _ _ _).1 t9
    have z9 := t9.size
    clear N8
    refine TL_nil_p ?_
    refine TA_one 11 rfl (by kernel_rfl) (by kernel_rfl) ?_; (try refine TL_yes (hk := ?_)); refine TL_call TE (hc := (RNPart_c x.a x.c true _ N9.B)) (hq := (by rintro _ w10 ⟨rfl, g', t'⟩; exact t'.inD M9 (fun b hb q => List.mem_append_right _ (ownB_in z8 b hb q)))) (hk := ?_)
    rintro _ w10 ⟨rfl, g10, t10⟩
    have N10 := N9.b g10 (partX_N _ _ _).1 t10
    have z10 := t10.size
    refine TL_nil_p ?_
    (refine TA_one 12 rfl (by kernel_rfl) (by kernel_rfl) ?_; (repeat (first | refine TL_beq TE (hk := ?_) | refine TL_assign (hk := ?_))); refine TL_nil_p ?_); (refine TA_one 13 rfl (by kernel_rfl) (by kernel_rfl) ?_; (repeat (first | refine TL_beq TE (hk := ?_) | refine TL_assign (hk := ?_))); refine TL_nil_p ?_)
    refine TA_done (by kernel_rfl) ?_
    --
    exact T_ret1 rfl rfl ⟨by simp, by have := e8.size; omega, _, _, _, _, _, _, _, _, N10⟩
  by_cases k7 : x.kd = 7
  · rw [did_7 (d := x.dd) k7]
    have hD5 : b5 ∉ ownB w5 h1 ++ ownB w5 h2 := fun q => (List.mem_append.1 q).elim (fun q => ownB_mem q hb5.1) (fun q => ownB_mem q hb5.2)
    repeat (first | refine T_seq ?_ | refine T_region ?_ | refine T_cond_true rfl ?_ | refine T_cond_false rfl ?_ | refine T_block ?_ | refine TL_eq_t (hk := ?_) | refine TL_eq_f (hk := ?_) | refine TL_nil ?_ | refine TL_assign (hk := ?_) | refine TL_load TE (hk := ?_) | refine TL_fieldAddr TE (hk := ?_))
    refine T_region_any TE.mixed (ownB w5 h1 ++ ownB w5 h2) ?_; intro w8 e8 z8
    have N8 := N5.ext e8
    have k8 := k5.be e8
    (refine TA_take 0 rfl (by kernel_rfl) (by kernel_rfl) (by kernel_rfl) ?_; (repeat (first | refine TL_move (hk := ?_) | refine TLP_load TE (hk := ?_) | refine TL_fieldAddr TE (hk := ?_))); refine TL_nil_p ?_); (refine TA_take 1 rfl (by kernel_rfl) (by kernel_rfl) (by kernel_rfl) ?_; (repeat (first | refine TL_move (hk := ?_) | refine TLP_load TE (hk := ?_) | refine TL_fieldAddr TE (hk := ?_))); refine TL_nil_p ?_); (refine TA_take 2 rfl (by kernel_rfl) (by kernel_rfl) (by kernel_rfl) ?_; (repeat (first | refine TL_move (hk := ?_) | refine TLP_load TE (hk := ?_) | refine TL_fieldAddr TE (hk := ?_))); refine TL_nil_p ?_); (refine TA_take 3 rfl (by kernel_rfl) (by kernel_rfl) (by kernel_rfl) ?_; (repeat (first | refine TL_move (hk := ?_) | refine TLP_load TE (hk := ?_) | refine TL_fieldAddr TE (hk := ?_))); refine TL_nil_p ?_); (refine TA_take 4 rfl (by kernel_rfl) (by kernel_rfl) (by kernel_rfl) ?_; (repeat (first | refine TL_move (hk := ?_) | refine TLP_load TE (hk := ?_) | refine TL_fieldAddr TE (hk := ?_))); refine TL_nil_p ?_); (refine TA_take 6 rfl (by kernel_rfl) (by kernel_rfl) (by kernel_rfl) ?_; (repeat (first | refine TL_move (hk := ?_) | refine TLP_load TE (hk := ?_) | refine TL_fieldAddr TE (hk := ?_))); refine TL_nil_p ?_); (refine TA_take 7 rfl (by kernel_rfl) (by kernel_rfl) (by kernel_rfl) ?_; (repeat (first | refine TL_move (hk := ?_) | refine TLP_load TE (hk := ?_) | refine TL_fieldAddr TE (hk := ?_))); refine TL_nil_p ?_); (refine TA_take 8 rfl (by kernel_rfl) (by kernel_rfl) (by kernel_rfl) ?_; (repeat (first | refine TL_move (hk := ?_) | refine TLP_load TE (hk := ?_) | refine TL_fieldAddr TE (hk := ?_))); refine TL_nil_p ?_); (refine TA_take 9 rfl (by kernel_rfl) (by kernel_rfl) (by kernel_rfl) ?_; (repeat (first | refine TL_move (hk := ?_) | refine TLP_load TE (hk := ?_) | refine TL_fieldAddr TE (hk := ?_))); refine TL_nil_p ?_); (refine TA_take 10 rfl (by kernel_rfl) (by kernel_rfl) (by kernel_rfl) ?_; (repeat (first | refine TL_move (hk := ?_) | refine TLP_load TE (hk := ?_) | refine TL_fieldAddr TE (hk := ?_))); refine TL_nil_p ?_)
    refine TA_one 5 rfl (by kernel_rfl) (by kernel_rfl) ?_; (try refine TL_yes (hk := ?_)); refine TL_call TE (hc := (NJoin_c x.a x.c _ N8.A)) (hq := (by rintro _ w9 ⟨rfl, g', t'⟩; exact t'.inD (Mod.refl _ _) (fun b hb q => List.mem_append_left _ (ownB_in z8 b hb q)))) (hk := ?_)
    rintro _ w9 ⟨rfl, g9, t9⟩
    have M9 := t9.inD (Mod.refl _ _) (fun b hb q => List.mem_append_left (ownB w5 h2) (ownB_in z8 b hb q))
    have N9 := N8.a g9 (partX_N _ _ _).1 t9
    have z9 := t9.size
    clear N8
    refine TL_nil_p ?_
    refine TA_one 11 rfl (by kernel_rfl) (by kernel_rfl) ?_; (try refine TL_yes (hk := ?_)); refine TL_call TE (hc := (RNPart_c x.a x.c false _ N9.B)) (hq := (by rintro _ w10 ⟨rfl, g', t'⟩; exact t'.inD M9 (fun b hb q => List.mem_append_right _ (ownB_in z8 b hb q)))) (hk := ?_)
    rintro _ w10 ⟨rfl, g10, t10⟩
    have N10 := N9.b g10 (partX_N _ _ _).1 t10
    have z10 := t10.size
    refine TL_nil_p ?_
    (refine TA_one 12 rfl (by kernel_rfl) (by kernel_rfl) ?_; (repeat (first | refine TL_beq TE (hk := ?_) | refine TL_assign (hk := ?_))); refine TL_nil_p ?_); (refine TA_one 13 rfl (by kernel_rfl) (by kernel_rfl) ?_; (repeat (first | refine TL_beq TE (hk := ?_) | refine TL_assign (hk := ?_))); refine TL_nil_p ?_)
    refine TA_done (by kernel_rfl) ?_
    --
    exact T_ret1 rfl rfl ⟨by simp, by have := e8.size; omega, _, _, _, _, _, _, _, _, N10⟩
  by_cases k8 : x.kd = 8
  · rw [did_8 (d := x.dd) k8]
    repeat (first | refine T_seq ?_ | refine T_region ?_ | refine T_cond_true rfl ?_ | refine T_cond_false rfl ?_ | refine T_block ?_ | refine TL_eq_t (hk := ?_) | refine TL_eq_f (hk := ?_) | refine TL_nil ?_ | refine TL_move (hk := ?_) | refine TL_assign (hk := ?_) | refine TL_load TE (hk := ?_) | refine TL_fieldAddr TE (hk := ?_))
    refine TL_call TE (hc := NTick_c _ N5.A hI) (hk := ?_)
    rintro _ w6 ⟨F6, h6, g6, t6⟩
    have N6 := N5.a g6 rfl t6
    have z6 := t6.size
    repeat (first | refine T_region ?_ | refine TL_nil ?_ | refine TL_move (hk := ?_))
    refine TL_call TE (hc := RNTick_c _ N6.B hI) (hk := ?_)
    rintro _ w7 ⟨F7, h7, g7, t7⟩
    have N7 := N6.b g7 rfl t7
    have z7 := t7.size
    repeat (first | refine T_seq ?_ | refine T_region ?_ | refine T_inBlock ?_ | refine TL_nil ?_ | refine TL_assign (hk := ?_))
    exact T_ret1 rfl rfl ⟨rfl, by omega, _, _, _, _, _, _, _, _, N7⟩
  by_cases k9 : x.kd = 9
  · rw [did_9 (d := x.dd) k9]
    have hA := NNext_c x.a _ N5.A hI
    have hN := nextX_N (ns := ns) x.a
    rw [show x.dd.a = x.a from rfl]
    cases hnx : nextX ns x.a with
    | mk ns' o =>
      rw [hnx] at hA hN
      cases o with
      | none =>
        have hns : ns' = ns := by
          unfold nextX at hnx
          split at hnx
          · split at hnx
            · cases hnx; rfl
            · cases hnx
          · cases hnx; rfl
        subst hns
        simp only at hA
        repeat (first | refine T_seq ?_ | refine T_region ?_ | refine T_cond_true rfl ?_ | refine T_cond_false rfl ?_ | refine T_block ?_ | refine TL_eq_t (hk := ?_) | refine TL_eq_f (hk := ?_) | refine TL_nil ?_ | refine TL_move (hk := ?_) | refine TL_assign (hk := ?_) | refine TL_load TE (hk := ?_) | refine TL_fieldAddr TE (hk := ?_))
        refine TL_call TE (hc := hA) (hk := ?_)
        rintro _ w6 ⟨rfl, rfl⟩
        have hB := RNNext_c x.a _ N5.B hI
        rw [hnx] at hB
        simp only at hB
        repeat (first | refine T_seq ?_ | refine T_region ?_ | refine TL_nil ?_ | refine TL_move (hk := ?_) | refine TL_assign (hk := ?_) | refine TL_load TE (hk := ?_) | refine TL_fieldAddr TE (hk := ?_) | refine TL_extract (hk := ?_))
        refine TL_call TE (hc := hB) (hk := ?_)
        rintro _ w6 ⟨rfl, rfl⟩
        repeat (first | refine T_seq ?_ | refine T_region ?_ | refine TL_ne_f (hk := ?_) | refine TL_bne TE (hk := ?_) | refine TL_nil ?_ | refine TL_move (hk := ?_) | refine TL_assign (hk := ?_) | refine TL_yes (hk := ?_) | refine TL_pick_f (hk := ?_) | refine TL_extract (hk := ?_))
        refine TL_call TE (hc := same_c26 none none 0 0 0 0 [] [] _ (Rd.nil _ _ _) (Rd.nil _ _ _)) (hk := ?_)
        rintro _ w6 ⟨rfl, rfl⟩
        rw [decide_eq_true rfl]
        repeat (first | refine T_region ?_ | refine T_cond_false rfl ?_ | refine T_skip ?_ | refine TL_nil ?_ | refine TL_move (hk := ?_) | refine TL_yes (hk := ?_) | refine TL_pick_f (hk := ?_) | refine TL_not (hk := ?_))
        refine TL_call TE (hc := spoil_c26 none 0 0 0 [] _ (Own.nil _ _ _ _) (by omega)) (hk := ?_)
        rintro _ w7 m7
        have m7' : Ext w6 w7 := m7
        have z7 := m7'.size
        repeat (first | refine T_seq ?_ | refine T_region ?_ | refine T_inBlock ?_ | refine TL_nil ?_ | refine TL_assign (hk := ?_))
        exact T_ret1 rfl rfl ⟨rfl, by omega, _, _, _, _, _, _, _, _, N5.ext m7'⟩
      | some cb =>
        obtain ⟨c, b⟩ := cb
        simp only at hA hN
        repeat (first | refine T_seq ?_ | refine T_region ?_ | refine T_cond_true rfl ?_ | refine T_cond_false rfl ?_ | refine T_block ?_ | refine TL_eq_t (hk := ?_) | refine TL_eq_f (hk := ?_) | refine TL_nil ?_ | refine TL_move (hk := ?_) | refine TL_assign (hk := ?_) | refine TL_load TE (hk := ?_) | refine TL_fieldAddr TE (hk := ?_))
        refine TL_call TE (hc := hA) (hk := ?_)
        rintro _ w6 ⟨y, F6, h6, rfl, g6, t6, hy, hyz⟩
        have N6 := N5.a g6 hN.1 t6
        have z6 := t6.size
        have hyb : ∀ u ∈ blkL y.1, h2 u = 0 := fun u hu => (N5.dj u).resolve_left (hyz u hu).2
        have k6 : Blk w6 b5 96 [.int .i64 x.kd, .int .i64 x.a, .int .i64 x.c, .slice x.A x.n x.d] := by
          obtain ⟨⟨S, m, s⟩, -, -⟩ := t6
          exact k5.mod m (fun q => s b5 q hb5.1)
        have hB := RNNext_c x.a _ N6.B hI
        rw [hnx] at hB
        simp only at hB
        clear k5
        repeat (first | refine T_seq ?_ | refine T_region ?_ | refine TL_nil ?_ | refine TL_move (hk := ?_) | refine TL_assign (hk := ?_) | refine TL_load TE (hk := ?_) | refine TL_fieldAddr TE (hk := ?_) | refine TL_extract (hk := ?_))
        refine TL_call TE (hc := hB) (hk := ?_)
        rintro _ w7 ⟨u, F7, h7, rfl, g7, t7, hu⟩
        have N7 := N6.b g7 hN.1 t7
        have z7 := t7.size
        obtain ⟨hy7, hyz7⟩ := hy.tn t7 hyb
        have hyl := hy7.cap
        unfold maxLen at hyl
        have hl2 := N.l1
        repeat (first | refine T_seq ?_ | refine T_region ?_ | refine TL_ne_f (hk := ?_) | refine TL_bne TE (hk := ?_) | refine TL_nil ?_ | refine TL_move (hk := ?_) | refine TL_assign (hk := ?_) | refine TL_yes (hk := ?_) | refine TL_pick_f (hk := ?_) | refine TL_extract (hk := ?_))
        refine TL_call TE (hc := same_c26 y.1 u.1 y.2.1 y.2.2 u.2.1 u.2.2 b b _ hy7.rd hu.rd) (hk := ?_)
        rintro _ w7 ⟨rfl, rfl⟩
        rw [decide_eq_true rfl]
        repeat (first | refine T_region ?_ | refine T_cond_false rfl ?_ | refine T_skip ?_ | refine TL_nil ?_ | refine TL_move (hk := ?_) | refine TL_yes (hk := ?_) | refine TL_pick_f (hk := ?_) | refine TL_not (hk := ?_))
        refine TL_call TE (hc := spoil_c26 y.1 y.2.1 y.2.2 _ _ _ hy7 (by omega)) (hk := ?_)
        rintro _ w8 m8
        have N8 := N7.mod m8 (fun q hq => (hyz q hq).1) hyz7 (fun q hq => by have := (hy7.bl q hq).1; omega)
        have z8 := m8.size
        repeat (first | refine T_seq ?_ | refine T_region ?_ | refine T_inBlock ?_ | refine TL_nil ?_ | refine TL_assign (hk := ?_))
        exact T_ret1 rfl rfl ⟨rfl, by omega, _, _, _, _, _, _, _, _, N8⟩
  by_cases k10 : x.kd = 10
  · rw [did_10 (d := x.dd) k10]
    have hra : x.a ≤ 1000000 := by have := h10 k10; omega
    have hD5 : b5 ∉ ownB w5 h1 ++ ownB w5 h2 := fun q => (List.mem_append.1 q).elim (fun q => ownB_mem q hb5.1) (fun q => ownB_mem q hb5.2)
    repeat (first | refine T_seq ?_ | refine T_region ?_ | refine T_cond_true rfl ?_ | refine T_cond_false rfl ?_ | refine T_block ?_ | refine TL_eq_t (hk := ?_) | refine TL_eq_f (hk := ?_) | refine TL_nil ?_ | refine TL_assign (hk := ?_) | refine TL_load TE (hk := ?_) | refine TL_fieldAddr TE (hk := ?_))
    refine T_region_any TE.mixed (ownB w5 h1 ++ ownB w5 h2) ?_; intro w8 e8 z8
    have N8 := N5.ext e8
    have k8 := k5.be e8
    (refine TA_take 0 rfl (by kernel_rfl) (by kernel_rfl) (by kernel_rfl) ?_; (repeat (first | refine TL_move (hk := ?_) | refine TLP_load TE (hk := ?_) | refine TL_fieldAddr TE (hk := ?_))); refine TL_nil_p ?_); (refine TA_take 1 rfl (by kernel_rfl) (by kernel_rfl) (by kernel_rfl) ?_; (repeat (first | refine TL_move (hk := ?_) | refine TLP_load TE (hk := ?_) | refine TL_fieldAddr TE (hk := ?_))); refine TL_nil_p ?_); (refine TA_take 2 rfl (by kernel_rfl) (by kernel_rfl) (by kernel_rfl) ?_; (repeat (first | refine TL_move (hk := ?_) | refine TLP_load TE (hk := ?_) | refine TL_fieldAddr TE (hk := ?_))); refine TL_nil_p ?_); (refine TA_take 4 rfl (by kernel_rfl) (by kernel_rfl) (by kernel_rfl) ?_; (repeat (first | refine TL_move (hk := ?_) | refine TLP_load TE (hk := ?_) | refine TL_fieldAddr TE (hk := ?_))); refine TL_nil_p ?_); (refine TA_take 5 rfl (by kernel_rfl) (by kernel_rfl) (by kernel_rfl) ?_; (repeat (first | refine TL_move (hk := ?_) | refine TLP_load TE (hk := ?_) | refine TL_fieldAddr TE (hk := ?_))); refine TL_nil_p ?_); (refine TA_take 6 rfl (by kernel_rfl) (by kernel_rfl) (by kernel_rfl) ?_; (repeat (first | refine TL_move (hk := ?_) | refine TLP_load TE (hk := ?_) | refine TL_fieldAddr TE (hk := ?_))); refine TL_nil_p ?_)
    refine TA_one 3 rfl (by kernel_rfl) (by kernel_rfl) ?_; (try refine TL_yes (hk := ?_)); refine TL_call TE (hc := (NDrain_c x.a _ hra N8.A hI)) (hq := (by rintro _ w9 ⟨rfl, M', F', h', g', t'⟩; exact t'.inD (Mod.refl _ _) (fun b hb q => List.mem_append_left _ (ownB_in z8 b hb q)))) (hk := ?_)
    rintro _ w9 ⟨rfl, M9', F9, h9, g9, t9⟩
    have M9 := t9.inD (Mod.refl _ _) (fun b hb q => List.mem_append_left (ownB w5 h2) (ownB_in z8 b hb q))
    have N9 := N8.a g9 (drainX_N _).1 t9
    have z9 := t9.size
    clear N8
    refine TL_nil_p ?_
    refine TA_one 7 rfl (by kernel_rfl) (by kernel_rfl) ?_; (try refine TL_yes (hk := ?_)); refine TL_call TE (hc := (RNDrain_c x.a _ hra N9.B hI)) (hq := (by rintro _ w10 ⟨rfl, M', F', h', g', t'⟩; exact t'.inD M9 (fun b hb q => List.mem_append_right _ (ownB_in z8 b hb q)))) (hk := ?_)
    rintro _ w10 ⟨rfl, M10, F10, h10', g10, t10⟩
    have N10 := N9.b g10 (drainX_N _).1 t10
    have z10 := t10.size
    refine TL_nil_p ?_
    (refine TA_one 8 rfl (by kernel_rfl) (by kernel_rfl) ?_; (repeat (first | refine TL_eq_t (hk := ?_) | refine TL_assign (hk := ?_))); refine TL_nil_p ?_); (refine TA_one 9 rfl (by kernel_rfl) (by kernel_rfl) ?_; (repeat (first | refine TL_eq_t (hk := ?_) | refine TL_assign (hk := ?_))); refine TL_nil_p ?_)
    refine TA_done (by kernel_rfl) ?_
    --
    exact T_ret1 rfl rfl ⟨rfl, by have := e8.size; omega, _, _, _, _, _, _, _, _, N10⟩
  rw [did_0 (d := x.dd) k1 k2 k3 k4 k5' k6 k7 k8 k9 k10]
  repeat (first | refine T_seq ?_ | refine T_region ?_ | refine T_cond_false rfl ?_ | refine T_block ?_ | refine T_inBlock ?_ | refine T_skip ?_ | refine TL_eq_f (hk := ?_) | refine TL_nil ?_ | refine TL_assign (hk := ?_) | refine TL_load TE (hk := ?_) | refine TL_fieldAddr TE (hk := ?_))
  exact T_ret1 rfl rfl ⟨rfl, by omega, _, _, _, _, _, _, _, _, N5⟩
end Go.Proofs.Ytjjgojgahibpgaa

namespace Go.Proofs.Ytjjgojgahibpgaa
open Go.RowKit Go.Proofs.Eng Go.Proofs.Codec Go.Proofs.Link
set_option linter.unusedSimpArgs false
set_option linter.unusedVariables false set_option maxRecDepth 10000
attribute [local irreducible] T TL LV TH TA
set_option maxHeartbeats 6400000
theorem snd_get (ys : List (PK × SV)) (k : Nat) : (ys.map (·.2)).getD k (none, 0, 0) = (ys.getD k pk0).2 := by
  rw [List.getD_eq_getElem?_getD, List.getD_eq_getElem?_getD, List.getElem?_map]
  cases ys[k]? <;> rfl
theorem LinkNets_c (v0 : Value) (w : World) {base : Nat} (hM : 1048576 ≤ 1048576) (hv : ReadsB Try.prog w base 87 v0 1048576) :
    Ret Try.prog 9 [v0] w (fun v w' => v = .bool true ∧ Ext w w') := by
  obtain ⟨N, W, P, A, n, c, l, rfl, hN, hW, hP, hA, hl, hm, hn⟩ := wide_in hv
  clear hv hM
  unfold i64ok at hN hW hP
  refine ret_T (n := 100) Try.func9 rfl rfl ?_
  repeat (first | refine T_seq ?_ | refine T_region ?_)
  refine TL_box (hk := ?_); intro b2 w2 e2 q2 q2' k2
  replace k2 : Blk w2 b2 87 [.int .i64 N, .int .i64 W, .int .i64 P, .slice A n c] := k2
  have h2 := hA.be e2
  have hm2 : ∀ x ∈ l, DvOk w2 x := fun x hx => (hm x hx).be e2
  repeat (first | refine T_seq ?_ | refine T_region ?_ | refine TL_nil ?_ | refine TL_assign (hk := ?_))
  refine TL_loadb TE (cs := [.int .i64 N, .int .i64 W, .int .i64 P, .slice A n c]) (o := 0) rfl rfl k2 rfl rfl (Nat.succ_pos _) (hk := ?_)
  --
  refine TL_call TE (hc := huge_c26 N W P A n c l _ h2 hl hm2 hn) (hk := ?_)
  rintro _ w3 ⟨rfl | ⟨rfl, hn4, h10⟩, e3⟩
  · repeat (first | refine T_seq ?_ | refine T_region ?_ | refine T_cond_true rfl ?_ | refine TL_nil ?_)
    refine TL_call TE (hc := net_c26 _) (hk := ?_)
    rintro _ w4 ⟨rfl, e4⟩
    repeat (first | refine TL_nil ?_ | refine TL_assign (hk := ?_))
    exact T_ret1 rfl rfl ⟨rfl, (e2.ext e3).ext e4⟩
  have k3 := k2.be e3
  have z3 := e3.size
  repeat (first | refine T_seq ?_ | refine T_region ?_ | refine T_cond_false rfl ?_ | refine T_skip ?_ | refine TL_nil ?_ | refine TL_load TE (hk := ?_) | refine TL_fieldAddr TE (hk := ?_))
  refine TL_call TE (hc := NNewNet_c N W P _ hN hW hP) (hk := ?_)
  rintro _ w4 ⟨e4, ⟨hf, rfl⟩ | ⟨N', W', P', rfl, rfl, rfl, hN1, hN2, hW', hP', hf, p1, M1, F1, o1, rfl, g1⟩⟩
  · have k4 := k3.be e4
    repeat (first | refine T_seq ?_ | refine T_region ?_ | refine TL_nil ?_ | refine TL_move (hk := ?_) | refine TL_assign (hk := ?_) | refine TL_load TE (hk := ?_) | refine TL_fieldAddr TE (hk := ?_) | refine TL_extract (hk := ?_))
    refine TL_call TE (hc := RNNewNet_c N W P _ hN hW hP) (hk := ?_)
    rintro _ w5 ⟨e5, ⟨-, rfl⟩ | ⟨_, _, _, _, _, _, _, _, _, _, hf2, -⟩⟩
    · have k5 := k4.be e5
      repeat (first | refine T_seq ?_ | refine T_region ?_ | refine TL_nil ?_ | refine TL_move (hk := ?_) | refine TL_assign (hk := ?_) | refine TL_extract (hk := ?_))
      refine TL_call TE (hc := num_c26 _ _) (hk := ?_)
      rintro _ w5 ⟨rfl, rfl⟩
      repeat (first | refine TL_ne_f (hk := ?_) | refine TL_pnil_t TE (hk := ?_) | refine TL_bne TE (hk := ?_) | refine TL_move (hk := ?_) | refine TL_yes (hk := ?_) | refine TL_pick_f (hk := ?_))
      refine TL_call TE (hc := net_c26 _) (hk := ?_)
      rintro _ w6 ⟨rfl, e6⟩
      repeat (first | refine TL_move (hk := ?_) | refine TL_yes (hk := ?_) | refine TL_pick_f (hk := ?_) | refine TL_not (hk := ?_))
      refine TL_call TE (hc := live_c26 _) (hk := ?_)
      rintro _ w7 ⟨rfl, e7⟩
      repeat (first | refine T_seq ?_ | refine T_region ?_ | refine T_cond_false rfl ?_ | refine T_block ?_ | refine T_skip ?_ | refine TL_nil ?_ | refine TL_assign (hk := ?_) | refine TL_yes (hk := ?_) | refine TL_pick_f (hk := ?_) | refine TL_not (hk := ?_))
      refine T_loop (ι := Unit) (fun _ => [(3, .pointer none)]) (fun _ w' => w' = w7) (fun _ => 0) () (.c rfl (.n)) rfl ?_
      rintro _ w8 rfl -
      repeat (first | refine T_seq ?_ | refine T_region ?_ | refine T_cond_false rfl ?_ | refine T_exit rfl ?_ | refine TL_pnn_f TE (hk := ?_) | refine TL_nil ?_ | refine TL_move (hk := ?_) | refine TL_assign (hk := ?_) | refine TL_no (hk := ?_) | refine TL_pick_f (hk := ?_))
      exact T_ret1 rfl rfl ⟨rfl, ((((e2.ext e3).ext e4).ext e5).ext e6).ext e7⟩
    · rw [hf] at hf2; cases hf2
  have k4 := k3.be e4
  have z4 := e4.size
  repeat (first | refine T_seq ?_ | refine T_region ?_ | refine TL_nil ?_ | refine TL_move (hk := ?_) | refine TL_assign (hk := ?_) | refine TL_load TE (hk := ?_) | refine TL_fieldAddr TE (hk := ?_) | refine TL_extract (hk := ?_))
  refine TL_call TE (hc := RNNewNet_c (N' : Int) (W' : Int) (P' : Int) _ hN hW hP) (hk := ?_)
  rintro _ w5 ⟨e5, ⟨hf2, -⟩ | ⟨N2, W2, P2, hN2', hW2', hP2', -, -, -, -, -, p2, M2, F2, o2, rfl, g2⟩⟩
  · rw [hf] at hf2; cases hf2
  obtain rfl : N' = N2 := by omega
  obtain rfl : W' = W2 := by omega
  obtain rfl : P' = P2 := by omega
  have hI0 : NI 0 (nsN N' W' P') (fun _ _ => []) (fun _ _ => 0) := NI.start ⟨hN1, hN2⟩ hW' hP'
  have z5 := e5.size
  have n0 : NPm w2 w5 (nsN N' W' P') _ p1 M1 F1 o1 (nsN N' W' P') _ p2 M2 F2 o2 := ⟨(e3.ext e4).ext e5, g1.ext e5, g2, fun b => by
    by_cases q : o1 b = 0
    · exact .inl q
    · right
      have a1 := (g1.old b q).2
      by_cases y : o2 b = 0
      · exact y
      · have := (g2.old b y).1; omega, z3, by omega⟩
  have k5 := k4.be e5
  repeat (first | refine T_seq ?_ | refine T_region ?_ | refine TL_nil ?_ | refine TL_move (hk := ?_) | refine TL_assign (hk := ?_) | refine TL_extract (hk := ?_))
  refine TL_call TE (hc := num_c26 _ _) (hk := ?_)
  rintro _ w5 ⟨rfl, rfl⟩
  repeat (first | refine TL_ne_f (hk := ?_) | refine TL_pnil_f TE (hk := ?_) | refine TL_bne TE (hk := ?_) | refine TL_move (hk := ?_) | refine TL_yes (hk := ?_) | refine TL_pick_f (hk := ?_))
  refine TL_call TE (hc := net_c26 _) (hk := ?_)
  rintro _ w6 ⟨rfl, e6⟩
  repeat (first | refine TL_move (hk := ?_) | refine TL_yes (hk := ?_) | refine TL_pick_f (hk := ?_) | refine TL_not (hk := ?_))
  refine TL_call TE (hc := live_c26 _) (hk := ?_)
  rintro _ w7 ⟨rfl, e7⟩
  have n7 := (n0.ext e6).ext e7
  clear n0 g1 g2 k3 k4 k5 e3 e4 e5 e6 e7 z3 z4 z5
  repeat (first | refine T_seq ?_ | refine T_region ?_ | refine T_cond_false rfl ?_ | refine T_block ?_ | refine T_skip ?_ | refine TL_nil ?_ | refine TL_assign (hk := ?_) | refine TL_yes (hk := ?_) | refine TL_pick_f (hk := ?_) | refine TL_not (hk := ?_))
  refine T_loop (ι := Nat) (fun i => [(7, .int .i64 (i : Int)), (3, ptr p1), (5, ptr p2), (1, ptr b2), (2, .bool false)]) (fun i w' => i ≤ n ∧ ∃ ns, NP w2 w' ns p1 p2 ∧ NJ i ns) (fun i => n - i) 0 (.c rfl (.c rfl (.c rfl (.c rfl (.c rfl (.n)))))) ⟨Nat.zero_le _, _, ⟨_, _, _, _, _, _, _, _, n7⟩, _, _, hI0⟩ ?_
  clear n7 hI0
  rintro i w3 ⟨hi, ns, ⟨c1, o1, c2, o2, M1, F1, M2, F2, n3⟩, L, U, hI⟩ ih
  have k3 := k2.be n3.e
  by_cases hlt : i < n
  · have r3 := h2.be n3.e
    have hel := rowV_elem dvV_len l i dv0 (by omega)
    have hmem : l.getD i dv0 ∈ l := getMem (by omega)
    have hx2 := hm2 _ hmem
    have h10x := h10 _ hmem
    obtain ⟨x, hx⟩ : ∃ x, l.getD i dv0 = x := ⟨_, rfl⟩
    rw [hx] at hel hx2 h10x
    have hAn : A ≠ none := by obtain ⟨_, _, hq, _⟩ := r3.2 (by omega); rw [hq]; simp
    repeat (first | refine T_seq ?_ | refine T_region ?_ | refine T_cond_true rfl ?_ | refine T_block ?_ | refine T_skip ?_ | refine TL_lt_t (hk := ?_) | refine TL_pnn_t TE (hk := ?_) | refine TL_nil ?_ | refine TL_move (hk := ?_) | refine TL_load TE (hk := ?_) | refine TL_fieldAddr TE (hk := ?_) | refine TL_indexAddrn TE (hk := ?_) | refine TL_len TE (hk := ?_) | refine TL_yes (hk := ?_) | refine TL_pick_t (hk := ?_))
    refine TL_loada TE (cs := dvV x) (hx := rfl) (ht := rfl) (hi := rfl) (hr := r3) (hc := hel) (h0 := Nat.succ_pos _) (hk := ?_)
    --
    refine TL_call TE (hc := done_c26 x w2 _ n3 hI hx2 h10x) (hk := ?_)
    rintro _ w4 ⟨rfl, z34, c1, o1, c2, o2, M1, F1, M2, F2, n4⟩
    obtain ⟨L4, U4, hI4⟩ := NJ.did ⟨L, U, hI⟩ (by omega) x.dd
    clear n3 k3 r3 hel
    repeat (first | refine TL_move (hk := ?_) | refine TL_yes (hk := ?_) | refine TL_not (hk := ?_))
    refine TL_call TE (hc := NRest_c _ n4.A hI4) (hk := ?_)
    rintro _ w4 ⟨rfl, rfl⟩
    repeat (first | refine TL_move (hk := ?_) | refine TL_yes (hk := ?_))
    refine TL_call TE (hc := RNRest_c _ n4.B hI4) (hk := ?_)
    rintro _ w5 ⟨rfl, e5⟩
    have n5 := n4.ext e5
    clear n4
    repeat (first | refine T_seq ?_ | refine T_region ?_ | refine T_cond_false rfl ?_ | refine T_skip ?_ | refine TL_ne_f (hk := ?_) | refine TL_nil ?_ | refine TL_move (hk := ?_) | refine TL_yes (hk := ?_) | refine TL_pick_f (hk := ?_))
    refine TL_call TE (hc := NPackets_c _ n5.A hI4) (hk := ?_)
    rintro _ w6 ⟨O, ys, rfl, e6, hO⟩
    have n6 := n5.ext e6
    have hnew : ∀ b, w5.heap.size ≤ b → o1 b = 0 ∧ o2 b = 0 := fun b hb => n5.new hb
    have kR := n6.B.kR
    have hB3 := n6.B.l3
    have hol := hO.own.len
    rw [rowV_len pkV_len] at hol
    have hyl := congrArg List.length hO.eq
    rw [List.length_map] at hyl
    have hwl := hI4.wl
    have z05 := n5.e.size
    clear n5
    have hys : ∀ y ∈ ys, Rd w6 y.2.1 y.2.2.1 1 (bv y.1.b) := fun y hy => by
      obtain ⟨k, hk, rfl⟩ := List.mem_iff_getElem.1 hy
      have := hO.bod.get k (by rw [List.length_map]; exact hk)
      rw [snd_get] at this
      have h3 : (((didX ns x.dd).way.map (·.b)).getD k []) = (ys[k]).1.b := by
        rw [← hO.eq, List.map_map, List.getD_eq_getElem?_getD, List.getElem?_map, List.getElem?_eq_getElem hk]
        rfl
      rw [h3, List.getD_eq_getElem?_getD, List.getElem?_eq_getElem hk] at this
      exact this.rd
    repeat (first | refine T_seq ?_ | refine T_region ?_ | refine TL_nil ?_ | refine TL_move (hk := ?_) | refine TL_assign (hk := ?_) | refine TL_load TE (hk := ?_) | refine TL_fieldAddr TE (hk := ?_) | refine TL_nilCheck (hk := ?_))
    refine TL_call TE (hc := packets_c26 O M2.s3 ys M2.y _ hO.own.rd n6.B.o3.rd hys (fun z hz => (n6.B.fr z hz).1) (hO.eq.trans n6.B.wy) (by omega)) (hk := ?_)
    rintro _ w7 ⟨rfl, e7⟩
    have n7 := n6.ext e7
    have hO7 := hO.be e7
    clear n6 hO kR hB3
    repeat (first | refine T_seq ?_ | refine T_region ?_ | refine T_cond_false rfl ?_ | refine T_block ?_ | refine T_skip ?_ | refine TL_nil ?_ | refine TL_assign (hk := ?_) | refine TL_not (hk := ?_))
    refine T_loop (ι := Nat) (fun k => [(9, .int .i64 (k : Int)), (8, slV O), (7, .int .i64 (i : Int)), (3, ptr p1), (5, ptr p2), (1, ptr b2), (2, .bool false)])
      (fun k w' => k ≤ ys.length ∧ NPm w2 w' (didX ns x.dd) c1 p1 M1 F1 o1 (didX ns x.dd) c2 p2 M2 F2 o2 ∧ Rd w' O.1 O.2.1 3 (rowV pkV ys) ∧ ∀ j, k ≤ j → j < ys.length → Body w' w5.heap.size (ys.getD j pk0).2 (((didX ns x.dd).way.map (·.b)).getD j [])) (fun k => ys.length - k) 0 (.c rfl (.c rfl (.c rfl (.c rfl (.c rfl (.c rfl (.c rfl (.n))))))))
      ⟨Nat.zero_le _, n7, hO7.own.rd, fun j _ hj => by have := hO7.bod.get j (by rw [List.length_map]; exact hj); rwa [snd_get] at this⟩ ?_
    clear n7
    rintro k w8 ⟨hk, n8, r8, hb8⟩ ih2
    by_cases hkl : k < ys.length
    · have hOn : O.1 ≠ none := by obtain ⟨_, _, hq, _⟩ := r8.2 (by omega); rw [hq]; simp
      have hv2 : (rowV pkV ys)[k * 3 + 2]? = some (slV (ys.getD k pk0).2) := rowV_at pkV_len ys k 2 pk0 hkl (by omega)
      have hbk := hb8 k (Nat.le_refl _) hkl
      have hyb := hbk.cap
      have hkz : ∀ b ∈ blkL (ys.getD k pk0).2.1, b ∈ blkS (ys.map (·.2)) := fun b q => blkS_get (j := k) (by rw [List.length_map]; exact hkl) (by rw [snd_get]; exact q)
      have hdj := fun j h1 h2 => blkS_disj hO7.nd (j := j) (k := k) (by rw [List.length_map]; exact h1) (by rw [List.length_map]; exact hkl) h2
      simp only [snd_get] at hdj
      have hlb := hbk.lt
      generalize (ys.getD k pk0).2 = y at hv2 hbk hyb hkz hdj hlb
      unfold maxLen at hyb
      repeat (first | refine T_seq ?_ | refine T_region ?_ | refine T_cond_true rfl ?_ | refine T_block ?_ | refine T_skip ?_ | refine TL_lt_t (hk := ?_) | refine TL_nil ?_ | refine TL_move (hk := ?_) | refine TL_load_rd TE (hk := ?_) | refine TL_fieldAddr_e TE (hk := ?_) | refine TL_indexAddrn TE (hk := ?_) | refine TL_len TE (hk := ?_))
      refine TL_call TE (hc := spoil_c26 y.1 y.2.1 y.2.2 _ _ _ hbk (by omega)) (hk := ?_)
      rintro _ w9 m9
      have n9 := n8.mod m9 (fun b q => (hnew b (hlb b q).1).1) (fun b q => (hnew b (hlb b q).1).2) (fun b q => by have := (hlb b q).1; omega)
      have r9 := r8.mod m9 (off_of fun b q q' => hO7.off b (hkz b q') q)
      repeat (first | refine T_region ?_ | refine T_inBlock ?_ | refine TL_add (hk := ?_) | refine TL_nil ?_ | refine TL_move (hk := ?_) | refine TL_assign (hk := ?_))
      exact ih2 (k + 1) w9 _ (by omega) ⟨by omega, n9, r9, fun j h1 h2 => (hb8 j (by omega) h2).mod m9 (hdj j h2 (by omega))⟩ (.c rfl (.c rfl (.c rfl (.c rfl (.c rfl (.c rfl (.c rfl (.n))))))))
    · clear ih2
      repeat (first | refine T_seq ?_ | refine T_region ?_ | refine T_cond_false rfl ?_ | refine T_inBlock ?_ | refine T_exit rfl ?_ | refine TL_add (hk := ?_) | refine TL_lt_f (hk := ?_) | refine TL_nil ?_ | refine TL_move (hk := ?_) | refine TL_assign (hk := ?_) | refine TL_len TE (hk := ?_))
      exact ih (i + 1) _ _ (by omega) ⟨by omega, _, ⟨_, _, _, _, _, _, _, _, n8⟩, _, _, hI4⟩ (.c rfl (.c rfl (.c rfl (.c rfl (.c rfl (.n))))))
  · clear ih
    repeat (first | refine T_seq ?_ | refine T_region ?_ | refine T_cond_false rfl ?_ | refine T_exit rfl ?_ | refine TL_lt_f (hk := ?_) | refine TL_pnn_t TE (hk := ?_) | refine TL_nil ?_ | refine TL_move (hk := ?_) | refine TL_assign (hk := ?_) | refine TL_load TE (hk := ?_) | refine TL_fieldAddr TE (hk := ?_) | refine TL_len TE (hk := ?_) | refine TL_yes (hk := ?_) | refine TL_pick_t (hk := ?_))
    exact T_ret1 rfl rfl ⟨rfl, e2.ext n3.e⟩
end Go.Proofs.Ytjjgojgahibpgaa
