import Derived.Test.YtkmdmpmimojmbaaCW22
import Derived.Test.YtkmdmpmimojmbaaCLaw5
import Derived.Test.YtkmdmpmimojmbaaEng10
namespace Go.Proofs.Ytkmdmpmimojmbaa
open Go.RowKit Go.Proofs.Eng Go.Proofs.Codec
set_option linter.unusedSimpArgs false
set_option linter.unusedVariables false
attribute [local irreducible] T TL LV TH
set_option maxHeartbeats 2000000

theorem exists_list {α : Type} {Q : Nat → α → Prop} : ∀ (n : Nat), (∀ i, i < n → ∃ l, Q i l) → ∃ Ls : List α, Ls.length = n ∧ ∀ i l, Ls[i]? = some l → Q i l
  | 0, _ => ⟨[], rfl, fun i l h => by simp at h⟩
  | n + 1, h => by
    obtain ⟨Ls, hl, hq⟩ := exists_list n (fun i hi => h i (by omega))
    obtain ⟨x, hx⟩ := h n (by omega)
    refine ⟨Ls ++ [x], by simp [hl], fun i l hi => ?_⟩
    rcases Nat.lt_or_ge i n with h1 | h1
    · rw [List.getElem?_append_left (by omega)] at hi
      exact hq i l hi
    · have hlt := (List.getElem?_eq_some_iff.1 hi).1
      have : i = n := by simp [hl] at hlt; omega
      subst this
      rw [List.getElem?_append_right (by omega), hl, Nat.sub_self] at hi
      simp at hi
      subst hi
      exact hx
theorem total_le : ∀ (Ls : List (List UInt8)) (ms : List Nat), Ls.length = ms.length → (∀ (i : Nat) (l : List UInt8) (k : Nat), Ls[i]? = some l → ms[i]? = some k → l.length + 1 ≤ k) → total Ls + Ls.length ≤ ms.sum
  | [], ms, h, _ => by cases ms <;> simp [total] at h ⊢
  | l :: Ls, [], h, _ => by simp at h
  | l :: Ls, k :: ms, h, hk => by
    have h1 := total_le Ls ms (by simpa using h) (fun i l k a b => hk (i + 1) l k (by simpa using a) (by simpa using b))
    have h2 := hk 0 l k rfl rfl
    simp only [total, List.length_cons, List.sum_cons]
    omega
theorem total_take : ∀ (Ls : List (List UInt8)) (i : Nat), total (Ls.take i) ≤ total Ls
  | [], i => by simp [total]
  | l :: Ls, 0 => by simp [total]
  | l :: Ls, i + 1 => by have := total_take Ls i; simp only [List.take_succ_cons, total]; omega
theorem flat_one : ∀ (rows : List (List Value)), (∀ x ∈ rows, x.length = 1) → ∀ (i : Nat) (v : Value), rows[i]? = some [v] → rows.flatten[i]? = some v
  | [], _, i, v, h => by simp at h
  | x :: t, hs, 0, v, h => by simp at h; subst h; simp
  | x :: t, hs, i + 1, v, h => by
    have hx := hs x (by simp)
    obtain ⟨y, rfl⟩ : ∃ y, x = [y] := by
      cases x with
      | nil => simp at hx
      | cons y t => cases t <;> simp at hx; exact ⟨y, rfl⟩
    simpa using flat_one t (fun y hy => hs y (by simp [hy])) i v (by simpa using h)
theorem rows_bytes {w : World} {A : Option Addr} {n c m : Nat} (h : FitB w (.slice (.slice (.int .u8))) [.slice A n c] m) : ∃ (xs : List Value) (Ls : List (List UInt8)), Ls.length = n ∧ n ≤ c ∧ c ≤ maxLen ∧ Rd w A n 1 xs ∧ total Ls + n + 1 ≤ m ∧
    ∀ (i : Nat) (l : List UInt8), Ls[i]? = some l → ∃ A' n' c', xs[i]? = some (.slice A' n' c') ∧ Rd w A' n' 1 (bv l) ∧ n' ≤ c' ∧ c' ≤ maxLen := by
  obtain ⟨A', n', c', rows, ms, hv, h1, h2, h3, h4, h5, h6, h7⟩ := h
  cases hv
  have hs : ∀ x ∈ rows, x.length = 1 := fun x hx => by
    obtain ⟨i, hi⟩ := List.getElem?_of_mem hx
    have hlt := (List.getElem?_eq_some_iff.1 hi).1
    exact (h7 i x ms[i] hi (List.getElem?_eq_getElem (by omega))).1
  obtain ⟨Ls, hL, hQ⟩ := exists_list (Q := fun i (l : List UInt8) => ∃ A' n' c', rows.flatten[i]? = some (.slice A' n' c') ∧ Rd w A' n' 1 (bv l) ∧ n' ≤ c' ∧ c' ≤ maxLen ∧ ∀ k, ms[i]? = some k → l.length + 1 ≤ k) n (fun i hi => by
    have hx : rows[i]? = some rows[i] := List.getElem?_eq_getElem (by omega)
    obtain ⟨h8, h9⟩ := h7 i rows[i] ms[i] hx (List.getElem?_eq_getElem (by omega))
    obtain ⟨A', n', c', _, _, hr, _⟩ := id h9
    rw [hr] at hx h9
    obtain ⟨l, g1, g2, g3, g4⟩ := FitB.bytes h9
    have hl : l.length = n' := by simpa using g1.1
    refine ⟨l, A', n', c', flat_one rows hs i _ hx, g1, g2, g3, fun k hk => ?_⟩
    rw [List.getElem?_eq_getElem (by omega)] at hk
    cases hk
    omega)
  refine ⟨rows.flatten, Ls, hL, h1, h2, h6, ?_, fun i l hl => ?_⟩
  · have := total_le Ls ms (by omega) (fun i l k a b => by obtain ⟨_, _, _, _, _, _, _, h⟩ := hQ i l a; exact h k b)
    omega
  · obtain ⟨A', n', c', g1, g2, g3, g4, _⟩ := hQ i l hl
    exact ⟨A', n', c', g1, g2, g3, g4⟩

theorem CodecTorn_c (v0 : Value) (B : Option Addr) (m d : Nat) (k : List UInt8) (cut : Int) (w : World) {base M : Nat} (hM : M ≤ 1048576) (hv : ReadsB Try.prog w base 53 v0 M) (hB : Rd w B m 1 (bv k)) (hmd : m ≤ d) (hdm : d ≤ maxLen) (hcut : (Lit.int .i64 cut).wf = true) :
    Ret Try.prog 8 [v0, .slice B m d, .int .i64 cut] w (fun v w' => v = .bool true ∧ Ext w w') := by
  have hcut := fits_of_wf hcut
  unfold Fits at hcut
  obtain ⟨A0, n0, c0, rfl⟩ := hv.slice TE rfl
  obtain ⟨xs, Ls, hL, hnc, hcm, hx, htot, hrow⟩ := rows_bytes (hv.fit TE (.slice (.slice (.int .u8))) (by decide +kernel))
  unfold maxLen at hdm hcm
  have hlen : k.length = m := by simpa using hB.1
  clear hv
  refine ret_T (n := 155) Try.func8 rfl rfl ?_
  repeat (first | refine T_seq ?_ | refine T_region ?_ | refine T_block ?_ | refine TL_nil ?_ | refine TL_assign (hk := ?_))
  refine T_loop (ι := Nat) (fun i => [(8, .int .i64 (i : Int)), (7, .int .i64 (total (Ls.take i) : Int)), (0, .slice A0 n0 c0), (1, .slice B m d), (2, .int .i64 cut)])
    (fun i w' => w' = w ∧ i ≤ n0 ∧ ∀ l ∈ Ls.take i, l.length ≤ 65536) (fun i => n0 - i) 0 (.c rfl (.c rfl (.c rfl (.c rfl (.c rfl (.n)))))) ⟨rfl, by simp, by simp⟩ ?_
  rintro i w1 ⟨rfl, hi, hsm⟩ ih
  have hti := total_take Ls i
  by_cases hin : i < n0
  · obtain ⟨l, hl⟩ : ∃ l, Ls[i]? = some l := ⟨_, List.getElem?_eq_getElem (by omega)⟩
    obtain ⟨A1, n1, c1, hx1, hr1, hn1, hc1⟩ := hrow i l hl
    have hll : l.length = n1 := by simpa using hr1.1
    have htk : Ls.take (i + 1) = Ls.take i ++ [l] := by rw [List.take_add_one, hl]; rfl
    have hts : total (Ls.take (i + 1)) = total (Ls.take i) + n1 := by rw [htk, total_snoc, hll]
    have hti2 := total_take Ls (i + 1)
    by_cases hbig : 65536 < n1
    · repeat (first | refine T_seq ?_ | refine T_region ?_ | refine T_cond_true rfl ?_ | refine T_block ?_ | refine T_skip ?_ | refine TL_add (hk := ?_) | refine TL_lt_t (hk := ?_) | refine TL_gt_t (hk := ?_) | refine TL_nil ?_ | refine TL_move (hk := ?_) | refine TL_assign (hk := ?_) | refine TL_load_rd TE (hk := ?_) | refine TL_indexAddr1n TE (hk := ?_) | refine TL_len TE (hk := ?_))
      refine TL_call TE (hc := live_c w1) (hk := ?_)
      rintro _ w2 ⟨rfl, e2⟩
      repeat (first | refine TL_nil ?_ | refine TL_assign (hk := ?_))
      exact T_ret1 rfl rfl ⟨rfl, e2⟩
    · repeat (first | refine T_seq ?_ | refine T_region ?_ | refine T_cond_true rfl ?_ | refine T_cond_false rfl ?_ | refine T_block ?_ | refine T_inBlock ?_ | refine T_skip ?_ | refine TL_add (hk := ?_) | refine TL_lt_t (hk := ?_) | refine TL_gt_f (hk := ?_) | refine TL_nil ?_ | refine TL_move (hk := ?_) | refine TL_assign (hk := ?_) | refine TL_load_rd TE (hk := ?_) | refine TL_indexAddr1n TE (hk := ?_) | refine TL_len TE (hk := ?_))
      refine ih (i + 1) _ _ (by omega) ⟨rfl, by omega, fun x hx => ?_⟩ ?_
      · rw [htk] at hx
        rcases List.mem_append.1 hx with h | h
        · exact hsm x h
        · simp at h; subst h; omega
      · rw [hts]
        exact (.c rfl (.c rfl (.c rfl (.c rfl (.c rfl (.n))))))
  have : n0 = i := by omega
  subst this
  have hall : Ls.take n0 = Ls := List.take_of_length_le (by omega)
  rw [hall] at hsm ⊢
  clear ih hi hin hti
  by_cases g1 : 200000 < total Ls
  · repeat (first | refine T_seq ?_ | refine T_region ?_ | refine T_cond_true rfl ?_ | refine T_cond_false rfl ?_ | refine T_exit rfl ?_ | refine TL_lt_f (hk := ?_) | refine TL_gt_t (hk := ?_) | refine TL_nil ?_ | refine TL_move (hk := ?_) | refine TL_len TE (hk := ?_) | refine TL_no (hk := ?_) | refine TL_pick_t (hk := ?_))
    refine TL_call TE (hc := live_c w1) (hk := ?_)
    rintro _ w2 ⟨rfl, e2⟩
    repeat (first | refine TL_nil ?_ | refine TL_assign (hk := ?_))
    exact T_ret1 rfl rfl ⟨rfl, e2⟩
  by_cases g2 : 100 < n0
  · repeat (first | refine T_seq ?_ | refine T_region ?_ | refine T_cond_true rfl ?_ | refine T_cond_false rfl ?_ | refine T_exit rfl ?_ | refine TL_lt_f (hk := ?_) | refine TL_gt_t (hk := ?_) | refine TL_gt_f (hk := ?_) | refine TL_nil ?_ | refine TL_move (hk := ?_) | refine TL_len TE (hk := ?_) | refine TL_yes (hk := ?_) | refine TL_no (hk := ?_) | refine TL_pick_t (hk := ?_) | refine TL_pick_f (hk := ?_))
    refine TL_call TE (hc := live_c w1) (hk := ?_)
    rintro _ w2 ⟨rfl, e2⟩
    repeat (first | refine TL_nil ?_ | refine TL_assign (hk := ?_))
    exact T_ret1 rfl rfl ⟨rfl, e2⟩
  by_cases g3 : 65536 < m
  · repeat (first | refine T_seq ?_ | refine T_region ?_ | refine T_cond_true rfl ?_ | refine T_cond_false rfl ?_ | refine T_exit rfl ?_ | refine TL_lt_f (hk := ?_) | refine TL_gt_t (hk := ?_) | refine TL_gt_f (hk := ?_) | refine TL_nil ?_ | refine TL_move (hk := ?_) | refine TL_len TE (hk := ?_) | refine TL_yes (hk := ?_) | refine TL_pick_f (hk := ?_))
    refine TL_call TE (hc := live_c w1) (hk := ?_)
    rintro _ w2 ⟨rfl, e2⟩
    repeat (first | refine TL_nil ?_ | refine TL_assign (hk := ?_))
    exact T_ret1 rfl rfl ⟨rfl, e2⟩
  repeat (first | refine T_seq ?_ | refine T_region ?_ | refine T_cond_false rfl ?_ | refine T_block ?_ | refine T_skip ?_ | refine T_exit rfl ?_ | refine TL_lt_f (hk := ?_) | refine TL_gt_f (hk := ?_) | refine TL_nil ?_ | refine TL_move (hk := ?_) | refine TL_assign (hk := ?_) | refine TL_len TE (hk := ?_) | refine TL_yes (hk := ?_) | refine TL_pick_f (hk := ?_))
  refine T_loop (ι := Nat × (Option Addr × Nat × Nat)) (fun i => [(10, .int .i64 (i.1 : Int)), (9, .slice i.2.1 i.2.2.1 i.2.2.2), (0, .slice A0 n0 c0), (1, .slice B m d), (2, .int .i64 cut)])
    (fun i w' => i.1 ≤ n0 ∧ Own w' w1.heap.size 5 1 i.2.1 i.2.2.1 i.2.2.2 (bv (cat (Ls.take i.1))) ∧ Ext w1 w') (fun i => n0 - i.1) (0, none, 0, 0) (.c rfl (.c rfl (.c rfl (.c rfl (.c rfl (.n)))))) ⟨by simp, Own.nil _ _ _ _, Mod.refl _ _⟩ ?_
  rintro ⟨i, A1, n1, c1⟩ w2 ⟨hi, o1, e1⟩ ih
  simp only at hi o1 e1 ih ⊢
  have hti := total_take Ls i
  have hn1 := o1.len
  rw [bv_length, Nat.mul_one, cat_len, List.length_take, Nat.min_eq_left (by omega)] at hn1
  have z1 := e1.size
  by_cases hin : i < n0
  · obtain ⟨l, hl⟩ : ∃ l, Ls[i]? = some l := ⟨_, List.getElem?_eq_getElem (by omega)⟩
    obtain ⟨A2, n2, c2, hx2, hr2, hn2, hc2⟩ := hrow i l hl
    have hll : l.length = n2 := by simpa using hr2.1
    have hl6 := hsm l (List.mem_of_getElem? hl)
    have htk : Ls.take (i + 1) = Ls.take i ++ [l] := by rw [List.take_add_one, hl]; rfl
    have hx' := hx.ext e1
    repeat (first | refine T_seq ?_ | refine T_region ?_ | refine T_cond_true rfl ?_ | refine T_block ?_ | refine T_skip ?_ | refine TL_lt_t (hk := ?_) | refine TL_nil ?_ | refine TL_move (hk := ?_) | refine TL_load_rd TE (hk := ?_) | refine TL_indexAddr1n TE (hk := ?_) | refine TL_len TE (hk := ?_))
    refine TL_call TE (hc := Seal_c A2 n2 c2 l w2 (hr2.ext e1) (by omega)) (hk := ?_)
    rintro _ w3 ⟨A3, c3, rfl, e3, o3⟩
    have z3 := e3.size
    repeat (first | refine T_seq ?_ | refine T_region ?_ | refine TL_nil ?_ | refine TL_move (hk := ?_) | refine TL_assign (hk := ?_) | refine TL_extract (hk := ?_))
    refine TL_call TE (hc := num_c 0 w3) (hk := ?_)
    rintro _ w3 ⟨rfl, rfl⟩
    have o13 := o1.ext e3
    repeat (first | refine T_region ?_ | refine T_cond_false rfl ?_ | refine T_skip ?_ | refine TL_ne_f (hk := ?_) | refine TL_nil ?_ | refine TL_move (hk := ?_))
    refine TL_append TE (hk := ?_); intro A4 c4 w4 o4 m4 n4
    repeat (first | refine T_region ?_ | refine T_inBlock ?_ | refine TL_add (hk := ?_) | refine TL_nil ?_ | refine TL_move (hk := ?_) | refine TL_assign (hk := ?_))
    refine ih (i + 1, A4, _, c4) w4 _ (by simp only; omega) ⟨by simp only; omega, ?_, (e1.ext e3).own m4 o1.hi⟩ (.c rfl (.c rfl (.c rfl (.c rfl (.c rfl (.n))))))
    rw [htk, cat_snoc, bv_append]
    exact o4
  have : n0 = i := by omega
  subst this
  rw [hall] at o1
  clear ih hi hin hti
  have hd : ∃ a0 : Nat, a0 < 2 ^ 63 ∧ (cut = -(a0 : Int) - 1 ∨ cut = (a0 : Int)) := by
    rcases Int.lt_or_le cut 0 with h | h
    · exact ⟨(-(cut + 1)).toNat, by omega, .inl (by omega)⟩
    · exact ⟨cut.toNat, by omega, .inr (by omega)⟩
  obtain ⟨a0, ha0, hor⟩ := hd
  have q1 : -(-(a0 : Int) - 1 + 1) = (a0 : Int) := by omega
  have q2 : (a0 : Int) % ((m + 8 : Nat) : Int) = ((a0 % (m + 8) : Nat) : Int) := by simp
  have ha : a0 % (m + 8) < m + 8 := Nat.mod_lt _ (by omega)
  generalize a0 % (m + 8) = a at q2 ha
  have hn1' : n1 = total Ls + 8 * n0 := by rw [hall] at hn1; omega
  have hfr := frames_cat k a (by omega) (by omega) Ls hsm
  have hcl : (cat Ls).length = n1 := by rw [cat_len]; omega
  rcases hor with rfl | rfl
  all_goals
    repeat (first | refine T_seq ?_ | refine T_region ?_ | refine T_cond_false rfl ?_ | refine T_exit rfl ?_ | refine TL_lt_f (hk := ?_) | refine TL_nil ?_ | refine TL_move (hk := ?_) | refine TL_len TE (hk := ?_))
    refine TL_call TE (hc := Seal_c B m d k w2 (hB.ext e1) (by omega)) (hk := ?_)
    rintro _ w3 ⟨A3, c3, rfl, e3, o3⟩
    have cc3 := o3.cap
    have z3 := e3.size
    repeat (first | refine T_seq ?_ | refine T_region ?_ | refine TL_nil ?_ | refine TL_move (hk := ?_) | refine TL_assign (hk := ?_) | refine TL_extract (hk := ?_))
    refine TL_call TE (hc := num_c 0 w3) (hk := ?_)
    rintro _ w3 ⟨rfl, rfl⟩
    have o13 := o1.ext e3
    repeat (first | refine T_seq ?_ | refine T_region ?_ | refine T_cond_true rfl ?_ | refine T_cond_false rfl ?_ | refine T_skip ?_ | refine TL_add (hk := ?_) | refine TL_rem (hk := ?_) | refine TL_lt_t (hk := ?_) | refine TL_lt_f (hk := ?_) | refine TL_ne_f (hk := ?_) | refine TL_nil ?_ | refine TL_move (hk := ?_) | refine TL_assign (hk := ?_) | refine TL_len TE (hk := ?_) | refine TL_yes (hk := ?_) | refine TL_pick_f (hk := ?_) | refine TL_neg (hk := ?_))
    first | rw [q1, q2] | rw [q2]
    --
    refine T_region_held TE.mixed [] [(1, true), (3, true), (4, true), (5, true), (0, false), (2, false), (6, false), (7, false), (8, true), (9, true), (10, true), (11, true), (12, true), (13, true), (14, true)] rfl (by kernel_rfl) rfl (by kernel_rfl) ?_; intro w4 e4 s4
    have e04 : Ext w1 w4 := (e1.ext e3).ext e4
    have o14 := o13.ext e4
    have o34 := o3.ext e4
    have hd4 : Eng.Mod [] w4 w4 := Mod.refl _ _
    repeat (first | refine TL_move (hk := ?_) | refine TL_slice_hi TE (hk := ?_))
    refine TL_buildSlice TE (hq := fun w' e => e) (hk := ?_); intro b5 w5 e5 h5 h5' k5
    have o5 : Own w5 w4.heap.size 5 1 (some ⟨b5, 0, none⟩) 0 0 [] := Own.of_blk k5 h5 rfl (by decide)
    have z5 := e5.size
    have o15 := o14.ext e5
    --
    refine TL_append TE (hq := fun w' m => e5.own m o5.hi) (hk := ?_); intro A6 c6 w6 o6 m6 n6
    have e6 : Ext w4 w6 := e5.own m6 o5.hi
    have z6 := e6.size
    have r36 : Rd w6 A3 a 1 (bv ((frame k).take a)) := by
      have := (o34.ext e6).rd.take (h := a) (by omega)
      simpa [bv] using this
    --
    refine TL_append TE (ho := o6) (hr := r36) (hq := fun w' m => e6.own m o6.hi) (hk := ?_); intro A7 c7 w7 o7 m7 n7
    have e7 : Ext w4 w7 := e6.own m7 o6.hi
    have o7' : Own w7 w4.heap.size 5 1 A7 (0 + n1 + a) c7 (bv (cat Ls ++ (frame k).take a)) := by
      rw [bv_append]
      exact o7
    --
    refine TL_call TE (hc := Frames_c A7 (0 + n1 + a) c7 _ w7 o7'.rd (by omega) o7'.cap.1) (hq := fun v w' h => by obtain ⟨_, _, _, _, _, h, _⟩ := h; exact e7.ext h) (hk := ?_)
    rintro _ w8 ⟨A8, m8, c8, ys, rfl, e8, o8, L8⟩
    rw [hfr] at L8 ⊢
    simp only at L8 ⊢
    have hy := L8.len
    have hm8 := o8.len
    have e08 : Ext w1 w8 := (e04.ext e7).ext e8
    have hxx := hx.ext e08
    have hcc := o8.cap
    unfold maxLen at hcc
    clear o7 o7' o6 o5 o15 o14 o34 o13 o3 r36 e7 e6 e5 m6 m7 k5 e8 e04
    repeat (first | refine TL_move (hk := ?_) | refine TL_assign (hk := ?_) | refine TL_extract (hk := ?_))
    refine TL_nil_h ?_
    by_cases ha0 : a = 0
    · rw [if_pos ha0]
      repeat (first | refine T_seq ?_ | refine T_region ?_ | refine TL_eq_t (hk := ?_) | refine TL_ne_f (hk := ?_) | refine TL_move (hk := ?_) | refine TL_len TE (hk := ?_) | refine TL_yes (hk := ?_) | refine TL_pick_f (hk := ?_))
      refine TL_call TE (hc := num_c 0 w8) (hk := ?_)
      rintro _ w8 ⟨rfl, rfl⟩
      repeat (first | refine T_seq ?_ | refine T_region ?_ | refine T_cond_false rfl ?_ | refine T_block ?_ | refine T_skip ?_ | refine TL_gt_f (hk := ?_) | refine TL_ne_f (hk := ?_) | refine TL_nil ?_ | refine TL_move (hk := ?_) | refine TL_assign (hk := ?_) | refine TL_yes (hk := ?_) | refine TL_no (hk := ?_) | refine TL_pick_t (hk := ?_) | refine TL_pick_f (hk := ?_))
      refine T_loop (ι := Nat) (fun i => [(18, .int .i64 (i : Int)), (15, .slice A8 m8 c8), (0, .slice A0 n0 c0)])
        (fun i w' => i ≤ m8 ∧ Ext w8 w') (fun i => m8 - i) 0 (.c rfl (.c rfl (.c rfl (.n)))) ⟨by simp, Mod.refl _ _⟩ ?_
      rintro i w9 ⟨hi, e9⟩ ih
      by_cases hin : i < m8
      · obtain ⟨y, hy1⟩ : ∃ y, ys[i]? = some y := ⟨_, List.getElem?_eq_getElem (by omega)⟩
        obtain ⟨A9, n9, c9, l, rfl, hl, o9⟩ := L8.get hy1
        obtain ⟨A10, n10, c10, hx10, hr10, _, _⟩ := hrow i l hl
        have o89 := o8.ext e9
        have hx9 := hxx.ext e9
        repeat (first | refine T_seq ?_ | refine T_region ?_ | refine T_region_q TE.mixed (by kernel_rfl) ?_ | refine T_cond_true rfl ?_ | refine T_block ?_ | refine T_skip ?_ | refine TL_lt_t (hk := ?_) | refine TL_nil ?_ | refine TL_move (hk := ?_) | refine TL_load_rd TE (hk := ?_) | refine TL_indexAddr1n TE (hk := ?_) | refine TL_len TE (hk := ?_))
        refine TL_call_q TE rfl rfl rfl (fun w' e => (same_t A9 A10 n9 n10 c9 c10 l w' (o9.ext (e9.ext e)).rd (hr10.ext ((e08.ext e9).ext e))).mono fun v w2 ⟨a, b⟩ => ⟨a, b ▸ Mod.refl _ _⟩) ?_
        repeat (refine TL_not (hk := ?_))
        refine TL_nil_q ?_; intro w10 e10
        repeat (first | refine T_region ?_ | refine T_cond_false rfl ?_ | refine T_inBlock ?_ | refine T_skip ?_ | refine TL_add (hk := ?_) | refine TL_nil ?_ | refine TL_move (hk := ?_) | refine TL_assign (hk := ?_))
        exact ih (i + 1) w10 _ (by omega) ⟨by omega, e9.ext e10⟩ (.c rfl (.c rfl (.c rfl (.n))))
      · repeat (first | refine T_seq ?_ | refine T_region ?_ | refine T_cond_false rfl ?_ | refine T_exit rfl ?_ | refine TL_lt_f (hk := ?_) | refine TL_nil ?_ | refine TL_move (hk := ?_) | refine TL_len TE (hk := ?_))
        refine TL_call TE (hc := live_c w9) (hk := ?_)
        rintro _ w10 ⟨rfl, e10⟩
        repeat (first | refine TL_nil ?_ | refine TL_assign (hk := ?_))
        exact T_ret1 rfl rfl ⟨rfl, (e08.ext e9).ext e10⟩
    · rw [if_neg ha0]
      repeat (first | refine T_seq ?_ | refine T_region ?_ | refine TL_gt_t (hk := ?_) | refine TL_eq_f (hk := ?_) | refine TL_ne_f (hk := ?_) | refine TL_move (hk := ?_) | refine TL_len TE (hk := ?_) | refine TL_yes (hk := ?_) | refine TL_no (hk := ?_) | refine TL_pick_f (hk := ?_))
      refine TL_call TE (hc := num_c 3 w8) (hk := ?_)
      rintro _ w8 ⟨rfl, rfl⟩
      repeat (first | refine T_seq ?_ | refine T_region ?_ | refine T_cond_false rfl ?_ | refine T_block ?_ | refine T_skip ?_ | refine TL_ne_f (hk := ?_) | refine TL_nil ?_ | refine TL_assign (hk := ?_) | refine TL_yes (hk := ?_) | refine TL_pick_t (hk := ?_) | refine TL_pick_f (hk := ?_))
      refine T_loop (ι := Nat) (fun i => [(18, .int .i64 (i : Int)), (15, .slice A8 m8 c8), (0, .slice A0 n0 c0)])
        (fun i w' => i ≤ m8 ∧ Ext w8 w') (fun i => m8 - i) 0 (.c rfl (.c rfl (.c rfl (.n)))) ⟨by simp, Mod.refl _ _⟩ ?_
      rintro i w9 ⟨hi, e9⟩ ih
      by_cases hin : i < m8
      · obtain ⟨y, hy1⟩ : ∃ y, ys[i]? = some y := ⟨_, List.getElem?_eq_getElem (by omega)⟩
        obtain ⟨A9, n9, c9, l, rfl, hl, o9⟩ := L8.get hy1
        obtain ⟨A10, n10, c10, hx10, hr10, _, _⟩ := hrow i l hl
        have o89 := o8.ext e9
        have hx9 := hxx.ext e9
        repeat (first | refine T_seq ?_ | refine T_region ?_ | refine T_region_q TE.mixed (by kernel_rfl) ?_ | refine T_cond_true rfl ?_ | refine T_block ?_ | refine T_skip ?_ | refine TL_lt_t (hk := ?_) | refine TL_nil ?_ | refine TL_move (hk := ?_) | refine TL_load_rd TE (hk := ?_) | refine TL_indexAddr1n TE (hk := ?_) | refine TL_len TE (hk := ?_))
        refine TL_call_q TE rfl rfl rfl (fun w' e => (same_t A9 A10 n9 n10 c9 c10 l w' (o9.ext (e9.ext e)).rd (hr10.ext ((e08.ext e9).ext e))).mono fun v w2 ⟨a, b⟩ => ⟨a, b ▸ Mod.refl _ _⟩) ?_
        repeat (refine TL_not (hk := ?_))
        refine TL_nil_q ?_; intro w10 e10
        repeat (first | refine T_region ?_ | refine T_cond_false rfl ?_ | refine T_inBlock ?_ | refine T_skip ?_ | refine TL_add (hk := ?_) | refine TL_nil ?_ | refine TL_move (hk := ?_) | refine TL_assign (hk := ?_))
        exact ih (i + 1) w10 _ (by omega) ⟨by omega, e9.ext e10⟩ (.c rfl (.c rfl (.c rfl (.n))))
      · repeat (first | refine T_seq ?_ | refine T_region ?_ | refine T_cond_false rfl ?_ | refine T_exit rfl ?_ | refine TL_lt_f (hk := ?_) | refine TL_nil ?_ | refine TL_move (hk := ?_) | refine TL_len TE (hk := ?_))
        refine TL_call TE (hc := live_c w9) (hk := ?_)
        rintro _ w10 ⟨rfl, e10⟩
        repeat (first | refine TL_nil ?_ | refine TL_assign (hk := ?_))
        exact T_ret1 rfl rfl ⟨rfl, (e08.ext e9).ext e10⟩
end Go.Proofs.Ytkmdmpmimojmbaa
