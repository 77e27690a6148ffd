import Derived.Test.YtfplmpfdhiagaaaM3
import Derived.SizedLaws
/- Parts: FW23 FW24 FW25 Eng18 FW26. -/
namespace Go.Proofs.Ytfplmpfdhiagaaa
open Go.RowKit Go.Proofs.Eng Go.Proofs.Foot Go.Proofs.Codec
set_option linter.unusedSimpArgs false
set_option linter.unusedVariables false
attribute [local irreducible] T TL LV TH TA
theorem eqLock (a b : ByteArray) (x y : Bool) (w : World) : (Op.equalIn 10000 57 (.agg #[.string a, .bool x]) (.agg #[.string b, .bool y])).run Try.prog w = .ok (decide (a = b) && (x == y)) w := by
  rw [run_equalIn_struct w 9999 _ _ _ (by kernel_rfl) (by kernel_rfl)]
  have e : (Try.prog.fieldsOf 57).toList = [{ name := "Key", type := 9, offset := 0, embedded := false, tag := "", pkgPath := "", byteOffset := 0 }, { name := "Write", type := 4, offset := 1, embedded := false, tag := "", pkgPath := "", byteOffset := 16 }] := by kernel_rfl
  rw [e]
  have h1 := str_beq a b
  simp [Op.eqFields, part, run_equalIn_string w 9998 9 _ _ Try.underlying9, run_equalIn_bool' w 9998 4 _ _ Try.underlying4, run_isAgg_no Try.underlying9 rfl, run_isAgg_no Try.underlying4 rfl, h1]
  by_cases h : a = b <;> by_cases g : x = y <;> simp [h, g]
theorem num_c3 (z : Int) (w : World) : Ret Try.prog 12 [.int .i64 z] w (fun v w' => v = .int .i64 z ∧ w' = w) := by
  refine ret_T (n := 4) Try.func12 rfl rfl ?_
  repeat (first | refine T_seq ?_ | refine T_region ?_ | refine TL_nil ?_ | refine TL_move (hk := ?_) | refine TL_assign (hk := ?_))
  exact T_ret1 rfl rfl ⟨rfl, rfl⟩
theorem long_c3 (A B : Option Addr) (n c m d : Nat) (w : World) (hn : n ≤ 9223372036854775807) (hm : m ≤ 9223372036854775807) (hnm : n + m ≤ 9223372036854775807) : Ret Try.prog 14 [.agg #[.slice A n c, .slice B m d]] w (fun v w' => v = .bool (decide (300 < n + m)) ∧ Ext w w') := by
  refine ret_T (n := 11) Try.func14 rfl rfl ?_
  repeat (first | refine T_seq ?_ | refine T_region ?_)
  refine TL_box (hk := ?_); intro b1 w1 e1 h1 h1' k1
  by_cases h : 300 < n + m
  · repeat (first | refine T_seq ?_ | refine T_region ?_ | refine TL_add (hk := ?_) | refine TL_gt_t (hk := ?_) | refine TL_nil ?_ | refine TL_assign (hk := ?_) | refine TL_load TE (hk := ?_) | refine TL_fieldAddr TE (hk := ?_) | refine TL_len TE (hk := ?_))
    exact T_ret1 rfl rfl ⟨by rw [decide_eq_true h], e1⟩
  · repeat (first | refine T_seq ?_ | refine T_region ?_ | refine TL_add (hk := ?_) | refine TL_gt_f (hk := ?_) | refine TL_nil ?_ | refine TL_assign (hk := ?_) | refine TL_load TE (hk := ?_) | refine TL_fieldAddr TE (hk := ?_) | refine TL_len TE (hk := ?_))
    exact T_ret1 rfl rfl ⟨by rw [decide_eq_false h], e1⟩
def behind : Tx := [98, 101, 104, 105, 110, 100]
/-- A footprint in lists of its own, with a text more behind each. -/
def GivenO (w : World) (base : Nat) (v : Value) (r k : List Tx) : Prop :=
  ∃ A c B d, v = .agg #[.slice A r.length c, .slice B k.length d] ∧ Own w base 9 1 A (r.length + 1) c (sv (r ++ [behind])) ∧ Own w base 9 1 B (k.length + 1) d (sv (k ++ [behind]))
theorem own_c3 (A B : Option Addr) (n c m d : Nat) (r k : List Tx) (w : World) (h : Rd w A n 1 (sv r)) (g : Rd w B m 1 (sv k)) (hn : n ≤ 50000) (hm : m ≤ 50000) :
    Ret Try.prog 15 [.agg #[.slice A n c, .slice B m d]] w (fun v w' => GivenO w' w.heap.size v r k ∧ Ext w w') := by
  have hr : r.length = n := by simpa using h.1
  have hk : k.length = m := by simpa using g.1
  have onr := sv_one r
  have onk := sv_one k
  have onb := sv_one [behind]
  refine ret_T (n := 28) Try.func15 rfl rfl ?_
  repeat (first | refine T_seq ?_ | refine T_region ?_)
  refine TL_box (hk := ?_); intro b1 w1 e1 h1 h1' k1
  refine TL_alloc TE (hk := ?_); intro b2 w2 e2 h2 h2' k2
  repeat (first | refine T_seq ?_ | refine T_region ?_ | refine TL_nil ?_)
  have e02 := e1.ext e2
  have k12 := k1.be e2
  have hA2 := h.be e02
  have hB2 := g.be e02
  have z1 := e1.size
  have z2 := e2.size
  clear k1 h g
  refine TL_buildSlice TE (hk := ?_); intro b3 w3 e3 h3 h3' k3
  have z3 := e3.size
  have o3 : Own w3 w2.heap.size 9 1 (some ⟨b3, 0, none⟩) 0 0 [] := Own.of_blk k3 h3 rfl (by decide)
  have k13 := k12.be e3
  have hA3 := hA2.be e3
  repeat (first | refine TL_load TE (hk := ?_) | refine TL_fieldAddr TE (hk := ?_))
  refine TL_append TE (hk := ?_); intro A4 c4 w4 o4 m4 n4
  have e24 : Ext w2 w4 := e3.own m4 o3.hi
  have z4 := m4.size
  clear k13 hA3 k3 o3
  --
  refine TL_buildSlice TE (hk := ?_); intro b5 w5 e5 h5 h5' k5
  replace k5 : Blk w5 b5 9 (sv [behind]) := k5
  have o45 := o4.be e5
  have z5 := e5.size
  refine TL_append TE (hk := ?_); intro A6 c6 w6 o6 m6 n6
  have e26 : Ext w2 w6 := (e24.ext e5).own m6 o45.hi
  have z6 := m6.size
  have k16 := k12.be e26
  have hB6 := hB2.be e26
  have k26 := k2.be e26
  clear k12 k2 hA2 hB2 o4 o45 k5
  repeat (first | refine T_seq ?_ | refine T_region ?_ | refine TL_nil ?_ | refine TL_assign (hk := ?_))
  refine TL_buildSlice TE (hk := ?_); intro b7 w7 e7 h7 h7' k7
  have z7 := e7.size
  have o7 : Own w7 w6.heap.size 9 1 (some ⟨b7, 0, none⟩) 0 0 [] := Own.of_blk k7 h7 rfl (by decide)
  have k17 := k16.be e7
  have hB7 := hB6.be e7
  repeat (first | refine TL_load TE (hk := ?_) | refine TL_fieldAddr TE (hk := ?_))
  refine TL_append TE (hk := ?_); intro A8 c8 w8 o8 m8 n8
  have e68 : Ext w6 w8 := e7.own m8 o7.hi
  have z8 := m8.size
  clear k17 hB7 k7 o7
  --
  refine TL_buildSlice TE (hk := ?_); intro b9 w9 e9 h9 h9' k9
  replace k9 : Blk w9 b9 9 (sv [behind]) := k9
  have o89 := o8.be e9
  have z9 := e9.size
  refine TL_append TE (hk := ?_); intro A10 c10 w10 o10 m10 n10
  have e610 : Ext w6 w10 := (e68.ext e9).own m10 o89.hi
  have o610 := o6.be e610
  have k110 := k16.be e610
  have k210 := k26.be e610
  clear o6 o8 o89 k9 k16 k26
  repeat (first | refine T_seq ?_ | refine TL_nil ?_ | refine TL_assign (hk := ?_))
  refine T_region_any TE.mixed [b2] ?_; intro w11 e11 z11
  have k111 := k110.be e11
  have k211 := k210.be e11
  have oA := o610.be e11
  have oB := o10.be e11
  have hb12 : b1 ≠ b2 := by omega
  have hb12' : b1 ∉ [b2] := by simp; omega
  have z10 := e610.size
  have cA := oA.cap
  have cB := oB.cap
  clear k110 k210 o610 o10
  (refine TA_take 0 rfl (by kernel_rfl) (by kernel_rfl) (by kernel_rfl) ?_; repeat (first | refine TL_move (hk := ?_) | refine TLP_load TE (hk := ?_) | refine TL_fieldAddr TE (hk := ?_) | refine TL_len TE (hk := ?_) | refine TL_slice_hi TE (hk := ?_) | refine TL_build TE (hk := ?_)); refine TL_nil_p ?_); (refine TA_take 1 rfl (by kernel_rfl) (by kernel_rfl) (by kernel_rfl) ?_; repeat (first | refine TL_move (hk := ?_) | refine TLP_load TE (hk := ?_) | refine TL_fieldAddr TE (hk := ?_) | refine TL_len TE (hk := ?_) | refine TL_slice_hi TE (hk := ?_) | refine TL_build TE (hk := ?_)); refine TL_nil_p ?_); (refine TA_take 2 rfl (by kernel_rfl) (by kernel_rfl) (by kernel_rfl) ?_; repeat (first | refine TL_move (hk := ?_) | refine TLP_load TE (hk := ?_) | refine TL_fieldAddr TE (hk := ?_) | refine TL_len TE (hk := ?_) | refine TL_slice_hi TE (hk := ?_) | refine TL_build TE (hk := ?_)); refine TL_nil_p ?_); (refine TA_take 3 rfl (by kernel_rfl) (by kernel_rfl) (by kernel_rfl) ?_; repeat (first | refine TL_move (hk := ?_) | refine TLP_load TE (hk := ?_) | refine TL_fieldAddr TE (hk := ?_) | refine TL_len TE (hk := ?_) | refine TL_slice_hi TE (hk := ?_) | refine TL_build TE (hk := ?_)); refine TL_nil_p ?_); (refine TA_take 4 rfl (by kernel_rfl) (by kernel_rfl) (by kernel_rfl) ?_; repeat (first | refine TL_move (hk := ?_) | refine TLP_load TE (hk := ?_) | refine TL_fieldAddr TE (hk := ?_) | refine TL_len TE (hk := ?_) | refine TL_slice_hi TE (hk := ?_) | refine TL_build TE (hk := ?_)); refine TL_nil_p ?_); (refine TA_take 5 rfl (by kernel_rfl) (by kernel_rfl) (by kernel_rfl) ?_; repeat (first | refine TL_move (hk := ?_) | refine TLP_load TE (hk := ?_) | refine TL_fieldAddr TE (hk := ?_) | refine TL_len TE (hk := ?_) | refine TL_slice_hi TE (hk := ?_) | refine TL_build TE (hk := ?_)); refine TL_nil_p ?_); (refine TA_take 6 rfl (by kernel_rfl) (by kernel_rfl) (by kernel_rfl) ?_; repeat (first | refine TL_move (hk := ?_) | refine TLP_load TE (hk := ?_) | refine TL_fieldAddr TE (hk := ?_) | refine TL_len TE (hk := ?_) | refine TL_slice_hi TE (hk := ?_) | refine TL_build TE (hk := ?_)); refine TL_nil_p ?_); (refine TA_take 7 rfl (by kernel_rfl) (by kernel_rfl) (by kernel_rfl) ?_; repeat (first | refine TL_move (hk := ?_) | refine TLP_load TE (hk := ?_) | refine TL_fieldAddr TE (hk := ?_) | refine TL_len TE (hk := ?_) | refine TL_slice_hi TE (hk := ?_) | refine TL_build TE (hk := ?_)); refine TL_nil_p ?_); (refine TA_take 8 rfl (by kernel_rfl) (by kernel_rfl) (by kernel_rfl) ?_; repeat (first | refine TL_move (hk := ?_) | refine TLP_load TE (hk := ?_) | refine TL_fieldAddr TE (hk := ?_) | refine TL_len TE (hk := ?_) | refine TL_slice_hi TE (hk := ?_) | refine TL_build TE (hk := ?_)); refine TL_nil_p ?_); (refine TA_take 9 rfl (by kernel_rfl) (by kernel_rfl) (by kernel_rfl) ?_; repeat (first | refine TL_move (hk := ?_) | refine TLP_load TE (hk := ?_) | refine TL_fieldAddr TE (hk := ?_) | refine TL_len TE (hk := ?_) | refine TL_slice_hi TE (hk := ?_) | refine TL_build TE (hk := ?_)); refine TL_nil_p ?_); (refine TA_take 10 rfl (by kernel_rfl) (by kernel_rfl) (by kernel_rfl) ?_; repeat (first | refine TL_move (hk := ?_) | refine TLP_load TE (hk := ?_) | refine TL_fieldAddr TE (hk := ?_) | refine TL_len TE (hk := ?_) | refine TL_slice_hi TE (hk := ?_) | refine TL_build TE (hk := ?_)); refine TL_nil_p ?_)
  refine TA_one 11 rfl (by kernel_rfl) (by kernel_rfl) ?_
  refine TL_storea TE (hf := rfl) (hq := fun w' h _ => h) (hk := ?_); intro w12 m12 z12 k12
  refine TL_nil_p ?_
  refine TA_done (by kernel_rfl) ?_
  --
  have e012 : Ext w w12 := Mod.step (((e02.ext e26).ext e610).ext e11) m12 (by simp; omega)
  have oA12 := oA.mod m12 (Off.hi oA.hi (by omega))
  have oB12 := oB.mod m12 (Off.hi oB.hi (by omega))
  refine T_retA1 TE (vs := [.slice A6 n c6, .slice A10 m c10]) (o := 0) rfl rfl rfl rfl k12 rfl (Nat.succ_pos _) ⟨⟨A6, c6, A10, c10, by rw [hr, hk], ?_, ?_⟩, e012⟩
  · have := oA12.weaken (base' := w.heap.size) (by omega)
    rw [hr, sv_append]
    simpa using this
  · have := oB12.weaken (base' := w.heap.size) (by omega)
    rw [hk, sv_append]
    simpa using this
end Go.Proofs.Ytfplmpfdhiagaaa

namespace Go.Proofs.Ytfplmpfdhiagaaa
open Go.RowKit Go.Proofs.Eng Go.Proofs.Foot Go.Proofs.Codec
set_option linter.unusedSimpArgs false
set_option linter.unusedVariables false
attribute [local irreducible] T TL LV TH TA
theorem last_behind (r : List Tx) (n : Nat) (h : r.length = n) : ofL ((r ++ [behind]).getD n []) = ⟨#[98, 101, 104, 105, 110, 100]⟩ := by
  subst h
  rw [List.getD_eq_getElem?_getD, List.getElem?_append_right (Nat.le_refl _)]
  simp [behind, ofL]
theorem take_behind {w : World} {A : Option Addr} {r : List Tx} {n : Nat} (h : Rd w A (n + 1) 1 (sv (r ++ [behind]))) (hn : r.length = n) : Rd w A n 1 (sv r) := by
  have := h.take (h := n) (by omega)
  rw [sv_append, Nat.mul_one, List.take_append_of_le_length (by simp [hn]), List.take_of_length_le (by simp [hn])] at this
  exact this
theorem kept_c3 (A B A0 B0 : Option Addr) (n m c d c0 d0 : Nat) (r k : List Tx) (w : World) (h : Rd w A (n + 1) 1 (sv (r ++ [behind]))) (g : Rd w B (m + 1) 1 (sv (k ++ [behind]))) (hc : n + 1 ≤ c) (hd : m + 1 ≤ d) (h0 : Rd w A0 n 1 (sv r)) (g0 : Rd w B0 m 1 (sv k)) (hn : n ≤ 50000) (hm : m ≤ 50000) :
    Ret Try.prog 21 [.agg #[.slice A n c, .slice B m d], .agg #[.slice A0 n c0, .slice B0 m d0]] w (fun v w' => v = .bool true ∧ Ext w w') := by
  have hr : r.length = n := by simpa using h0.1
  have hk : k.length = m := by simpa using g0.1
  have lr := last_behind r n hr
  have lk := last_behind k m hk
  refine ret_T (n := 42) Try.func21 rfl rfl ?_
  repeat (first | refine T_seq ?_ | refine T_region ?_)
  refine TL_box (hk := ?_); intro b1 w1 e1 h1 h1' k1
  refine TL_box (hk := ?_); intro b2 w2 e2 h2 h2' k2
  have k12 := k1.be e2
  have e02 := e1.ext e2
  clear k1
  repeat (first | refine T_seq ?_ | refine T_region ?_ | refine TL_add (hk := ?_) | refine TL_nil ?_ | refine TL_assign (hk := ?_) | refine TL_load TE (hk := ?_) | refine TL_fieldAddr TE (hk := ?_) | refine TL_len TE (hk := ?_) | refine TL_slice_hi TE (hk := ?_))
  refine TL_loadb TE (cs := [.slice A n c, .slice B m d]) (o := 0) rfl rfl k12 rfl rfl (Nat.succ_pos _) (hk := ?_)
  refine TL_loadb TE (cs := [.slice A0 n c0, .slice B0 m d0]) (o := 0) rfl rfl k2 rfl rfl (Nat.succ_pos _) (hk := ?_)
  refine TL_call TE (hc := Same_c A B A0 B0 n m n m c d c0 d0 r k r k w2 ((take_behind h hr).be e02) ((take_behind g hk).be e02) (h0.be e02) (g0.be e02) (by omega) (by omega) (by omega) (by omega)) (hk := ?_)
  rintro _ w3 ⟨rfl, e3⟩
  have e03 := e02.ext e3
  have k13 := k12.be e3
  have k23 := k2.be e3
  have h3 := h.be e03
  have g3 := g.be e03
  clear k12 k2 h g h0 g0
  rw [show decide (r = r ∧ k = k) = true by simp]
  repeat (first | refine TL_seq_t (hk := ?_) | refine TL_nil ?_ | refine TL_move (hk := ?_) | refine TL_assign (hk := ?_) | refine TL_load TE (hk := ?_) | refine TL_fieldAddr TE (hk := ?_) | refine TL_indexAddr1n TE (hk := ?_) | refine TL_len TE (hk := ?_) | refine TL_yes (hk := ?_) | refine TL_pick_t (hk := ?_) | refine TL_load_s TE (hk := ?_))
  exact T_ret1 rfl rfl ⟨rfl, e03⟩
theorem spoil_c3 (A B : Option Addr) (n c m d base base2 : Nat) (r k : List Tx) (w : World) (h : Own w base 9 1 A n c (sv r)) (g : Own w base2 9 1 B m d (sv k)) (hn : n ≤ 50000) (hm : m ≤ 50000) (off : Off B (blkL A)) :
    Ret Try.prog 34 [.agg #[.slice A n c, .slice B m d]] w (fun v w' => Eng.Mod (blkL A ++ blkL B) w w') := by
  have hr : r.length = n := by simpa using h.len
  have hk : k.length = m := by simpa using g.len
  refine ret_T (n := 26) Try.func34 rfl rfl ?_
  repeat (first | refine T_seq ?_ | refine T_region ?_)
  refine TL_box (hk := ?_); intro b1 w1 e1 h1 h1' k1
  have h1w := h.be e1
  have g1w := g.be e1
  have z1 := e1.size
  have nb1 : b1 ∉ blkL A := by
    intro hq
    cases A with
    | none => simp [blkL] at hq
    | some ad => simp [blkL] at hq; have := h.lo ad rfl; omega
  have nb2 : b1 ∉ blkL B := by
    intro hq
    cases B with
    | none => simp [blkL] at hq
    | some ad => simp [blkL] at hq; have := g.lo ad rfl; omega
  clear h g
  repeat (first | refine T_seq ?_ | refine T_region ?_ | refine T_block ?_ | refine TL_nil ?_ | refine TL_assign (hk := ?_))
  refine T_loop (ι := Nat × List Tx) (fun i => [(2, .int .i64 (i.1 : Int)), (1, .pointer (some ⟨b1, 0, none⟩))])
    (fun i w' => i.1 ≤ n ∧ Eng.Mod (blkL A) w1 w' ∧ i.2.length = n ∧ Own w' base 9 1 A n c (sv i.2)) (fun i => n - i.1) (0, r) (.c rfl (.c rfl (.n))) ⟨Nat.zero_le _, Mod.refl _ _, hr, h1w⟩ ?_
  rintro ⟨i, l⟩ w2 ⟨hi, m2, hl, o2⟩ ih
  simp only at hi hl o2 ih ⊢
  have k12 := k1.mod m2 nb1
  by_cases hlt : i < n
  · have hlv : (sv l).length = n := by simpa using hl
    repeat (first | refine T_seq ?_ | refine T_region ?_ | refine T_cond_true rfl ?_ | refine T_block ?_ | refine T_skip ?_ | refine TL_lt_t (hk := ?_) | refine TL_nil ?_ | refine TL_move (hk := ?_) | refine TL_load TE (hk := ?_) | refine TL_fieldAddr TE (hk := ?_) | refine TL_indexAddr1n TE (hk := ?_) | refine TL_len TE (hk := ?_))
    refine TL_store_own TE (hk := ?_); intro w3 m3 s3 o3
    repeat (first | refine T_region ?_ | refine T_inBlock ?_ | refine TL_add (hk := ?_) | refine TL_nil ?_ | refine TL_move (hk := ?_) | refine TL_assign (hk := ?_))
    refine ih (i + 1, l.set i [63]) _ _ (by simp only; omega) ⟨by show i + 1 ≤ n; omega, m2.trans m3, by simpa using hl, ?_⟩ (.c rfl (.c rfl (.n)))
    have e : (sv l).set i (Value.string ⟨#[63]⟩) = sv (l.set i [63]) := sv_set l i [63]
    rw [← e]
    exact o3
  · have g2 := g1w.mod m2 off
    clear ih o2
    repeat (first | refine T_seq ?_ | refine T_region ?_ | refine T_cond_false rfl ?_ | refine T_block ?_ | refine T_exit rfl ?_ | refine TL_lt_f (hk := ?_) | refine TL_nil ?_ | refine TL_move (hk := ?_) | refine TL_assign (hk := ?_) | refine TL_load TE (hk := ?_) | refine TL_fieldAddr TE (hk := ?_) | refine TL_len TE (hk := ?_))
    refine T_loop (ι := Nat × List Tx) (fun i => [(3, .int .i64 (i.1 : Int)), (1, .pointer (some ⟨b1, 0, none⟩))])
      (fun i w' => i.1 ≤ m ∧ Eng.Mod (blkL B) w2 w' ∧ i.2.length = m ∧ Own w' base2 9 1 B m d (sv i.2)) (fun i => m - i.1) (0, k) (.c rfl (.c rfl (.n))) ⟨Nat.zero_le _, Mod.refl _ _, hk, g2⟩ ?_
    rintro ⟨i, l⟩ w3 ⟨hi, m3, hl, o3⟩ ih
    simp only at hi hl o3 ih ⊢
    have k13 := k12.mod m3 nb2
    by_cases hlt : i < m
    · have hlv : (sv l).length = m := by simpa using hl
      repeat (first | refine T_seq ?_ | refine T_region ?_ | refine T_cond_true rfl ?_ | refine T_block ?_ | refine T_skip ?_ | refine TL_lt_t (hk := ?_) | refine TL_nil ?_ | refine TL_move (hk := ?_) | refine TL_load TE (hk := ?_) | refine TL_fieldAddr TE (hk := ?_) | refine TL_indexAddr1n TE (hk := ?_) | refine TL_len TE (hk := ?_))
      refine TL_store_own TE (hk := ?_); intro w4 m4 s4 o4
      repeat (first | refine T_region ?_ | refine T_inBlock ?_ | refine TL_add (hk := ?_) | refine TL_nil ?_ | refine TL_move (hk := ?_) | refine TL_assign (hk := ?_))
      refine ih (i + 1, l.set i [63]) _ _ (by simp only; omega) ⟨by show i + 1 ≤ m; omega, m3.trans m4, by simpa using hl, ?_⟩ (.c rfl (.c rfl (.n)))
      have e : (sv l).set i (Value.string ⟨#[63]⟩) = sv (l.set i [63]) := sv_set l i [63]
      rw [← e]
      exact o4
    · repeat (first | refine T_seq ?_ | refine T_region ?_ | refine T_cond_false rfl ?_ | refine T_exit rfl ?_ | refine TL_lt_f (hk := ?_) | refine TL_nil ?_ | refine TL_move (hk := ?_) | refine TL_load TE (hk := ?_) | refine TL_fieldAddr TE (hk := ?_) | refine TL_len TE (hk := ?_))
      refine T_end0 rfl ?_
      have f1 : Eng.Mod (blkL A ++ blkL B) w w2 := (Ext.un e1).trans (m2.mono fun x hx => .inl (List.mem_append_left _ hx))
      exact f1.trans (m3.mono fun x hx => .inl (List.mem_append_right _ hx))
end Go.Proofs.Ytfplmpfdhiagaaa

namespace Go.Proofs.Ytfplmpfdhiagaaa
open Go.RowKit Go.Proofs.Eng Go.Proofs.Foot Go.Proofs.Codec
set_option linter.unusedSimpArgs false
set_option linter.unusedVariables false
attribute [local irreducible] T TL LV TH TA
abbrev tA : Tx := [97]
abbrev tB : Tx := [98]
theorem live_norm : normF [tB, tA, tB] [tA] = (([tA, tB], [tA]), 0) := by rw [norm_eq]; decide +kernel
theorem live_is : isNorm [tA, tB] [tA] = true := by
  have : normF [tA, tB] [tA] = (([tA, tB], [tA]), 0) := by rw [norm_eq]; decide +kernel
  unfold isNorm
  rw [this]
  decide
theorem live_put : putB (ofM [tA, tB] [tA]) = [2, 1, 97, 3, 1, 98, 1] := by
  unfold putB
  rw [keys3]
  have : setT ([tA, tB] ++ [tA]) = [tA, tB] := by decide +kernel
  rw [this]
  unfold bodyB entryB
  have h1 : bitsM (ofM [tA, tB] [tA]) tA = 3 := by decide +kernel
  have h2 : bitsM (ofM [tA, tB] [tA]) tB = 1 := by decide +kernel
  simp only [List.map_cons, List.map_nil, h1, h2, List.length_cons, List.length_nil, encU_lt (n := 0 + 1 + 1) (by decide), encU_lt (n := 0 + 1) (by decide)]
  decide
theorem live_get : getF [2, 1, 97, 3, 1, 98, 1] = ((([tA, tB], [tA]), 7), 0) := by decide +kernel
theorem short_of {l : List Tx} (h : (l.all fun x => Nat.ble x.length 32) = true) : Short l := fun i hi => by
  have h1 := List.all_eq_true.1 h (l.getD i []) (getD_mem hi)
  have := Nat.le_of_ble_eq_true h1
  omega
theorem live_c3 (w : World) : Ret Try.prog 13 [] w (fun v w' => v = .bool true ∧ Ext w w') := by
  refine ret_T (n := 74) Try.func13 rfl rfl ?_
  repeat (first | refine T_seq ?_ | refine T_region ?_ | refine TL_nil ?_ | refine TL_assign (hk := ?_))
  refine TL_buildSlice TE (hk := ?_); intro b1 w1 e1 h1 h1' k1
  replace k1 : Blk w1 b1 9 (sv [tB, tA, tB]) := k1
  refine TL_buildSlice TE (hk := ?_); intro b2 w2 e2 h2 h2' k2
  replace k2 : Blk w2 b2 9 (sv [tA]) := k2
  have e02 := e1.ext e2
  repeat (refine TL_build TE (hk := ?_))
  refine TL_call TE (hc := Norm_c (some ⟨b1, 0, none⟩) (some ⟨b2, 0, none⟩) 3 3 1 1 [tB, tA, tB] [tA] w2 (Rd.blk (k1.be e2) rfl) (Rd.blk k2 rfl) (by omega) (by omega) (short_of rfl) (short_of rfl)) (hk := ?_)
  rw [live_norm]
  rintro _ w3 ⟨_, rfl, e3, A, n, c, B, m, d, rfl, oA, oB, off⟩
  have hn : n = 2 := by have := oA.len; simpa using this.symm
  have hm : m = 1 := by have := oB.len; simpa using this.symm
  subst hn hm
  repeat (first | refine TL_move (hk := ?_) | refine TL_extract (hk := ?_))
  refine TL_alloc TE (hk := ?_); intro b4 w4 e4 h4 h4' k4
  --
  refine TL_storea TE (hk := ?_); intro w5 m5 z5 k5
  have z1 := e1.size
  have z2 := e2.size
  have z3 := e3.size
  have z4 := e4.size
  have e05 : Ext w w5 := Mod.step ((e02.ext e3).ext e4) m5 (by simp; omega)
  have oA5 := (oA.be e4).mod m5 (Off.lo oA.lo (by omega))
  have oB5 := (oB.be e4).mod m5 (Off.lo oB.lo (by omega))
  clear oA oB k1 k2 k4
  repeat (first | refine T_seq ?_ | refine T_region ?_ | refine TL_nil ?_ | refine TL_move (hk := ?_) | refine TL_assign (hk := ?_))
  refine TL_call TE (hc := num_c3 0 _) (hk := ?_)
  rintro _ _ ⟨rfl, rfl⟩
  repeat (first | refine TL_ne_f (hk := ?_) | refine TL_move (hk := ?_) | refine TL_yes (hk := ?_))
  refine TL_loadb TE (cs := [.slice A 2 c, .slice B 1 d]) (o := 0) rfl rfl k5 rfl rfl (Nat.succ_pos _) (hk := ?_)
  repeat (refine TL_yes (hk := ?_))
  refine TL_buildSlice TE (hk := ?_); intro b6 w6 e6 h6 h6' k6
  replace k6 : Blk w6 b6 9 (sv [tA, tB]) := k6
  repeat (refine TL_yes (hk := ?_))
  refine TL_buildSlice TE (hk := ?_); intro b7 w7 e7 h7 h7' k7
  replace k7 : Blk w7 b7 9 (sv [tA]) := k7
  have e57 := e6.ext e7
  repeat (first | refine TL_yes (hk := ?_) | refine TL_build TE (hk := ?_))
  refine TL_call TE (hc := Same_c A B (some ⟨b6, 0, none⟩) (some ⟨b7, 0, none⟩) 2 1 2 1 c d 2 1 [tA, tB] [tA] [tA, tB] [tA] w7 (oA5.rd.be e57) (oB5.rd.be e57) (Rd.blk (k6.be e7) rfl) (Rd.blk k7 rfl) (by omega) (by omega) (by omega) (by omega)) (hk := ?_)
  rintro _ w8 ⟨rfl, e8⟩
  have e58 := e57.ext e8
  have k58 := k5.be e58
  have oA8 := oA5.be e58
  have oB8 := oB5.be e58
  have e08 := e05.ext e58
  clear k5 oA5 oB5 k6 k7
  rw [show decide ([tA, tB] = [tA, tB] ∧ [tA] = [tA]) = true by decide]
  repeat (first | refine T_seq ?_ | refine T_region ?_ | refine T_cond_false rfl ?_ | refine T_skip ?_ | refine TL_nil ?_ | refine TL_yes (hk := ?_) | refine TL_pick_f (hk := ?_) | refine TL_not (hk := ?_))
  refine TL_loadb TE (cs := [.slice A 2 c, .slice B 1 d]) (o := 0) rfl rfl k58 rfl rfl (Nat.succ_pos _) (hk := ?_)
  refine TL_call TE (hc := Put_c none A B 0 0 2 c 1 d [] [tA, tB] [tA] w8 (Rd.nil _ _ _) oA8.rd oB8.rd (by omega) (by omega) (by omega) (short_of rfl) (short_of rfl)) (hk := ?_)
  rw [if_pos live_is, if_pos live_is, live_put]
  rintro _ w9 ⟨Q, nq, cq, rfl, e9, oQ⟩
  have hnq : nq = 7 := by have := oQ.len; simpa using this.symm
  subst hnq
  repeat (first | refine T_seq ?_ | refine T_region ?_ | refine TL_nil ?_ | refine TL_move (hk := ?_) | refine TL_assign (hk := ?_) | refine TL_extract (hk := ?_))
  refine TL_call TE (hc := Get_c Q 7 cq [2, 1, 97, 3, 1, 98, 1] w9 oQ.rd (by omega)) (hk := ?_)
  rw [live_get]
  rintro _ w10 ⟨_, rfl, e10, A2, n2, c2, B2, m2, d2, rfl, oA2, oB2, off2⟩
  have hn2 : n2 = 2 := by have := oA2.len; simpa using this.symm
  have hm2 : m2 = 1 := by have := oB2.len; simpa using this.symm
  subst hn2 hm2
  have h77 : ((((([tA, tB], [tA]), 7), 0) : ((List Tx × List Tx) × Nat) × Int).fst.snd : Int) = 7 := rfl
  have e810 := e9.ext e10
  have z8 := e08.size
  have z9 := e9.size
  have z10 := e10.size
  have k510 := k58.be e810
  have oA10 := oA8.be e810
  have oB10 := oB8.be e810
  have e010 := e08.ext e810
  clear k58 oA8 oB8 oQ
  repeat (first | refine TL_move (hk := ?_) | refine TL_extract (hk := ?_))
  refine TL_alloc TE (hk := ?_); intro b11 w11 e11 h11 h11' k11
  --
  refine TL_storea TE (hk := ?_); intro w12 m12 z12 k12
  have z11 := e11.size
  have e1012 : Ext w10 w12 := Mod.step e11 m12 (by simp; omega)
  have oA12 := oA10.be e1012
  have oB12 := oB10.be e1012
  have k512 := k510.be e1012
  have o2A := oA2.be e1012
  have o2B := oB2.be e1012
  clear oA10 oB10 k510 oA2 oB2 k11
  repeat (first | refine T_seq ?_ | refine T_region ?_ | refine TL_nil ?_ | refine TL_move (hk := ?_) | refine TL_assign (hk := ?_))
  refine TL_call TE (hc := num_c3 0 _) (hk := ?_)
  rintro _ _ ⟨rfl, rfl⟩
  repeat (first | refine TL_eq_t (hk := ?_) | refine TL_move (hk := ?_) | refine TL_yes (hk := ?_))
  refine TL_call TE (hc := num_c3 0 _) (hk := ?_)
  rintro _ _ ⟨rfl, rfl⟩
  repeat (first | refine TL_eq_t (hk := ?_) | refine TL_move (hk := ?_) | refine TL_yes (hk := ?_) | refine TL_pick_t (hk := ?_))
  refine TL_loadb TE (cs := [.slice A2 2 c2, .slice B2 1 d2]) (o := 0) rfl rfl k12 rfl rfl (Nat.succ_pos _) (hk := ?_)
  repeat (refine TL_yes (hk := ?_))
  refine TL_loadb TE (cs := [.slice A 2 c, .slice B 1 d]) (o := 0) rfl rfl k512 rfl rfl (Nat.succ_pos _) (hk := ?_)
  repeat (refine TL_yes (hk := ?_))
  refine TL_call TE (hc := Same_c A2 B2 A B 2 1 2 1 c2 d2 c d [tA, tB] [tA] [tA, tB] [tA] _ o2A.rd o2B.rd oA12.rd oB12.rd (by omega) (by omega) (by omega) (by omega)) (hk := ?_)
  rintro _ w13 ⟨rfl, e13⟩
  rw [show decide ([tA, tB] = [tA, tB] ∧ [tA] = [tA]) = true by decide]
  have k513 := k512.be e13
  have oA13 := oA12.be e13
  have oB13 := oB12.be e13
  have e013 := (e010.ext e1012).ext e13
  clear k512 oA12 oB12 o2A o2B k12
  repeat (first | refine TL_move (hk := ?_) | refine TL_yes (hk := ?_) | refine TL_pick_t (hk := ?_))
  refine TL_loadb TE (cs := [.slice A 2 c, .slice B 1 d]) (o := 0) rfl rfl k513 rfl rfl (Nat.succ_pos _) (hk := ?_)
  repeat (refine TL_yes (hk := ?_))
  refine TL_buildSlice TE (hk := ?_); intro b14 w14 e14 h14 h14' k14
  replace k14 : Blk w14 b14 9 (sv [tA]) := k14
  repeat (first | refine TL_yes (hk := ?_) | refine TL_build TE (hk := ?_))
  refine TL_call TE (hc := Clash_c A B (some ⟨b14, 0, none⟩) none 2 1 1 0 c d 1 0 [tA, tB] [tA] [tA] [] _ (oA13.rd.be e14) (oB13.rd.be e14) (Rd.blk k14 rfl) (Rd.nil _ _ _) (by omega) (by omega) (by omega) (by omega)) (hk := ?_)
  rintro _ w15 ⟨rfl, e15⟩
  rw [show (ofM [tA, tB] [tA]).any (clash1 (ofM [tA] [])) = true by decide +kernel]
  have e1315 := e14.ext e15
  have k515 := k513.be e1315
  have oA15 := oA13.be e1315
  have oB15 := oB13.be e1315
  have e015 := e013.ext e1315
  clear k513 oA13 oB13 k14
  repeat (first | refine TL_move (hk := ?_) | refine TL_yes (hk := ?_) | refine TL_pick_t (hk := ?_))
  refine TL_loadb TE (cs := [.slice A 2 c, .slice B 1 d]) (o := 0) rfl rfl k515 rfl rfl (Nat.succ_pos _) (hk := ?_)
  repeat (refine TL_yes (hk := ?_))
  refine TL_buildSlice TE (hk := ?_); intro b16 w16 e16 h16 h16' k16
  replace k16 : Blk w16 b16 9 (sv [tB]) := k16
  repeat (first | refine TL_yes (hk := ?_) | refine TL_build TE (hk := ?_))
  refine TL_call TE (hc := Clash_c A B (some ⟨b16, 0, none⟩) none 2 1 1 0 c d 1 0 [tA, tB] [tA] [tB] [] _ (oA15.rd.be e16) (oB15.rd.be e16) (Rd.blk k16 rfl) (Rd.nil _ _ _) (by omega) (by omega) (by omega) (by omega)) (hk := ?_)
  rintro _ w17 ⟨rfl, e17⟩
  rw [show (ofM [tA, tB] [tA]).any (clash1 (ofM [tB] [])) = false by decide +kernel]
  have e017 := e015.ext (e16.ext e17)
  clear k515 oA15 oB15 k16
  repeat (first | refine TL_move (hk := ?_) | refine TL_yes (hk := ?_) | refine TL_pick_t (hk := ?_) | refine TL_not (hk := ?_))
  refine TL_call TE (hc := Valid_c tA (by decide) _) (hk := ?_)
  rintro _ _ ⟨rfl, rfl⟩
  rw [show validT tA = true by decide]
  repeat (first | refine TL_move (hk := ?_) | refine TL_yes (hk := ?_) | refine TL_pick_t (hk := ?_))
  refine TL_call TE (hc := Hash_c tA (by decide) _) (hk := ?_)
  rintro _ _ ⟨rfl, rfl⟩
  rw [show hashT tA = 12638187200555641996 by decide +kernel]
  repeat (first | refine TL_eq_t (hk := ?_) | refine TL_nil ?_ | refine TL_assign (hk := ?_) | refine TL_yes (hk := ?_) | refine TL_pick_t (hk := ?_))
  exact T_ret1 rfl rfl ⟨rfl, e017⟩
end Go.Proofs.Ytfplmpfdhiagaaa

/- What an argument that reads as data looks like, when each row and text of it lies within the reach. -/
namespace Go.Proofs.Eng
open Go.RowKit Go.WideShapes
set_option linter.unusedSimpArgs false
set_option linter.unusedVariables false
/-- Bytes of a type, at least. -/
def Ty.wt : Ty → Nat
  | .int _ => 1
  | .bool => 1
  | .str => 16
  | .slice _ => 24
  | .unit => 0
  | .cons a b => a.wt + b.wt
  | .struct p => p.wt
  | .array n e => n * e.wt
def FitS (w : World) : Ty → List Value → Prop
  | .int k, cs => ∃ n, cs = [.int k n] ∧ Fits k n
  | .bool, cs => ∃ b, cs = [.bool b]
  | .str, cs => ∃ s : ByteArray, cs = [.string s] ∧ s.size ≤ 140737488351232
  | .slice e, cs => ∃ (A : Option Addr) (n c : Nat) (xs : List (List Value)), cs = [.slice A n c] ∧ n ≤ c ∧ c ≤ maxLen ∧ c * e.wt ≤ 140737488351232 ∧ xs.length = n ∧ Rd w A n e.size xs.flatten ∧ ∀ x ∈ xs, x.length = e.size ∧ FitS w e x
  | .unit, cs => cs = []
  | .cons a b, cs => ∃ x y, cs = x ++ y ∧ x.length = a.size ∧ FitS w a x ∧ FitS w b y
  | .struct p, cs => FitS w p cs
  | .array n e, cs => ∃ xs : List (List Value), cs = xs.flatten ∧ xs.length = n ∧ ∀ x ∈ xs, x.length = e.size ∧ FitS w e x
def tyW {P : Program} (E : Env P) : Ty → Where → Bool
  | .slice e, .at t => match E.und t with
    | some (.slice u) => match E.inf u with
      | some (_, b, _) => Nat.ble e.wt b && tyW E e (.at u)
      | none => false
    | _ => false
  | .array n e, .at t => match E.und t with
    | some (.array m u) => tyW E e (.at u)
    | _ => false
  | .struct p, .at t => match E.fld t with
    | some fl => tyW E p (.from 0 fl)
    | none => false
  | .cons a b, .from off ((o, t) :: fl) => tyW E a (.at t) && tyW E b (.from (off + a.size) fl)
  | _, _ => true
section
variable {H : Type} {enc : TypeId × Value → H} {P : Program} {w : World} {base : Nat} {held : Bool}
theorem weightsAll_mem {e : TypeId} : ∀ {l : List (DataW H)} {d : DataW H}, d ∈ l → ∀ k ∈ d.weights P e, k ∈ DataW.weightsAll P e l
  | a :: l, d, h, k, hk => by
    simp only [DataW.weightsAll, List.mem_append]
    rcases List.mem_cons.1 h with rfl | h
    · exact .inl hk
    · exact .inr (weightsAll_mem h k hk)
theorem fits_of_trod (E : Env P) : ∀ (ty : Ty),
    (∀ t, tyOk E ty (.at t) = true → tyW E ty (.at t) = true → ∀ fuel cs x, DataW.trod enc P w base (fun _ => true) held fuel t cs = some x → (∀ k ∈ x.1.weights P t, k ≤ reachBytes) → FitS w ty cs) ∧
    (∀ off fl, tyOk E ty (.from off fl) = true → tyW E ty (.from off fl) = true → ∀ (cs : List Value) (ys : List (DataW H × List MemPlace)), cs.length = off + ty.size → ys.length = fl.length →
      (∀ (i : Nat) (o : Nat) (t : TypeId) y, fl[i]? = some (o, t) → ys[i]? = some y → ∃ n, DataW.trod enc P w base (fun _ => true) held n t ((cs.drop o).take (P.cellsOf t)) = some y) →
      (∀ k ∈ DataW.weightsEach P (fl.map (·.2)) (ys.map (·.1)), k ≤ reachBytes) → FitS w ty (cs.drop off)) := by
  intro ty
  induction ty with
  | int k =>
    refine ⟨fun t h _ fuel cs x hd _ => ?_, fun _ _ h => by simp [tyOk] at h⟩
    obtain ⟨n, h1, h3, h2⟩ := DataW.trod_int (und_int h) hd
    exact ⟨n, h1, fits_of_wf h2⟩
  | bool =>
    refine ⟨fun t h _ fuel cs x hd _ => ?_, fun _ _ h => by simp [tyOk] at h⟩
    obtain ⟨b, h1, h3⟩ := DataW.trod_bool (und_bool h) hd
    exact ⟨b, h1⟩
  | str =>
    refine ⟨fun t h _ fuel cs x hd hw => ?_, fun _ _ h => by simp [tyOk] at h⟩
    obtain ⟨s, h1, h3, h2⟩ := DataW.trod_string (und_str h) hd
    rw [h3] at hw
    have := hw s.data.toList.length (by simp [DataW.weights])
    refine ⟨s, h1, ?_⟩
    simpa [reachBytes] using this
  | slice e ih =>
    refine ⟨fun t h hW fuel cs x hd hw => ?_, fun _ _ h => by simp [tyOk] at h⟩
    simp only [tyOk] at h
    simp only [tyW] at hW
    split at h
    · rename_i u hu
      simp only [Bool.and_eq_true] at h
      obtain ⟨⟨h1, h2⟩, h3⟩ := h
      rw [hu] at hW
      simp only at hW
      split at hW
      · rename_i s' by_ z' hinf
        simp only [Bool.and_eq_true] at hW
        obtain ⟨hW1, hW2⟩ := hW
        have hW1 := Nat.le_of_ble_eq_true hW1
        have hsz := sizeIs_ok h2
        have h0 : 0 < e.size := by simpa [Nat.blt_eq] using h3
        have hund := E.und_ok _ _ hu
        have hbytes : P.bytesOf u = by_ := by
          obtain ⟨i, i1, i2, i3, i4⟩ := E.inf_ok _ _ _ _ hinf
          simp [Program.bytesOf, i1, i3]
        rcases DataW.trod_slice hund hd with ⟨rfl, hx⟩ | ⟨a, len, cap, elems, rest, n, _, rfl, hx, hb, hl, hm, hlen, hel, hsp, _⟩
        · exact ⟨none, 0, 0, [], rfl, Nat.le_refl _, by decide, by simp, rfl, Rd.nil _ _ _, by simp⟩
        · have hrest := (hsp rfl).1
          rw [hx] at hw
          simp only [DataW.weights, hund, List.length_map, hbytes] at hw
          have hcap := hw _ (List.mem_cons_self ..)
          rw [hlen, hrest] at hcap
          have hcap2 : cap * e.wt ≤ 140737488351232 := by
            have e1 : len + (cap - len) = cap := by omega
            rw [e1] at hcap
            have := Nat.mul_le_mul_left cap hW1
            simp only [reachBytes] at hcap
            omega
          rw [hsz] at hel
          have hget : ∀ i, i < len → ∃ y z, w.cells? base (a.add (i * e.size)) e.size = some y ∧ elems[i]? = some z ∧ DataW.trod enc P w base (fun _ => true) held n u y = some z := fun i hi => by
            have h4 := hel i hi
            rw [List.getElem?_eq_getElem (by omega)] at h4
            cases hc : w.cells? base (a.add (i * e.size)) e.size with
            | none => rw [hc] at h4; simp at h4
            | some y => rw [hc] at h4; simp at h4; exact ⟨y, _, rfl, List.getElem?_eq_getElem (by omega), h4⟩
          have hsome : ∀ (i : Nat) (x : List Value), ((List.range len).map fun i => (w.cells? base (a.add (i * e.size)) e.size).getD [])[i]? = some x → w.cells? base (a.add (i * e.size)) e.size = some x ∧ x.length = e.size ∧ FitS w e x := fun i x hx => by
            have hi : i < len := by have := (List.getElem?_eq_some_iff.1 hx).1; simpa using this
            obtain ⟨y, z, hy, hz, ht⟩ := hget i hi
            rw [List.getElem?_map, List.getElem?_range hi] at hx
            simp only [Option.map_some, hy, Option.getD_some, Option.some.injEq] at hx
            subst hx
            refine ⟨hy, (World.cells?_some hy).2.1, ih.1 u h1 hW2 n y z ht fun k hk => hw k (List.mem_cons_of_mem _ (List.mem_append_left _ ?_))⟩
            exact weightsAll_mem (List.mem_map_of_mem (List.mem_of_getElem? hz)) k hk
          have hmem : ∀ x ∈ (List.range len).map (fun i => (w.cells? base (a.add (i * e.size)) e.size).getD []), x.length = e.size ∧ FitS w e x := fun x hx => by
            obtain ⟨i, hi⟩ := List.getElem?_of_mem hx
            exact (hsome i x hi).2
          exact ⟨some a, len, cap, _, rfl, hl, hm, hcap2, by simp, rows_read h0 (by simp) (fun i x hx => (hsome i x hx).1) (fun x hx => (hmem x hx).1), hmem⟩
      · cases hW
    · cases h
  | unit =>
    refine ⟨fun t h => by simp [tyOk] at h, fun off fl h _ cs ys hl _ _ _ => ?_⟩
    show cs.drop off = []
    exact List.drop_of_length_le (by simp only [Ty.size] at hl; omega)
  | cons a b iha ihb =>
    refine ⟨fun t h => by simp [tyOk] at h, fun off fl h hW cs ys hl hyl hf hw => ?_⟩
    cases fl with
    | nil => simp [tyOk] at h
    | cons p fl =>
      cases ys with
      | nil => simp at hyl
      | cons y ys =>
        obtain ⟨o, t⟩ := p
        simp only [tyOk, Bool.and_eq_true] at h
        simp only [tyW, Bool.and_eq_true] at hW
        obtain ⟨⟨⟨h1, h2⟩, h3⟩, h4⟩ := h
        have ho := Nat.eq_of_beq_eq_true h1
        subst ho
        simp only [Ty.size] at hl
        have hsz := sizeIs_ok h3
        obtain ⟨n, hx⟩ := hf 0 o t y rfl rfl
        rw [hsz] at hx
        simp only [List.map_cons, DataW.weightsEach, List.mem_append] at hw
        refine ⟨(cs.drop o).take a.size, cs.drop (o + a.size), ?_, by simp; omega, iha.1 t h2 hW.1 n _ y hx (fun k hk => hw k (.inl hk)), ?_⟩
        · rw [← List.drop_drop, List.take_append_drop]
        · exact ihb.2 (o + a.size) fl h4 hW.2 cs ys (by omega) (by simpa using hyl) (fun i o' t' y' h' g' => hf (i + 1) o' t' y' (by simpa using h') (by simpa using g')) (fun k hk => hw k (.inr hk))
  | struct p ih =>
    refine ⟨fun t h hW fuel cs x hd hw => ?_, fun _ _ h => by simp [tyOk] at h⟩
    simp only [tyOk] at h
    simp only [tyW] at hW
    split at h
    · rename_i fl hfl
      rw [hfl] at hW
      simp only [Bool.and_eq_true] at h
      obtain ⟨h1, h2⟩ := h
      obtain ⟨fs, hu, hmap⟩ := E.fld_ok _ _ hfl
      obtain ⟨xs, n, _, hx, hl, hxl, hfs⟩ := DataW.trod_struct hu hd
      rw [sizeIs_ok h2] at hl
      have e9 : fl.map (·.2) = fs.toList.map (·.type) := by rw [← hmap]; simp
      have := ih.2 0 fl h1 hW cs xs (by omega) (by rw [hxl, ← hmap]; simp) (fun i o t y h' g' => by
        rw [← hmap, List.getElem?_map] at h'
        cases hf : fs.toList[i]? with
        | none => rw [hf] at h'; cases h'
        | some f =>
          rw [hf] at h'
          cases h'
          have hf' : fs[i]? = some f := by simpa using hf
          have h5 := hfs i f hf'
          rw [g'] at h5
          exact ⟨n, h5⟩) (fun k hk => hw k (by rw [hx]; simp only [DataW.weights, hu]; rw [← e9]; exact hk))
      simpa [FitS] using this
    · cases h
  | array n e ih =>
    refine ⟨fun t h hW fuel cs x hd hw => ?_, fun _ _ h => by simp [tyOk] at h⟩
    simp only [tyOk] at h
    simp only [tyW] at hW
    split at h
    · rename_i m u hu
      rw [hu] at hW
      simp only [Bool.and_eq_true] at h
      obtain ⟨⟨⟨h1, h2⟩, h3⟩, h4⟩ := h
      have hm := Nat.eq_of_beq_eq_true h1
      subst hm
      have hund := E.und_ok _ _ hu
      obtain ⟨xs, q, _, hx, hl, hxl, hel⟩ := DataW.trod_array hund hd
      rw [sizeIs_ok h4] at hl
      rw [sizeIs_ok h3] at hel
      refine ⟨(List.range m).map fun i => (cs.drop (i * e.size)).take e.size, (take_drop_chunks m cs hl).symm, by simp, fun y hy => ?_⟩
      obtain ⟨i, hi, rfl⟩ := List.mem_map.1 hy
      have hi' : i < m := by simpa using hi
      have h5 := hel i hi'
      cases ht : DataW.trod enc P w base (fun _ => true) held q u ((cs.drop (i * e.size)).take e.size) with
      | none => rw [ht] at h5; rw [List.getElem?_eq_getElem (by omega)] at h5; cases h5
      | some z =>
        refine ⟨?_, ih.1 u h2 hW q _ _ ht fun k hk => hw k ?_⟩
        · have : (i + 1) * e.size ≤ m * e.size := Nat.mul_le_mul_right _ hi'
          rw [Nat.succ_mul] at this
          simp; omega
        · rw [hx]
          simp only [DataW.weights, hund]
          rw [ht] at h5
          exact weightsAll_mem (List.mem_map_of_mem (List.mem_of_getElem? h5.symm)) k hk
    · cases h
/-- An argument that reads as data, each row and text of it within the reach. -/
def ReadsS (P : Program) (w : World) (base : Nat) (t : TypeId) (v : Value) : Prop :=
  ∃ (H : Type) (enc : TypeId × Value → H) (d : DataW H) (ps : List MemPlace), DataW.Trod enc P w 0 (fun _ => true) true t v d ps ∧ Value.okWide P w .any base t v ∧ ∀ k ∈ d.weights P t, k ≤ reachBytes
theorem ReadsS.fit {t : TypeId} {v : Value} (E : Env P) (h : ReadsS P w base t v) (ty : Ty) (hok : tyOk E ty (.at t) = true) (hW : tyW E ty (.at t) = true) : FitS w ty v.cells.toList := by
  obtain ⟨H, enc, d, ps, ⟨fuel, hf⟩, _, hm⟩ := h
  exact (fits_of_trod E ty).1 t hok hW fuel _ _ hf hm
theorem ReadsS.slice {t e : TypeId} {v : Value} (E : Env P) (h : ReadsS P w base t v) (ht : E.und t = some (.slice e)) : ∃ A n c, v = .slice A n c := by
  obtain ⟨_, _, _, _, _, hv, _⟩ := h
  exact okWide_slice (E.und_ok _ _ ht) hv
theorem FitS.fit : ∀ {ty : Ty} {cs : List Value}, FitS w ty cs → Fit w ty cs
  | .int _, _, h => h
  | .bool, _, h => h
  | .str, _, ⟨s, h1, h2⟩ => ⟨s, h1, by unfold maxLen; omega⟩
  | .slice _, _, ⟨A, n, c, xs, h1, h2, h3, _, h5, h6, h7⟩ => ⟨A, n, c, xs, h1, h2, h3, h5, h6, fun x hx => ⟨(h7 x hx).1, FitS.fit (h7 x hx).2⟩⟩
  | .unit, _, h => h
  | .cons _ _, _, ⟨x, y, h1, h2, h3, h4⟩ => ⟨x, y, h1, h2, FitS.fit h3, FitS.fit h4⟩
  | .struct p, _, h => FitS.fit (ty := p) h
  | .array _ _, _, ⟨xs, h1, h2, h3⟩ => ⟨xs, h1, h2, fun x hx => ⟨(h3 x hx).1, FitS.fit (h3 x hx).2⟩⟩
theorem FitS.bytes {A : Option Addr} {n c : Nat} (h : FitS w (.slice (.int .u8)) [.slice A n c]) : ∃ l, Rd w A n 1 (bv l) ∧ n ≤ c ∧ c ≤ 140737488351232 := by
  obtain ⟨l, h1, h2, _⟩ := Fit.bytes h.fit
  obtain ⟨A', n', c', xs, hv, _, _, h3, _⟩ := h
  cases hv
  exact ⟨l, h1, h2, by simpa [Ty.wt] using h3⟩
theorem bytes_inS {H : Type} {enc : TypeId × Value → H} (E : Env P) {t : TypeId} {A : Option Addr} {n c : Nat} {d : DataW H} {ps : List MemPlace} (hok : tyOk E (.slice (.int .u8)) (.at t) = true) (hW : tyW E (.slice (.int .u8)) (.at t) = true)
    (h : DataW.Trod enc P w 0 (fun _ => true) true t (.slice A n c) d ps) (hw : ∀ k ∈ d.weights P t, k ≤ reachBytes) : ∃ l, Rd w A n 1 (bv l) ∧ n ≤ c ∧ c ≤ 140737488351232 := by
  obtain ⟨fuel, hf⟩ := h
  exact FitS.bytes ((fits_of_trod E _).1 t hok hW fuel _ _ hf hw)
theorem each_one {H : Type} {P : Program} {t : TypeId} {ts : List TypeId} {d : DataW H} {ds : List (DataW H)} (h : ∀ k ∈ DataW.weightsEach P (t :: ts) (d :: ds), k ≤ reachBytes) : (∀ k ∈ d.weights P t, k ≤ reachBytes) ∧ ∀ k ∈ DataW.weightsEach P ts ds, k ≤ reachBytes :=
  ⟨fun k hk => h k (by simp only [DataW.weightsEach, List.mem_append]; exact .inl hk), fun k hk => h k (by simp only [DataW.weightsEach, List.mem_append]; exact .inr hk)⟩
end
end Go.Proofs.Eng

namespace Go.Proofs.Ytfplmpfdhiagaaa
open Go.RowKit Go.Proofs.Eng Go.Proofs.Foot Go.Proofs.Codec
set_option linter.unusedSimpArgs false
set_option linter.unusedVariables false
attribute [local irreducible] T TL LV TH TA
/-- A slice of texts, out of an argument. -/
theorem texts_in {w : World} {A : Option Addr} {n c : Nat} (h : FitS w (.slice .str) [.slice A n c]) : ∃ l : List Tx, Rd w A n 1 (sv l) ∧ n ≤ c ∧ n ≤ 8796093021952 ∧ ∀ t ∈ l, t.length ≤ 140737488351232 := by
  obtain ⟨A', n', c', xs, hv, h1, h2, h3, h4, h5, h6⟩ := h
  cases hv
  refine ⟨xs.map fun x => match x with | [.string s] => s.data.toList | _ => [], ?_, h1, by simp only [Ty.wt] at h3; omega, fun t ht => ?_⟩
  · have e : sv (xs.map fun x => match x with | [.string s] => s.data.toList | _ => []) = xs.flatten := by
      clear h4 h5
      induction xs with
      | nil => rfl
      | cons x t ih =>
        obtain ⟨_, s, rfl, hs⟩ := h6 x (by simp)
        have := ih (fun y hy => h6 y (by simp [hy]))
        simp only [sv, List.map_cons, List.flatten_cons] at this ⊢
        rw [this]
        rfl
    rw [e]
    exact h5
  · obtain ⟨x, hx, rfl⟩ := List.mem_map.1 ht
    obtain ⟨_, s, rfl, hs⟩ := h6 x hx
    exact hs
abbrev tyFoot : Ty := .struct (.cons (.slice .str) (.cons (.slice .str) .unit))
theorem short_mem {l : List Tx} (h : ∀ t ∈ l, t.length ≤ 140737488351232) : Short l := fun i hi => by
  have := h _ (getD_mem hi); omega
theorem agg_two {v a b : Value} (h : v.cells.toList = [a, b]) : v = .agg #[a, b] := by
  cases v with
  | agg cs =>
    have e : cs.toList = [a, b] := h
    congr
    exact Array.toList_inj.1 (by simpa using e)
  | _ => simp [Value.cells] at h
theorem foot_in {w : World} {base : Nat} {v : Value} (h : ReadsS Try.prog w base 28 v) :
    ∃ A n c B m d r k, v = .agg #[.slice A n c, .slice B m d] ∧ Rd w A n 1 (sv r) ∧ Rd w B m 1 (sv k) ∧ n ≤ 8796093021952 ∧ m ≤ 8796093021952 ∧ Short r ∧ Short k := by
  obtain ⟨x, y, h1, h2, hx, u, z, h3, h4, hy, hz⟩ := h.fit TE tyFoot (by decide +kernel) (by decide +kernel)
  have hz : z = [] := hz
  subst hz
  simp only [List.append_nil] at h3
  subst h3
  obtain ⟨A, n, c, xs, e1, r1⟩ := hx
  obtain ⟨B, m, d, ys, e2, r2⟩ := hy
  subst e1 e2
  obtain ⟨r, hr, _, hn, sr⟩ := texts_in ⟨A, n, c, xs, rfl, r1⟩
  obtain ⟨k, hk, _, hm, sk⟩ := texts_in ⟨B, m, d, ys, rfl, r2⟩
  exact ⟨A, n, c, B, m, d, r, k, agg_two h1, hr, hk, hn, hm, short_mem sr, short_mem sk⟩
theorem FootNames_c (w : World) : Ret Try.prog 3 [] w (fun v w' => v = .bool true ∧ Ext w w') := by
  refine ret_T (n := 12) Try.func3 rfl rfl ?_
  repeat (first | refine T_seq ?_ | refine T_region ?_ | refine TL_nil ?_ | refine TL_move (hk := ?_) | refine TL_assign (hk := ?_) | refine TL_yes (hk := ?_))
  refine TL_call TE (hc := num_c3 30 _) (hk := ?_)
  rintro _ _ ⟨rfl, rfl⟩
  repeat (first | refine TL_eq_t (hk := ?_) | refine TL_move (hk := ?_) | refine TL_yes (hk := ?_) | refine TL_pick_t (hk := ?_))
  refine TL_call TE (hc := num_c3 31 _) (hk := ?_)
  rintro _ _ ⟨rfl, rfl⟩
  repeat (first | refine TL_eq_t (hk := ?_) | refine TL_move (hk := ?_) | refine TL_yes (hk := ?_) | refine TL_pick_t (hk := ?_))
  refine TL_call TE (hc := live_c3 _) (hk := ?_)
  rintro _ w1 ⟨rfl, e1⟩
  repeat (first | refine TL_nil ?_ | refine TL_assign (hk := ?_) | refine TL_pick_t (hk := ?_))
  exact T_ret1 rfl rfl ⟨rfl, e1⟩
theorem FootKeys_c (a : ByteArray) (p : Int) (w : World) (ha : a.size ≤ 140737488351232) (hp : -9223372036854775808 ≤ p ∧ p ≤ 9223372036854775807) : Ret Try.prog 6 [.string a, .int .i64 p] w (fun v w' => v = .bool true ∧ Ext w w') := by
  obtain ⟨l, rfl⟩ : ∃ l, a = ofL l := ⟨a.data.toList, (ofL_eta a).symm⟩
  have hl : l.length ≤ 9223372036854775807 := by rw [ofL_size] at ha; omega
  refine ret_T (n := 29) Try.func6 rfl rfl ?_
  repeat (first | refine T_seq ?_ | refine T_region ?_ | refine TL_nil ?_ | refine TL_move (hk := ?_) | refine TL_assign (hk := ?_))
  refine TL_call TE (hc := Valid_c l hl _) (hk := ?_)
  rintro _ _ ⟨rfl, rfl⟩
  repeat (refine TL_move (hk := ?_))
  refine TL_call TE (hc := RValid_c l hl _) (hk := ?_)
  rintro _ _ ⟨rfl, rfl⟩
  repeat (first | refine TL_beq TE (hk := ?_) | refine TL_move (hk := ?_))
  rw [show (validT l == validT l) = true by simp]
  repeat (first | refine TL_move (hk := ?_) | refine TL_yes (hk := ?_))
  refine TL_call TE (hc := Hash_c l hl _) (hk := ?_)
  rintro _ _ ⟨rfl, rfl⟩
  repeat (first | refine TL_move (hk := ?_) | refine TL_yes (hk := ?_))
  refine TL_call TE (hc := RHash_c l hl _) (hk := ?_)
  rintro _ _ ⟨rfl, rfl⟩
  repeat (first | refine TL_eq_t (hk := ?_) | refine TL_move (hk := ?_) | refine TL_yes (hk := ?_) | refine TL_pick_t (hk := ?_))
  refine TL_call TE (hc := Partition_c l hl p hp _) (hk := ?_)
  rintro _ _ ⟨rfl, rfl⟩
  repeat (first | refine TL_move (hk := ?_) | refine TL_yes (hk := ?_))
  refine TL_call TE (hc := RPartition_c l hl p hp _) (hk := ?_)
  rintro _ _ ⟨rfl, rfl⟩
  repeat (first | refine TL_eq_t (hk := ?_) | refine TL_move (hk := ?_) | refine TL_yes (hk := ?_) | refine TL_pick_t (hk := ?_))
  refine TL_call TE (hc := live_c3 _) (hk := ?_)
  rintro _ w1 ⟨rfl, e1⟩
  repeat (first | refine TL_nil ?_ | refine TL_assign (hk := ?_) | refine TL_pick_t (hk := ?_))
  exact T_ret1 rfl rfl ⟨rfl, e1⟩
end Go.Proofs.Ytfplmpfdhiagaaa
