import Derived.Test.YtjjgojgahibpgaaW2
import Derived.SizedLaws
/- Parts: LW7 LW8 CLaw1 CLaw2 CLaw3 CLaw4 LLaw1 LW9 Eng18 LW10 LW11 Eng10 LAct LLaw2 LW12. -/
namespace Go.Proofs.Ytjjgojgahibpgaa
open Go.RowKit Go.Proofs.Eng Go.Proofs.Codec Go.Proofs.Link
set_option linter.unusedSimpArgs false
set_option linter.unusedVariables false set_option maxRecDepth 10000
attribute [local irreducible] T TL LV TH TA
theorem fv_take (l : List FE) (i : Nat) : (fv l).take (i * 4) = fv (l.take i) := by
  induction l generalizing i with
  | nil => simp [fv]
  | cons p l ih =>
    cases i with
    | zero => simp [fv]
    | succ i =>
      rw [fv_cons, List.take_succ_cons, fv_cons, ← ih i, show (i + 1) * 4 = (f4 p).length + i * 4 by simp [f4]; omega, List.take_length_add_append]
theorem Before_c (x : FE) (b7 ack : Nat) (w : World) (h7 : Blk w b7 22 [.int .u64 (ack : Int)]) :
    Ret Try.prog 70 [.agg #[.int .u64 (x.seq : Int), slV x.sv, .int .i64 (x.age : Int), .bool x.due], ptr b7] w (fun v w' => v = .bool (decide (x.seq < ack)) ∧ Ext w w') := by
  refine ret_T (n := 8) Try.func70 rfl rfl ?_
  repeat (first | refine T_seq ?_ | refine T_region ?_)
  refine TL_box (hk := ?_); intro b2 w2 e2 h2 h2' k2
  replace k2 : Blk w2 b2 118 (f4 x) := k2
  have k72 := h7.be e2
  unfold f4 at k2
  by_cases h : x.seq < ack
  · repeat (first | refine T_seq ?_ | refine T_region ?_ | refine TL_lt_t (hk := ?_) | refine TL_nil ?_ | refine TL_assign (hk := ?_) | refine TL_load TE (hk := ?_) | refine TL_fieldAddr TE (hk := ?_))
    exact T_ret1 rfl rfl ⟨by rw [decide_eq_true h], e2⟩
  · repeat (first | refine T_seq ?_ | refine T_region ?_ | refine TL_lt_f (hk := ?_) | refine TL_nil ?_ | refine TL_assign (hk := ?_) | refine TL_load TE (hk := ?_) | refine TL_fieldAddr TE (hk := ?_))
    exact T_ret1 rfl rfl ⟨by rw [decide_eq_false h], e2⟩
abbrev befF (b7 : Nat) : Value := .func (.func 70) #[] #[ptr b7]
theorem IndexBefore_c (A : Option Addr) (n c : Nat) (fm : List FE) (b7 ack : Nat) (w : World) (h : Rd w A n 4 (fv fm)) (hn : n ≤ 1000000) (h7 : Blk w b7 22 [.int .u64 (ack : Int)]) :
    Ret Try.prog 97 [.slice A n c, befF b7] w (fun v w' => Ext w w' ∧ ((v = .int .i64 (-1) ∧ ∀ j, j < n → ¬ (fm.getD j fe0).seq < ack) ∨ ∃ i : Nat, v = .int .i64 (i : Int) ∧ i < n ∧ (fm.getD i fe0).seq < ack ∧ ∀ j, j < i → ¬ (fm.getD j fe0).seq < ack)) := by
  have hl : fm.length = n := by have := h.1; rw [fv_len] at this; omega
  refine ret_T (n := 19) Try.func97 rfl rfl ?_
  repeat (first | refine T_seq ?_ | refine T_region ?_ | refine T_block ?_ | refine TL_nil ?_ | refine TL_move (hk := ?_) | refine TL_assign (hk := ?_) | refine TL_len TE (hk := ?_))
  refine T_loop (ι := Nat) (fun i => [(8, .int .i64 (i : Int)), (7, .int .i64 (n : Int)), (0, .slice A n c), (1, befF b7)]) (fun i w' => Ext w w' ∧ i ≤ n ∧ ∀ j, j < i → ¬ (fm.getD j fe0).seq < ack) (fun i => n - i) 0 (.c rfl (.c rfl (.c rfl (.c rfl (.n))))) ⟨Mod.refl _ _, Nat.zero_le _, fun j h => absurd h (by omega)⟩ ?_
  rintro i w1 ⟨e1, hi, hu⟩ ih
  have h1 := h.be e1
  have h71 := h7.be e1
  by_cases hlt : i < n
  · have t1 := fv_four fm i (by omega)
    obtain ⟨x, hx⟩ : ∃ x, fm.getD i fe0 = x := ⟨_, rfl⟩
    rw [hx] at t1
    repeat (first | refine T_seq ?_ | refine T_region ?_ | refine T_cond_true rfl ?_ | refine T_block ?_ | refine T_skip ?_ | refine TL_lt_t (hk := ?_) | refine TL_nil ?_ | refine TL_move (hk := ?_) | refine TL_assign (hk := ?_) | refine TL_indexAddrn TE (hk := ?_))
    refine TL_loada TE (cs := f4 x) (hx := rfl) (ht := rfl) (hi := rfl) (hr := h1) (hc := t1) (h0 := Nat.succ_pos _) (hk := ?_)
    --
    refine TL_callc TE (fst := []) (cap := [ptr b7]) rfl rfl rfl rfl (R' := RR (fun v w'' => v = .bool (decide (x.seq < ack)) ∧ Ext w1 w'')) (by have := Before_c x b7 ack w1 h71; unfold Ret at this; simpa [f4] using this) ?_ (fun _ _ h => h.elim) (fun _ h => h)
    rintro _ w2 ⟨rfl, e2⟩
    by_cases hb : x.seq < ack
    · rw [decide_eq_true hb]
      repeat (first | refine T_seq ?_ | refine T_region ?_ | refine T_cond_true rfl ?_ | refine TL_nil ?_ | refine TL_move (hk := ?_) | refine TL_assign (hk := ?_))
      exact T_ret1 rfl rfl ⟨e1.ext e2, .inr ⟨i, rfl, hlt, by rw [hx]; exact hb, hu⟩⟩
    · rw [decide_eq_false hb]
      repeat (first | refine T_region ?_ | refine T_cond_false rfl ?_ | refine T_inBlock ?_ | refine T_skip ?_ | refine TL_add (hk := ?_) | refine TL_nil ?_ | refine TL_move (hk := ?_))
      exact ih (i + 1) _ _ (by omega) ⟨e1.ext e2, by omega, fun j hj => by
        by_cases q : j = i
        · rw [q, hx]; exact hb
        · exact hu j (by omega)⟩ (.c rfl (.c rfl (.c rfl (.c rfl (.n)))))
  · clear ih
    have : i = n := by omega
    subst this
    repeat (first | refine T_seq ?_ | refine T_region ?_ | refine T_cond_false rfl ?_ | refine T_exit rfl ?_ | refine TL_lt_f (hk := ?_) | refine TL_nil ?_ | refine TL_assign (hk := ?_))
    exact T_ret1 rfl rfl ⟨e1, .inl ⟨rfl, hu⟩⟩
def keepF (ack : Nat) (l : List FE) : List FE := l.filter fun x => !decide (x.seq < ack)
theorem keepF_all {ack : Nat} {l : List FE} : ∀ (i : Nat), i ≤ l.length → (∀ j, j < i → ¬ (l.getD j fe0).seq < ack) → keepF ack (l.take i) = l.take i
  | 0, _, _ => by simp [keepF]
  | i + 1, hi, h => by
    have := keepF_all i (by omega) (fun j hj => h j (by omega))
    have h1 := h i (by omega)
    rw [List.getD_eq_getElem?_getD, List.getElem?_eq_getElem (by omega)] at h1
    unfold keepF at this ⊢
    rw [List.take_succ_eq_append_getElem (by omega), List.filter_append, this]
    congr 1
    simp only [Option.getD_some] at h1
    simp [h1]
theorem keepF_succ {ack : Nat} {l : List FE} {j : Nat} (h : j < l.length) : keepF ack (l.take (j + 1)) = keepF ack (l.take j) ++ (if (l.getD j fe0).seq < ack then [] else [l.getD j fe0]) := by
  unfold keepF
  rw [List.take_succ_eq_append_getElem h, List.filter_append]
  congr 1
  simp only [List.getD_eq_getElem?_getD, List.getElem?_eq_getElem h, Option.getD_some]
  by_cases q : l[j].seq < ack <;> simp [q]
set_option maxHeartbeats 1600000
theorem DeleteFunc_c (A : Option Addr) (n c base : Nat) (fm : List FE) (b7 ack : Nat) (w : World) (h : Own w base 118 4 A n c (fv fm)) (hn : n ≤ 1000000) (h7 : Blk w b7 22 [.int .u64 (ack : Int)]) (hb7 : b7 ∉ blkL A) :
    Ret Try.prog 69 [.slice A n c, befF b7] w (fun v w' => v = .slice A (keepF ack fm).length c ∧ Eng.Mod (blkL A) w w' ∧ Own w' base 118 4 A (keepF ack fm).length c (fv (keepF ack fm))) := by
  have hl : fm.length = n := by have := h.len; rw [fv_len] at this; omega
  have hcap := h.cap.1
  refine ret_T (n := 42) Try.func69 rfl rfl ?_
  repeat (first | refine T_seq ?_ | refine T_region ?_ | refine TL_nil ?_ | refine TL_move (hk := ?_) | refine TL_assign (hk := ?_))
  refine TL_call TE (hc := IndexBefore_c A n c fm b7 ack _ h.rd hn h7) (hk := ?_)
  rintro _ w1 ⟨e1, ⟨rfl, hu⟩ | ⟨z, rfl, hz, hzs, hu⟩⟩
  · have hk : keepF ack fm = fm := by have := keepF_all (ack := ack) (l := fm) n (by omega) hu; rwa [List.take_of_length_le (by omega)] at this
    rw [hk, hl]
    repeat (first | refine T_seq ?_ | refine T_region ?_ | refine T_cond_true rfl ?_ | refine TL_eq_t (hk := ?_) | refine TL_nil ?_ | refine TL_move (hk := ?_) | refine TL_assign (hk := ?_))
    exact T_ret1 rfl rfl ⟨rfl, Ext.un e1, h.be e1⟩
  have hk0 := keepF_all (ack := ack) (l := fm) z (by omega) hu
  have hk1 : keepF ack (fm.take (z + 1)) = fm.take z := by rw [keepF_succ (by omega), if_pos hzs, List.append_nil, hk0]
  have hsx : ¬ (z : Int) = -1 := by omega
  repeat (first | refine T_seq ?_ | refine T_region ?_ | refine T_cond_false rfl ?_ | refine T_block ?_ | refine T_skip ?_ | refine TL_add (hk := ?_) | refine TL_eq_f (hk := ?_) | refine TL_nil ?_ | refine TL_move (hk := ?_) | refine TL_assign (hk := ?_))
  refine T_loop (ι := Nat × List FE) (fun j => [(5, .int .i64 ((keepF ack (fm.take j.1)).length : Int)), (6, .int .i64 (j.1 : Int)), (0, .slice A n c), (1, befF b7)])
    (fun j w' => j.1 ≤ n ∧ Eng.Mod (blkL A) w1 w' ∧ Own w' base 118 4 A n c (fv j.2) ∧ j.2.length = n ∧ j.2.take (keepF ack (fm.take j.1)).length = keepF ack (fm.take j.1) ∧ j.2.drop j.1 = fm.drop j.1 ∧ (keepF ack (fm.take j.1)).length < j.1) (fun j => n - j.1) (z + 1, fm) (by
      have hq : ((keepF ack (fm.take (z + 1))).length : Int) = (z : Int) := by rw [hk1, List.length_take]; omega
      simp only [hq]
      exact (.c rfl (.c rfl (.c rfl (.c rfl (.n)))))) ⟨by simp only; omega, Mod.refl _ _, h.be e1, hl, by simp only; rw [hk1, List.length_take, Nat.min_eq_left (by omega)], rfl, by simp only; rw [hk1, List.length_take]; omega⟩ ?_
  rintro ⟨j, fm'⟩ w2 ⟨hj, m2, o2, hl', htk, hdr, hij⟩ ih
  simp only at hj m2 o2 hl' htk hdr hij ih ⊢
  have h72 := (h7.be e1).mod m2 hb7
  by_cases hlt : j < n
  · have hks := keepF_succ (ack := ack) (l := fm) (j := j) (by omega)
    have hgd : fm'.getD j fe0 = fm.getD j fe0 := by
      have := congrArg (fun l : List FE => l[0]?) hdr
      simp only [List.getElem?_drop, Nat.add_zero] at this
      rw [List.getD_eq_getElem?_getD, List.getD_eq_getElem?_getD, this]
    have t1 := fv_four fm' j (by omega)
    rw [hgd] at t1
    obtain ⟨x, hx⟩ : ∃ x, fm.getD j fe0 = x := ⟨_, rfl⟩
    rw [hx] at t1 hks
    obtain ⟨i, hi⟩ : ∃ i, (keepF ack (fm.take j)).length = i := ⟨_, rfl⟩
    have hset := fv_set fm' i x (by omega)
    rw [hi] at htk hij ⊢
    have r2 := o2.rd
    repeat (first | refine T_seq ?_ | refine T_region ?_ | refine T_cond_true rfl ?_ | refine T_block ?_ | refine T_skip ?_ | refine TL_lt_t (hk := ?_) | refine TL_nil ?_ | refine TL_move (hk := ?_) | refine TL_indexAddrn TE (hk := ?_) | refine TL_len TE (hk := ?_))
    refine TL_loada TE (cs := f4 x) (hx := rfl) (ht := rfl) (hi := rfl) (hr := r2) (hc := t1) (h0 := Nat.succ_pos _) (hk := ?_)
    --
    refine TL_alloc TE (hk := ?_); intro b3 w3 e3 h3 h3' k3
    --
    refine TL_storea TE (hk := ?_); intro w4 m4 z4 k4
    have z3 := e3.size
    have e24 : Ext w2 w4 := Mod.step e3 m4 (by simp; omega)
    replace k4 : Blk w4 b3 118 (f4 x) := k4
    have h74 := h72.be e24
    have o4 := o2.be e24
    clear k3 r2 o2 h72
    repeat (first | refine T_seq ?_ | refine T_region ?_ | refine TL_nil ?_ | refine TL_move (hk := ?_))
    refine TL_loadb TE (cs := f4 x) (o := 0) rfl rfl k4 rfl rfl (Nat.succ_pos _) (hk := ?_)
    --
    refine TL_callc TE (fst := []) (cap := [ptr b7]) rfl rfl rfl rfl (R' := RR (fun v w'' => v = .bool (decide (x.seq < ack)) ∧ Ext w4 w'')) (by have := Before_c x b7 ack w4 h74; unfold Ret at this; simpa [f4] using this) ?_ (fun _ _ h => h.elim) (fun _ h => h)
    rintro _ w5 ⟨rfl, e5⟩
    have o5 := o4.be e5
    have k5 := k4.be e5
    by_cases hb : x.seq < ack
    · rw [if_pos hb, List.append_nil] at hks
      rw [decide_eq_true hb]
      repeat (first | refine T_region ?_ | refine T_cond_false rfl ?_ | refine T_inBlock ?_ | refine T_skip ?_ | refine TL_add (hk := ?_) | refine TL_nil ?_ | refine TL_move (hk := ?_) | refine TL_assign (hk := ?_) | refine TL_not (hk := ?_))
      refine ih (j + 1, fm') w5 _ (by simp only; omega) ⟨by simp only; omega, m2.ext (e24.ext e5), o5, hl', by simp only; rw [hks, hi]; exact htk, by simp only; rw [← List.drop_drop, hdr, List.drop_drop], by simp only; rw [hks]; omega⟩ (by simp only [hks, hi]; exact (.c rfl (.c rfl (.c rfl (.c rfl (.n))))))
    · rw [if_neg hb] at hks
      rw [decide_eq_false hb]
      have r5 := o5.rd
      have hlx := fv_len fm'
      have hf4 : (f4 x).length = 4 := rfl
      repeat (first | refine T_seq ?_ | refine T_region ?_ | refine T_cond_true rfl ?_ | refine TL_nil ?_ | refine TL_move (hk := ?_) | refine TL_not (hk := ?_))
      refine TL_loadb TE (cs := f4 x) (o := 0) rfl rfl k5 rfl rfl (Nat.succ_pos _) (hk := ?_)
      repeat (refine TL_indexAddrn TE (hk := ?_))
      refine TL_storea_own TE (ho := o5) (j := i * 4) (vs := f4 x) (hj := by rw [hlx, hf4]; omega) (hk := ?_); intro w6 m6 z6 o6
      rw [hset] at o6
      have hc : ((i : Nat) : Int) + 1 = ((i + 1 : Nat) : Int) := by omega
      have hkl : (keepF ack (fm.take (j + 1))).length = i + 1 := by rw [hks, List.length_append, hi]; rfl
      repeat (first | refine T_region ?_ | refine T_inBlock ?_ | refine TL_add (hk := ?_) | refine TL_nil ?_ | refine TL_move (hk := ?_) | refine TL_assign (hk := ?_))
      rw [hc]
      --
      refine ih (j + 1, fm'.set i x) w6 _ (by simp only; omega) ⟨by simp only; omega, (m2.ext (e24.ext e5)).trans m6, o6, by simp [hl'], ?_, ?_, by simp only; omega⟩ (by simp only [hkl]; exact (.c rfl (.c rfl (.c rfl (.c rfl (.n))))))
      · simp only
        rw [hkl, hks, ← htk, List.take_succ_eq_append_getElem (by rw [List.length_set]; omega), List.take_set_of_le (Nat.le_refl _), List.getElem_set_self]
      · simp only
        rw [List.drop_set_of_lt (by omega), ← List.drop_drop, hdr, List.drop_drop]
  · have : n = j := by omega
    subst this
    clear ih
    have hfull : fm.take n = fm := List.take_of_length_le (by omega)
    rw [hfull] at htk hij ⊢
    obtain ⟨kf, hkf⟩ : ∃ kf, keepF ack fm = kf := ⟨_, rfl⟩
    rw [hkf] at htk hij ⊢
    obtain ⟨i, hi⟩ : ∃ i, kf.length = i := ⟨_, rfl⟩
    rw [hi] at htk hij ⊢
    have r2 := o2.rd
    repeat (first | refine T_seq ?_ | refine T_region ?_ | refine T_cond_false rfl ?_ | refine T_exit rfl ?_ | refine TL_lt_f (hk := ?_) | refine TL_nil ?_ | refine TL_move (hk := ?_) | refine TL_len TE (hk := ?_) | refine TL_slice_lo TE (hk := ?_))
    refine TL_clear TE (ho := o2) (hk := ?_); intro w3 m3 z3 o3
    rw [Int.toNat_natCast, fv_take, htk] at o3
    repeat (first | refine T_seq ?_ | refine T_region ?_ | refine TL_nil ?_ | refine TL_move (hk := ?_) | refine TL_assign (hk := ?_) | refine TL_slice_hi TE (hk := ?_))
    exact T_ret1 rfl rfl ⟨rfl, (Mod.trans (Ext.un e1) m2).trans m3, o3⟩
end Go.Proofs.Ytjjgojgahibpgaa

namespace Go.Proofs.Ytjjgojgahibpgaa
open Go.RowKit Go.Proofs.Eng Go.Proofs.Codec Go.Proofs.Link
set_option linter.unusedSimpArgs false
set_option linter.unusedVariables false set_option maxRecDepth 10000
attribute [local irreducible] T TL LV TH TA
theorem take_lt (s : RS) : (s.take (0 : Nat) num0).1 < 2 ^ 64 := by
  unfold RS.take
  split
  · split
    · rename_i h; exact (num0_ok h).1
    · show 0 < 2 ^ 64; decide
  · show 0 < 2 ^ 64; decide
theorem parseF_lt (b : Bs) : (parseF b).2.1 < 2 ^ 64 ∧ (parseF b).2.2.1 < 2 ^ 64 ∧ ((parseF b).2.2.2.2 = true → (parseF b).1 = 1 ∨ (parseF b).1 = 2) := by
  unfold parseF
  simp only
  split
  · exact ⟨by decide, by decide, fun h => by cases h⟩
  · split
    · split
      · exact ⟨take_lt _, take_lt _, fun _ => .inl rfl⟩
      · exact ⟨by decide, by decide, fun h => by cases h⟩
    · split
      · exact ⟨by show 0 < _; decide, take_lt _, fun _ => .inr rfl⟩
      · exact ⟨by decide, by decide, fun h => by cases h⟩
theorem parseF_body (b : Bs) : (parseF b).2.2.2.1.length ≤ 4096 := by
  unfold parseF
  simp only
  split
  · simp
  · split
    · split
      · rename_i h
        simp only [List.length_drop]
        omega
      · simp
    · split <;> simp
theorem mdel_len {α : Type} : ∀ (l : List (Nat × α)) (k : Nat) (v : α), mget l k = some v → (mdel l k).length + 1 = l.length
  | [], _, _, h => by cases h
  | x :: l, k, v, h => by
    unfold mget at h
    unfold mdel
    by_cases e : x.1 = k
    · rw [if_pos e]; simp
    · rw [if_neg e] at h ⊢
      have := mdel_len l k v h
      simp only [List.length_cons]
      omega
theorem blkF_sub {l l' : List FE} (h : l.Sublist l') : (blkF l).Sublist (blkF l') := by
  induction h with
  | slnil => exact List.Sublist.refl _
  | cons a _ ih => rw [blkF_cons]; exact ih.trans (List.sublist_append_right _ _)
  | cons_cons a _ ih => rw [blkF_cons, blkF_cons]; exact (List.Sublist.refl _).append ih
theorem HB.isSome {w : World} {base : Nat} {xs : List (Nat × SV)} {ls : List (Nat × Bs)} (k : Nat) (h : HB w base xs ls) : (mget xs k).isSome = (mget ls k).isSome := by
  cases hg : mget ls k with
  | none => rw [HB.none k h hg]; rfl
  | some b => obtain ⟨x, h1, _⟩ := HB.some k b h hg; rw [h1]; rfl
theorem drain_stop {e : ES} (h : mget e.held e.exp = none) : ∀ k, drainE k e = e
  | 0 => rfl
  | k + 1 => by unfold drainE; rw [h]
theorem drain_go {e : ES} {b : Bs} (h : mget e.held e.exp = some b) : drainE e.held.length e = drainE (mdel e.held e.exp).length { e with held := mdel e.held e.exp, come := e.come ++ [b], exp := e.exp + 1 } := by
  rw [← mdel_len _ _ _ h]
  show (match mget e.held e.exp with
    | none => e
    | some b => drainE (mdel e.held e.exp).length { e with held := mdel e.held e.exp, come := e.come ++ [b], exp := e.exp + 1 }) = _
  rw [h]
section
variable {base p : Nat} {m : EM} {f : Nat → Nat} {es : ES}
set_option maxHeartbeats 1600000
theorem Receive_c (B : Option Addr) (n c : Nat) (b : Bs) (w : World) (h : EndM w base p m f es) (hbw : base ≤ w.heap.size) (ok : OkE es) (hr : Rd w B n 1 (bv b)) (hn : n ≤ 7036874417) (hc : n ≤ c) :
    Ret Try.prog 19 [ptr p, .slice B n c] w (fun v w' => v = .int .i64 ((recvE es b).2 : Int) ∧ ∃ m' f', EndM w' base p m' f' (recvE es b).1 ∧ Turns f f' w w') := by
  have hD : p ∉ ([] : List Nat) := by simp
  obtain ⟨hsq, hak, hkd⟩ := parseF_lt b
  have hbd := parseF_body b
  refine ret_T (n := 138) Try.func19 rfl rfl ?_
  repeat (first | refine T_seq ?_ | refine T_region ?_ | refine T_cond_false rfl ?_ | refine T_skip ?_ | refine TL_pnil_f TE (hk := ?_) | refine TL_nil ?_ | refine TL_move (hk := ?_) | refine TL_assign (hk := ?_))
  refine TL_call TE (hc := parse_c B n c b _ hr hn hc) (hk := ?_)
  unfold recvE
  obtain ⟨pf, hpf⟩ : ∃ q, parseF b = q := ⟨_, rfl⟩
  rw [hpf] at hsq hak hkd hbd ⊢
  obtain ⟨kd, sq, ak, bd, okk⟩ := pf
  simp only at hsq hak hkd hbd ⊢
  rintro _ w1 ⟨⟨BA, bn, bc⟩, rfl, e1, rB, hiB⟩
  simp only at rB hiB
  repeat (first | refine TL_move (hk := ?_) | refine TL_extract (hk := ?_))
  refine TL_alloc TE (hk := ?_); intro b7 w2 e2 h2 h2' k2
  repeat (refine TL_assign (hk := ?_))
  refine TL_store TE (hk := ?_); intro w3 m3 z3 k3
  have z1 := e1.size
  have z2 := e2.size
  have e13 : Ext w1 w3 := Mod.step e2 m3 (by simp; omega)
  have e03 := e1.ext e13
  replace k3 : Blk w3 b7 22 [.int .u64 (ak : Int)] := k3
  have h3 := h.ext e03
  have rB3 := rB.be e13
  have hk3 := h3.blk
  unfold endV at hk3
  have hold := fun x hx => (h.ki.old x hx).2
  have hret : ∀ w', Ext w3 w' → ∃ m' f', EndM w' base p m' f' es ∧ Turns f f' w w' := fun w' e => ⟨m, f, h3.ext e, Turns.ext (e03.ext e)⟩
  have wi := ok.wi
  clear k2 m3 hpf
  cases okk with
  | false =>
    rw [if_pos rfl]
    repeat (first | refine T_seq ?_ | refine T_region ?_ | refine T_cond_true rfl ?_ | refine T_block ?_ | refine TL_nil ?_ | refine TL_move (hk := ?_) | refine TL_assign (hk := ?_) | refine TL_not (hk := ?_))
    exact T_ret1 rfl rfl ⟨rfl, hret _ (Mod.refl _ _)⟩
  | true =>
    rw [if_neg (by decide)]
    by_cases g1 : es.next < ak
    · rw [if_pos g1]
      repeat (first | refine T_seq ?_ | refine T_region ?_ | refine T_region_q TE.mixed (by kernel_rfl) ?_ | refine T_cond_false rfl ?_ | refine T_block ?_ | refine TL_gt_t (hk := ?_) | refine TL_nil ?_ | refine TL_move (hk := ?_) | refine TL_assign (hk := ?_) | refine TL_load TE (hk := ?_) | refine TL_fieldAddr TE (hk := ?_) | refine TL_nilCheck (hk := ?_) | refine TL_not (hk := ?_))
      refine TL_nil_q ?_; intro w4 e4
      repeat (first | refine T_seq ?_ | refine T_region ?_ | refine T_cond_true rfl ?_ | refine TL_nil ?_ | refine TL_assign (hk := ?_))
      exact T_ret1 rfl rfl ⟨rfl, hret _ e4⟩
    rw [if_neg g1]
    repeat (first | refine T_seq ?_ | refine T_region ?_ | refine T_region_q TE.mixed (by kernel_rfl) ?_ | refine T_cond_false rfl ?_ | refine T_block ?_ | refine TL_gt_f (hk := ?_) | refine TL_nil ?_ | refine TL_move (hk := ?_) | refine TL_assign (hk := ?_) | refine TL_load TE (hk := ?_) | refine TL_fieldAddr TE (hk := ?_) | refine TL_nilCheck (hk := ?_) | refine TL_not (hk := ?_))
    refine TL_nil_q ?_; intro w4 e4
    have hk4 := hk3.be e4
    repeat (first | refine T_seq ?_ | refine T_cond_false rfl ?_)
    refine T_join (ι := Unit) (fun _ => [(34, .bool (decide (kd = 1 ∧ es.exp ≤ sq ∧ es.win ≤ sq - es.exp))), (5, .int .u8 (kd : Int)), (6, .int .u64 (sq : Int)), (7, ptr b7), (8, .slice BA bn bc), (0, ptr p)]) (fun _ w' => Ext w4 w') (fun kk join => ?_) ?_
    · by_cases a1 : kd = 1
      · by_cases a2 : es.exp ≤ sq
        · have hsub : (sq : Int) - (es.exp : Int) = ((sq - es.exp : Nat) : Int) := by omega
          by_cases a3 : es.win ≤ sq - es.exp
          · rw [decide_eq_true ⟨a1, a2, a3⟩] at join
            repeat (first | refine T_region_q TE.mixed (by kernel_rfl) ?_ | refine TL_sub (hk := ?_) | refine TL_ge_t (hk := ?_) | refine TL_eq_t (hk := ?_) | refine TL_move (hk := ?_) | refine TL_assign (hk := ?_) | refine TL_load TE (hk := ?_) | refine TL_fieldAddr TE (hk := ?_) | refine TL_yes (hk := ?_) | refine TL_pick_t (hk := ?_) | refine TL_nilCheck (hk := ?_) | refine TL_conv TE (hk := ?_))
            refine TL_nil_q ?_; intro w5 e5
            exact T.sub (join () _ e5) (.c rfl (.c rfl (.c rfl (.c rfl (.c rfl (.c rfl (.n)))))))
          · rw [decide_eq_false (fun q => a3 q.2.2)] at join
            repeat (first | refine T_region_q TE.mixed (by kernel_rfl) ?_ | refine TL_sub (hk := ?_) | refine TL_ge_t (hk := ?_) | refine TL_ge_f (hk := ?_) | refine TL_eq_t (hk := ?_) | refine TL_move (hk := ?_) | refine TL_assign (hk := ?_) | refine TL_load TE (hk := ?_) | refine TL_fieldAddr TE (hk := ?_) | refine TL_yes (hk := ?_) | refine TL_pick_t (hk := ?_) | refine TL_nilCheck (hk := ?_) | refine TL_conv TE (hk := ?_))
            refine TL_nil_q ?_; intro w5 e5
            exact T.sub (join () _ e5) (.c rfl (.c rfl (.c rfl (.c rfl (.c rfl (.c rfl (.n)))))))
        · rw [decide_eq_false (fun q => a2 q.2.1)] at join
          repeat (first | refine T_region_q TE.mixed (by kernel_rfl) ?_ | refine TL_ge_f (hk := ?_) | refine TL_eq_t (hk := ?_) | refine TL_move (hk := ?_) | refine TL_assign (hk := ?_) | refine TL_load TE (hk := ?_) | refine TL_fieldAddr TE (hk := ?_) | refine TL_yes (hk := ?_) | refine TL_no (hk := ?_) | refine TL_pick_t (hk := ?_) | refine TL_pick_f (hk := ?_) | refine TL_nilCheck (hk := ?_))
          refine TL_nil_q ?_; intro w5 e5
          exact T.sub (join () _ e5) (.c rfl (.c rfl (.c rfl (.c rfl (.c rfl (.c rfl (.n)))))))
      · rw [decide_eq_false (fun q => a1 q.1)] at join
        repeat (first | refine T_region_q TE.mixed (by kernel_rfl) ?_ | refine TL_eq_f (hk := ?_) | refine TL_move (hk := ?_) | refine TL_assign (hk := ?_) | refine TL_no (hk := ?_) | refine TL_pick_f (hk := ?_))
        refine TL_nil_q ?_; intro w5 e5
        exact T.sub (join () _ e5) (.c rfl (.c rfl (.c rfl (.c rfl (.c rfl (.c rfl (.n)))))))
    rintro _ w5 e5
    have e35 := e4.ext e5
    by_cases g2 : kd = 1 ∧ es.exp ≤ sq ∧ es.win ≤ sq - es.exp
    · rw [if_pos g2, decide_eq_true g2]
      repeat (first | refine T_seq ?_ | refine T_region ?_ | refine T_cond_true rfl ?_ | refine TL_nil ?_ | refine TL_assign (hk := ?_))
      exact T_ret1 rfl rfl ⟨rfl, hret _ e35⟩
    rw [if_neg g2, decide_eq_false g2]
    have h5 := h3.ext e35
    have k5 := k3.be e35
    have rB5 := rB3.be e35
    have hk5 := hk4.be e5
    have e05 := e03.ext e35
    have hb7 : b7 ∉ blkL m.fl.1 := fun q => by have := Lo.blk h.pf.1.lo b7 q; omega
    have hfl := h5.pf.2.len
    have hfl2 := h5.pf.1.len
    rw [fv_len] at hfl2
    have tot := ok.tot
    clear hk4 hk3 k3 rB3 rB e4 e5
    repeat (first | refine T_seq ?_ | refine T_region ?_ | refine T_cond_false rfl ?_ | refine T_inBlock ?_ | refine T_skip ?_ | refine TL_move (hk := ?_) | refine TL_load TE (hk := ?_) | refine TL_fieldAddr TE (hk := ?_) | refine TL_nilCheck (hk := ?_) | refine TL_makeFunc (hk := ?_))
    refine TL_call TE (hc := DeleteFunc_c m.fl.1 m.fl.2.1 m.fl.2.2 base m.fm b7 ak _ h5.pf.1 (by omega) k5 hb7) (hk := ?_)
    rintro _ w6 ⟨rfl, m6, o6⟩
    have hk6 := hk5.mod m6 h5.p_fl
    repeat (first | refine TL_fieldAddr TE (hk := ?_) | refine TL_nilCheck (hk := ?_))
    refine TL_store TE (hk := ?_); intro w7 m7 z7 k7
    have hnfp : ∀ b ∈ blkL m.fl.1, b ∉ [p] := fun b q q' => by rw [List.mem_singleton] at q'; subst q'; exact h5.p_fl q
    have M57 : Eng.Mod (p :: blkL m.fl.1) w5 w7 := (m6.mono (fun x hx => .inl (List.mem_cons_of_mem _ hx))).step m7 (fun x hx => .inl (by rw [List.mem_singleton.1 hx]; exact List.mem_cons_self))
    have hfb6 : FB w7 base (keepF ak m.fm) (ackE es ak).fly := FB.mod (h5.pf.2.filter (fun s => !decide (s < ak))) M57 (fun b q q' => by
      have h6 := h5.ki.fl6 b ((blkF_sub List.filter_sublist).subset q)
      rcases List.mem_cons.1 q' with rfl | q'
      · rw [h5.ki.kp] at h6; cases h6
      · rw [h5.ki.kfl b q'] at h6; cases h6)
    obtain ⟨h7, t7⟩ := h5.acked (fm' := keepF ak m.fm) (fly' := (ackE es ak).fly) (n' := (keepF ak m.fm).length) M57 k7 ⟨o6.mod m7 (off_of hnfp), hfb6⟩ (blkF_sub List.filter_sublist)
    have t07 := (Turns.ext (f := f) e05).trans t7 hold
    replace h7 : EndM w7 base p _ f (ackE es ak) := h7
    by_cases g3 : kd = 2
    · rw [if_pos g3]
      subst g3
      repeat (first | refine T_seq ?_ | refine T_region ?_ | refine T_cond_true rfl ?_ | refine TL_eq_t (hk := ?_) | refine TL_nil ?_ | refine TL_move (hk := ?_) | refine TL_assign (hk := ?_))
      exact T_ret1 rfl rfl ⟨rfl, _, f, h7, t07⟩
    rw [if_neg g3]
    have g4 : kd = 1 := by rcases hkd rfl with q | q <;> omega
    subst g4
    obtain ⟨m1, hm1⟩ : ∃ m1 : EM, { m with fl := (m.fl.1, (keepF ak m.fm).length, m.fl.2.2), fm := keepF ak m.fm } = m1 := ⟨_, rfl⟩
    rw [hm1] at h7
    obtain ⟨es1, hes1⟩ : ∃ e, ackE es ak = e := ⟨_, rfl⟩
    have hx1 : es1.exp = es.exp := by rw [← hes1]; rfl
    have hx2 : es1.held = es.held := by rw [← hes1]; rfl
    have hx3 : es1.come = es.come := by rw [← hes1]; rfl
    rw [hes1] at h7 ⊢
    have rB7 : Rd w7 BA bn 1 (bv bd) := (rB5.mod m6 (off_of fun b q q' => by have := Hi.blk hiB b q; have := Lo.blk h.pf.1.lo b q'; omega)).mod m7 (off_of fun b q q' => by
      rw [List.mem_singleton] at q'
      subst q'
      have := Hi.blk hiB b q
      have := (h.ki.old b (by rw [h.ki.kp]; decide)).2
      omega)
    have hk7 := h7.blk
    unfold endV at hk7
    clear hk5 hk6 o6 h5 rB5 k5 k7
    repeat (first | refine T_seq ?_ | refine T_region ?_ | refine T_cond_false rfl ?_ | refine T_skip ?_ | refine TL_eq_f (hk := ?_) | refine TL_nil ?_ | refine TL_move (hk := ?_) | refine TL_fieldAddr TE (hk := ?_) | refine TL_nilCheck (hk := ?_))
    refine TL_store TE (hk := ?_); intro w8 m8 z8 k8
    obtain ⟨h8, t8⟩ := h7.nums (es' := { es1 with owed := true }) m8 k8 rfl rfl rfl rfl
    have hdata : dataE es1 sq bd = drainE (holdE { es1 with owed := true } sq bd).held.length (holdE { es1 with owed := true } sq bd) := rfl
    obtain ⟨es2, hes2⟩ : ∃ e, ({ es1 with owed := true } : ES) = e := ⟨_, rfl⟩
    replace hx1 : es2.exp = es.exp := by rw [← hes2]; exact hx1
    replace hx2 : es2.held = es.held := by rw [← hes2]; exact hx2
    replace hx3 : es2.come = es.come := by rw [← hes2]; exact hx3
    rw [hes2] at h8 hdata
    rw [hdata]
    have hk8 := h8.blk
    unfold endV at hk8
    have mp8 := h8.ph.1
    clear hk7 k8
    repeat (first | refine T_seq ?_ | refine T_region ?_ | refine TL_nil ?_ | refine TL_move (hk := ?_) | refine TL_load TE (hk := ?_) | refine TL_fieldAddr TE (hk := ?_) | refine TL_nilCheck (hk := ?_))
    refine TL_lookup_ok TE ((none, 0, 0) : SV) (hK := keys_u64) (hk := ?_)
    have hiso := HB.isSome sq h8.ph.2
    rw [hiso]
    repeat (first | refine T_seq ?_ | refine TL_nil ?_ | refine TL_move (hk := ?_) | refine TL_assign (hk := ?_) | refine TL_extract (hk := ?_))
    refine T_join (ι := Unit) (fun _ => [(91, .bool (decide (es2.exp ≤ sq ∧ (mget es2.held sq).isSome = false))), (6, .int .u64 (sq : Int)), (8, .slice BA bn bc), (0, ptr p)]) (fun _ w' => w' = w8) (fun kk join => ?_) ?_
    · by_cases a1 : es2.exp ≤ sq
      · cases a2 : (mget es2.held sq).isSome with
        | true =>
          rw [decide_eq_false (fun q => by rw [a2] at q; cases q.2)] at join
          repeat (first | refine T_region ?_ | refine TL_ge_t (hk := ?_) | refine TL_nil ?_ | refine TL_move (hk := ?_) | refine TL_load TE (hk := ?_) | refine TL_fieldAddr TE (hk := ?_) | refine TL_yes (hk := ?_) | refine TL_pick_t (hk := ?_) | refine TL_nilCheck (hk := ?_) | refine TL_not (hk := ?_))
          exact T.sub (join () _ rfl) (.c rfl (.c rfl (.c rfl (.c rfl (.n)))))
        | false =>
          rw [decide_eq_true ⟨a1, a2⟩] at join
          repeat (first | refine T_region ?_ | refine TL_ge_t (hk := ?_) | refine TL_nil ?_ | refine TL_move (hk := ?_) | refine TL_load TE (hk := ?_) | refine TL_fieldAddr TE (hk := ?_) | refine TL_yes (hk := ?_) | refine TL_pick_t (hk := ?_) | refine TL_nilCheck (hk := ?_) | refine TL_not (hk := ?_))
          exact T.sub (join () _ rfl) (.c rfl (.c rfl (.c rfl (.c rfl (.n)))))
      · rw [decide_eq_false (fun q => a1 q.1)] at join
        repeat (first | refine T_region ?_ | refine TL_ge_f (hk := ?_) | refine TL_nil ?_ | refine TL_move (hk := ?_) | refine TL_load TE (hk := ?_) | refine TL_fieldAddr TE (hk := ?_) | refine TL_no (hk := ?_) | refine TL_pick_f (hk := ?_) | refine TL_nilCheck (hk := ?_))
        exact T.sub (join () _ rfl) (.c rfl (.c rfl (.c rfl (.c rfl (.n)))))
    rintro _ _ rfl
    have rB8 := rB7.mod m8 (off_of fun b q q' => by
      rw [List.mem_singleton] at q'
      subst q'
      have := Hi.blk hiB b q
      have := (h.ki.old b (by rw [h.ki.kp]; decide)).2
      omega)
    have t08 := t07.trans t8 hold
    clear t7 t8 hiso
    have hlb : bd.length = bn := by simpa using rB8.1
    have okh := ok.hl
    have oke := ok.ex
    refine T_join (ι := Unit) (fun _ => [(0, ptr p)]) (fun _ w' => ∃ m' f', EndM w' base p m' f' (holdE es2 sq bd) ∧ Turns f f' w w') (fun kk join => ?_) ?_
    · by_cases g5 : es2.exp ≤ sq ∧ (mget es2.held sq).isSome = false
      · have hh : holdE es2 sq bd = { es2 with held := mput es2.held sq bd } := by unfold holdE; rw [if_pos g5]
        rw [decide_eq_true g5]
        have hD2 : m1.hb ∉ ([] : List Nat) := by simp
        have hnone : mget es2.held sq = none := by
          cases hq : mget es2.held sq with
          | none => rfl
          | some _ => rw [hq] at g5; cases g5.2
        repeat (refine T_cond_true rfl ?_)
        refine T_region_anyz TE.mixed [] (some 7) ?_; intro w9 e9 z9
        have hk9 := hk8.be e9
        (refine TA_take 0 rfl (by kernel_rfl) (by kernel_rfl) (by kernel_rfl) ?_; (repeat (first | refine TL_move (hk := ?_) | refine TLP_load TE (hk := ?_) | refine TL_fieldAddr TE (hk := ?_) | refine TL_nilCheck (hk := ?_))); refine TL_nil_p ?_); (refine TA_take 1 rfl (by kernel_rfl) (by kernel_rfl) (by kernel_rfl) ?_; (repeat (first | refine TL_move (hk := ?_) | refine TLP_load TE (hk := ?_) | refine TL_fieldAddr TE (hk := ?_) | refine TL_nilCheck (hk := ?_))); refine TL_nil_p ?_); (refine TA_take 2 rfl (by kernel_rfl) (by kernel_rfl) (by kernel_rfl) ?_; (repeat (first | refine TL_move (hk := ?_) | refine TLP_load TE (hk := ?_) | refine TL_fieldAddr TE (hk := ?_) | refine TL_nilCheck (hk := ?_))); refine TL_nil_p ?_); (refine TA_take 3 rfl (by kernel_rfl) (by kernel_rfl) (by kernel_rfl) ?_; (repeat (first | refine TL_move (hk := ?_) | refine TLP_load TE (hk := ?_) | refine TL_fieldAddr TE (hk := ?_) | refine TL_nilCheck (hk := ?_))); refine TL_nil_p ?_); (refine TA_take 4 rfl (by kernel_rfl) (by kernel_rfl) (by kernel_rfl) ?_; (repeat (first | refine TL_move (hk := ?_) | refine TLP_load TE (hk := ?_) | refine TL_fieldAddr TE (hk := ?_) | refine TL_nilCheck (hk := ?_))); refine TL_nil_p ?_); (refine TA_take 5 rfl (by kernel_rfl) (by kernel_rfl) (by kernel_rfl) ?_; (repeat (first | refine TL_move (hk := ?_) | refine TLP_load TE (hk := ?_) | refine TL_fieldAddr TE (hk := ?_) | refine TL_nilCheck (hk := ?_))); refine TL_nil_p ?_)
        refine TA_one 6 rfl (by kernel_rfl) (by kernel_rfl) ?_; (try refine TL_yes (hk := ?_)); refine TL_call TE (hc := Clone_c BA bn bc bd w9 (rB8.be e9) (by omega)) (hq := fun v w' ⟨_, _, _, h, _⟩ => h) (hk := ?_)
        rintro _ w10 ⟨A10, c10, rfl, e10, o10⟩
        have e810 := e9.ext e10
        refine TL_nil_p ?_
        refine TA_one 7 rfl (by kernel_rfl) (by kernel_rfl) ?_
        refine TL_mapUpdate TE ((A10, bn, c10) : SV) (hm := mp8.be e810) (hK := keys_u64) (hf := rfl) (hq := fun _ _ _ => trivial) (hk := ?_); intro w11 m11 z11 mp11
        refine TL_nil_z (by kernel_rfl) ?_
        have h9 := h8.ext e9
        have z10 := e10.size
        have z9' := e9.size
        have hA10 : ∀ x ∈ blkL A10, w9.heap.size ≤ x ∧ x < w10.heap.size := fun x q => ⟨Hi.blk o10.hi x q, Lo.blk o10.lo x q⟩
        have hhb := (h8.ki.old m1.hb (by rw [h8.ki.khb]; decide)).2
        have hb11 : Body w11 base (A10, bn, c10) bd := (o10.mod m11 (off_of fun x q q' => by rw [List.mem_singleton] at q'; subst q'; have := hA10 _ q; omega)).weaken (by have := t08.2.2; omega)
        obtain ⟨m12, f12, h12, t12⟩ := h9.hold hnone ((Ext.un e10).trans m11) mp11 hb11 (fun x q => (hA10 x q).1)
        --
        exact T.sub (join () _ ⟨m12, f12, by rw [hh]; exact h12, (t08.trans (Turns.ext e9) hold).trans t12 hold⟩) (.c rfl (.n))
      · have hh : holdE es2 sq bd = es2 := by unfold holdE; rw [if_neg g5]
        rw [decide_eq_false g5]
        repeat (first | refine T_cond_false rfl ?_ | refine T_skip ?_)
        exact T.sub (join () _ ⟨_, f, by rw [hh]; exact h8, t08⟩) (.c rfl (.n))
    rintro _ w9 ⟨m9, f9, h9, t9⟩
    have hhl : (holdE es2 sq bd).held.length ≤ es2.held.length + 1 ∧ (holdE es2 sq bd).exp = es2.exp ∧ (holdE es2 sq bd).come = es2.come := by
      unfold holdE
      split
      · rename_i g5
        have hnone : mget es2.held sq = none := by
          cases hq : mget es2.held sq with
          | none => rfl
          | some _ => rw [hq] at g5; cases g5.2
        refine ⟨?_, rfl, rfl⟩
        simp only
        rw [mput_new _ _ _ hnone]
        simp
      · exact ⟨by omega, rfl, rfl⟩
    obtain ⟨es3, hes3⟩ : ∃ e, holdE es2 sq bd = e := ⟨_, rfl⟩
    rw [hes3] at h9 hhl ⊢
    rw [hx1, hx2, hx3] at hhl
    obtain ⟨hl1, hl2, hl3⟩ := hhl
    clear hk8 mp8 h8 rB8 rB7 h7 t08 t07
    repeat (refine T_block ?_)
    refine T_loop (ι := ES) (fun _ => [(0, ptr p)]) (fun e w' => (∃ m' f', EndM w' base p m' f' e ∧ Turns f f' w w') ∧ drainE e.held.length e = drainE es3.held.length es3 ∧ e.exp + e.held.length ≤ 2 ^ 62 + 1 ∧ e.held.length + e.come.length ≤ 100001) (fun e => e.held.length) es3 (.c rfl (.n)) ⟨⟨m9, f9, h9, t9⟩, rfl, by rw [hl2]; omega, by rw [hl3]; omega⟩ ?_
    rintro e w10 ⟨⟨mm, ff, hh, tt⟩, hdr, hex, hco⟩ ih
    have hk := hh.blk
    unfold endV at hk
    have mp := hh.ph.1
    have hDh : mm.hb ∉ ([] : List Nat) := by simp
    cases hg : mget e.held e.exp with
    | none =>
      have hgx := HB.none _ hh.ph.2 hg
      rw [drain_stop hg] at hdr
      repeat (first | refine T_seq ?_ | refine T_region_q TE.mixed (by kernel_rfl) ?_ | refine T_block ?_ | refine TL_move (hk := ?_) | refine TL_load TE (hk := ?_) | refine TL_fieldAddr TE (hk := ?_) | refine TL_nilCheck (hk := ?_))
      refine TL_lookup_ok TE ((none, 0, 0) : SV) (hm := mp) (hK := keys_u64) (hk := ?_)
      rw [hgx]
      repeat (first | refine TL_move (hk := ?_) | refine TL_assign (hk := ?_) | refine TL_extract (hk := ?_))
      refine TL_nil_q ?_; intro w11 e11
      repeat (first | refine T_seq ?_ | refine T_region ?_ | refine T_cond_true rfl ?_ | refine TL_nil ?_ | refine TL_move (hk := ?_) | refine TL_assign (hk := ?_) | refine TL_not (hk := ?_))
      exact T_ret1 rfl rfl ⟨rfl, mm, ff, by rw [← hdr]; exact hh.ext e11, tt.trans (Turns.ext e11) hold⟩
    | some bb =>
      obtain ⟨x, hgx, -, -, -⟩ := HB.some _ bb hh.ph.2 hg
      have hml := mdel_len _ _ _ hg
      have hdg := drain_go hg
      have l1 := hh.pc.1.len
      have l2 := hh.pc.2.len
      rw [slVs_length, Nat.mul_one] at l1
      have hcb : mm.hb ∉ blkL mm.co.1 := fun q => by have := hh.ki.kco _ q; rw [hh.ki.khb] at this; cases this
      have hcp : p ∉ blkL mm.co.1 := fun q => by have := hh.ki.kco _ q; rw [hh.ki.kp] at this; cases this
      have hph : p ≠ mm.hb := fun q => by have := hh.ki.khb; rw [← q, hh.ki.kp] at this; cases this
      have hco0 := hh.pc.1
      have z10 := tt.2.2
      have hcm : ∀ y ∈ blkL mm.co.1, y ∉ [mm.hb] := fun y q q' => by rw [List.mem_singleton] at q'; subst q'; exact hcb q
      repeat (first | refine T_seq ?_ | refine T_region_q TE.mixed (by kernel_rfl) ?_ | refine T_block ?_ | refine TL_move (hk := ?_) | refine TL_load TE (hk := ?_) | refine TL_fieldAddr TE (hk := ?_) | refine TL_nilCheck (hk := ?_))
      refine TL_lookup_ok TE ((none, 0, 0) : SV) (hm := mp) (hK := keys_u64) (hk := ?_)
      rw [hgx]
      repeat (first | refine TL_move (hk := ?_) | refine TL_assign (hk := ?_) | refine TL_extract (hk := ?_))
      refine TL_nil_q ?_; intro w11 e11
      have hk11 := hk.be e11
      have mp11 := mp.be e11
      have h11 := hh.ext e11
      have t11 := tt.trans (Turns.ext e11) hold
      have z11 := e11.size
      clear hk mp
      repeat (first | refine T_seq ?_ | refine T_region ?_ | refine T_cond_false rfl ?_ | refine T_skip ?_ | refine TL_nil ?_ | refine TL_move (hk := ?_) | refine TL_not (hk := ?_))
      have hpn : p ∉ [mm.hb] := by simp; exact hph
      refine T_region_any TE.mixed [mm.hb] ?_; intro w12 e12 z12
      have hk12 := hk11.be e12
      have mp12 := mp11.be e12
      have z12' := e12.size
      (refine TA_take 0 rfl (by kernel_rfl) (by kernel_rfl) (by kernel_rfl) ?_; (repeat (first | refine TL_move (hk := ?_) | refine TLP_load TE (hk := ?_) | refine TL_fieldAddr TE (hk := ?_) | refine TL_nilCheck (hk := ?_))); refine TL_nil_p ?_); (refine TA_take 1 rfl (by kernel_rfl) (by kernel_rfl) (by kernel_rfl) ?_; (repeat (first | refine TL_move (hk := ?_) | refine TLP_load TE (hk := ?_) | refine TL_fieldAddr TE (hk := ?_) | refine TL_nilCheck (hk := ?_))); refine TL_nil_p ?_); (refine TA_take 2 rfl (by kernel_rfl) (by kernel_rfl) (by kernel_rfl) ?_; (repeat (first | refine TL_move (hk := ?_) | refine TLP_load TE (hk := ?_) | refine TL_fieldAddr TE (hk := ?_) | refine TL_nilCheck (hk := ?_))); refine TL_nil_p ?_); (refine TA_take 3 rfl (by kernel_rfl) (by kernel_rfl) (by kernel_rfl) ?_; (repeat (first | refine TL_move (hk := ?_) | refine TLP_load TE (hk := ?_) | refine TL_fieldAddr TE (hk := ?_) | refine TL_nilCheck (hk := ?_))); refine TL_nil_p ?_); (refine TA_take 4 rfl (by kernel_rfl) (by kernel_rfl) (by kernel_rfl) ?_; (repeat (first | refine TL_move (hk := ?_) | refine TLP_load TE (hk := ?_) | refine TL_fieldAddr TE (hk := ?_) | refine TL_nilCheck (hk := ?_))); refine TL_nil_p ?_); (refine TA_take 5 rfl (by kernel_rfl) (by kernel_rfl) (by kernel_rfl) ?_; (repeat (first | refine TL_move (hk := ?_) | refine TLP_load TE (hk := ?_) | refine TL_fieldAddr TE (hk := ?_) | refine TL_nilCheck (hk := ?_))); refine TL_nil_p ?_); (refine TA_take 6 rfl (by kernel_rfl) (by kernel_rfl) (by kernel_rfl) ?_; (repeat (first | refine TL_move (hk := ?_) | refine TLP_load TE (hk := ?_) | refine TL_fieldAddr TE (hk := ?_) | refine TL_nilCheck (hk := ?_))); refine TL_nil_p ?_); (refine TA_take 7 rfl (by kernel_rfl) (by kernel_rfl) (by kernel_rfl) ?_; (repeat (first | refine TL_move (hk := ?_) | refine TLP_load TE (hk := ?_) | refine TL_fieldAddr TE (hk := ?_) | refine TL_nilCheck (hk := ?_))); refine TL_nil_p ?_)
      refine TA_one 8 rfl (by kernel_rfl) (by kernel_rfl) ?_
      refine TL_delete TE (hm := mp12) (hK := keys_u64) (hf := rfl) (hq := fun _ h _ => h) (hk := ?_); intro w13 m13 z13 mp13
      refine TL_nil_p ?_
      refine TA_done (by kernel_rfl) ?_
      have hk13 := hk12.mod m13 (by simp; exact hph)
      have hco13 := (hco0.be (e11.ext e12)).mod m13 (off_of hcm)
      clear hk11 hk12 mp11 mp12
      repeat (first | refine T_seq ?_ | refine T_region ?_ | refine TL_move (hk := ?_) | refine TL_load TE (hk := ?_) | refine TL_fieldAddr TE (hk := ?_) | refine TL_nilCheck (hk := ?_))
      refine TL_buildSlice TE (hk := ?_); intro b14 w14 e14 h14 h14' k14
      replace k14 : Blk w14 b14 23 (slVs [x]) := k14
      have r14 : Rd w14 (some ⟨b14, 0, none⟩) 1 1 (slVs [x]) := Rd.blk k14 rfl
      have z14 := e14.size
      --
      refine TL_append_g TE (hco13.be e14) r14 (slVs_one _) (hk := ?_); intro A15 c15 w15 o15 m15 n15
      rw [← slVs_append] at o15
      have hk15 := (hk13.be e14).mod m15 hcp
      clear hk13
      repeat (first | refine TL_fieldAddr TE (hk := ?_) | refine TL_nilCheck (hk := ?_))
      refine TL_store TE (hk := ?_); intro w16 m16 z16 k16
      have hce : ((e.exp : Nat) : Int) + 1 = ((e.exp + 1 : Nat) : Int) := by omega
      clear hk15
      repeat (first | refine T_region ?_ | refine TL_add (hk := ?_) | refine TL_nil ?_ | refine TL_move (hk := ?_) | refine TL_load TE (hk := ?_) | refine TL_fieldAddr TE (hk := ?_) | refine TL_nilCheck (hk := ?_))
      rw [hce]
      --
      refine TL_store TE (hk := ?_); intro w17 m17 z17 k17
      have hA15 : ∀ y ∈ blkL A15, y ∉ [p] := fun y q q' => by
        rw [List.mem_singleton] at q'
        subst q'
        rcases Near.blk n15 y q with q2 | q2
        · exact hcp q2
        · have := (h11.ki.old y (by rw [h11.ki.kp]; decide)).2; omega
      have inS : ∀ y, y ∈ [p] → y ∈ p :: mm.hb :: blkL mm.co.1 := fun y q => by rw [List.mem_singleton.1 q]; exact List.mem_cons_self
      have M17 : Eng.Mod (p :: mm.hb :: blkL mm.co.1) w11 w17 := (((((e12.mono (S' := p :: mm.hb :: blkL mm.co.1) (by simp)).step m13 (fun y q => .inl (by rw [List.mem_singleton.1 q]; exact List.mem_cons_of_mem _ List.mem_cons_self))).ext e14).step m15 (fun y q => .inl (List.mem_cons_of_mem _ (List.mem_cons_of_mem _ q)))).step m16 (fun y q => .inl (inS y q))).step m17 (fun y q => .inl (inS y q))
      have hph' : mm.hb ∉ [p] := fun q => hph (List.mem_singleton.1 q).symm
      have mp17 := (((mp13.be e14).mod m15 hcb).mod m16 hph').mod m17 hph'
      obtain ⟨m18, f18, h18, t18⟩ := h11.drain hg hgx (co' := (A15, mm.co.2.1 + 1, c15)) M17 mp17 k17 ((o15.mod m16 (off_of hA15)).mod m17 (off_of hA15)) (fun y q => (Near.blk n15 y q).imp id (fun a => by omega))
      repeat (first | refine T_inBlock ?_ | refine TL_nil ?_)
      refine ih _ w17 _ ?_ ⟨⟨m18, f18, h18, t11.trans t18 hold⟩, ?_, ?_, ?_⟩ (.c rfl (.n))
      · simp only; omega
      · rw [← hdr, hdg]
      · simp only; omega
      · simp only [List.length_append, List.length_cons, List.length_nil]; omega
end
end Go.Proofs.Ytjjgojgahibpgaa

/- There and back: a number's bytes. -/
namespace Go.Proofs.Codec
open Go.Proofs.Eng
theorem pow7 (i : Nat) : 2 ^ (7 * (i + 1)) = 2 ^ (7 * i) * 128 := by rw [show 7 * (i + 1) = 7 * i + 7 from by omega, Nat.pow_add]
theorem toNat_ofNat {n : Nat} (h : n < 256) : (UInt8.ofNat n).toNat = n := by rw [UInt8.toNat_ofNat']; omega
theorem numF_enc : ∀ (f i N m : Nat) (t : List UInt8), f + i = 10 → m * 2 ^ (7 * i) < 2 ^ 64 → (0 < i → 0 < m) → numF f i N (encU m ++ t) = .ok (N + m * 2 ^ (7 * i), i + (encU m).length)
  | 0, i, N, m, t, hi, hm, h0 => by
    have h1 := h0 (by omega)
    have hp : 2 ^ 70 ≤ 2 ^ (7 * i) := Nat.pow_le_pow_right (by decide) (by omega)
    have : 1 * 2 ^ (7 * i) ≤ m * 2 ^ (7 * i) := Nat.mul_le_mul_right _ h1
    omega
  | f + 1, i, N, m, t, hi, hm, h0 => by
    have h9 : i = 9 → m < 2 := fun h => by subst h; omega
    by_cases h1 : m < 128
    · rw [encU_lt h1]
      have hc : (UInt8.ofNat m).toNat = m := toNat_ofNat (by omega)
      simp only [List.cons_append, List.nil_append, numF, hc]
      rw [if_neg (by omega), if_pos h1, if_neg (by omega), Nat.mod_eq_of_lt h1]
      rfl
    · have h8 : i ≠ 9 := fun h => by have := h9 h; omega
      rw [encU_ge h1]
      have hc : (UInt8.ofNat (m % 128 + 128)).toNat = m % 128 + 128 := toNat_ofNat (by omega)
      have hp := pow7 i
      have hd : m = m % 128 + 128 * (m / 128) := by omega
      have he : m % 128 * 2 ^ (7 * i) + m / 128 * 2 ^ (7 * (i + 1)) = m * 2 ^ (7 * i) := by
        rw [hp, Nat.mul_comm (2 ^ (7 * i)) 128, ← Nat.mul_assoc, ← Nat.add_mul]
        congr 1
        omega
      have hmod : (m % 128 + 128) % 128 = m % 128 := by omega
      simp only [List.cons_append, numF, hc]
      rw [if_neg (by omega), if_neg (by omega), numF_enc f (i + 1) _ (m / 128) t (by omega) (by omega) (by omega)]
      simp only [hmod, List.length_cons, Except.ok.injEq, Prod.mk.injEq]
      omega
theorem num0_enc {m : Nat} (t : List UInt8) (hm : m < 2 ^ 64) : num0 (encU m ++ t) = .ok (m, (encU m).length) := by
  unfold num0
  rw [numF_enc 10 0 0 m t rfl (by simpa using hm) (by omega)]
  simp
end Go.Proofs.Codec

/- The sum tells turned bits: plain facts on numbers. -/
namespace Go.Proofs.Codec
open Go.Proofs.Eng
/-- Bytes as one number, the lowest first. -/
def num : List UInt8 → Nat
  | [] => 0
  | b :: l => b.toNat + 256 * num l
theorem le4_num {l : List UInt8} (h : 4 ≤ l.length) : le4 l = num (l.take 4) := by
  match l, h with
  | a :: b :: c :: d :: t, _ =>
    have ha := UInt8.toNat_lt a
    have hb := UInt8.toNat_lt b
    have hc := UInt8.toNat_lt c
    have hd := UInt8.toNat_lt d
    have e0 : gb (a :: b :: c :: d :: t) 0 = a.toNat := rfl
    have e1 : gb (a :: b :: c :: d :: t) 1 = b.toNat := rfl
    have e2 : gb (a :: b :: c :: d :: t) 2 = c.toNat := rfl
    have e3 : gb (a :: b :: c :: d :: t) 3 = d.toNat := rfl
    have lor : ∀ {x y k : Nat}, x < 2 ^ k → x ||| y * 2 ^ k = x + y * 2 ^ k := fun {x y k} h => by
      rw [Nat.or_comm, Nat.mul_comm y, ← Nat.two_pow_add_eq_or_of_lt h, Nat.add_comm]
    unfold le4
    rw [e0, e1, e2, e3, Nat.mod_eq_of_lt (by omega), Nat.mod_eq_of_lt (by omega), Nat.mod_eq_of_lt (by omega)]
    have s1 : a.toNat ||| b.toNat * 2 ^ 8 = a.toNat + b.toNat * 2 ^ 8 := lor (by omega)
    have s2 : (a.toNat + b.toNat * 2 ^ 8) ||| c.toNat * 2 ^ 16 = (a.toNat + b.toNat * 2 ^ 8) + c.toNat * 2 ^ 16 := lor (by omega)
    have s3 : ((a.toNat + b.toNat * 2 ^ 8) + c.toNat * 2 ^ 16) ||| d.toNat * 2 ^ 24 = ((a.toNat + b.toNat * 2 ^ 8) + c.toNat * 2 ^ 16) + d.toNat * 2 ^ 24 := lor (by omega)
    rw [s1, s2, s3]
    simp only [List.take, num]
    omega
theorem four_num {x : Nat} (h : x < 2 ^ 32) : num (four x) = x := by
  simp only [four, num]
  rw [UInt8.toNat_ofNat', UInt8.toNat_ofNat', UInt8.toNat_ofNat', UInt8.toNat_ofNat']
  omega
theorem four_len (x : Nat) : (four x).length = 4 := rfl
end Go.Proofs.Codec

/- A frame opens to its load; turned bits are told. -/
namespace Go.Proofs.Ytjjgojgahibpgaa
open Go.Proofs.Eng Go.Proofs.Codec
theorem frame_len (l : List UInt8) : (frame l).length = l.length + 8 := by
  unfold frame
  simp only [List.length_append, four_len]
  omega
theorem frame_take (l : List UInt8) : (frame l).take (l.length + 4) = four l.length ++ l := by
  unfold frame
  have h : (four l.length ++ l).length = l.length + 4 := by simp only [List.length_append, four_len]; omega
  rw [← h, List.take_left]
theorem frame_drop (l : List UInt8) : (frame l).drop (l.length + 4) = four (crc (four l.length ++ l)) := by
  unfold frame
  have h : (four l.length ++ l).length = l.length + 4 := by simp only [List.length_append, four_len]; omega
  rw [← h, List.drop_left]
theorem frame_le4 (l : List UInt8) (h : l.length ≤ 65536) : le4 (frame l) = l.length := by
  rw [le4_num (by rw [frame_len]; omega)]
  have : (frame l).take 4 = four l.length := by
    unfold frame
    rw [List.append_assoc, List.take_append_of_le_length (by rw [four_len]; omega)]
    exact List.take_of_length_le (by rw [four_len]; omega)
  rw [this, four_num (by omega)]
theorem four_le4 {x : Nat} (h : x < 2 ^ 32) : le4 (four x) = x := by
  rw [le4_num (by rw [four_len]; omega), List.take_of_length_le (by rw [four_len]; omega), four_num h]
theorem openF_frame (l : List UInt8) (h : l.length ≤ 65536) : openF (frame l) = (l, l.length + 8, 0) := by
  unfold openF
  rw [frame_len, frame_le4 l h, if_neg (by omega), if_neg (by omega), if_neg (by omega), frame_take, frame_drop, four_le4 (crc_lt _), if_pos rfl]
  have : (frame l).drop 4 = l ++ four (crc (four l.length ++ l)) := by
    unfold frame
    rw [List.append_assoc]
    exact List.drop_left (l₁ := four l.length)
  rw [this, List.take_left]
end Go.Proofs.Ytjjgojgahibpgaa

/- One bit turned, as a number. -/
namespace Go.Proofs.Codec
open Go.Proofs.Eng
end Go.Proofs.Codec

/- What a link's frames say; one with a bit turned says nothing; the little story of live. -/
namespace Go.Proofs.Ytjjgojgahibpgaa
open Go.Proofs.Eng Go.Proofs.Codec Go.Proofs.Link
set_option linter.unusedSimpArgs false
set_option linter.unusedVariables false
theorem take_num {L : Bs} {pos la : Nat} {sp : Nat} {m : Nat} {t : Bs} (h : L.drop pos = encU m ++ t) (hm : m < 2 ^ 64) :
    RS.take ⟨L, pos, la, 0, sp⟩ (0 : Nat) num0 = (m, ⟨L, pos + (encU m).length, pos, 0, sp⟩) := by
  unfold RS.take
  simp only
  rw [if_pos trivial, h, num0_enc t hm]
theorem parse_data {s k : Nat} {body : Bs} (hs : s < 2 ^ 64) (hk : k < 2 ^ 64) (hb : body.length ≤ 4096) : parseF (frame (dataL s k body)) = (1, s, k, body, true) := by
  have hl := dataL_len (body := body) hs hk
  unfold parseF
  rw [openF_frame _ (by omega)]
  simp only [frame_len]
  rw [if_neg (by simp)]
  have e0 : RS.take (⟨dataL s k body, 0, 0, 0, 0⟩ : RS) (0 : Nat) tByte = (1, ⟨dataL s k body, 1, 0, 0, 0⟩) := rfl
  rw [e0]
  simp only
  rw [if_pos trivial, take_num (L := dataL s k body) (t := encU k ++ body) (by simp [dataL]) hs]
  simp only
  rw [take_num (L := dataL s k body) (t := body) (by
    unfold dataL
    rw [List.append_assoc, List.append_assoc, Nat.add_comm 1, ← List.drop_drop]
    have : ([1] ++ (encU s ++ (encU k ++ body))).drop (encU s).length = ([1] ++ (encU s ++ (encU k ++ body))).drop (encU s).length := rfl
    rw [List.drop_drop, Nat.add_comm, ← List.drop_drop]
    simp) hk]
  have hlen : (dataL s k body).length = 1 + (encU s).length + (encU k).length + body.length := by simp [dataL]; omega
  have hr : RS.rest (⟨dataL s k body, 1 + (encU s).length + (encU k).length, 1 + (encU s).length, 0, 0⟩ : RS) = body.length := by
    unfold RS.rest
    simp only
    rw [if_pos trivial, hlen]
    omega
  simp only
  rw [hr, if_pos ⟨trivial, hb⟩]
  congr 4
  have e1 : (dataL s k body).length - body.length = ([1] ++ encU s ++ encU k).length := by rw [hlen]; simp; omega
  rw [e1]
  show (([1] ++ encU s ++ encU k) ++ body).drop _ = body
  rw [List.drop_left]
theorem parse_ack {k : Nat} (hk : k < 2 ^ 64) : parseF (frame (ackL k)) = (2, 0, k, [], true) := by
  have hl := encU_len64 hk
  unfold parseF
  rw [openF_frame _ (by unfold ackL; simp; omega)]
  simp only [frame_len]
  rw [if_neg (by simp)]
  have e0 : RS.take (⟨ackL k, 0, 0, 0, 0⟩ : RS) (0 : Nat) tByte = (2, ⟨ackL k, 1, 0, 0, 0⟩) := rfl
  rw [e0]
  simp only
  rw [if_neg (by decide), if_pos trivial, take_num (L := ackL k) (t := []) (by simp [ackL]) hk]
  simp only
  have hf : RS.fin (⟨ackL k, 1 + (encU k).length, 1, 0, 0⟩ : RS) = ⟨ackL k, 1 + (encU k).length, 1, 0, 0⟩ := by
    unfold RS.fin
    rw [if_neg (fun q => by have := q.2; simp [ackL] at this; omega)]
  rw [hf]
  rfl
def turnB (l : Bs) (bit : Nat) : Bs := l.set (bit / 8) (UInt8.ofNat (gb l (bit / 8) ^^^ 2 ^ (bit % 8)))
def okB (es : ES) : Bool := decide (es.new.length + es.fly.length ≤ 100000) && decide (es.next + es.new.length ≤ 2 ^ 62) && decide (es.exp + es.held.length ≤ 2 ^ 62) && es.new.all (fun b => decide (b.length ≤ 4096)) && es.fly.all (fun q => decide (q.body.length ≤ 4096 ∧ q.seq ≤ 2 ^ 62 ∧ q.age ≤ 100000)) && decide (es.held.length + es.come.length ≤ 100000) && decide (1 ≤ es.win ∧ es.win ≤ 256) && decide (1 ≤ es.pat ∧ es.pat ≤ 1000)
theorem okE_of {es : ES} (h : okB es = true) : OkE es := by
  unfold okB at h
  simp only [Bool.and_eq_true, decide_eq_true_eq, List.all_eq_true] at h
  exact ⟨h.1.1.1.1.1.1.1, h.1.1.1.1.1.1.2, h.1.1.1.1.1.2, h.1.1.1.1.2, h.1.1.1.2, h.1.1.2, h.1.2, h.2⟩
def nE (win pat : Nat) : ES := ⟨win, pat, [], [], 0, 0, [], [], false⟩
def lf0 : Bs := frame (dataL 0 0 [120])
def lf1 : Bs := frame (dataL 1 0 [121])
def la1 : ES := ⟨2, 3, [[120]], [], 0, 0, [], [], false⟩
def la2 : ES := ⟨2, 3, [[120], [121]], [], 0, 0, [], [], false⟩
def la3 : ES := ⟨2, 3, [], [⟨0, [120], 0, false⟩, ⟨1, [121], 0, false⟩], 2, 0, [], [], false⟩
def la4 : ES := ⟨2, 3, [], [], 2, 0, [], [], false⟩
def lb1 : ES := ⟨2, 3, [], [], 0, 0, [(1, [121])], [], true⟩
def lb2 : ES := ⟨2, 3, [], [], 0, 2, [], [[120], [121]], true⟩
def lb3 : ES := ⟨2, 3, [], [], 0, 2, [], [[121]], true⟩
def lb4 : ES := ⟨2, 3, [], [], 0, 2, [], [], true⟩
def lb5 : ES := ⟨2, 3, [], [], 0, 2, [], [], false⟩
theorem live1 : sendE (nE 2 3) [120] = (la1, 0) := rfl
theorem live2 : sendE la1 [121] = (la2, 0) := rfl
theorem live3 : outE la2 = (la3, [lf0, lf1]) := rfl
theorem live4 : recvE (nE 2 3) lf1 = (lb1, 0) := by
  unfold recvE lf1
  rw [parse_data (by decide) (by decide) (by decide)]
  rfl
theorem live5 : nextE lb1 = (lb1, none) := rfl
theorem live6 : recvE lb1 lf0 = (lb2, 0) := by
  unfold recvE lf0
  rw [parse_data (by decide) (by decide) (by decide)]
  rfl
theorem live7 : nextE lb2 = (lb3, some [120]) := rfl
theorem live8 : nextE lb3 = (lb4, some [121]) := rfl
theorem live9 : outE lb4 = (lb5, [frame (ackL 2)]) := rfl
theorem live10 : recvE la3 (frame (ackL 2)) = (la4, 0) := by
  unfold recvE
  rw [parse_ack (by decide)]
  rfl
theorem live11 : recvE lb5 (frame (ackL 1)) = (lb5, 261) := by
  unfold recvE
  rw [parse_ack (by decide)]
  rfl
end Go.Proofs.Ytjjgojgahibpgaa

namespace Go.Proofs.Ytjjgojgahibpgaa
open Go.RowKit Go.Proofs.Eng Go.Proofs.Codec Go.Proofs.Link
set_option linter.unusedSimpArgs false
set_option linter.unusedVariables false set_option maxRecDepth 10000
attribute [local irreducible] T TL LV TH TA
section
variable {w0 w w' : World} {base p : Nat} {m m' : EM} {f f' g : Nat → Nat} {es es' : ES}
theorem Turns.old (t : Turns f f' w w') {b : Nat} (hb : f b = 0) (hl : b < w.heap.size) : f' b = 0 := by
  by_cases q : f' b = 0
  · exact q
  · rcases t.2.1 b q with h | h
    · exact absurd hb h
    · omega
theorem EndM.other (h : EndM w base p m g es) (t : Turns f f' w w') (hd : ∀ b, f b = 0 ∨ g b = 0) : EndM w' base p m g es ∧ ∀ b, f' b = 0 ∨ g b = 0 := by
  obtain ⟨⟨S, m1, s1⟩, n1, z1⟩ := t
  refine ⟨h.mod m1 (fun b hb => (hd b).resolve_left (s1 b hb)), fun b => ?_⟩
  by_cases q : f' b = 0
  · exact .inl q
  · right
    rcases n1 b q with h1 | h1
    · exact (hd b).resolve_left h1
    · by_cases y : g b = 0
      · exact y
      · have := (h.ki.old b y).2; omega
theorem OutP.turn {B : Nat} {O : SV} {xs : List SV} {bs : List Bs} (h : OutP w B O xs bs) (t : Turns f f' w w') (h1 : ∀ b ∈ blkL O.1, f b = 0) (h2 : ∀ b ∈ blkS xs, f b = 0) : OutP w' B O xs bs ∧ (∀ b ∈ blkL O.1, f' b = 0) ∧ ∀ b ∈ blkS xs, f' b = 0 := by
  have hO := Lo.blk h.own.lo
  have hx := fun b hb => (h.bod.lt b hb).2
  refine ⟨?_, fun b hb => t.old (h1 b hb) (hO b hb), fun b hb => t.old (h2 b hb) (hx b hb)⟩
  obtain ⟨⟨S, m1, s1⟩, n1, z1⟩ := t
  exact ⟨h.own.mod m1 (off_of fun b q q' => s1 b q' (h1 b q)), h.bod.mod m1 (fun b q q' => s1 b q' (h2 b q)), h.off, h.nd⟩
theorem Body.turn {B : Nat} {x : SV} {l : Bs} (h : Body w B x l) (t : Turns f f' w w') (h1 : ∀ b ∈ blkL x.1, f b = 0) : Body w' B x l ∧ ∀ b ∈ blkL x.1, f' b = 0 := by
  have hx := fun b hb => (h.lt b hb).2
  refine ⟨?_, fun b hb => t.old (h1 b hb) (hx b hb)⟩
  obtain ⟨⟨S, m1, s1⟩, n1, z1⟩ := t
  exact h.mod m1 (fun b q q' => s1 b q' (h1 b q))
theorem Turns.ext0 (e : Ext w0 w) (t : Turns f f' w w') (h : ∀ b, f b ≠ 0 → w0.heap.size ≤ b) : Ext w0 w' := by
  obtain ⟨⟨S, m1, s1⟩, n1, z1⟩ := t
  exact Mod.step e m1 (fun b hb => .inr (h b (s1 b hb)))
/-- Two ends, apart. -/
structure Two (w0 w : World) (ba pa : Nat) (ma : EM) (fa : Nat → Nat) (ea : ES) (bb pb : Nat) (mb : EM) (fb : Nat → Nat) (eb : ES) : Prop where
  e : Ext w0 w
  A : EndM w ba pa ma fa ea
  B : EndM w bb pb mb fb eb
  dj : ∀ b, fa b = 0 ∨ fb b = 0
  ha : w0.heap.size ≤ ba
  hb : w0.heap.size ≤ bb
variable {ba pa bb pb : Nat} {ma mb : EM} {fa fb : Nat → Nat} {ea eb : ES}
theorem Two.a (T : Two w0 w ba pa ma fa ea bb pb mb fb eb) {m' : EM} {f' : Nat → Nat} {es' : ES} (h : EndM w' ba pa m' f' es') (t : Turns fa f' w w') : Two w0 w' ba pa m' f' es' bb pb mb fb eb := by
  obtain ⟨h2, d2⟩ := T.B.other t T.dj
  exact ⟨t.ext0 T.e (fun b hb => Nat.le_trans T.ha (T.A.ki.old b hb).1), h, h2, d2, T.ha, T.hb⟩
theorem Two.b (T : Two w0 w ba pa ma fa ea bb pb mb fb eb) {m' : EM} {f' : Nat → Nat} {es' : ES} (h : EndM w' bb pb m' f' es') (t : Turns fb f' w w') : Two w0 w' ba pa ma fa ea bb pb m' f' es' := by
  obtain ⟨h2, d2⟩ := T.A.other t (fun b => (T.dj b).symm)
  exact ⟨t.ext0 T.e (fun b hb => Nat.le_trans T.hb (T.B.ki.old b hb).1), h2, h, fun b => (d2 b).symm, T.ha, T.hb⟩
theorem Two.ext (T : Two w0 w ba pa ma fa ea bb pb mb fb eb) (e : Ext w w') : Two w0 w' ba pa ma fa ea bb pb mb fb eb := ⟨T.e.ext e, T.A.ext e, T.B.ext e, T.dj, T.ha, T.hb⟩
theorem EndM.bw (h : EndM w base p m f es) : base ≤ w.heap.size := by have := h.ki.old p (by rw [h.ki.kp]; decide); omega
end
theorem num_c26 (z : Int) (w : World) : Ret Try.prog 16 [.int .i64 z] w (fun v w' => v = .int .i64 z ∧ w' = w) := by
  refine ret_T (n := 4) Try.func16 rfl rfl ?_
  repeat (first | refine T_seq ?_ | refine T_region ?_ | refine TL_nil ?_ | refine TL_move (hk := ?_) | refine TL_assign (hk := ?_))
  exact T_ret1 rfl rfl ⟨rfl, rfl⟩
set_option maxHeartbeats 3200000
theorem live_c26 (w : World) : Ret Try.prog 11 [] w (fun v w' => v = .bool true ∧ Ext w w') := by
  refine ret_T (n := 135) Try.func11 rfl rfl ?_
  repeat (first | refine T_seq ?_ | refine T_region ?_ | refine TL_nil ?_ | refine TL_assign (hk := ?_))
  refine TL_call TE (hc := New_c 2 3 _ (by decide) (by decide)) (hk := ?_)
  rintro _ w1 ⟨e1, ⟨h, _⟩ | ⟨-, pa, ma, fa, rfl, hA⟩⟩
  · exact absurd h (by decide)
  replace hA : EndM w1 w.heap.size pa ma fa (nE 2 3) := hA
  repeat (first | refine T_seq ?_ | refine T_region ?_ | refine TL_nil ?_ | refine TL_move (hk := ?_) | refine TL_assign (hk := ?_) | refine TL_extract (hk := ?_))
  refine TL_call TE (hc := New_c 2 3 _ (by decide) (by decide)) (hk := ?_)
  rintro _ w2 ⟨e2, ⟨h, _⟩ | ⟨-, pb, mb, fb, rfl, hB⟩⟩
  · exact absurd h (by decide)
  replace hB : EndM w2 w1.heap.size pb mb fb (nE 2 3) := hB
  have tw : Two w w2 w.heap.size pa ma fa (nE 2 3) w1.heap.size pb mb fb (nE 2 3) := ⟨e1.ext e2, hA.ext e2, hB, fun b => by
    by_cases q : fa b = 0
    · exact .inl q
    · right
      have h1 := (hA.ki.old b q).2
      by_cases y : fb b = 0
      · exact y
      · have := (hB.ki.old b y).1; omega, Nat.le_refl _, e1.size⟩
  clear hA hB
  repeat (first | refine T_seq ?_ | refine T_region ?_ | refine TL_nil ?_ | refine TL_move (hk := ?_) | refine TL_assign (hk := ?_) | refine TL_extract (hk := ?_))
  refine TL_call TE (hc := num_c26 _ _) (hk := ?_)
  rintro _ _ ⟨rfl, rfl⟩
  repeat (first | refine TL_ne_f (hk := ?_) | refine TL_move (hk := ?_) | refine TL_yes (hk := ?_))
  refine TL_call TE (hc := num_c26 _ _) (hk := ?_)
  rintro _ _ ⟨rfl, rfl⟩
  repeat (first | refine T_seq ?_ | refine T_region ?_ | refine T_cond_false rfl ?_ | refine T_skip ?_ | refine TL_ne_f (hk := ?_) | refine TL_pnil_f TE (hk := ?_) | refine TL_nil ?_ | refine TL_move (hk := ?_) | refine TL_yes (hk := ?_) | refine TL_pick_f (hk := ?_))
  refine TL_buildSlice TE (hk := ?_); intro b3 w3 e3 h3 h3' k3
  replace k3 : Blk w3 b3 5 (bv [120]) := k3
  --
  refine TL_conv_ss TE (hk := ?_); intro w3' m3 z3 r3
  replace tw := tw.ext (Mod.step e3 m3 (by simp; omega))
  --
  refine TL_call TE (hc := Send_c (some ⟨b3, 0, none⟩) 1 1 [120] _ tw.A tw.A.bw (by decide) r3 (by omega)) (hk := ?_)
  rw [live1]
  rintro _ w4 ⟨rfl, ma, fa, h4, t4⟩
  replace tw := tw.a h4 t4
  clear k3 h4 t4
  repeat (first | refine T_seq ?_ | refine T_region ?_ | refine TL_nil ?_ | refine TL_move (hk := ?_))
  refine TL_buildSlice TE (hk := ?_); intro b5 w5 e5 h5 h5' k5
  replace k5 : Blk w5 b5 5 (bv [121]) := k5
  --
  refine TL_conv_ss TE (hk := ?_); intro w5' m5 z5 r5
  replace tw := tw.ext (Mod.step e5 m5 (by simp; omega))
  --
  refine TL_call TE (hc := Send_c (some ⟨b5, 0, none⟩) 1 1 [121] _ tw.A tw.A.bw (by decide) r5 (by omega)) (hk := ?_)
  rw [live2]
  rintro _ w6 ⟨rfl, ma, fa, h6, t6⟩
  replace tw := tw.a h6 t6
  clear k5 h6 t6
  repeat (first | refine T_seq ?_ | refine T_region ?_ | refine TL_nil ?_ | refine TL_move (hk := ?_))
  refine TL_call TE (hc := Out_c _ tw.A tw.A.bw (okE_of rfl)) (hk := ?_)
  rw [live3]
  rintro _ w7 ⟨⟨O, on, oc⟩, xs, ma, fa, rfl, h7, t7, o7, f7a, f7b⟩
  have hfb : ∀ b, w6.heap.size ≤ b → fb b = 0 := fun b q => by
    by_cases y : fb b = 0
    · exact y
    · have := (tw.B.ki.old b y).2; omega
  have g7a : ∀ b ∈ blkL O, fb b = 0 := fun b hb => hfb b (Hi.blk o7.own.hi b hb)
  have g7b : ∀ b ∈ blkS xs, fb b = 0 := fun b hb => hfb b (o7.bod.lt b hb).1
  replace tw := tw.a h7 t7
  clear h7 t7 hfb
  obtain ⟨x0, x1, rfl⟩ : ∃ x0 x1, xs = [x0, x1] := by
    have := o7.bod.len
    match xs, this with
    | [x0, x1], _ => exact ⟨x0, x1, rfl⟩
  have hon : on = 2 := by have := o7.own.len; simpa using this.symm
  subst hon
  have hx0 : (slVs [x0, x1])[0]? = some (slV x0) := rfl
  have hx1 : (slVs [x0, x1])[1]? = some (slV x1) := rfl
  have l0 := o7.bod.1.len
  have l1 := o7.bod.2.1.len
  have ln0 : lf0.length ≤ 100 := by unfold lf0; rw [frame_len]; have := dataL_len (seq := 0) (ack := 0) (body := [120]) (by decide) (by decide); simp at this; omega
  have ln1 : lf1.length ≤ 100 := by unfold lf1; rw [frame_len]; have := dataL_len (seq := 1) (ack := 0) (body := [121]) (by decide) (by decide); simp at this; omega
  have r7 : Rd _ O 2 1 _ := o7.own.rd
  rw [show slV (O, 2, oc) = Value.slice O 2 oc from rfl]
  repeat (first | refine T_seq ?_ | refine T_region ?_ | refine T_cond_false rfl ?_ | refine T_skip ?_ | refine TL_ne_f (hk := ?_) | refine TL_nil ?_ | refine TL_move (hk := ?_) | refine TL_assign (hk := ?_) | refine TL_load_rd TE (hk := ?_) | refine TL_indexAddr1n TE (hk := ?_) | refine TL_len TE (hk := ?_))
  refine TL_call TE (hc := Receive_c x1.1 x1.2.1 x1.2.2 lf1 _ tw.B tw.B.bw (okE_of rfl) o7.bod.2.1.rd (by omega) (Own.cap o7.bod.2.1).1) (hk := ?_)
  rw [live4]
  rintro _ w8 ⟨rfl, mb, fb, h8, t8⟩
  obtain ⟨o8, g7a, g7b⟩ := o7.turn t8 g7a g7b
  replace tw := tw.b h8 t8
  clear h8 t8 o7 r7
  repeat (first | refine T_seq ?_ | refine T_region ?_ | refine TL_nil ?_ | refine TL_move (hk := ?_) | refine TL_assign (hk := ?_))
  refine TL_call TE (hc := Next_c _ tw.B) (hk := ?_)
  rw [live5]
  rintro _ _ ⟨rfl, rfl⟩
  have r8 : Rd _ O 2 1 _ := o8.own.rd
  repeat (first | refine T_seq ?_ | refine T_region ?_ | refine TL_nil ?_ | refine TL_move (hk := ?_) | refine TL_assign (hk := ?_) | refine TL_load_rd TE (hk := ?_) | refine TL_indexAddr1n TE (hk := ?_) | refine TL_extract (hk := ?_))
  refine TL_call TE (hc := Receive_c x0.1 x0.2.1 x0.2.2 lf0 _ tw.B tw.B.bw (okE_of rfl) o8.bod.1.rd (by omega) (Own.cap o8.bod.1).1) (hk := ?_)
  rw [live6]
  rintro _ w9 ⟨rfl, mb, fb, h9, t9⟩
  replace tw := tw.b h9 t9
  clear h9 t9 o8 r8 g7a g7b f7a f7b
  repeat (first | refine T_seq ?_ | refine T_region ?_ | refine TL_nil ?_ | refine TL_move (hk := ?_) | refine TL_assign (hk := ?_))
  refine TL_call TE (hc := Next_c _ tw.B) (hk := ?_)
  rw [live7]
  rintro _ w10 ⟨y, mb, fb, rfl, h10, t10, y10, fy, ky⟩
  have gy : ∀ b ∈ blkL y.1, fa b = 0 := fun b hb => (tw.dj b).resolve_right (by rw [ky b hb]; decide)
  replace tw := tw.b h10 t10
  clear h10 t10
  repeat (first | refine T_seq ?_ | refine T_region ?_ | refine TL_nil ?_ | refine TL_move (hk := ?_) | refine TL_assign (hk := ?_) | refine TL_extract (hk := ?_))
  refine TL_call TE (hc := Next_c _ tw.B) (hk := ?_)
  rw [live8]
  rintro _ w11 ⟨z, mb, fb, rfl, h11, t11, z11, fz, kz⟩
  have gz : ∀ b ∈ blkL z.1, fa b = 0 := fun b hb => (tw.dj b).resolve_right (by rw [kz b hb]; decide)
  obtain ⟨y11, fy⟩ := y10.turn t11 fy
  replace tw := tw.b h11 t11
  clear h11 t11 y10
  repeat (first | refine T_seq ?_ | refine T_region ?_ | refine TL_nil ?_ | refine TL_move (hk := ?_) | refine TL_assign (hk := ?_) | refine TL_extract (hk := ?_))
  refine TL_call TE (hc := Out_c _ tw.B tw.B.bw (okE_of rfl)) (hk := ?_)
  rw [live9]
  rintro _ w12 ⟨⟨O2, on, oc2⟩, xs, mb, fb, rfl, h12, t12, o12, f12a, f12b⟩
  obtain ⟨y12, fy⟩ := y11.turn t12 fy
  obtain ⟨z12, fz⟩ := z11.turn t12 fz
  have hfa : ∀ b, w11.heap.size ≤ b → fa b = 0 := fun b q => by
    by_cases y : fa b = 0
    · exact y
    · have := (tw.A.ki.old b y).2; omega
  have ga : ∀ b ∈ blkL O2, fa b = 0 := fun b hb => hfa b (Hi.blk o12.own.hi b hb)
  have gb : ∀ b ∈ blkS xs, fa b = 0 := fun b hb => hfa b (o12.bod.lt b hb).1
  replace tw := tw.b h12 t12
  clear h12 t12 hfa y11 z11
  obtain ⟨x2, rfl⟩ : ∃ x2, xs = [x2] := by
    have := o12.bod.len
    match xs, this with
    | [x2], _ => exact ⟨x2, rfl⟩
  have hon : on = 1 := by have := o12.own.len; simpa using this.symm
  subst hon
  have hx2 : (slVs [x2])[0]? = some (slV x2) := rfl
  have l2 := o12.bod.1.len
  have ln2 : (frame (ackL 2)).length ≤ 100 := by rw [frame_len]; have := encU_len64 (n := 2) (by decide); simp [ackL]; omega
  have ln3 : (frame (ackL 1)).length ≤ 100 := by rw [frame_len]; have := encU_len64 (n := 1) (by decide); simp [ackL]; omega
  have r12 : Rd _ O2 1 1 _ := o12.own.rd
  rw [show slV (O2, 1, oc2) = Value.slice O2 1 oc2 from rfl]
  repeat (first | refine T_seq ?_ | refine T_region ?_ | refine T_cond_false rfl ?_ | refine T_skip ?_ | refine TL_ne_f (hk := ?_) | refine TL_nil ?_ | refine TL_move (hk := ?_) | refine TL_assign (hk := ?_) | refine TL_load_rd TE (hk := ?_) | refine TL_indexAddr1n TE (hk := ?_) | refine TL_len TE (hk := ?_))
  refine TL_call TE (hc := Receive_c x2.1 x2.2.1 x2.2.2 (frame (ackL 2)) _ tw.A tw.A.bw (okE_of rfl) o12.bod.1.rd (by omega) (Own.cap o12.bod.1).1) (hk := ?_)
  rw [live10]
  rintro _ w13 ⟨rfl, ma, fa, h13, t13⟩
  obtain ⟨y13, gy⟩ := y12.turn t13 gy
  obtain ⟨z13, gz⟩ := z12.turn t13 gz
  replace tw := tw.a h13 t13
  clear h13 t13 y12 z12 o12 r12
  repeat (first | refine T_seq ?_ | refine T_region ?_ | refine TL_nil ?_ | refine TL_move (hk := ?_) | refine TL_assign (hk := ?_))
  refine TL_call TE (hc := Ack_c 1 _ (by decide)) (hk := ?_)
  rintro _ w14 ⟨A14, n14, c14, rfl, e14, o14⟩
  have l14 := o14.len
  rw [bv_length, Nat.mul_one] at l14
  replace tw := tw.ext e14
  --
  refine TL_call TE (hc := Receive_c A14 n14 c14 (frame (ackL 1)) _ tw.B tw.B.bw (okE_of rfl) o14.rd (by omega) o14.cap.1) (hk := ?_)
  rw [live11]
  rintro _ w15 ⟨rfl, mb, fb, h15, t15⟩
  obtain ⟨y15, fy⟩ := Body.turn (Own.be e14 y13 : Body w14 _ y _) t15 fy
  obtain ⟨z15, fz⟩ := Body.turn (Own.be e14 z13 : Body w14 _ z _) t15 fz
  replace tw := tw.b h15 t15
  clear h15 t15 y13 z13 o14
  have ry : Rd w15 y.1 y.2.1 1 (bv [120]) := y15.rd
  have rz : Rd w15 z.1 z.2.1 1 (bv [121]) := z15.rd
  repeat (first | refine T_seq ?_ | refine T_region ?_ | refine TL_nil ?_ | refine TL_move (hk := ?_) | refine TL_assign (hk := ?_))
  refine TL_call TE (hc := num_c26 _ _) (hk := ?_)
  rintro _ _ ⟨rfl, rfl⟩
  repeat (first | refine TL_eq_t (hk := ?_) | refine TL_move (hk := ?_) | refine TL_yes (hk := ?_) | refine TL_pick_t (hk := ?_) | refine TL_not (hk := ?_))
  refine TL_call TE (hc := num_c26 _ _) (hk := ?_)
  rintro _ _ ⟨rfl, rfl⟩
  repeat (first | refine TL_eq_t (hk := ?_) | refine TL_seq_t (hk := ?_) | refine TL_move (hk := ?_) | refine TL_yes (hk := ?_) | refine TL_pick_t (hk := ?_) | refine TL_conv_bs TE (hk := ?_))
  refine TL_call TE (hc := num_c26 _ _) (hk := ?_)
  rintro _ _ ⟨rfl, rfl⟩
  repeat (first | refine TL_eq_t (hk := ?_) | refine TL_move (hk := ?_) | refine TL_yes (hk := ?_) | refine TL_pick_t (hk := ?_))
  refine TL_call TE (hc := Flying_c (es := la4) _ tw.A) (hk := ?_)
  rw [show la4.fly.length = 0 from rfl]
  rintro _ _ ⟨rfl, rfl⟩
  repeat (first | refine TL_eq_t (hk := ?_) | refine TL_move (hk := ?_) | refine TL_yes (hk := ?_) | refine TL_pick_t (hk := ?_))
  refine TL_call TE (hc := num_c26 _ _) (hk := ?_)
  rintro _ _ ⟨rfl, rfl⟩
  repeat (first | refine TL_eq_t (hk := ?_) | refine TL_nil ?_ | refine TL_assign (hk := ?_) | refine TL_yes (hk := ?_) | refine TL_pick_t (hk := ?_))
  exact T_ret1 rfl rfl ⟨rfl, tw.e⟩
end Go.Proofs.Ytjjgojgahibpgaa

/- What an argument that reads as data looks like, when each row and text of it lies within the reach. -/
namespace Go.Proofs.Eng
open Go.RowKit Go.WideShapes
set_option linter.unusedSimpArgs false
set_option linter.unusedVariables false
/-- Bytes of a type, at least. -/
def Ty.wt : Ty → Nat
  | .int _ => 1
  | .bool => 1
  | .str => 16
  | .slice _ => 24
  | .unit => 0
  | .cons a b => a.wt + b.wt
  | .struct p => p.wt
  | .array n e => n * e.wt
def FitS (w : World) : Ty → List Value → Prop
  | .int k, cs => ∃ n, cs = [.int k n] ∧ Fits k n
  | .bool, cs => ∃ b, cs = [.bool b]
  | .str, cs => ∃ s : ByteArray, cs = [.string s] ∧ s.size ≤ 140737488351232
  | .slice e, cs => ∃ (A : Option Addr) (n c : Nat) (xs : List (List Value)), cs = [.slice A n c] ∧ n ≤ c ∧ c ≤ maxLen ∧ c * e.wt ≤ 140737488351232 ∧ xs.length = n ∧ Rd w A n e.size xs.flatten ∧ ∀ x ∈ xs, x.length = e.size ∧ FitS w e x
  | .unit, cs => cs = []
  | .cons a b, cs => ∃ x y, cs = x ++ y ∧ x.length = a.size ∧ FitS w a x ∧ FitS w b y
  | .struct p, cs => FitS w p cs
  | .array n e, cs => ∃ xs : List (List Value), cs = xs.flatten ∧ xs.length = n ∧ ∀ x ∈ xs, x.length = e.size ∧ FitS w e x
def tyW {P : Program} (E : Env P) : Ty → Where → Bool
  | .slice e, .at t => match E.und t with
    | some (.slice u) => match E.inf u with
      | some (_, b, _) => Nat.ble e.wt b && tyW E e (.at u)
      | none => false
    | _ => false
  | .array n e, .at t => match E.und t with
    | some (.array m u) => tyW E e (.at u)
    | _ => false
  | .struct p, .at t => match E.fld t with
    | some fl => tyW E p (.from 0 fl)
    | none => false
  | .cons a b, .from off ((o, t) :: fl) => tyW E a (.at t) && tyW E b (.from (off + a.size) fl)
  | _, _ => true
section
variable {H : Type} {enc : TypeId × Value → H} {P : Program} {w : World} {base : Nat} {held : Bool}
theorem weightsAll_mem {e : TypeId} : ∀ {l : List (DataW H)} {d : DataW H}, d ∈ l → ∀ k ∈ d.weights P e, k ∈ DataW.weightsAll P e l
  | a :: l, d, h, k, hk => by
    simp only [DataW.weightsAll, List.mem_append]
    rcases List.mem_cons.1 h with rfl | h
    · exact .inl hk
    · exact .inr (weightsAll_mem h k hk)
theorem fits_of_trod (E : Env P) : ∀ (ty : Ty),
    (∀ t, tyOk E ty (.at t) = true → tyW E ty (.at t) = true → ∀ fuel cs x, DataW.trod enc P w base (fun _ => true) held fuel t cs = some x → (∀ k ∈ x.1.weights P t, k ≤ reachBytes) → FitS w ty cs) ∧
    (∀ off fl, tyOk E ty (.from off fl) = true → tyW E ty (.from off fl) = true → ∀ (cs : List Value) (ys : List (DataW H × List MemPlace)), cs.length = off + ty.size → ys.length = fl.length →
      (∀ (i : Nat) (o : Nat) (t : TypeId) y, fl[i]? = some (o, t) → ys[i]? = some y → ∃ n, DataW.trod enc P w base (fun _ => true) held n t ((cs.drop o).take (P.cellsOf t)) = some y) →
      (∀ k ∈ DataW.weightsEach P (fl.map (·.2)) (ys.map (·.1)), k ≤ reachBytes) → FitS w ty (cs.drop off)) := by
  intro ty
  induction ty with
  | int k =>
    refine ⟨fun t h _ fuel cs x hd _ => ?_, fun _ _ h => by simp [tyOk] at h⟩
    obtain ⟨n, h1, h3, h2⟩ := DataW.trod_int (und_int h) hd
    exact ⟨n, h1, fits_of_wf h2⟩
  | bool =>
    refine ⟨fun t h _ fuel cs x hd _ => ?_, fun _ _ h => by simp [tyOk] at h⟩
    obtain ⟨b, h1, h3⟩ := DataW.trod_bool (und_bool h) hd
    exact ⟨b, h1⟩
  | str =>
    refine ⟨fun t h _ fuel cs x hd hw => ?_, fun _ _ h => by simp [tyOk] at h⟩
    obtain ⟨s, h1, h3, h2⟩ := DataW.trod_string (und_str h) hd
    rw [h3] at hw
    have := hw s.data.toList.length (by simp [DataW.weights])
    refine ⟨s, h1, ?_⟩
    simpa [reachBytes] using this
  | slice e ih =>
    refine ⟨fun t h hW fuel cs x hd hw => ?_, fun _ _ h => by simp [tyOk] at h⟩
    simp only [tyOk] at h
    simp only [tyW] at hW
    split at h
    · rename_i u hu
      simp only [Bool.and_eq_true] at h
      obtain ⟨⟨h1, h2⟩, h3⟩ := h
      rw [hu] at hW
      simp only at hW
      split at hW
      · rename_i s' by_ z' hinf
        simp only [Bool.and_eq_true] at hW
        obtain ⟨hW1, hW2⟩ := hW
        have hW1 := Nat.le_of_ble_eq_true hW1
        have hsz := sizeIs_ok h2
        have h0 : 0 < e.size := by simpa [Nat.blt_eq] using h3
        have hund := E.und_ok _ _ hu
        have hbytes : P.bytesOf u = by_ := by
          obtain ⟨i, i1, i2, i3, i4⟩ := E.inf_ok _ _ _ _ hinf
          simp [Program.bytesOf, i1, i3]
        rcases DataW.trod_slice hund hd with ⟨rfl, hx⟩ | ⟨a, len, cap, elems, rest, n, _, rfl, hx, hb, hl, hm, hlen, hel, hsp, _⟩
        · exact ⟨none, 0, 0, [], rfl, Nat.le_refl _, by decide, by simp, rfl, Rd.nil _ _ _, by simp⟩
        · have hrest := (hsp rfl).1
          rw [hx] at hw
          simp only [DataW.weights, hund, List.length_map, hbytes] at hw
          have hcap := hw _ (List.mem_cons_self ..)
          rw [hlen, hrest] at hcap
          have hcap2 : cap * e.wt ≤ 140737488351232 := by
            have e1 : len + (cap - len) = cap := by omega
            rw [e1] at hcap
            have := Nat.mul_le_mul_left cap hW1
            simp only [reachBytes] at hcap
            omega
          rw [hsz] at hel
          have hget : ∀ i, i < len → ∃ y z, w.cells? base (a.add (i * e.size)) e.size = some y ∧ elems[i]? = some z ∧ DataW.trod enc P w base (fun _ => true) held n u y = some z := fun i hi => by
            have h4 := hel i hi
            rw [List.getElem?_eq_getElem (by omega)] at h4
            cases hc : w.cells? base (a.add (i * e.size)) e.size with
            | none => rw [hc] at h4; simp at h4
            | some y => rw [hc] at h4; simp at h4; exact ⟨y, _, rfl, List.getElem?_eq_getElem (by omega), h4⟩
          have hsome : ∀ (i : Nat) (x : List Value), ((List.range len).map fun i => (w.cells? base (a.add (i * e.size)) e.size).getD [])[i]? = some x → w.cells? base (a.add (i * e.size)) e.size = some x ∧ x.length = e.size ∧ FitS w e x := fun i x hx => by
            have hi : i < len := by have := (List.getElem?_eq_some_iff.1 hx).1; simpa using this
            obtain ⟨y, z, hy, hz, ht⟩ := hget i hi
            rw [List.getElem?_map, List.getElem?_range hi] at hx
            simp only [Option.map_some, hy, Option.getD_some, Option.some.injEq] at hx
            subst hx
            refine ⟨hy, (World.cells?_some hy).2.1, ih.1 u h1 hW2 n y z ht fun k hk => hw k (List.mem_cons_of_mem _ (List.mem_append_left _ ?_))⟩
            exact weightsAll_mem (List.mem_map_of_mem (List.mem_of_getElem? hz)) k hk
          have hmem : ∀ x ∈ (List.range len).map (fun i => (w.cells? base (a.add (i * e.size)) e.size).getD []), x.length = e.size ∧ FitS w e x := fun x hx => by
            obtain ⟨i, hi⟩ := List.getElem?_of_mem hx
            exact (hsome i x hi).2
          exact ⟨some a, len, cap, _, rfl, hl, hm, hcap2, by simp, rows_read h0 (by simp) (fun i x hx => (hsome i x hx).1) (fun x hx => (hmem x hx).1), hmem⟩
      · cases hW
    · cases h
  | unit =>
    refine ⟨fun t h => by simp [tyOk] at h, fun off fl h _ cs ys hl _ _ _ => ?_⟩
    show cs.drop off = []
    exact List.drop_of_length_le (by simp only [Ty.size] at hl; omega)
  | cons a b iha ihb =>
    refine ⟨fun t h => by simp [tyOk] at h, fun off fl h hW cs ys hl hyl hf hw => ?_⟩
    cases fl with
    | nil => simp [tyOk] at h
    | cons p fl =>
      cases ys with
      | nil => simp at hyl
      | cons y ys =>
        obtain ⟨o, t⟩ := p
        simp only [tyOk, Bool.and_eq_true] at h
        simp only [tyW, Bool.and_eq_true] at hW
        obtain ⟨⟨⟨h1, h2⟩, h3⟩, h4⟩ := h
        have ho := Nat.eq_of_beq_eq_true h1
        subst ho
        simp only [Ty.size] at hl
        have hsz := sizeIs_ok h3
        obtain ⟨n, hx⟩ := hf 0 o t y rfl rfl
        rw [hsz] at hx
        simp only [List.map_cons, DataW.weightsEach, List.mem_append] at hw
        refine ⟨(cs.drop o).take a.size, cs.drop (o + a.size), ?_, by simp; omega, iha.1 t h2 hW.1 n _ y hx (fun k hk => hw k (.inl hk)), ?_⟩
        · rw [← List.drop_drop, List.take_append_drop]
        · exact ihb.2 (o + a.size) fl h4 hW.2 cs ys (by omega) (by simpa using hyl) (fun i o' t' y' h' g' => hf (i + 1) o' t' y' (by simpa using h') (by simpa using g')) (fun k hk => hw k (.inr hk))
  | struct p ih =>
    refine ⟨fun t h hW fuel cs x hd hw => ?_, fun _ _ h => by simp [tyOk] at h⟩
    simp only [tyOk] at h
    simp only [tyW] at hW
    split at h
    · rename_i fl hfl
      rw [hfl] at hW
      simp only [Bool.and_eq_true] at h
      obtain ⟨h1, h2⟩ := h
      obtain ⟨fs, hu, hmap⟩ := E.fld_ok _ _ hfl
      obtain ⟨xs, n, _, hx, hl, hxl, hfs⟩ := DataW.trod_struct hu hd
      rw [sizeIs_ok h2] at hl
      have e9 : fl.map (·.2) = fs.toList.map (·.type) := by rw [← hmap]; simp
      have := ih.2 0 fl h1 hW cs xs (by omega) (by rw [hxl, ← hmap]; simp) (fun i o t y h' g' => by
        rw [← hmap, List.getElem?_map] at h'
        cases hf : fs.toList[i]? with
        | none => rw [hf] at h'; cases h'
        | some f =>
          rw [hf] at h'
          cases h'
          have hf' : fs[i]? = some f := by simpa using hf
          have h5 := hfs i f hf'
          rw [g'] at h5
          exact ⟨n, h5⟩) (fun k hk => hw k (by rw [hx]; simp only [DataW.weights, hu]; rw [← e9]; exact hk))
      simpa [FitS] using this
    · cases h
  | array n e ih =>
    refine ⟨fun t h hW fuel cs x hd hw => ?_, fun _ _ h => by simp [tyOk] at h⟩
    simp only [tyOk] at h
    simp only [tyW] at hW
    split at h
    · rename_i m u hu
      rw [hu] at hW
      simp only [Bool.and_eq_true] at h
      obtain ⟨⟨⟨h1, h2⟩, h3⟩, h4⟩ := h
      have hm := Nat.eq_of_beq_eq_true h1
      subst hm
      have hund := E.und_ok _ _ hu
      obtain ⟨xs, q, _, hx, hl, hxl, hel⟩ := DataW.trod_array hund hd
      rw [sizeIs_ok h4] at hl
      rw [sizeIs_ok h3] at hel
      refine ⟨(List.range m).map fun i => (cs.drop (i * e.size)).take e.size, (take_drop_chunks m cs hl).symm, by simp, fun y hy => ?_⟩
      obtain ⟨i, hi, rfl⟩ := List.mem_map.1 hy
      have hi' : i < m := by simpa using hi
      have h5 := hel i hi'
      cases ht : DataW.trod enc P w base (fun _ => true) held q u ((cs.drop (i * e.size)).take e.size) with
      | none => rw [ht] at h5; rw [List.getElem?_eq_getElem (by omega)] at h5; cases h5
      | some z =>
        refine ⟨?_, ih.1 u h2 hW q _ _ ht fun k hk => hw k ?_⟩
        · have : (i + 1) * e.size ≤ m * e.size := Nat.mul_le_mul_right _ hi'
          rw [Nat.succ_mul] at this
          simp; omega
        · rw [hx]
          simp only [DataW.weights, hund]
          rw [ht] at h5
          exact weightsAll_mem (List.mem_map_of_mem (List.mem_of_getElem? h5.symm)) k hk
    · cases h
/-- An argument that reads as data, each row and text of it within the reach. -/
def ReadsS (P : Program) (w : World) (base : Nat) (t : TypeId) (v : Value) : Prop :=
  ∃ (H : Type) (enc : TypeId × Value → H) (d : DataW H) (ps : List MemPlace), DataW.Trod enc P w 0 (fun _ => true) true t v d ps ∧ Value.okWide P w .any base t v ∧ ∀ k ∈ d.weights P t, k ≤ reachBytes
theorem ReadsS.fit {t : TypeId} {v : Value} (E : Env P) (h : ReadsS P w base t v) (ty : Ty) (hok : tyOk E ty (.at t) = true) (hW : tyW E ty (.at t) = true) : FitS w ty v.cells.toList := by
  obtain ⟨H, enc, d, ps, ⟨fuel, hf⟩, _, hm⟩ := h
  exact (fits_of_trod E ty).1 t hok hW fuel _ _ hf hm
theorem ReadsS.slice {t e : TypeId} {v : Value} (E : Env P) (h : ReadsS P w base t v) (ht : E.und t = some (.slice e)) : ∃ A n c, v = .slice A n c := by
  obtain ⟨_, _, _, _, _, hv, _⟩ := h
  exact okWide_slice (E.und_ok _ _ ht) hv
theorem FitS.fit : ∀ {ty : Ty} {cs : List Value}, FitS w ty cs → Fit w ty cs
  | .int _, _, h => h
  | .bool, _, h => h
  | .str, _, ⟨s, h1, h2⟩ => ⟨s, h1, by unfold maxLen; omega⟩
  | .slice _, _, ⟨A, n, c, xs, h1, h2, h3, _, h5, h6, h7⟩ => ⟨A, n, c, xs, h1, h2, h3, h5, h6, fun x hx => ⟨(h7 x hx).1, FitS.fit (h7 x hx).2⟩⟩
  | .unit, _, h => h
  | .cons _ _, _, ⟨x, y, h1, h2, h3, h4⟩ => ⟨x, y, h1, h2, FitS.fit h3, FitS.fit h4⟩
  | .struct p, _, h => FitS.fit (ty := p) h
  | .array _ _, _, ⟨xs, h1, h2, h3⟩ => ⟨xs, h1, h2, fun x hx => ⟨(h3 x hx).1, FitS.fit (h3 x hx).2⟩⟩
theorem FitS.bytes {A : Option Addr} {n c : Nat} (h : FitS w (.slice (.int .u8)) [.slice A n c]) : ∃ l, Rd w A n 1 (bv l) ∧ n ≤ c ∧ c ≤ 140737488351232 := by
  obtain ⟨l, h1, h2, _⟩ := Fit.bytes h.fit
  obtain ⟨A', n', c', xs, hv, _, _, h3, _⟩ := h
  cases hv
  exact ⟨l, h1, h2, by simpa [Ty.wt] using h3⟩
theorem bytes_inS {H : Type} {enc : TypeId × Value → H} (E : Env P) {t : TypeId} {A : Option Addr} {n c : Nat} {d : DataW H} {ps : List MemPlace} (hok : tyOk E (.slice (.int .u8)) (.at t) = true) (hW : tyW E (.slice (.int .u8)) (.at t) = true)
    (h : DataW.Trod enc P w 0 (fun _ => true) true t (.slice A n c) d ps) (hw : ∀ k ∈ d.weights P t, k ≤ reachBytes) : ∃ l, Rd w A n 1 (bv l) ∧ n ≤ c ∧ c ≤ 140737488351232 := by
  obtain ⟨fuel, hf⟩ := h
  exact FitS.bytes ((fits_of_trod E _).1 t hok hW fuel _ _ hf hw)
theorem each_one {H : Type} {P : Program} {t : TypeId} {ts : List TypeId} {d : DataW H} {ds : List (DataW H)} (h : ∀ k ∈ DataW.weightsEach P (t :: ts) (d :: ds), k ≤ reachBytes) : (∀ k ∈ d.weights P t, k ≤ reachBytes) ∧ ∀ k ∈ DataW.weightsEach P ts ds, k ≤ reachBytes :=
  ⟨fun k hk => h k (by simp only [DataW.weightsEach, List.mem_append]; exact .inl hk), fun k hk => h k (by simp only [DataW.weightsEach, List.mem_append]; exact .inr hk)⟩
end
end Go.Proofs.Eng

namespace Go.Proofs.Ytjjgojgahibpgaa
open Go.RowKit Go.Proofs.Eng Go.Proofs.Codec Go.Proofs.Link
set_option linter.unusedSimpArgs false
set_option linter.unusedVariables false set_option maxRecDepth 10000
attribute [local irreducible] T TL LV TH TA
end Go.Proofs.Ytjjgojgahibpgaa

namespace Go.Proofs.Ytjjgojgahibpgaa
open Go.RowKit Go.Proofs.Eng Go.Proofs.Codec Go.Proofs.Link
set_option linter.unusedSimpArgs false
set_option linter.unusedVariables false set_option maxRecDepth 10000
attribute [local irreducible] T TL LV TH TA
abbrev tyFrame : Ty := .struct (.cons (.int .u64) (.cons (.int .u64) (.cons (.slice (.int .u8)) (.cons (.int .i64) .unit))))
set_option maxHeartbeats 1600000
end Go.Proofs.Ytjjgojgahibpgaa

/- What an argument that reads as data looks like, and how much it holds. -/
namespace Go.Proofs.Eng
open Go.RowKit Go.WideShapes
set_option linter.unusedSimpArgs false
set_option linter.unusedVariables false
/-- How much a reading holds. -/
structure Bulk (H : Type) where
  one : DataW H → Nat
  all : List (DataW H) → Nat
  lit : ∀ l, 1 ≤ one (.lit l)
  str : ∀ b, one (.lit (.string b)) = b.length + 1
  nil : one .nil = 1
  slice : ∀ e s, one (.slice e s) = all e + all s + 1
  agg : ∀ p, one (.agg p) = all p + 1
  none : all [] = 0
  some : ∀ d r, all (d :: r) = one d + all r
def FitB (w : World) : Ty → List Value → Nat → Prop
  | .int k, cs, m => 1 ≤ m ∧ ∃ n, cs = [.int k n] ∧ Fits k n
  | .bool, cs, m => 1 ≤ m ∧ ∃ b, cs = [.bool b]
  | .str, cs, m => ∃ s : ByteArray, cs = [.string s] ∧ s.size ≤ maxLen ∧ s.size + 1 ≤ m
  | .slice e, cs, m => ∃ (A : Option Addr) (n c : Nat) (xs : List (List Value)) (ms : List Nat), cs = [.slice A n c] ∧ n ≤ c ∧ c ≤ maxLen ∧ xs.length = n ∧ ms.length = n ∧ ms.sum + 1 ≤ m ∧ Rd w A n e.size xs.flatten ∧
      ∀ (i : Nat) (x : List Value) (k : Nat), xs[i]? = some x → ms[i]? = some k → x.length = e.size ∧ FitB w e x k
  | .unit, cs, _ => cs = []
  | .cons a b, cs, m => ∃ x y p q, cs = x ++ y ∧ x.length = a.size ∧ p + q ≤ m ∧ FitB w a x p ∧ FitB w b y q
  | .struct p, cs, m => FitB w p cs m
  | .array n e, cs, m => ∃ (xs : List (List Value)) (ms : List Nat), cs = xs.flatten ∧ xs.length = n ∧ ms.length = n ∧ ms.sum ≤ m ∧ ∀ (i : Nat) (x : List Value) (k : Nat), xs[i]? = some x → ms[i]? = some k → x.length = e.size ∧ FitB w e x k
theorem FitB.mono {w : World} : ∀ {ty : Ty} {cs : List Value} {m m' : Nat}, FitB w ty cs m → m ≤ m' → FitB w ty cs m'
  | .int _, _, _, _, ⟨h, r⟩, hm => ⟨Nat.le_trans h hm, r⟩
  | .bool, _, _, _, ⟨h, r⟩, hm => ⟨Nat.le_trans h hm, r⟩
  | .str, _, _, _, ⟨s, h1, h2, h3⟩, hm => ⟨s, h1, h2, Nat.le_trans h3 hm⟩
  | .slice _, _, _, _, ⟨A, n, c, xs, ms, h1, h2, h3, h4, h5, h6, h7⟩, hm => ⟨A, n, c, xs, ms, h1, h2, h3, h4, h5, Nat.le_trans h6 hm, h7⟩
  | .unit, _, _, _, h, _ => h
  | .cons _ _, _, _, _, ⟨x, y, p, q, h1, h2, h3, h4⟩, hm => ⟨x, y, p, q, h1, h2, Nat.le_trans h3 hm, h4⟩
  | .struct p, _, _, _, h, hm => FitB.mono (ty := p) h hm
  | .array _ _, _, _, _, ⟨xs, ms, h1, h2, h3, h4, h5⟩, hm => ⟨xs, ms, h1, h2, h3, Nat.le_trans h4 hm, h5⟩
section
variable {H : Type} {enc : TypeId × Value → H} {P : Program} {w : World} {base : Nat} {spare : Nat → Bool} {held : Bool}
theorem Bulk.map_sum (K : Bulk H) (l : List (DataW H × List MemPlace)) : K.all (l.map (·.1)) = (l.map fun x => K.one x.1).sum := by
  induction l with
  | nil => simp [K.none]
  | cons a l ih => simp [K.some, ih]
theorem fitb_of_trod (E : Env P) (K : Bulk H) : ∀ (ty : Ty),
    (∀ t, tyOk E ty (.at t) = true → ∀ fuel cs x, DataW.trod enc P w base spare held fuel t cs = some x → FitB w ty cs (K.one x.1)) ∧
    (∀ off fl, tyOk E ty (.from off fl) = true → ∀ (cs : List Value) (ys : List (DataW H × List MemPlace)), cs.length = off + ty.size → ys.length = fl.length →
      (∀ (i : Nat) (o : Nat) (t : TypeId) y, fl[i]? = some (o, t) → ys[i]? = some y → ∃ n, DataW.trod enc P w base spare held n t ((cs.drop o).take (P.cellsOf t)) = some y) → FitB w ty (cs.drop off) (ys.map fun x => K.one x.1).sum) := by
  intro ty
  induction ty with
  | int k =>
    refine ⟨fun t h fuel cs x hd => ?_, fun _ _ h => by simp [tyOk] at h⟩
    obtain ⟨n, h1, h3, h2⟩ := DataW.trod_int (und_int h) hd
    rw [h3]
    exact ⟨K.lit _, n, h1, fits_of_wf h2⟩
  | bool =>
    refine ⟨fun t h fuel cs x hd => ?_, fun _ _ h => by simp [tyOk] at h⟩
    obtain ⟨b, h1, h3⟩ := DataW.trod_bool (und_bool h) hd
    rw [h3]
    exact ⟨K.lit _, b, h1⟩
  | str =>
    refine ⟨fun t h fuel cs x hd => ?_, fun _ _ h => by simp [tyOk] at h⟩
    obtain ⟨s, h1, h3, h2⟩ := DataW.trod_string (und_str h) hd
    rw [h3]
    exact ⟨s, h1, h2, by rw [K.str]; simp⟩
  | slice e ih =>
    refine ⟨fun t h fuel cs x hd => ?_, fun _ _ h => by simp [tyOk] at h⟩
    simp only [tyOk] at h
    split at h
    · rename_i u hu
      simp only [Bool.and_eq_true] at h
      obtain ⟨⟨h1, h2⟩, h3⟩ := h
      have hsz := sizeIs_ok h2
      have h0 : 0 < e.size := by simpa [Nat.blt_eq] using h3
      rcases DataW.trod_slice (E.und_ok _ _ hu) hd with ⟨rfl, hx⟩ | ⟨a, len, cap, elems, rest, n, _, rfl, hx, hb, hl, hm, hlen, hel, _⟩
      · rw [hx]
        exact ⟨none, 0, 0, [], [], rfl, Nat.le_refl _, by decide, rfl, rfl, by simp [K.nil], Rd.nil _ _ _, by simp⟩
      · rw [hsz] at hel
        have hget : ∀ i, i < len → ∃ y z, w.cells? base (a.add (i * e.size)) e.size = some y ∧ elems[i]? = some z ∧ DataW.trod enc P w base spare held n u y = some z := fun i hi => by
          have h4 := hel i hi
          rw [List.getElem?_eq_getElem (by omega)] at h4
          cases hc : w.cells? base (a.add (i * e.size)) e.size with
          | none => rw [hc] at h4; simp at h4
          | some y => rw [hc] at h4; simp at h4; exact ⟨y, _, rfl, List.getElem?_eq_getElem (by omega), h4⟩
        have hsome : ∀ (i : Nat) (x : List Value), ((List.range len).map fun i => (w.cells? base (a.add (i * e.size)) e.size).getD [])[i]? = some x → w.cells? base (a.add (i * e.size)) e.size = some x ∧ x.length = e.size ∧ ∃ z, elems[i]? = some z ∧ FitB w e x (K.one z.1) := fun i x hx => by
          have hi : i < len := by have := (List.getElem?_eq_some_iff.1 hx).1; simpa using this
          obtain ⟨y, z, hy, hz, ht⟩ := hget i hi
          rw [List.getElem?_map, List.getElem?_range hi] at hx
          simp only [Option.map_some, hy, Option.getD_some, Option.some.injEq] at hx
          subst hx
          exact ⟨hy, (World.cells?_some hy).2.1, z, hz, ih.1 u h1 n y z ht⟩
        have hmem : ∀ x ∈ (List.range len).map (fun i => (w.cells? base (a.add (i * e.size)) e.size).getD []), x.length = e.size := fun x hx => by
          obtain ⟨i, hi⟩ := List.getElem?_of_mem hx
          exact (hsome i x hi).2.1
        refine ⟨some a, len, cap, _, elems.map fun x => K.one x.1, rfl, hl, hm, by simp, by simp [hlen], ?_, rows_read h0 (by simp) (fun i x hx => (hsome i x hx).1) hmem, ?_⟩
        · rw [hx]
          simp only [K.slice, K.map_sum]
          omega
        · intro i x k hx hk
          obtain ⟨_, h5, z, hz, h6⟩ := hsome i x hx
          rw [List.getElem?_map, hz] at hk
          simp at hk
          subst hk
          exact ⟨h5, h6⟩
    · cases h
  | unit =>
    refine ⟨fun t h => by simp [tyOk] at h, fun off fl h cs ys hl _ _ => ?_⟩
    show cs.drop off = []
    exact List.drop_of_length_le (by simp only [Ty.size] at hl; omega)
  | cons a b iha ihb =>
    refine ⟨fun t h => by simp [tyOk] at h, fun off fl h cs ys hl hyl hf => ?_⟩
    cases fl with
    | nil => simp [tyOk] at h
    | cons p fl =>
      cases ys with
      | nil => simp at hyl
      | cons y ys =>
        obtain ⟨o, t⟩ := p
        simp only [tyOk, Bool.and_eq_true] at h
        obtain ⟨⟨⟨h1, h2⟩, h3⟩, h4⟩ := h
        have ho := Nat.eq_of_beq_eq_true h1
        subst ho
        simp only [Ty.size] at hl
        have hsz := sizeIs_ok h3
        obtain ⟨n, hx⟩ := hf 0 o t y rfl rfl
        rw [hsz] at hx
        refine ⟨(cs.drop o).take a.size, cs.drop (o + a.size), K.one y.1, (ys.map fun x => K.one x.1).sum, ?_, by simp; omega, by simp, iha.1 t h2 n _ y hx, ?_⟩
        · rw [← List.drop_drop, List.take_append_drop]
        · exact ihb.2 (o + a.size) fl h4 cs ys (by omega) (by simpa using hyl) (fun i o' t' y' h' g' => hf (i + 1) o' t' y' (by simpa using h') (by simpa using g'))
  | struct p ih =>
    refine ⟨fun t h fuel cs x hd => ?_, fun _ _ h => by simp [tyOk] at h⟩
    simp only [tyOk] at h
    split at h
    · rename_i fl hfl
      simp only [Bool.and_eq_true] at h
      obtain ⟨h1, h2⟩ := h
      obtain ⟨fs, hu, hmap⟩ := E.fld_ok _ _ hfl
      obtain ⟨xs, n, _, hx, hl, hxl, hfs⟩ := DataW.trod_struct hu hd
      rw [sizeIs_ok h2] at hl
      have := ih.2 0 fl h1 cs xs (by omega) (by rw [hxl, ← hmap]; simp) (fun i o t' y h' g' => by
        rw [← hmap, List.getElem?_map] at h'
        cases hf : fs.toList[i]? with
        | none => rw [hf] at h'; cases h'
        | some f =>
          rw [hf] at h'
          cases h'
          have hf' : fs[i]? = some f := by simpa using hf
          have h5 := hfs i f hf'
          rw [g'] at h5
          exact ⟨n, h5⟩)
      rw [hx]
      refine FitB.mono (ty := p) (by simpa using this) ?_
      rw [K.agg, K.map_sum]
      omega
    · cases h
  | array n e ih =>
    refine ⟨fun t h fuel cs x hd => ?_, fun _ _ h => by simp [tyOk] at h⟩
    simp only [tyOk] at h
    split at h
    · rename_i m u hu
      simp only [Bool.and_eq_true] at h
      obtain ⟨⟨⟨h1, h2⟩, h3⟩, h4⟩ := h
      have hm := Nat.eq_of_beq_eq_true h1
      subst hm
      obtain ⟨xs, q, _, hx, hl, hxl, hel⟩ := DataW.trod_array (E.und_ok _ _ hu) hd
      rw [sizeIs_ok h4] at hl
      rw [sizeIs_ok h3] at hel
      refine ⟨(List.range m).map fun i => (cs.drop (i * e.size)).take e.size, xs.map fun x => K.one x.1, (take_drop_chunks m cs hl).symm, by simp, by simp [hxl], ?_, fun i y k hy hk => ?_⟩
      · rw [hx, K.agg, K.map_sum]
        omega
      · have hi' : i < m := by have := (List.getElem?_eq_some_iff.1 hy).1; simpa using this
        rw [List.getElem?_map, List.getElem?_range hi'] at hy
        simp at hy
        subst hy
        have h5 := hel i hi'
        rw [List.getElem?_map, ← h5] at hk
        cases ht : DataW.trod enc P w base spare held q u ((cs.drop (i * e.size)).take e.size) with
        | none => rw [ht] at hk; simp at hk
        | some z =>
          rw [ht] at hk
          simp at hk
          subst hk
          refine ⟨?_, ih.1 u h2 q _ _ ht⟩
          have : (i + 1) * e.size ≤ m * e.size := Nat.mul_le_mul_right _ hi'
          rw [Nat.succ_mul] at this
          simp; omega
    · cases h
/-- An argument that reads as data and holds so much. -/
def ReadsB (P : Program) (w : World) (base : Nat) (t : TypeId) (v : Value) (m : Nat) : Prop :=
  ∃ (H : Type) (enc : TypeId × Value → H) (d : DataW H) (ps : List MemPlace) (K : Bulk H), DataW.Trod enc P w 0 (fun _ => true) true t v d ps ∧ Value.okWide P w .any base t v ∧ K.one d ≤ m
theorem ReadsB.fit {t : TypeId} {v : Value} {m : Nat} (E : Env P) (h : ReadsB P w base t v m) (ty : Ty) (hok : tyOk E ty (.at t) = true) : FitB w ty v.cells.toList m := by
  obtain ⟨H, enc, d, ps, K, ⟨fuel, hf⟩, _, hm⟩ := h
  exact FitB.mono ((fitb_of_trod E K ty).1 t hok fuel _ _ hf) hm
theorem ReadsB.slice {t e : TypeId} {v : Value} {m : Nat} (E : Env P) (h : ReadsB P w base t v m) (ht : E.und t = some (.slice e)) : ∃ A n c, v = .slice A n c := by
  obtain ⟨_, _, _, _, _, _, hv, _⟩ := h
  exact okWide_slice (E.und_ok _ _ ht) hv
theorem FitB.bytes {A : Option Addr} {n c m : Nat} (h : FitB w (.slice (.int .u8)) [.slice A n c] m) : ∃ l, Rd w A n 1 (bv l) ∧ n ≤ c ∧ c ≤ maxLen ∧ n + 1 ≤ m := by
  obtain ⟨A', n', c', xs, ms, hv, h1, h2, h3, h4, h5, h6, h7⟩ := h
  cases hv
  have hn : n ≤ ms.sum := by
    rw [← h4]
    have key : ∀ (xs : List (List Value)) (ms : List Nat), xs.length = ms.length → (∀ (i : Nat) (x : List Value) (k : Nat), xs[i]? = some x → ms[i]? = some k → 1 ≤ k) → ms.length ≤ ms.sum := by
      intro xs
      induction xs with
      | nil => intro ms hl _; cases ms <;> simp at hl ⊢
      | cons x xs ih =>
        intro ms hl hk
        cases ms with
        | nil => simp
        | cons k ms =>
          have := ih ms (by simpa using hl) (fun i x k a b => hk (i + 1) x k (by simpa using a) (by simpa using b))
          have := hk 0 x k rfl rfl
          simp
          omega
    exact key xs ms (by omega) (fun i x k a b => (h7 i x k a b).2.1)
  have h8 : ∀ x ∈ xs, x.length = 1 ∧ Fit w (.int .u8) x := fun x hx => by
    obtain ⟨i, hi⟩ := List.getElem?_of_mem hx
    have hlt := (List.getElem?_eq_some_iff.1 hi).1
    have := h7 i x ms[i] hi (List.getElem?_eq_getElem (by omega))
    exact ⟨this.1, this.2.2⟩
  obtain ⟨l, hl, h9, h10⟩ := Fit.bytes (w := w) (A := A) (n := n) (c := c) ⟨A, n, c, xs, rfl, h1, h2, h3, h6, h8⟩
  exact ⟨l, hl, h9, h10, by omega⟩
end
end Go.Proofs.Eng

namespace Go.Proofs.Ytjjgojgahibpgaa
open Go.RowKit Go.Proofs.Eng Go.Proofs.Codec Go.Proofs.Link
set_option linter.unusedSimpArgs false
set_option linter.unusedVariables false set_option maxRecDepth 10000
attribute [local irreducible] T TL LV TH TA
/-- An act in a row. -/
structure AV where
  kd : Int
  A : Option Addr
  n : Nat
  c : Nat
  b : Bs
def av0 : AV := ⟨0, none, 0, 0, []⟩
def avs (l : List AV) : List Value := (l.map fun x => [Value.int .i64 x.kd, Value.slice x.A x.n x.c]).flatten
theorem avs_cons (x : AV) (l : List AV) : avs (x :: l) = [Value.int .i64 x.kd, Value.slice x.A x.n x.c] ++ avs l := by simp [avs]
theorem avs_len (l : List AV) : (avs l).length = l.length * 2 := by
  induction l with
  | nil => rfl
  | cons x l ih => rw [avs_cons, List.length_append, ih]; simp; omega
theorem avs_two (l : List AV) (i : Nat) (hi : i < l.length) : ((avs l).drop (i * 2)).take 2 = [.int .i64 (l.getD i av0).kd, .slice (l.getD i av0).A (l.getD i av0).n (l.getD i av0).c] := by
  induction l generalizing i with
  | nil => simp at hi
  | cons p l ih =>
    cases i with
    | zero => rw [avs_cons]; simp
    | succ i =>
      have := ih i (by simpa using hi)
      rw [avs_cons, show (i + 1) * 2 = [Value.int .i64 p.kd, Value.slice p.A p.n p.c].length + i * 2 by simp; omega, ← List.drop_drop, List.drop_left]
      simpa using this
theorem avs_at0 (l : List AV) (i : Nat) (hi : i < l.length) : (avs l)[i * 2 + 0]? = some (.int .i64 (l.getD i av0).kd) := by
  have := congrArg (fun x : List Value => x[0]?) (avs_two l i hi)
  simpa using this
theorem avs_at1 (l : List AV) (i : Nat) (hi : i < l.length) : (avs l)[i * 2 + 1]? = some (.slice (l.getD i av0).A (l.getD i av0).n (l.getD i av0).c) := by
  have := congrArg (fun x : List Value => x[1]?) (avs_two l i hi)
  simpa using this
structure Acts (w : World) (A : Option Addr) (n : Nat) (l : List AV) : Prop where
  rd : Rd w A n 2 (avs l)
  mem : ∀ x ∈ l, Rd w x.A x.n 1 (bv x.b) ∧ x.n ≤ x.c ∧ x.n ≤ 1048576 ∧ -9223372036854775808 ≤ x.kd ∧ x.kd ≤ 9223372036854775807
theorem Acts.be {w w' : World} {A : Option Addr} {n : Nat} {l : List AV} (e : Ext w w') (h : Acts w A n l) : Acts w' A n l := ⟨h.rd.be e, fun x hx => ⟨(h.mem x hx).1.be e, (h.mem x hx).2⟩⟩
theorem Acts.len {w : World} {A : Option Addr} {n : Nat} {l : List AV} (h : Acts w A n l) : l.length = n := by
  have := h.rd.1
  rw [avs_len] at this
  omega
theorem Acts.get {w : World} {A : Option Addr} {n : Nat} {l : List AV} (h : Acts w A n l) (i : Nat) (hi : i < n) : Rd w (l.getD i av0).A (l.getD i av0).n 1 (bv (l.getD i av0).b) ∧ (l.getD i av0).n ≤ (l.getD i av0).c ∧ (l.getD i av0).n ≤ 1048576 ∧ -9223372036854775808 ≤ (l.getD i av0).kd ∧ (l.getD i av0).kd ≤ 9223372036854775807 :=
  h.mem _ (by rw [List.getD_eq_getElem?_getD, List.getElem?_eq_getElem (by rw [h.len]; exact hi)]; exact List.getElem_mem _)
abbrev tyAct : Ty := .struct (.cons (.int .i64) (.cons (.slice (.int .u8)) .unit))
theorem acts_rows {w : World} {M : Nat} : ∀ (xs : List (List Value)) (ms : List Nat), xs.length = ms.length → ms.sum ≤ M → (∀ (i : Nat) (x : List Value) (k : Nat), xs[i]? = some x → ms[i]? = some k → x.length = 2 ∧ FitB w tyAct x k) →
    ∃ l : List AV, avs l = xs.flatten ∧ ∀ x ∈ l, Rd w x.A x.n 1 (bv x.b) ∧ x.n ≤ x.c ∧ x.n ≤ M ∧ -9223372036854775808 ≤ x.kd ∧ x.kd ≤ 9223372036854775807
  | [], [], _, _, _ => ⟨[], rfl, fun x hx => by cases hx⟩
  | [], _ :: _, h, _, _ => by simp at h
  | _ :: _, [], h, _, _ => by simp at h
  | x :: xs, k :: ms, hl, hs, hk => by
    simp only [List.sum_cons] at hs
    obtain ⟨l, e, hm⟩ := acts_rows (w := w) (M := M) xs ms (by simpa using hl) (by omega) (fun i x k a b => hk (i + 1) x k (by simpa using a) (by simpa using b))
    obtain ⟨_, x1, y, p, q, h1, h2, hpq, hx, u, z, p2, q2, h3, h4, hpq2, hy, hz⟩ := hk 0 x k rfl rfl
    have hz : z = [] := hz
    subst hz
    simp only [List.append_nil] at h3
    subst h3
    obtain ⟨_, kd, rfl, fk⟩ := hx
    have ay := hy
    obtain ⟨B, m, d, ys1, ns1, rfl, _⟩ := hy
    obtain ⟨b, hb, hbc, _, hbn⟩ := FitB.bytes ay
    refine ⟨⟨kd, B, m, d, b⟩ :: l, ?_, fun f hf => ?_⟩
    · simp [avs_cons, e, h1]
    · rcases List.mem_cons.1 hf with rfl | hf
      · exact ⟨hb, hbc, by simp only; omega, fk.1, fk.2⟩
      · exact hm f hf
theorem acts_in {w : World} {base : Nat} {v : Value} (h : ReadsB Try.prog w base 59 v 1048576) :
    ∃ A n c l, v = .slice A n c ∧ Acts w A n l ∧ n ≤ c ∧ c ≤ maxLen := by
  obtain ⟨A, n, c, rfl⟩ := h.slice TE rfl
  obtain ⟨A', n', c', xs, ms, hv, h1, h2, h3, h4, h5, h6, h7⟩ := h.fit TE (.slice tyAct) (by decide +kernel)
  cases hv
  obtain ⟨l, e, hm⟩ := acts_rows (w := w) (M := 1048576) xs ms (by omega) (by omega) h7
  exact ⟨A, n, c, l, rfl, ⟨by rw [e]; exact h6, hm⟩, h1, h2⟩
def totA (l : List AV) (i : Nat) : Nat := ((l.take i).map fun x => x.n).sum
theorem totA_succ (l : List AV) (i : Nat) (hi : i < l.length) : totA l (i + 1) = totA l i + (l.getD i av0).n := by
  unfold totA
  rw [List.take_succ_eq_append_getElem hi, List.map_append, List.sum_append]
  simp only [List.map_cons, List.map_nil, List.sum_cons, List.sum_nil, Nat.add_zero]
  rw [List.getD_eq_getElem?_getD, List.getElem?_eq_getElem hi]
  rfl
theorem long_c26 (A : Option Addr) (n c : Nat) (l : List AV) (w : World) (h : Acts w A n l) (hn : n ≤ 9223372036854775807) :
    Ret Try.prog 26 [.slice A n c] w (fun v w' => (v = .bool true ∨ v = .bool false ∧ n ≤ 2500) ∧ Ext w w') := by
  have hl := h.len
  refine ret_T (n := 30) Try.func26 rfl rfl ?_
  repeat (first | refine T_seq ?_ | refine T_region ?_ | refine T_block ?_ | refine TL_nil ?_ | refine TL_assign (hk := ?_))
  refine T_loop (ι := Nat) (fun i => [(4, .int .i64 (i : Int)), (3, .int .i64 ((totA l i : Nat) : Int)), (0, .slice A n c)]) (fun i w' => Ext w w' ∧ i ≤ n ∧ i ≤ 2501 ∧ totA l i ≤ i * 1048576) (fun i => n - i) 0 (.c rfl (.c rfl (.c rfl (.n)))) ⟨Mod.refl _ _, Nat.zero_le _, Nat.zero_le _, by simp [totA]⟩ ?_
  rintro i w1 ⟨e1, hi, hi2, ht⟩ ih
  have h1 := h.rd.be e1
  by_cases hlt : i < n
  · by_cases hlt2 : i ≤ 2500
    · have hA : A ≠ none := by obtain ⟨_, _, hq, _⟩ := h1.2 (by omega); rw [hq]; simp
      have hv1 := avs_at1 l i (by omega)
      have hsu := totA_succ l i (by omega)
      have hb := (h.get i hlt).2.2.1
      generalize l.getD i av0 = x at hv1 hsu hb
      have hc : ((totA l i : Nat) : Int) + (x.n : Int) = ((totA l (i + 1) : Nat) : Int) := by omega
      repeat (first | refine T_seq ?_ | refine T_region ?_ | refine T_cond_true rfl ?_ | refine T_block ?_ | refine T_inBlock ?_ | refine T_skip ?_ | refine TL_add (hk := ?_) | refine TL_lt_t (hk := ?_) | refine TL_le_t (hk := ?_) | refine TL_nil ?_ | refine TL_move (hk := ?_) | refine TL_assign (hk := ?_) | refine TL_load_rd TE (hk := ?_) | refine TL_fieldAddr_e TE (hk := ?_) | refine TL_indexAddrn TE (hk := ?_) | refine TL_len TE (hk := ?_) | refine TL_yes (hk := ?_) | refine TL_pick_t (hk := ?_))
      rw [hc]
      --
      exact ih (i + 1) _ _ (by omega) ⟨e1, by omega, by omega, by omega⟩ (.c rfl (.c rfl (.c rfl (.n))))
    · have : 2500 < n := by omega
      clear ih
      repeat (first | refine T_seq ?_ | refine T_region ?_ | refine T_cond_false rfl ?_ | refine T_exit rfl ?_ | refine TL_lt_t (hk := ?_) | refine TL_le_f (hk := ?_) | refine TL_gt_t (hk := ?_) | refine TL_nil ?_ | refine TL_move (hk := ?_) | refine TL_assign (hk := ?_) | refine TL_len TE (hk := ?_) | refine TL_yes (hk := ?_) | refine TL_no (hk := ?_) | refine TL_pick_t (hk := ?_))
      exact T_ret1 rfl rfl ⟨.inl rfl, e1⟩
  · have : n = i := by omega
    subst this
    clear ih
    by_cases h40 : 2500 < n
    · repeat (first | refine T_seq ?_ | refine T_region ?_ | refine T_cond_false rfl ?_ | refine T_exit rfl ?_ | refine TL_lt_f (hk := ?_) | refine TL_gt_t (hk := ?_) | refine TL_nil ?_ | refine TL_move (hk := ?_) | refine TL_assign (hk := ?_) | refine TL_len TE (hk := ?_) | refine TL_no (hk := ?_) | refine TL_pick_t (hk := ?_) | refine TL_pick_f (hk := ?_))
      exact T_ret1 rfl rfl ⟨.inl rfl, e1⟩
    · by_cases h15 : 400000 < totA l n
      · repeat (first | refine T_seq ?_ | refine T_region ?_ | refine T_cond_false rfl ?_ | refine T_exit rfl ?_ | refine TL_lt_f (hk := ?_) | refine TL_gt_t (hk := ?_) | refine TL_gt_f (hk := ?_) | refine TL_nil ?_ | refine TL_move (hk := ?_) | refine TL_assign (hk := ?_) | refine TL_len TE (hk := ?_) | refine TL_yes (hk := ?_) | refine TL_no (hk := ?_) | refine TL_pick_f (hk := ?_))
        exact T_ret1 rfl rfl ⟨.inl rfl, e1⟩
      · repeat (first | refine T_seq ?_ | refine T_region ?_ | refine T_cond_false rfl ?_ | refine T_exit rfl ?_ | refine TL_lt_f (hk := ?_) | refine TL_gt_f (hk := ?_) | refine TL_nil ?_ | refine TL_move (hk := ?_) | refine TL_assign (hk := ?_) | refine TL_len TE (hk := ?_) | refine TL_yes (hk := ?_) | refine TL_no (hk := ?_) | refine TL_pick_f (hk := ?_))
        exact T_ret1 rfl rfl ⟨.inr ⟨rfl, by omega⟩, e1⟩
end Go.Proofs.Ytjjgojgahibpgaa

/- Never more than a window: of one end, whatever comes. -/
namespace Go.Proofs.Ytjjgojgahibpgaa
open Go.Proofs.Eng Go.Proofs.Codec Go.Proofs.Link
set_option linter.unusedSimpArgs false
set_option linter.unusedVariables false
theorem pig : ∀ (n : Nat) (l : List Nat), l.Nodup → (∀ x ∈ l, x < n) → l.length ≤ n
  | 0, l, _, h => by
    cases l with
    | nil => simp
    | cons a t => have := h a List.mem_cons_self; omega
  | n + 1, l, hn, h => by
    have h1 := pig n (l.erase n) (hn.erase n) (fun x hx => by
      have h2 := (hn.mem_erase_iff).1 hx
      have := h x h2.2
      have := h2.1
      omega)
    rw [List.length_erase] at h1
    split at h1 <;> omega
theorem pig2 {a W : Nat} {l : List Nat} (hn : l.Nodup) (h : ∀ x ∈ l, a < x ∧ x < a + W) : l.length ≤ W := by
  have h1 := pig W (l.map (· - a)) (by
    rw [List.nodup_iff_pairwise_ne, List.pairwise_map]
    rw [List.nodup_iff_pairwise_ne] at hn
    refine hn.imp_of_mem (fun {x y} hx hy hne e => ?_)
    have := h x hx
    have := h y hy
    omega) (fun x hx => by
      obtain ⟨y, hy, rfl⟩ := List.mem_map.1 hx
      have := h y hy
      omega)
  simpa using h1
structure WinI (W P i : Nat) (es : ES) : Prop where
  wi : es.win = W
  pa : es.pat = P
  nx : es.next + es.new.length ≤ i
  fn : es.fly.length ≤ es.next
  fw : es.fly.length ≤ W
  nl : es.new.length ≤ 1024
  nb : ∀ b ∈ es.new, b.length ≤ 4096
  fb : ∀ q ∈ es.fly, q.body.length ≤ 4096 ∧ q.seq < es.next ∧ q.age < P
  eh : es.exp + es.held.length ≤ i
  ch : es.come.length + es.held.length ≤ i
  hk : (es.held.map (·.1)).Nodup
  hr : ∀ k ∈ es.held.map (·.1), es.exp < k ∧ k < es.exp + W
theorem WinI.new {W P : Nat} : WinI W P 0 (nE W P) := ⟨rfl, rfl, by simp [nE], by simp [nE], by simp [nE], by simp [nE], by simp [nE], by simp [nE], by simp [nE], by simp [nE], by simp [nE], by simp [nE]⟩
theorem WinI.ok {W P i : Nat} {es : ES} (h : WinI W P i es) (hW : 1 ≤ W ∧ W ≤ 256) (hP : 1 ≤ P ∧ P ≤ 1000) (hi : i ≤ 3000) : OkE es :=
  { tot := by have := h.nl; have := h.fw; omega, nx := by have := h.nx; omega, ex := by have := h.eh; omega, nb := h.nb, fb := fun q hq => ⟨(h.fb q hq).1, by have := (h.fb q hq).2.1; have := h.nx; omega, by have := (h.fb q hq).2.2; omega⟩, hl := by have := h.ch; omega, wi := by rw [h.wi]; exact hW, pa := by rw [h.pa]; exact hP }
theorem WinI.held {W P i : Nat} {es : ES} (h : WinI W P i es) : es.held.length ≤ W := by
  have := pig2 h.hk h.hr
  simpa using this
theorem WinI.mono {W P i j : Nat} {es : ES} (h : WinI W P i es) (hj : i ≤ j) : WinI W P j es := { h with nx := Nat.le_trans h.nx hj, eh := Nat.le_trans h.eh hj, ch := Nat.le_trans h.ch hj }
theorem WinI.send {W P i : Nat} {es : ES} (h : WinI W P i es) (b : Bs) : WinI W P (i + 1) (sendE es b).1 := by
  unfold sendE
  by_cases h1 : 4096 < b.length
  · rw [if_pos h1]; exact h.mono (by omega)
  · rw [if_neg h1]
    by_cases h2 : es.new.length = 1024
    · rw [if_pos h2]; exact h.mono (by omega)
    · rw [if_neg h2]
      have a1 := h.nx
      have a2 := h.nl
      have a3 := h.eh
      have a4 := h.ch
      refine { h with nx := ?_, nl := ?_, nb := fun x hx => ?_, eh := ?_, ch := ?_ }
      · simp; omega
      · simp; omega
      · rcases List.mem_append.1 hx with hx | hx
        · exact h.nb x hx
        · rw [List.mem_singleton.1 hx]; omega
      · simp only; omega
      · simp only; omega
theorem WinI.fill {W P : Nat} (hP : 1 ≤ P) : ∀ (f i : Nat) {es : ES}, WinI W P i es → WinI W P i (fillE f es)
  | 0, i, es, h => h
  | f + 1, i, es, h => by
    rw [fillE_succ]
    by_cases h1 : es.fly.length < es.win
    · rw [if_pos h1]
      cases hn : es.new with
      | nil => exact h
      | cons b t =>
        refine WinI.fill hP f i ?_
        have a1 := h.nx
        have a2 := h.nl
        have a3 := h.fn
        have a4 := h.nb
        have a5 := h.wi
        rw [hn] at a1 a2 a4
        simp only [List.length_cons] at a1 a2
        refine { h with nx := ?_, fn := ?_, fw := ?_, nl := ?_, nb := fun x hx => a4 x (List.mem_cons_of_mem _ hx), fb := fun q hq => ?_ }
        · simp only; omega
        · simp; omega
        · simp; omega
        · simp only; omega
        · rcases List.mem_append.1 hq with hq | hq
          · have := h.fb q hq
            exact ⟨this.1, by simp only; omega, this.2.2⟩
          · rw [List.mem_singleton.1 hq]
            exact ⟨a4 b List.mem_cons_self, by simp, by simp; omega⟩
    · rw [if_neg h1]; exact h
theorem WinI.out {W P i : Nat} {es : ES} (hP : 1 ≤ P) (h : WinI W P i es) : WinI W P i (outE es).1 := by
  have h1 := WinI.fill hP es.new.length i h
  refine { h1 with fn := ?_, fw := ?_, fb := fun q hq => ?_ }
  · simp only [outE, List.length_map]; exact h1.fn
  · simp only [outE, List.length_map]; exact h1.fw
  · obtain ⟨q0, hq0, rfl⟩ := List.mem_map.1 hq
    exact h1.fb q0 hq0
theorem WinI.tick {W P i : Nat} {es : ES} (hP : 1 ≤ P) (h : WinI W P i es) : WinI W P i (tickE es) := by
  have e1 := h.pa
  refine { h with fn := ?_, fw := ?_, fb := fun q hq => ?_ }
  · simp only [tickE, List.length_map]; exact h.fn
  · simp only [tickE, List.length_map]; exact h.fw
  · obtain ⟨q0, hq0, rfl⟩ := List.mem_map.1 hq
    have := h.fb q0 hq0
    unfold tickM
    split
    · exact ⟨this.1, this.2.1, by simp only; omega⟩
    · exact ⟨this.1, this.2.1, by simp only; omega⟩
theorem WinI.next {W P i : Nat} {es : ES} (h : WinI W P i es) {b : Bs} {t : List Bs} (hc : es.come = b :: t) : WinI W P i { es with come := t } :=
  { h with ch := by have := h.ch; rw [hc] at this; simp only [List.length_cons] at this ⊢; omega }
theorem mget_key {α : Type} : ∀ (l : List (Nat × α)) (k : Nat), mget l k = none ↔ k ∉ l.map (·.1)
  | [], k => by simp [mget]
  | x :: l, k => by
    unfold mget
    by_cases e : x.1 = k
    · rw [if_pos e]; simp [e]
    · rw [if_neg e, mget_key l k]
      have : ¬ k = x.1 := fun q => e q.symm
      simp [this]
theorem mdel_keys {α : Type} : ∀ (l : List (Nat × α)) (k : Nat), ((mdel l k).map (·.1)).Sublist (l.map (·.1)) ∧ ((l.map (·.1)).Nodup → k ∉ (mdel l k).map (·.1))
  | [], k => by simp [mdel]
  | x :: l, k => by
    unfold mdel
    obtain ⟨h1, h2⟩ := mdel_keys l k
    by_cases e : x.1 = k
    · rw [if_pos e]
      refine ⟨by rw [List.map_cons]; exact List.sublist_cons_self _ _, fun hn => ?_⟩
      rw [List.map_cons, List.nodup_cons, e] at hn
      exact hn.1
    · rw [if_neg e]
      refine ⟨by rw [List.map_cons, List.map_cons]; exact h1.cons_cons _, fun hn => ?_⟩
      rw [List.map_cons, List.nodup_cons] at hn
      rw [List.map_cons, List.mem_cons, not_or]
      exact ⟨fun q => e q.symm, h2 hn.2⟩
/-- As it drains: the numbers held are from the next one on. -/
structure DrI (W P i : Nat) (es : ES) : Prop where
  wi : es.win = W
  pa : es.pat = P
  nx : es.next + es.new.length ≤ i
  fn : es.fly.length ≤ es.next
  fw : es.fly.length ≤ W
  nl : es.new.length ≤ 1024
  nb : ∀ b ∈ es.new, b.length ≤ 4096
  fb : ∀ q ∈ es.fly, q.body.length ≤ 4096 ∧ q.seq < es.next ∧ q.age < P
  eh : es.exp + es.held.length ≤ i
  ch : es.come.length + es.held.length ≤ i
  hk : (es.held.map (·.1)).Nodup
  hr : ∀ k ∈ es.held.map (·.1), es.exp ≤ k ∧ k < es.exp + W
theorem DrI.drain {W P i : Nat} : ∀ (f : Nat) {es : ES}, es.held.length ≤ f → DrI W P i es → WinI W P i (drainE f es)
  | 0, es, hf, h => by
    have h0 : es.held = [] := List.eq_nil_of_length_eq_zero (by omega)
    exact ⟨h.wi, h.pa, h.nx, h.fn, h.fw, h.nl, h.nb, h.fb, h.eh, h.ch, h.hk, by show ∀ k ∈ es.held.map (·.1), _; rw [h0]; simp⟩
  | f + 1, es, hf, h => by
    unfold drainE
    cases hg : mget es.held es.exp with
    | none =>
      have hne := (mget_key _ _).1 hg
      exact ⟨h.wi, h.pa, h.nx, h.fn, h.fw, h.nl, h.nb, h.fb, h.eh, h.ch, h.hk, fun k hk => by
        have := h.hr k hk
        have : k ≠ es.exp := fun q => hne (q ▸ hk)
        show es.exp < k ∧ k < es.exp + W
        omega⟩
    | some b =>
      have hl := mdel_len _ _ _ hg
      obtain ⟨s1, s2⟩ := mdel_keys es.held es.exp
      have s2 := s2 h.hk
      have a1 := h.eh
      have a2 := h.ch
      refine DrI.drain f (by simp only; omega) ⟨h.wi, h.pa, h.nx, h.fn, h.fw, h.nl, h.nb, h.fb, by simp only; omega, by simp; omega, s1.nodup h.hk, fun k hk => ?_⟩
      have := h.hr k (s1.subset hk)
      have : k ≠ es.exp := fun q => s2 (q ▸ hk)
      simp only
      omega
theorem WinI.recv {W P i : Nat} {es : ES} (h : WinI W P i es) (b : Bs) : WinI W P (i + 1) (recvE es b).1 := by
  unfold recvE
  have hkd := (parseF_lt b).2.2
  obtain ⟨pf, hpf⟩ : ∃ q, parseF b = q := ⟨_, rfl⟩
  rw [hpf] at hkd ⊢
  obtain ⟨kd, sq, ak, bd, ok⟩ := pf
  simp only at hkd ⊢
  have h0 := h.mono (j := i + 1) (by omega)
  split
  · exact h0
  rename_i g1
  split
  · exact h0
  split
  · exact h0
  rename_i g3
  have hf : (ackE es ak).fly.length ≤ es.fly.length := List.length_filter_le _ _
  have ha : WinI W P i (ackE es ak) := { h with fn := by have := h.fn; show (ackE es ak).fly.length ≤ es.next; omega, fw := by have := h.fw; omega, fb := fun q hq => h.fb q (List.mem_filter.1 hq).1 }
  split
  · exact ha.mono (by omega)
  rename_i g4
  unfold dataE holdE
  by_cases g5 : (ackE es ak).exp ≤ sq ∧ (mget (ackE es ak).held sq).isSome = false
  · simp only
    rw [if_pos g5]
    have hnone : mget (ackE es ak).held sq = none := by
      cases hq : mget (ackE es ak).held sq with
      | none => rfl
      | some _ => rw [hq] at g5; cases g5.2
    have hnk := (mget_key _ _).1 hnone
    refine DrI.drain _ (Nat.le_refl _) ?_
    have hk1 : kd = 1 := by
      rcases hkd (by simpa using g1) with q | q
      · exact q
      · exact absurd q g4
    have hlt : sq < es.exp + W := by
      have a1 : es.exp ≤ sq := g5.1
      have a2 := h.wi
      by_cases q : es.win ≤ sq - es.exp
      · exact absurd ⟨hk1, a1, q⟩ g3
      · omega
    have a3 := ha.eh
    have a4 := ha.ch
    have hb := ha.mono (j := i + 1) (by omega)
    rw [mput_new _ _ _ hnone]
    refine ⟨hb.wi, hb.pa, hb.nx, hb.fn, hb.fw, hb.nl, hb.nb, hb.fb, ?_, ?_, ?_, fun k hk => ?_⟩
    · simp only [List.length_append, List.length_cons, List.length_nil]; omega
    · simp only [List.length_append, List.length_cons, List.length_nil]; omega
    · simp only [List.map_append, List.map_cons, List.map_nil]
      rw [List.nodup_append]
      refine ⟨ha.hk, by simp, fun x hx y hy e => ?_⟩
      simp only [List.mem_singleton] at hy
      rw [e, hy] at hx
      exact hnk hx
    · simp only [List.map_append, List.map_cons, List.map_nil, List.mem_append, List.mem_singleton] at hk
      rcases hk with hk | rfl
      · have := hb.hr k hk
        exact ⟨Nat.le_of_lt this.1, this.2⟩
      · exact ⟨g5.1, hlt⟩
  · simp only
    rw [if_neg g5]
    refine DrI.drain _ (Nat.le_refl _) ?_
    have hb := ha.mono (j := i + 1) (by omega)
    exact ⟨hb.wi, hb.pa, hb.nx, hb.fn, hb.fw, hb.nl, hb.nb, hb.fb, hb.eh, hb.ch, hb.hk, fun k hk => by have := hb.hr k hk; exact ⟨Nat.le_of_lt this.1, this.2⟩⟩
end Go.Proofs.Ytjjgojgahibpgaa

namespace Go.Proofs.Ytjjgojgahibpgaa
open Go.RowKit Go.Proofs.Eng Go.Proofs.Codec Go.Proofs.Link
set_option linter.unusedSimpArgs false
set_option linter.unusedVariables false set_option maxRecDepth 10000
attribute [local irreducible] T TL LV TH TA
set_option maxHeartbeats 3200000
theorem LinkWindows_c (W P : Int) (v0 : Value) (w : World) {base : Nat} (hW : -9223372036854775808 ≤ W ∧ W ≤ 9223372036854775807) (hP : -9223372036854775808 ≤ P ∧ P ≤ 9223372036854775807) (hM : 1048576 ≤ 1048576) (hv : ReadsB Try.prog w base 59 v0 1048576) :
    Ret Try.prog 5 [.int .i64 W, .int .i64 P, v0] w (fun v w' => v = .bool true ∧ Ext w w') := by
  obtain ⟨A, n, c, l, rfl, hA, hnc, hcm⟩ := acts_in hv
  unfold maxLen at hcm
  have hl := hA.len
  clear hv hM
  refine ret_T (n := 105) Try.func5 rfl rfl ?_
  repeat (first | refine T_seq ?_ | refine T_region ?_ | refine TL_nil ?_ | refine TL_move (hk := ?_) | refine TL_assign (hk := ?_))
  refine TL_call TE (hc := long_c26 A n c l _ hA (by omega)) (hk := ?_)
  rintro _ w1 ⟨rfl | ⟨rfl, hn⟩, e1⟩
  · repeat (first | refine T_seq ?_ | refine T_region ?_ | refine T_cond_true rfl ?_ | refine TL_nil ?_)
    refine TL_call TE (hc := live_c26 _) (hk := ?_)
    rintro _ w2 ⟨rfl, e2⟩
    repeat (first | refine TL_nil ?_ | refine TL_assign (hk := ?_))
    exact T_ret1 rfl rfl ⟨rfl, e1.ext e2⟩
  repeat (first | refine T_seq ?_ | refine T_region ?_ | refine T_cond_false rfl ?_ | refine T_skip ?_ | refine TL_nil ?_ | refine TL_move (hk := ?_))
  refine TL_call TE (hc := New_c W P _ hW hP) (hk := ?_)
  rintro _ w2 ⟨e2, ⟨hg, rfl⟩ | ⟨hg, p, m, f, rfl, hE⟩⟩
  · repeat (first | refine T_seq ?_ | refine T_region ?_ | refine TL_nil ?_ | refine TL_move (hk := ?_) | refine TL_assign (hk := ?_) | refine TL_extract (hk := ?_))
    refine TL_call TE (hc := num_c26 _ _) (hk := ?_)
    rintro _ w2 ⟨rfl, rfl⟩
    repeat (first | refine T_seq ?_ | refine T_region ?_ | refine T_cond_true rfl ?_ | refine TL_ne_t (hk := ?_) | refine TL_nil ?_ | refine TL_move (hk := ?_) | refine TL_no (hk := ?_) | refine TL_pick_t (hk := ?_))
    refine TL_call TE (hc := num_c26 _ _) (hk := ?_)
    rintro _ w2 ⟨rfl, rfl⟩
    repeat (first | refine TL_ne_t (hk := ?_) | refine TL_pnil_t TE (hk := ?_) | refine TL_beq TE (hk := ?_) | refine TL_move (hk := ?_) | refine TL_yes (hk := ?_))
    refine TL_call TE (hc := live_c26 _) (hk := ?_)
    rintro _ w3 ⟨rfl, e3⟩
    repeat (first | refine TL_nil ?_ | refine TL_assign (hk := ?_) | refine TL_pick_t (hk := ?_))
    exact T_ret1 rfl rfl ⟨rfl, (e1.ext e2).ext e3⟩
  unfold goodE at hg
  rw [decide_eq_true_eq] at hg
  obtain ⟨Wn, rfl⟩ := Int.eq_ofNat_of_zero_le (show 0 ≤ W by omega)
  obtain ⟨Pn, rfl⟩ := Int.eq_ofNat_of_zero_le (show 0 ≤ P by omega)
  replace hE : EndM w2 w1.heap.size p m f (nE Wn Pn) := hE
  have hWn : 1 ≤ Wn ∧ Wn ≤ 256 := by omega
  have hPn : 1 ≤ Pn ∧ Pn ≤ 1000 := by omega
  have z1 := e1.size
  repeat (first | refine T_seq ?_ | refine T_region ?_ | refine TL_nil ?_ | refine TL_move (hk := ?_) | refine TL_assign (hk := ?_) | refine TL_extract (hk := ?_))
  refine TL_call TE (hc := num_c26 _ _) (hk := ?_)
  rintro _ w2 ⟨rfl, rfl⟩
  repeat (first | refine T_seq ?_ | refine T_region ?_ | refine T_cond_false rfl ?_ | refine T_block ?_ | refine T_skip ?_ | refine TL_ne_f (hk := ?_) | refine TL_pnil_f TE (hk := ?_) | refine TL_nil ?_ | refine TL_move (hk := ?_) | refine TL_assign (hk := ?_) | refine TL_yes (hk := ?_) | refine TL_pick_f (hk := ?_))
  refine T_loop (ι := Nat) (fun i => [(9, .int .i64 (i : Int)), (7, ptr p), (0, .int .i64 (Wn : Int)), (2, .slice A n c)])
    (fun i w' => i ≤ n ∧ Ext w w' ∧ ∃ m' f' es', EndM w' w1.heap.size p m' f' es' ∧ WinI Wn Pn i es') (fun i => n - i) 0 (.c rfl (.c rfl (.c rfl (.c rfl (.n))))) ⟨Nat.zero_le _, e1.ext e2, m, f, _, hE, WinI.new⟩ ?_
  clear hE e2
  rintro i w3 ⟨hi, e3, m3, f3, es3, h3, i3⟩ ih
  by_cases hlt : i < n
  · have ok := i3.ok hWn hPn (by omega)
    have h1 := (hA.be e3).rd
    have hAn : A ≠ none := by obtain ⟨_, _, hq, _⟩ := h1.2 (by omega); rw [hq]; simp
    have hv0 := avs_at0 l i (by omega)
    have hv1 := avs_at1 l i (by omega)
    obtain ⟨hb, hbc, hbn, hk1, hk2⟩ := (hA.be e3).get i hlt
    generalize l.getD i av0 = x at hv0 hv1 hb hbc hbn hk1 hk2
    have hold : ∀ b, f3 b ≠ 0 → w.heap.size ≤ b := fun b q => by have := (h3.ki.old b q).1; omega
    have hnl := i3.nl
    by_cases k1 : x.kd = 1
    · repeat (first | refine T_seq ?_ | refine T_region ?_ | refine T_cond_true rfl ?_ | refine T_block ?_ | refine T_skip ?_ | refine TL_lt_t (hk := ?_) | refine TL_eq_t (hk := ?_) | refine TL_nil ?_ | refine TL_move (hk := ?_) | refine TL_assign (hk := ?_) | refine TL_load_rd TE (hk := ?_) | refine TL_fieldAddr_e TE (hk := ?_) | refine TL_indexAddrn TE (hk := ?_) | refine TL_len TE (hk := ?_))
      refine TL_call TE (hc := Send_c x.A x.n x.c x.b _ h3 h3.bw (by omega) hb (by omega)) (hk := ?_)
      rintro _ w4 ⟨rfl, m4, f4, h4, t4⟩
      have e4 := t4.ext0 e3 hold
      have i4 := i3.send x.b
      have b1 := i4.fw
      have b2 := i4.held
      have b3 := i4.fn
      repeat (first | refine T_seq ?_ | refine T_region ?_ | refine T_inBlock ?_ | refine TL_nil ?_ | refine TL_move (hk := ?_))
      refine TL_call TE (hc := Flying_c _ h4) (hk := ?_)
      rintro _ w4 ⟨rfl, rfl⟩
      repeat (first | refine TL_gt_f (hk := ?_) | refine TL_move (hk := ?_) | refine TL_yes (hk := ?_))
      refine TL_call TE (hc := Held_c _ h4) (hk := ?_)
      rintro _ w4 ⟨rfl, rfl⟩
      repeat (first | refine TL_gt_f (hk := ?_) | refine TL_move (hk := ?_) | refine TL_yes (hk := ?_) | refine TL_pick_f (hk := ?_))
      refine TL_call TE (hc := Flying_c _ h4) (hk := ?_)
      rintro _ w4 ⟨rfl, rfl⟩
      repeat (first | refine TL_lt_f (hk := ?_) | refine TL_move (hk := ?_) | refine TL_yes (hk := ?_) | refine TL_pick_f (hk := ?_))
      refine TL_call TE (hc := Held_c _ h4) (hk := ?_)
      rintro _ w4 ⟨rfl, rfl⟩
      repeat (first | refine TL_lt_f (hk := ?_) | refine TL_move (hk := ?_) | refine TL_yes (hk := ?_) | refine TL_pick_f (hk := ?_))
      refine TL_call TE (hc := Flying_c _ h4) (hk := ?_)
      rintro _ w4 ⟨rfl, rfl⟩
      repeat (first | refine TL_move (hk := ?_) | refine TL_yes (hk := ?_) | refine TL_conv TE (hk := ?_))
      refine TL_call TE (hc := Sent_c _ h4) (hk := ?_)
      rintro _ w4 ⟨rfl, rfl⟩
      repeat (first | refine T_region ?_ | refine T_cond_false rfl ?_ | refine T_inBlock ?_ | refine T_skip ?_ | refine TL_add (hk := ?_) | refine TL_gt_f (hk := ?_) | refine TL_nil ?_ | refine TL_move (hk := ?_) | refine TL_assign (hk := ?_) | refine TL_yes (hk := ?_) | refine TL_pick_f (hk := ?_))
      exact ih (i + 1) w4 _ (by omega) ⟨by omega, e4, m4, f4, _, h4, i4⟩ (.c rfl (.c rfl (.c rfl (.c rfl (.n)))))
    by_cases k2 : x.kd = 2
    · repeat (first | refine T_seq ?_ | refine T_region ?_ | refine T_cond_true rfl ?_ | refine T_cond_false rfl ?_ | refine T_block ?_ | refine T_skip ?_ | refine TL_lt_t (hk := ?_) | refine TL_eq_t (hk := ?_) | refine TL_eq_f (hk := ?_) | refine TL_nil ?_ | refine TL_move (hk := ?_) | refine TL_assign (hk := ?_) | refine TL_load_rd TE (hk := ?_) | refine TL_fieldAddr_e TE (hk := ?_) | refine TL_indexAddrn TE (hk := ?_) | refine TL_len TE (hk := ?_))
      refine TL_call TE (hc := Out_c _ h3 h3.bw ok) (hk := ?_)
      rintro _ w4 ⟨O, xs, m4, f4, rfl, h4, t4, -⟩
      have e4 := t4.ext0 e3 hold
      have i4 := (i3.out hPn.1).mono (Nat.le_succ _)
      have b1 := i4.fw
      have b2 := i4.held
      have b3 := i4.fn
      repeat (first | refine T_seq ?_ | refine T_region ?_ | refine T_inBlock ?_ | refine TL_nil ?_ | refine TL_move (hk := ?_))
      refine TL_call TE (hc := Flying_c _ h4) (hk := ?_)
      rintro _ w4 ⟨rfl, rfl⟩
      repeat (first | refine TL_gt_f (hk := ?_) | refine TL_move (hk := ?_) | refine TL_yes (hk := ?_))
      refine TL_call TE (hc := Held_c _ h4) (hk := ?_)
      rintro _ w4 ⟨rfl, rfl⟩
      repeat (first | refine TL_gt_f (hk := ?_) | refine TL_move (hk := ?_) | refine TL_yes (hk := ?_) | refine TL_pick_f (hk := ?_))
      refine TL_call TE (hc := Flying_c _ h4) (hk := ?_)
      rintro _ w4 ⟨rfl, rfl⟩
      repeat (first | refine TL_lt_f (hk := ?_) | refine TL_move (hk := ?_) | refine TL_yes (hk := ?_) | refine TL_pick_f (hk := ?_))
      refine TL_call TE (hc := Held_c _ h4) (hk := ?_)
      rintro _ w4 ⟨rfl, rfl⟩
      repeat (first | refine TL_lt_f (hk := ?_) | refine TL_move (hk := ?_) | refine TL_yes (hk := ?_) | refine TL_pick_f (hk := ?_))
      refine TL_call TE (hc := Flying_c _ h4) (hk := ?_)
      rintro _ w4 ⟨rfl, rfl⟩
      repeat (first | refine TL_move (hk := ?_) | refine TL_yes (hk := ?_) | refine TL_conv TE (hk := ?_))
      refine TL_call TE (hc := Sent_c _ h4) (hk := ?_)
      rintro _ w4 ⟨rfl, rfl⟩
      repeat (first | refine T_region ?_ | refine T_cond_false rfl ?_ | refine T_inBlock ?_ | refine T_skip ?_ | refine TL_add (hk := ?_) | refine TL_gt_f (hk := ?_) | refine TL_nil ?_ | refine TL_move (hk := ?_) | refine TL_assign (hk := ?_) | refine TL_yes (hk := ?_) | refine TL_pick_f (hk := ?_))
      exact ih (i + 1) w4 _ (by omega) ⟨by omega, e4, m4, f4, _, h4, i4⟩ (.c rfl (.c rfl (.c rfl (.c rfl (.n)))))
    by_cases k3 : x.kd = 3
    · repeat (first | refine T_seq ?_ | refine T_region ?_ | refine T_cond_true rfl ?_ | refine T_cond_false rfl ?_ | refine T_block ?_ | refine T_skip ?_ | refine TL_lt_t (hk := ?_) | refine TL_eq_t (hk := ?_) | refine TL_eq_f (hk := ?_) | refine TL_nil ?_ | refine TL_move (hk := ?_) | refine TL_assign (hk := ?_) | refine TL_load_rd TE (hk := ?_) | refine TL_fieldAddr_e TE (hk := ?_) | refine TL_indexAddrn TE (hk := ?_) | refine TL_len TE (hk := ?_))
      refine TL_call TE (hc := Receive_c x.A x.n x.c x.b _ h3 h3.bw ok hb (by omega) hbc) (hk := ?_)
      rintro _ w4 ⟨rfl, m4, f4, h4, t4⟩
      have e4 := t4.ext0 e3 hold
      have i4 := i3.recv x.b
      have b1 := i4.fw
      have b2 := i4.held
      have b3 := i4.fn
      repeat (first | refine T_seq ?_ | refine T_region ?_ | refine T_inBlock ?_ | refine TL_nil ?_ | refine TL_move (hk := ?_))
      refine TL_call TE (hc := Flying_c _ h4) (hk := ?_)
      rintro _ w4 ⟨rfl, rfl⟩
      repeat (first | refine TL_gt_f (hk := ?_) | refine TL_move (hk := ?_) | refine TL_yes (hk := ?_))
      refine TL_call TE (hc := Held_c _ h4) (hk := ?_)
      rintro _ w4 ⟨rfl, rfl⟩
      repeat (first | refine TL_gt_f (hk := ?_) | refine TL_move (hk := ?_) | refine TL_yes (hk := ?_) | refine TL_pick_f (hk := ?_))
      refine TL_call TE (hc := Flying_c _ h4) (hk := ?_)
      rintro _ w4 ⟨rfl, rfl⟩
      repeat (first | refine TL_lt_f (hk := ?_) | refine TL_move (hk := ?_) | refine TL_yes (hk := ?_) | refine TL_pick_f (hk := ?_))
      refine TL_call TE (hc := Held_c _ h4) (hk := ?_)
      rintro _ w4 ⟨rfl, rfl⟩
      repeat (first | refine TL_lt_f (hk := ?_) | refine TL_move (hk := ?_) | refine TL_yes (hk := ?_) | refine TL_pick_f (hk := ?_))
      refine TL_call TE (hc := Flying_c _ h4) (hk := ?_)
      rintro _ w4 ⟨rfl, rfl⟩
      repeat (first | refine TL_move (hk := ?_) | refine TL_yes (hk := ?_) | refine TL_conv TE (hk := ?_))
      refine TL_call TE (hc := Sent_c _ h4) (hk := ?_)
      rintro _ w4 ⟨rfl, rfl⟩
      repeat (first | refine T_region ?_ | refine T_cond_false rfl ?_ | refine T_inBlock ?_ | refine T_skip ?_ | refine TL_add (hk := ?_) | refine TL_gt_f (hk := ?_) | refine TL_nil ?_ | refine TL_move (hk := ?_) | refine TL_assign (hk := ?_) | refine TL_yes (hk := ?_) | refine TL_pick_f (hk := ?_))
      exact ih (i + 1) w4 _ (by omega) ⟨by omega, e4, m4, f4, _, h4, i4⟩ (.c rfl (.c rfl (.c rfl (.c rfl (.n)))))
    by_cases k4 : x.kd = 4
    · have hx := Next_c _ h3
      unfold nextE at hx
      cases hc : es3.come with
      | nil =>
        rw [hc] at hx
        simp only at hx
        repeat (first | refine T_seq ?_ | refine T_region ?_ | refine T_cond_true rfl ?_ | refine T_cond_false rfl ?_ | refine T_block ?_ | refine T_skip ?_ | refine TL_lt_t (hk := ?_) | refine TL_eq_t (hk := ?_) | refine TL_eq_f (hk := ?_) | refine TL_nil ?_ | refine TL_move (hk := ?_) | refine TL_assign (hk := ?_) | refine TL_load_rd TE (hk := ?_) | refine TL_fieldAddr_e TE (hk := ?_) | refine TL_indexAddrn TE (hk := ?_) | refine TL_len TE (hk := ?_))
        refine TL_call TE (hc := hx) (hk := ?_)
        rintro _ w4 ⟨rfl, rfl⟩
        have i4 := i3.mono (Nat.le_succ i)
        have b1 := i4.fw
        have b2 := i4.held
        have b3 := i4.fn
        repeat (first | refine T_seq ?_ | refine T_region ?_ | refine T_inBlock ?_ | refine TL_nil ?_ | refine TL_move (hk := ?_))
        refine TL_call TE (hc := Flying_c _ h3) (hk := ?_)
        rintro _ w4 ⟨rfl, rfl⟩
        repeat (first | refine TL_gt_f (hk := ?_) | refine TL_move (hk := ?_) | refine TL_yes (hk := ?_))
        refine TL_call TE (hc := Held_c _ h3) (hk := ?_)
        rintro _ w4 ⟨rfl, rfl⟩
        repeat (first | refine TL_gt_f (hk := ?_) | refine TL_move (hk := ?_) | refine TL_yes (hk := ?_) | refine TL_pick_f (hk := ?_))
        refine TL_call TE (hc := Flying_c _ h3) (hk := ?_)
        rintro _ w4 ⟨rfl, rfl⟩
        repeat (first | refine TL_lt_f (hk := ?_) | refine TL_move (hk := ?_) | refine TL_yes (hk := ?_) | refine TL_pick_f (hk := ?_))
        refine TL_call TE (hc := Held_c _ h3) (hk := ?_)
        rintro _ w4 ⟨rfl, rfl⟩
        repeat (first | refine TL_lt_f (hk := ?_) | refine TL_move (hk := ?_) | refine TL_yes (hk := ?_) | refine TL_pick_f (hk := ?_))
        refine TL_call TE (hc := Flying_c _ h3) (hk := ?_)
        rintro _ w4 ⟨rfl, rfl⟩
        repeat (first | refine TL_move (hk := ?_) | refine TL_yes (hk := ?_) | refine TL_conv TE (hk := ?_))
        refine TL_call TE (hc := Sent_c _ h3) (hk := ?_)
        rintro _ w4 ⟨rfl, rfl⟩
        repeat (first | refine T_region ?_ | refine T_cond_false rfl ?_ | refine T_inBlock ?_ | refine T_skip ?_ | refine TL_add (hk := ?_) | refine TL_gt_f (hk := ?_) | refine TL_nil ?_ | refine TL_move (hk := ?_) | refine TL_assign (hk := ?_) | refine TL_yes (hk := ?_) | refine TL_pick_f (hk := ?_))
        exact ih (i + 1) w4 _ (by omega) ⟨by omega, e3, m3, f3, _, h3, i4⟩ (.c rfl (.c rfl (.c rfl (.c rfl (.n)))))
      | cons bb bt =>
        rw [hc] at hx
        simp only at hx
        repeat (first | refine T_seq ?_ | refine T_region ?_ | refine T_cond_true rfl ?_ | refine T_cond_false rfl ?_ | refine T_block ?_ | refine T_skip ?_ | refine TL_lt_t (hk := ?_) | refine TL_eq_t (hk := ?_) | refine TL_eq_f (hk := ?_) | refine TL_nil ?_ | refine TL_move (hk := ?_) | refine TL_assign (hk := ?_) | refine TL_load_rd TE (hk := ?_) | refine TL_fieldAddr_e TE (hk := ?_) | refine TL_indexAddrn TE (hk := ?_) | refine TL_len TE (hk := ?_))
        refine TL_call TE (hc := hx) (hk := ?_)
        rintro _ w4 ⟨y, m4, f4, rfl, h4, t4, -⟩
        have e4 := t4.ext0 e3 hold
        have i4 := (i3.next hc).mono (Nat.le_succ i)
        have b1 := i4.fw
        have b2 := i4.held
        have b3 := i4.fn
        repeat (first | refine T_seq ?_ | refine T_region ?_ | refine T_inBlock ?_ | refine TL_nil ?_ | refine TL_move (hk := ?_))
        refine TL_call TE (hc := Flying_c _ h4) (hk := ?_)
        rintro _ w4 ⟨rfl, rfl⟩
        repeat (first | refine TL_gt_f (hk := ?_) | refine TL_move (hk := ?_) | refine TL_yes (hk := ?_))
        refine TL_call TE (hc := Held_c _ h4) (hk := ?_)
        rintro _ w4 ⟨rfl, rfl⟩
        repeat (first | refine TL_gt_f (hk := ?_) | refine TL_move (hk := ?_) | refine TL_yes (hk := ?_) | refine TL_pick_f (hk := ?_))
        refine TL_call TE (hc := Flying_c _ h4) (hk := ?_)
        rintro _ w4 ⟨rfl, rfl⟩
        repeat (first | refine TL_lt_f (hk := ?_) | refine TL_move (hk := ?_) | refine TL_yes (hk := ?_) | refine TL_pick_f (hk := ?_))
        refine TL_call TE (hc := Held_c _ h4) (hk := ?_)
        rintro _ w4 ⟨rfl, rfl⟩
        repeat (first | refine TL_lt_f (hk := ?_) | refine TL_move (hk := ?_) | refine TL_yes (hk := ?_) | refine TL_pick_f (hk := ?_))
        refine TL_call TE (hc := Flying_c _ h4) (hk := ?_)
        rintro _ w4 ⟨rfl, rfl⟩
        repeat (first | refine TL_move (hk := ?_) | refine TL_yes (hk := ?_) | refine TL_conv TE (hk := ?_))
        refine TL_call TE (hc := Sent_c _ h4) (hk := ?_)
        rintro _ w4 ⟨rfl, rfl⟩
        repeat (first | refine T_region ?_ | refine T_cond_false rfl ?_ | refine T_inBlock ?_ | refine T_skip ?_ | refine TL_add (hk := ?_) | refine TL_gt_f (hk := ?_) | refine TL_nil ?_ | refine TL_move (hk := ?_) | refine TL_assign (hk := ?_) | refine TL_yes (hk := ?_) | refine TL_pick_f (hk := ?_))
        exact ih (i + 1) w4 _ (by omega) ⟨by omega, e4, m4, f4, _, h4, i4⟩ (.c rfl (.c rfl (.c rfl (.c rfl (.n)))))
    by_cases k5 : x.kd = 5
    · have hfl := i3.fw
      repeat (first | refine T_seq ?_ | refine T_region ?_ | refine T_cond_true rfl ?_ | refine T_cond_false rfl ?_ | refine T_block ?_ | refine T_skip ?_ | refine TL_lt_t (hk := ?_) | refine TL_eq_t (hk := ?_) | refine TL_eq_f (hk := ?_) | refine TL_nil ?_ | refine TL_move (hk := ?_) | refine TL_assign (hk := ?_) | refine TL_load_rd TE (hk := ?_) | refine TL_fieldAddr_e TE (hk := ?_) | refine TL_indexAddrn TE (hk := ?_) | refine TL_len TE (hk := ?_))
      refine TL_call TE (hc := Tick_c _ h3 (by omega) (fun q hq => (ok.fb q hq).2.2)) (hk := ?_)
      rintro _ w4 ⟨m4, h4, t4⟩
      have e4 := t4.ext0 e3 hold
      have i4 := (i3.tick hPn.1).mono (Nat.le_succ i)
      have b1 := i4.fw
      have b2 := i4.held
      have b3 := i4.fn
      repeat (first | refine T_seq ?_ | refine T_region ?_ | refine T_inBlock ?_ | refine TL_nil ?_ | refine TL_move (hk := ?_))
      refine TL_call TE (hc := Flying_c _ h4) (hk := ?_)
      rintro _ w4 ⟨rfl, rfl⟩
      repeat (first | refine TL_gt_f (hk := ?_) | refine TL_move (hk := ?_) | refine TL_yes (hk := ?_))
      refine TL_call TE (hc := Held_c _ h4) (hk := ?_)
      rintro _ w4 ⟨rfl, rfl⟩
      repeat (first | refine TL_gt_f (hk := ?_) | refine TL_move (hk := ?_) | refine TL_yes (hk := ?_) | refine TL_pick_f (hk := ?_))
      refine TL_call TE (hc := Flying_c _ h4) (hk := ?_)
      rintro _ w4 ⟨rfl, rfl⟩
      repeat (first | refine TL_lt_f (hk := ?_) | refine TL_move (hk := ?_) | refine TL_yes (hk := ?_) | refine TL_pick_f (hk := ?_))
      refine TL_call TE (hc := Held_c _ h4) (hk := ?_)
      rintro _ w4 ⟨rfl, rfl⟩
      repeat (first | refine TL_lt_f (hk := ?_) | refine TL_move (hk := ?_) | refine TL_yes (hk := ?_) | refine TL_pick_f (hk := ?_))
      refine TL_call TE (hc := Flying_c _ h4) (hk := ?_)
      rintro _ w4 ⟨rfl, rfl⟩
      repeat (first | refine TL_move (hk := ?_) | refine TL_yes (hk := ?_) | refine TL_conv TE (hk := ?_))
      refine TL_call TE (hc := Sent_c _ h4) (hk := ?_)
      rintro _ w4 ⟨rfl, rfl⟩
      repeat (first | refine T_region ?_ | refine T_cond_false rfl ?_ | refine T_inBlock ?_ | refine T_skip ?_ | refine TL_add (hk := ?_) | refine TL_gt_f (hk := ?_) | refine TL_nil ?_ | refine TL_move (hk := ?_) | refine TL_assign (hk := ?_) | refine TL_yes (hk := ?_) | refine TL_pick_f (hk := ?_))
      exact ih (i + 1) w4 _ (by omega) ⟨by omega, e4, m4, f3, _, h4, i4⟩ (.c rfl (.c rfl (.c rfl (.c rfl (.n)))))
    have i4 := i3.mono (Nat.le_succ i)
    have b1 := i4.fw
    have b2 := i4.held
    have b3 := i4.fn
    repeat (first | refine T_seq ?_ | refine T_region ?_ | refine T_cond_true rfl ?_ | refine T_cond_false rfl ?_ | refine T_block ?_ | refine T_inBlock ?_ | refine T_skip ?_ | refine TL_lt_t (hk := ?_) | refine TL_eq_f (hk := ?_) | refine TL_nil ?_ | refine TL_move (hk := ?_) | refine TL_assign (hk := ?_) | refine TL_load_rd TE (hk := ?_) | refine TL_fieldAddr_e TE (hk := ?_) | refine TL_indexAddrn TE (hk := ?_) | refine TL_len TE (hk := ?_))
    refine TL_call TE (hc := Flying_c _ h3) (hk := ?_)
    rintro _ w4 ⟨rfl, rfl⟩
    repeat (first | refine TL_gt_f (hk := ?_) | refine TL_move (hk := ?_) | refine TL_yes (hk := ?_))
    refine TL_call TE (hc := Held_c _ h3) (hk := ?_)
    rintro _ w4 ⟨rfl, rfl⟩
    repeat (first | refine TL_gt_f (hk := ?_) | refine TL_move (hk := ?_) | refine TL_yes (hk := ?_) | refine TL_pick_f (hk := ?_))
    refine TL_call TE (hc := Flying_c _ h3) (hk := ?_)
    rintro _ w4 ⟨rfl, rfl⟩
    repeat (first | refine TL_lt_f (hk := ?_) | refine TL_move (hk := ?_) | refine TL_yes (hk := ?_) | refine TL_pick_f (hk := ?_))
    refine TL_call TE (hc := Held_c _ h3) (hk := ?_)
    rintro _ w4 ⟨rfl, rfl⟩
    repeat (first | refine TL_lt_f (hk := ?_) | refine TL_move (hk := ?_) | refine TL_yes (hk := ?_) | refine TL_pick_f (hk := ?_))
    refine TL_call TE (hc := Flying_c _ h3) (hk := ?_)
    rintro _ w4 ⟨rfl, rfl⟩
    repeat (first | refine TL_move (hk := ?_) | refine TL_yes (hk := ?_) | refine TL_conv TE (hk := ?_))
    refine TL_call TE (hc := Sent_c _ h3) (hk := ?_)
    rintro _ w4 ⟨rfl, rfl⟩
    repeat (first | refine T_region ?_ | refine T_cond_false rfl ?_ | refine T_inBlock ?_ | refine T_skip ?_ | refine TL_add (hk := ?_) | refine TL_gt_f (hk := ?_) | refine TL_nil ?_ | refine TL_move (hk := ?_) | refine TL_assign (hk := ?_) | refine TL_yes (hk := ?_) | refine TL_pick_f (hk := ?_))
    exact ih (i + 1) w4 _ (by omega) ⟨by omega, e3, m3, f3, _, h3, i4⟩ (.c rfl (.c rfl (.c rfl (.c rfl (.n)))))
  · have : n = i := by omega
    subst this
    clear ih
    repeat (first | refine T_seq ?_ | refine T_region ?_ | refine T_cond_false rfl ?_ | refine T_exit rfl ?_ | refine TL_lt_f (hk := ?_) | refine TL_nil ?_ | refine TL_move (hk := ?_) | refine TL_len TE (hk := ?_))
    refine TL_call TE (hc := live_c26 _) (hk := ?_)
    rintro _ w4 ⟨rfl, e4⟩
    repeat (first | refine TL_nil ?_ | refine TL_assign (hk := ?_))
    exact T_ret1 rfl rfl ⟨rfl, e3.ext e4⟩
end Go.Proofs.Ytjjgojgahibpgaa
