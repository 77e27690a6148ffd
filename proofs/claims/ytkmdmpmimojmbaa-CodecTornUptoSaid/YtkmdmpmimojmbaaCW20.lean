import Derived.Test.YtkmdmpmimojmbaaCW19
namespace Go.Proofs.Ytkmdmpmimojmbaa
open Go.RowKit Go.Proofs.Eng Go.Proofs.Codec
set_option linter.unusedSimpArgs false
set_option linter.unusedVariables false
attribute [local irreducible] T TL LV TH
set_option maxHeartbeats 2000000

theorem ROpen_c (A : Option Addr) (n c : Nat) (l : List UInt8) (w : World) (h : Rd w A n 1 (bv l)) (hn : n ≤ 7036874417) (hc : n ≤ c) :
    Ret Try.prog 31 [.slice A n c] w (fun v w' => ∃ A' n' c', v = .tuple #[.slice A' n' c', .int .i64 ((openF l).2.1 : Nat), .int .i64 (openF l).2.2] ∧ Ext w w' ∧ Own w' w.heap.size 5 1 A' n' c' (bv (openF l).1)) := by
  have hlen : l.length = n := by simpa using h.1
  have h4 := le4_lt l
  by_cases g0 : n < 4
  · have eo : openF l = ([], 0, 3) := by unfold openF; rw [if_pos (by omega)]
    rw [eo]
    refine ret_T (n := 38) Try.func31 rfl rfl ?_
    repeat (first | refine T_seq ?_ | refine T_region ?_ | refine T_cond_true rfl ?_ | refine TL_lt_t (hk := ?_) | refine TL_nil ?_ | refine TL_move (hk := ?_) | refine TL_assign (hk := ?_) | refine TL_len TE (hk := ?_))
    exact T_ret3 rfl rfl rfl rfl ⟨none, 0, 0, rfl, Mod.refl _ _, Own.nil _ _ _ _⟩
  by_cases g1 : 65536 < le4 l
  · have eo : openF l = ([], 0, 1) := by unfold openF; rw [if_neg (by omega), if_pos g1]
    rw [eo]
    refine ret_T (n := 38) Try.func31 rfl rfl ?_
    repeat (first | refine T_seq ?_ | refine T_region ?_ | refine T_cond_false rfl ?_ | refine T_skip ?_ | refine TL_lt_f (hk := ?_) | refine TL_nil ?_ | refine TL_move (hk := ?_) | refine TL_assign (hk := ?_) | refine TL_len TE (hk := ?_))
    refine TL_call TE (hc := of_c A n c l w h (by omega)) (hk := ?_)
    rintro _ w1 ⟨rfl, e1⟩
    repeat (first | refine T_seq ?_ | refine T_region ?_ | refine T_cond_true rfl ?_ | refine TL_gt_t (hk := ?_) | refine TL_nil ?_ | refine TL_move (hk := ?_) | refine TL_assign (hk := ?_))
    exact T_ret3 rfl rfl rfl rfl ⟨none, 0, 0, rfl, e1, Own.nil _ _ _ _⟩
  by_cases g2 : n < le4 l + 8
  · have eo : openF l = ([], 0, 3) := by unfold openF; rw [if_neg (by omega), if_neg g1, if_pos (by omega)]
    rw [eo]
    refine ret_T (n := 38) Try.func31 rfl rfl ?_
    repeat (first | refine T_seq ?_ | refine T_region ?_ | refine T_cond_false rfl ?_ | refine T_skip ?_ | refine TL_lt_f (hk := ?_) | refine TL_nil ?_ | refine TL_move (hk := ?_) | refine TL_assign (hk := ?_) | refine TL_len TE (hk := ?_))
    refine TL_call TE (hc := of_c A n c l w h (by omega)) (hk := ?_)
    rintro _ w1 ⟨rfl, e1⟩
    repeat (first | refine T_seq ?_ | refine T_region ?_ | refine T_cond_true rfl ?_ | refine T_cond_false rfl ?_ | refine T_skip ?_ | refine TL_add (hk := ?_) | refine TL_lt_t (hk := ?_) | refine TL_gt_f (hk := ?_) | refine TL_nil ?_ | refine TL_move (hk := ?_) | refine TL_assign (hk := ?_) | refine TL_len TE (hk := ?_) | refine TL_conv TE (hk := ?_))
    exact T_ret3 rfl rfl rfl rfl ⟨none, 0, 0, rfl, e1, Own.nil _ _ _ _⟩
  have hcl := crc_lt (l.take (le4 l + 4))
  have hdl := le4_lt (l.drop (le4 l + 4))
  have eo : openF l = if crc (l.take (le4 l + 4)) = le4 (l.drop (le4 l + 4)) then ((l.drop 4).take (le4 l), le4 l + 8, 0) else ([], 0, 12) := by
    unfold openF; rw [if_neg (by omega), if_neg g1, if_neg (by omega)]
  generalize hk : le4 l = k at h4 g1 g2 hcl hdl eo
  have ek : (4 + (k : Int)).toNat = k + 4 := by omega
  have ra : ∀ w', Ext w w' → Rd w' A (k + 4) 1 (bv (l.take (k + 4))) := fun w' e => by
    have := (h.ext e).take (h := k + 4) (by omega)
    simpa [bv] using this
  have rb : ∀ w', Ext w w' → Rd w' (cutA A c (k + 4) 1) (n - (k + 4)) 1 (bv (l.drop (k + 4))) := fun w' e => by
    have := (h.ext e).cut (c := c) (l := k + 4) (h := n) (by omega) (by omega) (by omega)
    have e9 : ((bv l).drop ((k + 4) * 1)).take ((n - (k + 4)) * 1) = bv (l.drop (k + 4)) := by
      rw [List.take_of_length_le (by simp; omega)]; simp [bv]
    rwa [e9] at this
  have rc : ∀ w', Ext w w' → Rd w' (cutA A c 4 1) (k + 4 - 4) 1 (bv ((l.drop 4).take k)) := fun w' e => by
    have := (h.ext e).cut (c := c) (l := 4) (h := k + 4) (by omega) (by omega) (by omega)
    have e9 : ((bv l).drop (4 * 1)).take ((k + 4 - 4) * 1) = bv ((l.drop 4).take k) := by
      rw [show (k + 4 - 4) * 1 = k from by omega]; simp [bv]
    rwa [e9] at this
  by_cases hs : crc (l.take (k + 4)) = le4 (l.drop (k + 4))
  all_goals
    first | rw [if_pos hs] at eo | rw [if_neg hs] at eo
    rw [eo]
    refine ret_T (n := 38) Try.func31 rfl rfl ?_
    repeat (first | refine T_seq ?_ | refine T_region ?_ | refine T_cond_false rfl ?_ | refine T_skip ?_ | refine TL_lt_f (hk := ?_) | refine TL_nil ?_ | refine TL_move (hk := ?_) | refine TL_assign (hk := ?_) | refine TL_len TE (hk := ?_))
    refine TL_call TE (hc := of_c A n c l w h (by omega)) (hk := ?_)
    rintro _ w1 ⟨rfl, e1⟩
    rw [hk]
    repeat (first | refine T_seq ?_ | refine T_region ?_ | refine T_region_q TE.mixed (by kernel_rfl) ?_ | refine T_cond_false rfl ?_ | refine T_skip ?_ | refine TL_add (hk := ?_) | refine TL_lt_f (hk := ?_) | refine TL_gt_f (hk := ?_) | refine TL_nil ?_ | refine TL_move (hk := ?_) | refine TL_assign (hk := ?_) | refine TL_len TE (hk := ?_) | refine TL_slice_hi TE (hk := ?_) | refine TL_conv TE (hk := ?_))
    rw [ek]
    refine TL_call_q TE rfl rfl rfl ((fun w' e' => (RSum_c A (k + 4) c _ w' (ra w' (e1.ext e')) (by omega)).mono fun v w'' ⟨a, b⟩ => ⟨a, b ▸ Mod.refl _ _⟩)) ?_
    repeat (first | refine TL_move (hk := ?_) | refine TL_slice_lo TE (hk := ?_))
    rw [ek]
    refine TL_call_q TE rfl rfl rfl ((fun w' e' => of_c (cutA A c (k + 4) 1) (n - (k + 4)) (c - (k + 4)) _ w' (rb w' (e1.ext e')) (by omega))) ?_
    repeat (first | refine TL_ne_t (hk := ?_) | refine TL_ne_f (hk := ?_))
    refine TL_nil_q ?_; intro w2 e2
    repeat (first | refine T_seq ?_ | refine T_region ?_ | refine T_cond_true rfl ?_ | refine T_cond_false rfl ?_ | refine T_skip ?_ | refine TL_nil ?_ | refine TL_assign (hk := ?_))
  · refine TL_buildSlice TE (hk := ?_); intro b3 w3 e3 h3 h3' k3
    have o3 : Own w3 w2.heap.size 5 1 (some ⟨b3, 0, none⟩) 0 0 [] := Own.of_blk k3 h3 rfl (by decide)
    have rc3 := rc w3 ((e1.ext e2).ext e3)
    have z3 := e3.size
    repeat (first | refine TL_move (hk := ?_) | refine TL_slice_lh TE (hk := ?_))
    rw [ek]
    refine TL_append TE (hk := ?_); intro A4 c4 w4 o4 m4 n4
    have e4 : Ext w2 w4 := e3.own m4 o3.hi
    repeat (first | refine TL_add (hk := ?_) | refine TL_nil ?_ | refine TL_move (hk := ?_) | refine TL_assign (hk := ?_))
    refine T_ret3 rfl rfl rfl rfl ⟨A4, 0 + (k + 4 - 4), c4, ?_, (e1.ext e2).ext e4, ?_⟩
    · simp only
      rw [show ((k + 8 : Nat) : Int) = 4 + (k : Int) + 4 by omega]
      rfl
    · have z1 := e1.size
      have z2 := e2.size
      exact Own.weaken (by simpa using o4) (by omega)
  · exact T_ret3 rfl rfl rfl rfl ⟨none, 0, 0, rfl, e1.ext e2, Own.nil _ _ _ _⟩

def framesF : Nat → List UInt8 → List (List UInt8) × Nat × Int
  | 0, _ => ([], 0, 0)
  | f + 1, l => if l.length = 0 then ([], 0, 0) else if (openF l).2.2 = 0 then ((openF l).1 :: (framesF f (l.drop (openF l).2.1)).1, (openF l).2.1 + (framesF f (l.drop (openF l).2.1)).2.1, (framesF f (l.drop (openF l).2.1)).2.2) else ([], 0, (openF l).2.2)
def frames (l : List UInt8) : List (List UInt8) × Nat × Int := framesF l.length l
theorem openF_ok {l : List UInt8} (h : (openF l).2.2 = 0) : 8 ≤ (openF l).2.1 ∧ (openF l).2.1 ≤ l.length := by
  unfold openF at h ⊢
  split
  · rename_i g; rw [if_pos g] at h; simp at h
  · rename_i g
    rw [if_neg g] at h
    split
    · rename_i g; rw [if_pos g] at h; simp at h
    · rename_i g
      rw [if_neg g] at h
      split
      · rename_i g; rw [if_pos g] at h; simp at h
      · rename_i g
        rw [if_neg g] at h
        split
        · simp only; omega
        · rename_i g; rw [if_neg g] at h; simp at h
/-- Loads, each in new memory of its own, the later ones in later blocks. -/
def Loads (w : World) : Nat → Nat → List Value → List (List UInt8) → Prop
  | b, e, [], [] => b ≤ e
  | b, e, x :: t, p :: ps => ∃ A n c b', x = .slice A n c ∧ Own w b 5 1 A n c (bv p) ∧ Lo A b' ∧ b ≤ b' ∧ Loads w b' e t ps
  | _, _, _, _ => False
theorem Loads.mod {w w' : World} {S : List Nat} (hm : Mod S w w') : ∀ {xs : List Value} {ps : List (List UInt8)} {b e : Nat}, Loads w b e xs ps → (∀ x ∈ S, x < b ∨ e ≤ x) → Loads w' b e xs ps
  | [], [], _, _, h, _ => h
  | [], _ :: _, _, _, h, _ => h.elim
  | _ :: _, [], _, _, h, _ => h.elim
  | x :: t, p :: ps, b, e, h, hS => by
    obtain ⟨A, n, c, b', hx, ho, hlo, hb, ht⟩ := h
    have he : b' ≤ e := by
      clear ho hlo hS hx
      induction t generalizing b' ps with
      | nil => cases ps with
        | nil => exact ht
        | cons => exact ht.elim
      | cons y t ih => cases ps with
        | nil => exact ht.elim
        | cons q ps =>
          obtain ⟨_, _, _, b2, _, _, _, h2, h3⟩ := ht
          have := ih ps b2 (by omega) h3
          omega
    refine ⟨A, n, c, b', hx, ho.mod hm ?_, hlo, hb, Loads.mod hm ht (fun x hx => by have := hS x hx; omega)⟩
    intro ad ea hx
    have h1 := ho.hi ad ea
    have h2 := hlo ad ea
    have := hS _ hx
    omega
theorem Loads.modP {w w' : World} {S : List Nat} (hm : Mod S w w') : ∀ {xs : List Value} {ps : List (List UInt8)} {b e : Nat}, Loads w b e xs ps → (∀ {b : Nat} {A : Option Addr} {n c : Nat} {p : List UInt8}, Own w b 5 1 A n c (bv p) → Off A S) → Loads w' b e xs ps
  | [], [], _, _, h, _ => h
  | [], _ :: _, _, _, h, _ => h.elim
  | _ :: _, [], _, _, h, _ => h.elim
  | x :: t, p :: ps, b, e, h, hS => by
    obtain ⟨A, n, c, b', hx, ho, hlo, hb, ht⟩ := h
    exact ⟨A, n, c, b', hx, ho.mod hm (hS ho), hlo, hb, Loads.modP hm ht hS⟩
theorem Loads.up {w : World} : ∀ {xs : List Value} {ps : List (List UInt8)} {b e e' : Nat}, Loads w b e xs ps → e ≤ e' → Loads w b e' xs ps
  | [], [], _, _, _, h, he => Nat.le_trans h he
  | [], _ :: _, _, _, _, h, _ => h.elim
  | _ :: _, [], _, _, _, h, _ => h.elim
  | x :: t, p :: ps, b, e, e', h, he => by
    obtain ⟨A, n, c, b', hx, ho, hlo, hb, ht⟩ := h
    exact ⟨A, n, c, b', hx, ho, hlo, hb, Loads.up ht he⟩
theorem Loads.ext {w w' : World} (hm : Ext w w') {xs : List Value} {ps : List (List UInt8)} {b e : Nat} (h : Loads w b e xs ps) : Loads w' b e xs ps := h.mod hm (fun _ hx => by cases hx)
theorem Loads.snoc {w : World} {A : Option Addr} {n c : Nat} {p : List UInt8} {e' : Nat} : ∀ {xs : List Value} {ps : List (List UInt8)} {b e : Nat}, Loads w b e xs ps → Own w e 5 1 A n c (bv p) → Lo A e' → e ≤ e' → Loads w b e' (xs ++ [.slice A n c]) (ps ++ [p])
  | [], [], b, e, h, ho, hlo, he => ⟨A, n, c, e', rfl, ho.weaken h, hlo, Nat.le_trans h he, Nat.le_refl _⟩
  | [], _ :: _, _, _, h, _, _, _ => h.elim
  | _ :: _, [], _, _, h, _, _, _ => h.elim
  | x :: t, q :: ps, b, e, h, ho, hlo, he => by
    obtain ⟨B, m, d, b', hx, h1, h2, h3, ht⟩ := h
    exact ⟨B, m, d, b', hx, h1, h2, h3, Loads.snoc ht ho hlo he⟩
theorem Loads.len {w : World} : ∀ {xs : List Value} {ps : List (List UInt8)} {b e : Nat}, Loads w b e xs ps → xs.length = ps.length
  | [], [], _, _, _ => rfl
  | [], _ :: _, _, _, h => h.elim
  | _ :: _, [], _, _, h => h.elim
  | x :: t, q :: ps, b, e, h => by
    obtain ⟨B, m, d, b', hx, h1, h2, h3, ht⟩ := h
    simp [Loads.len ht]
theorem Own.ne_type {w : World} {base base' : Nat} {e e' : TypeId} {s s' : Nat} {A C : Option Addr} {n c m d : Nat} {xs ys : List Value} (h : Own w base e s A n c xs) (g : Own w base' e' s' C m d ys) (hne : e ≠ e') : Off A (blkL C) := fun ad ea hx => by
  rcases h.2 with ⟨hv, _⟩ | ⟨b, _, cur, hv, _, hh, _⟩
  · cases hv; cases ea
  · cases hv; cases ea
    rcases g.2 with ⟨gv, _⟩ | ⟨b', _, cur', gv, _, gh, _⟩
    · cases gv; simp [blkL] at hx
    · cases gv
      simp [blkL] at hx
      subst hx
      rw [hh] at gh
      simp at gh
      exact hne gh.2

theorem Frames_c (A : Option Addr) (n c : Nat) (l : List UInt8) (w : World) (h : Rd w A n 1 (bv l)) (hn : n ≤ 7036874417) (hc : n ≤ c) :
    Ret Try.prog 32 [.slice A n c] w (fun v w' => ∃ A' m' c' xs, v = .tuple #[.slice A' m' c', .int .i64 ((frames l).2.1 : Nat), .int .i64 (frames l).2.2] ∧ Ext w w' ∧ Own w' w.heap.size 25 1 A' m' c' xs ∧ Loads w' w.heap.size w'.heap.size xs (frames l).1) := by
  have hlen : l.length = n := by simpa using h.1
  generalize hR : frames l = R
  refine ret_T (n := 36) Try.func32 rfl rfl ?_
  repeat (first | refine T_seq ?_ | refine T_region ?_ | refine T_block ?_ | refine TL_nil ?_ | refine TL_assign (hk := ?_))
  refine T_loop (ι := (Option Addr × Nat × Nat) × List Value × List (List UInt8) × Nat × Nat) (fun i => [(6, .int .i64 (i.2.2.2.1 : Int)), (5, .slice i.1.1 i.1.2.1 i.1.2.2), (0, .slice A n c)])
    (fun i w' => i.2.2.2.1 ≤ n ∧ n - i.2.2.2.1 ≤ i.2.2.2.2 ∧ i.1.2.1 ≤ i.2.2.2.1 ∧ Ext w w' ∧ Own w' w.heap.size 25 1 i.1.1 i.1.2.1 i.1.2.2 i.2.1 ∧ Loads w' w.heap.size w'.heap.size i.2.1 i.2.2.1 ∧
      i.2.2.1 ++ (framesF i.2.2.2.2 (l.drop i.2.2.2.1)).1 = R.1 ∧ i.2.2.2.1 + (framesF i.2.2.2.2 (l.drop i.2.2.2.1)).2.1 = R.2.1 ∧ (framesF i.2.2.2.2 (l.drop i.2.2.2.1)).2.2 = R.2.2) (fun i => n - i.2.2.2.1) ((none, 0, 0), [], [], 0, n) (.c rfl (.c rfl (.c rfl (.n))))
    ⟨by simp, by simp, by simp, Mod.refl _ _, Own.nil _ _ _ _, Nat.le_refl _, by rw [← hR]; simp [frames, hlen], by rw [← hR]; simp [frames, hlen], by rw [← hR]; simp [frames, hlen]⟩ ?_
  rintro ⟨⟨A1, m1, c1⟩, xs, ps, at_, f⟩ w1 ⟨hat, hf, hm1, e1, o1, L1, r1, r2, r3⟩ ih
  simp only at hat hf hm1 e1 o1 L1 r1 r2 r3 ih ⊢
  have z1 := e1.size
  by_cases hlt : at_ < n
  · obtain ⟨g, rfl⟩ : ∃ g, f = g + 1 := ⟨f - 1, by omega⟩
    have hdl : (l.drop at_).length = n - at_ := by rw [List.length_drop, hlen]
    rw [framesF, if_neg (by omega)] at r1 r2 r3
    repeat (first | refine T_seq ?_ | refine T_region ?_ | refine T_cond_true rfl ?_ | refine T_block ?_ | refine T_skip ?_ | refine TL_lt_t (hk := ?_) | refine TL_nil ?_ | refine TL_move (hk := ?_) | refine TL_len TE (hk := ?_) | refine TL_slice_lo TE (hk := ?_))
    refine TL_call TE (hc := Open_c (cutA A c at_ 1) (n - at_) (c - at_) (l.drop at_) w1 (Rd.tail1 (h.ext e1) hat hc) (by omega) (by omega)) (hk := ?_)
    rintro _ w2 ⟨A2, n2, c2, rfl, e2, o2⟩
    have z2 := e2.size
    by_cases he : (openF (l.drop at_)).2.2 = 0
    · have ho := openF_ok he
      rw [if_pos he] at r1 r2 r3
      simp only at r1 r2 r3
      repeat (first | refine T_seq ?_ | refine T_region ?_ | refine T_cond_false rfl ?_ | refine T_skip ?_ | refine TL_ne_f (hk := ?_) | refine TL_nil ?_ | refine TL_move (hk := ?_) | refine TL_assign (hk := ?_) | refine TL_extract (hk := ?_))
      refine TL_buildSlice TE (hk := ?_); intro b3 w3 e3 h3 h3' k3
      have z3 := e3.size
      refine TL_append TE (hk := ?_); intro A4 c4 w4 o4 m4 n4
      have e04 : Ext w w4 := ((e1.ext e2).ext e3).own m4 o1.hi
      have z4 := m4.size
      have o23 := o2.ext e3
      have o24 : Own w4 w1.heap.size 5 1 A2 n2 c2 (bv (openF (l.drop at_)).1) := o23.mod m4 (Own.ne_type o23 (o1.ext (e2.ext e3)) (by decide))
      have L4 : Loads w4 w.heap.size w1.heap.size xs ps := by
        have L3 := L1.ext (e2.ext e3)
        exact L3.modP m4 (fun ho => Own.ne_type ho (o1.ext (e2.ext e3)) (by decide))
      repeat (first | refine T_region ?_ | refine T_inBlock ?_ | refine TL_add (hk := ?_) | refine TL_nil ?_ | refine TL_move (hk := ?_) | refine TL_assign (hk := ?_))
      refine ih ((A4, m1 + 1, c4), _, ps ++ [(openF (l.drop at_)).1], at_ + (openF (l.drop at_)).2.1, g) w4 _ (by simp only; omega) ⟨by simp only; omega, by simp only; omega, by simp only; omega, e04, o4, L4.snoc o24 (o2.lo.mono (by omega)) (by omega), ?_, ?_, ?_⟩ (.c rfl (.c rfl (.c rfl (.n))))
      · simp only [← List.drop_drop, List.append_assoc, List.singleton_append]
        exact r1
      · simp only [← List.drop_drop]
        omega
      · simp only [← List.drop_drop]
        exact r3
    · rw [if_neg he] at r1 r2 r3
      simp only [List.append_nil, Nat.add_zero] at r1 r2 r3
      repeat (first | refine T_seq ?_ | refine T_region ?_ | refine T_cond_true rfl ?_ | refine TL_ne_t (hk := ?_) | refine TL_nil ?_ | refine TL_move (hk := ?_) | refine TL_assign (hk := ?_) | refine TL_extract (hk := ?_))
      refine T_ret3 rfl rfl rfl rfl ⟨A1, m1, c1, xs, ?_, e1.ext e2, o1.ext e2, ?_⟩
      · rw [← r2, ← r3]
      · rw [← r1]
        exact (L1.ext e2).up (by omega)
  · have r0 : framesF f (l.drop at_) = ([], 0, 0) := by
      cases f with
      | zero => rfl
      | succ g => rw [framesF, if_pos (by simp; omega)]
    rw [r0] at r1 r2 r3
    simp only [List.append_nil, Nat.add_zero] at r1 r2 r3
    repeat (first | refine T_seq ?_ | refine T_region ?_ | refine T_cond_false rfl ?_ | refine T_exit rfl ?_ | refine TL_lt_f (hk := ?_) | refine TL_nil ?_ | refine TL_move (hk := ?_) | refine TL_assign (hk := ?_) | refine TL_len TE (hk := ?_))
    refine T_ret3 rfl rfl rfl rfl ⟨A1, m1, c1, xs, ?_, e1, o1, ?_⟩
    · rw [← r2, ← r3]
    · rw [← r1]; exact L1
theorem RFrames_c (A : Option Addr) (n c : Nat) (l : List UInt8) (w : World) (h : Rd w A n 1 (bv l)) (hn : n ≤ 7036874417) (hc : n ≤ c) :
    Ret Try.prog 33 [.slice A n c] w (fun v w' => ∃ A' m' c' xs, v = .tuple #[.slice A' m' c', .int .i64 ((frames l).2.1 : Nat), .int .i64 (frames l).2.2] ∧ Ext w w' ∧ Own w' w.heap.size 25 1 A' m' c' xs ∧ Loads w' w.heap.size w'.heap.size xs (frames l).1) := by
  have hlen : l.length = n := by simpa using h.1
  generalize hR : frames l = R
  refine ret_T (n := 36) Try.func33 rfl rfl ?_
  repeat (first | refine T_seq ?_ | refine T_region ?_ | refine T_block ?_ | refine TL_nil ?_ | refine TL_assign (hk := ?_))
  refine T_loop (ι := (Option Addr × Nat × Nat) × List Value × List (List UInt8) × Nat × Nat) (fun i => [(6, .int .i64 (i.2.2.2.1 : Int)), (5, .slice i.1.1 i.1.2.1 i.1.2.2), (0, .slice A n c)])
    (fun i w' => i.2.2.2.1 ≤ n ∧ n - i.2.2.2.1 ≤ i.2.2.2.2 ∧ i.1.2.1 ≤ i.2.2.2.1 ∧ Ext w w' ∧ Own w' w.heap.size 25 1 i.1.1 i.1.2.1 i.1.2.2 i.2.1 ∧ Loads w' w.heap.size w'.heap.size i.2.1 i.2.2.1 ∧
      i.2.2.1 ++ (framesF i.2.2.2.2 (l.drop i.2.2.2.1)).1 = R.1 ∧ i.2.2.2.1 + (framesF i.2.2.2.2 (l.drop i.2.2.2.1)).2.1 = R.2.1 ∧ (framesF i.2.2.2.2 (l.drop i.2.2.2.1)).2.2 = R.2.2) (fun i => n - i.2.2.2.1) ((none, 0, 0), [], [], 0, n) (.c rfl (.c rfl (.c rfl (.n))))
    ⟨by simp, by simp, by simp, Mod.refl _ _, Own.nil _ _ _ _, Nat.le_refl _, by rw [← hR]; simp [frames, hlen], by rw [← hR]; simp [frames, hlen], by rw [← hR]; simp [frames, hlen]⟩ ?_
  rintro ⟨⟨A1, m1, c1⟩, xs, ps, at_, f⟩ w1 ⟨hat, hf, hm1, e1, o1, L1, r1, r2, r3⟩ ih
  simp only at hat hf hm1 e1 o1 L1 r1 r2 r3 ih ⊢
  have z1 := e1.size
  by_cases hlt : at_ < n
  · obtain ⟨g, rfl⟩ : ∃ g, f = g + 1 := ⟨f - 1, by omega⟩
    have hdl : (l.drop at_).length = n - at_ := by rw [List.length_drop, hlen]
    rw [framesF, if_neg (by omega)] at r1 r2 r3
    repeat (first | refine T_seq ?_ | refine T_region ?_ | refine T_cond_true rfl ?_ | refine T_block ?_ | refine T_skip ?_ | refine TL_lt_t (hk := ?_) | refine TL_nil ?_ | refine TL_move (hk := ?_) | refine TL_len TE (hk := ?_) | refine TL_slice_lo TE (hk := ?_))
    refine TL_call TE (hc := ROpen_c (cutA A c at_ 1) (n - at_) (c - at_) (l.drop at_) w1 (Rd.tail1 (h.ext e1) hat hc) (by omega) (by omega)) (hk := ?_)
    rintro _ w2 ⟨A2, n2, c2, rfl, e2, o2⟩
    have z2 := e2.size
    by_cases he : (openF (l.drop at_)).2.2 = 0
    · have ho := openF_ok he
      rw [if_pos he] at r1 r2 r3
      simp only at r1 r2 r3
      repeat (first | refine T_seq ?_ | refine T_region ?_ | refine T_cond_false rfl ?_ | refine T_skip ?_ | refine TL_ne_f (hk := ?_) | refine TL_nil ?_ | refine TL_move (hk := ?_) | refine TL_assign (hk := ?_) | refine TL_extract (hk := ?_))
      refine TL_buildSlice TE (hk := ?_); intro b3 w3 e3 h3 h3' k3
      have z3 := e3.size
      refine TL_append TE (hk := ?_); intro A4 c4 w4 o4 m4 n4
      have e04 : Ext w w4 := ((e1.ext e2).ext e3).own m4 o1.hi
      have z4 := m4.size
      have o23 := o2.ext e3
      have o24 : Own w4 w1.heap.size 5 1 A2 n2 c2 (bv (openF (l.drop at_)).1) := o23.mod m4 (Own.ne_type o23 (o1.ext (e2.ext e3)) (by decide))
      have L4 : Loads w4 w.heap.size w1.heap.size xs ps := by
        have L3 := L1.ext (e2.ext e3)
        exact L3.modP m4 (fun ho => Own.ne_type ho (o1.ext (e2.ext e3)) (by decide))
      repeat (first | refine T_region ?_ | refine T_inBlock ?_ | refine TL_add (hk := ?_) | refine TL_nil ?_ | refine TL_move (hk := ?_) | refine TL_assign (hk := ?_))
      refine ih ((A4, m1 + 1, c4), _, ps ++ [(openF (l.drop at_)).1], at_ + (openF (l.drop at_)).2.1, g) w4 _ (by simp only; omega) ⟨by simp only; omega, by simp only; omega, by simp only; omega, e04, o4, L4.snoc o24 (o2.lo.mono (by omega)) (by omega), ?_, ?_, ?_⟩ (.c rfl (.c rfl (.c rfl (.n))))
      · simp only [← List.drop_drop, List.append_assoc, List.singleton_append]
        exact r1
      · simp only [← List.drop_drop]
        omega
      · simp only [← List.drop_drop]
        exact r3
    · rw [if_neg he] at r1 r2 r3
      simp only [List.append_nil, Nat.add_zero] at r1 r2 r3
      repeat (first | refine T_seq ?_ | refine T_region ?_ | refine T_cond_true rfl ?_ | refine TL_ne_t (hk := ?_) | refine TL_nil ?_ | refine TL_move (hk := ?_) | refine TL_assign (hk := ?_) | refine TL_extract (hk := ?_))
      refine T_ret3 rfl rfl rfl rfl ⟨A1, m1, c1, xs, ?_, e1.ext e2, o1.ext e2, ?_⟩
      · rw [← r2, ← r3]
      · rw [← r1]
        exact (L1.ext e2).up (by omega)
  · have r0 : framesF f (l.drop at_) = ([], 0, 0) := by
      cases f with
      | zero => rfl
      | succ g => rw [framesF, if_pos (by simp; omega)]
    rw [r0] at r1 r2 r3
    simp only [List.append_nil, Nat.add_zero] at r1 r2 r3
    repeat (first | refine T_seq ?_ | refine T_region ?_ | refine T_cond_false rfl ?_ | refine T_exit rfl ?_ | refine TL_lt_f (hk := ?_) | refine TL_nil ?_ | refine TL_move (hk := ?_) | refine TL_assign (hk := ?_) | refine TL_len TE (hk := ?_))
    refine T_ret3 rfl rfl rfl rfl ⟨A1, m1, c1, xs, ?_, e1, o1, ?_⟩
    · rw [← r2, ← r3]
    · rw [← r1]; exact L1
end Go.Proofs.Ytkmdmpmimojmbaa
